/-
  NARROWER THAN 'FOR EVERY INPUT', by the rows' own cells (each row's printed sentence says how): SpreadBegins: loops · SpreadRests: loops.
  DERIVED. THE GIVEN ROWS OF THIS SEAT. 2 by the template 'for every input the law returns true; each argument reads behind the call as it read before'; 0 by the template 'total and deterministic' (their statements: YtnfkijcmakgkmaaGreatTotals.lean).
  GIVEN WITH THE SEED: the statements are not yours to turn. If you find one false, say at which input.
  Laid BY PROGRAM, IN A SANDBOX (cutbox-rows.mjs): the forced cells as the released guide's own fill.sh prints them over the translation d1b5b19271a0adef… (all of the seat's roots in one cut). By AI agents, Wed Nov 11 2026. No macro, syntax, notation, axiom, sorry.
-/
import Derived.Test.YtnfkijcmakgkmaaGreatChecked
import GoSem.Claim
import GoSem.ClaimJoined
import GoSem.ClaimMapViews
import Derived.JoinedTies
import Derived.KernelRfl
namespace Go.Proofs.YtnfkijcmakgkmaaGreat
/- THE CELL 'sum', in the pinned program and in every row, IS THE sha256 OF THE DUMP (.gsa) THAT YtnfkijcmakgkmaaGreatProg.lean LOADS. Nothing in Lean hashes anything: it is a label: what it is worth is what the hold of that sum in a sandbox is worth. -/
noncomputable def Tryz.pinned : Pinned := { name := "ytnfkijcmakgkmaagreat", sum := "d1b5b19271a0adef055918db2143cfe1903d37703af92c29c09640246d98485e", checked := Tryz.checked }
namespace Rows
def none {H : Type} : Left H := { results := [], args := [] }

/-- 'sondagelaw32.SpreadBegins': WHATEVER THE INPUT: true; the input reads as it did. -/
def spreadBeginsSpec : ChangeSpec := { name := "spreadBegins", fn := fun _ => fun
  | [d] => { results := [.lit (.bool true)], args := [d] }
  | _ => none }
def spreadBeginsRow : OpenClaim := { program := "ytnfkijcmakgkmaagreat", sum := "d1b5b19271a0adef055918db2143cfe1903d37703af92c29c09640246d98485e", func := "sondage/sondagelaw32.SpreadBegins", spec := "spreadBegins", inPlace := ["internal/bytealg.abigen_runtime_cmpstring", "slices.overlaps[sondage/api.Key]"], unfollowed := true, recurses := true, loops := true, plainKeys := false, apart := false }
def SpreadBeginsSaid : Prop := spreadBeginsRow.holds Tryz.pinned (OpenSpec.ofChange spreadBeginsSpec)

/-- ITS FALSE NEIGHBOUR: 'it returns false'. Refute it at one input. -/
def spreadBeginsWrong : ChangeSpec := { name := "spreadBegins", fn := fun _ => fun
  | [d] => { results := [.lit (.bool false)], args := [d] }
  | _ => none }
def SpreadBeginsWrongFalsely : Prop := spreadBeginsRow.holds Tryz.pinned (OpenSpec.ofChange spreadBeginsWrong)

/-- 'sondagelaw32.SpreadRests': WHATEVER THE INPUT: true; the input reads as it did. -/
def spreadRestsSpec : ChangeSpec := { name := "spreadRests", fn := fun _ => fun
  | [d] => { results := [.lit (.bool true)], args := [d] }
  | _ => none }
def spreadRestsRow : OpenClaim := { program := "ytnfkijcmakgkmaagreat", sum := "d1b5b19271a0adef055918db2143cfe1903d37703af92c29c09640246d98485e", func := "sondage/sondagelaw32.SpreadRests", spec := "spreadRests", inPlace := ["internal/bytealg.abigen_runtime_cmpstring", "slices.overlaps[sondage/api.Key]"], unfollowed := true, recurses := true, loops := true, plainKeys := false, apart := false }
def SpreadRestsSaid : Prop := spreadRestsRow.holds Tryz.pinned (OpenSpec.ofChange spreadRestsSpec)

/-- ITS FALSE NEIGHBOUR: 'it returns false'. Refute it at one input. -/
def spreadRestsWrong : ChangeSpec := { name := "spreadRests", fn := fun _ => fun
  | [d] => { results := [.lit (.bool false)], args := [d] }
  | _ => none }
def SpreadRestsWrongFalsely : Prop := spreadRestsRow.holds Tryz.pinned (OpenSpec.ofChange spreadRestsWrong)

/- THE SECOND FORM. 'bulk': how many values and letters a reading holds, each counted each time it is reached (what is shared counts as often as it is met; a slice's spare places count too). A statement '..UptoSaid' is the law's where the arguments, and the package variables that the reading takes, are together of bulk at most 1048576: NARROWER than '..Said'. Prove '..Said' where nothing that the law and all that it calls make is longer than what came in: it says more and counts as full. Else prove '..UptoSaid'. A law counts once. -/
mutual
def uptoBulk {H : Type} : DataW H → Nat
  | .lit (.string bytes) => bytes.length + 1
  | .lit _ => 1
  | .nil => 1
  | .ptr d => uptoBulk d + 1
  | .slice elems spare => uptoBulkAll elems + uptoBulkAll spare + 1
  | .agg parts => uptoBulkAll parts + 1
  | .iface _ d => uptoBulk d + 1
  | .map entries => uptoBulkEntries entries + 1
  | .held _ => 1
def uptoBulkAll {H : Type} : List (DataW H) → Nat
  | [] => 0
  | d :: r => uptoBulk d + uptoBulkAll r
def uptoBulkEntries {H : Type} : List (Lit × DataW H) → Nat
  | [] => 0
  | x :: r => uptoBulkEntry x + uptoBulkEntries r
def uptoBulkEntry {H : Type} : Lit × DataW H → Nat
  | (.string bytes, d) => bytes.length + uptoBulk d + 1
  | (_, d) => uptoBulk d + 1
 end
def uptoSmall : (H : Type) → List (DataW H) → Bool := fun _ ds => decide (uptoBulkAll ds ≤ 1048576)
def OpenSpec.upto (s : _root_.Go.ChangeSpec) : _root_.Go.OpenSpec := { _root_.Go.OpenSpec.ofChange s with cond := some uptoSmall }

/-- 'sondagelaw32.SpreadBegins', WHERE WHAT IT READS IS OF BULK AT MOST 1048576: true; the input reads as it did. -/
def spreadBeginsUptoRow : OpenClaim := { program := "ytnfkijcmakgkmaagreat", sum := "d1b5b19271a0adef055918db2143cfe1903d37703af92c29c09640246d98485e", func := "sondage/sondagelaw32.SpreadBegins", spec := "spreadBegins", inPlace := ["internal/bytealg.abigen_runtime_cmpstring", "slices.overlaps[sondage/api.Key]"], unfollowed := true, recurses := true, loops := true, plainKeys := false, apart := false, narrowed := true }
def SpreadBeginsUptoSaid : Prop := spreadBeginsUptoRow.holds Tryz.pinned (OpenSpec.upto spreadBeginsSpec)

/-- 'sondagelaw32.SpreadRests', WHERE WHAT IT READS IS OF BULK AT MOST 1048576: true; the input reads as it did. -/
def spreadRestsUptoRow : OpenClaim := { program := "ytnfkijcmakgkmaagreat", sum := "d1b5b19271a0adef055918db2143cfe1903d37703af92c29c09640246d98485e", func := "sondage/sondagelaw32.SpreadRests", spec := "spreadRests", inPlace := ["internal/bytealg.abigen_runtime_cmpstring", "slices.overlaps[sondage/api.Key]"], unfollowed := true, recurses := true, loops := true, plainKeys := false, apart := false, narrowed := true }
def SpreadRestsUptoSaid : Prop := spreadRestsUptoRow.holds Tryz.pinned (OpenSpec.upto spreadRestsSpec)

end Rows
end Go.Proofs.YtnfkijcmakgkmaaGreat
