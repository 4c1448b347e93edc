/-
  No cell of these rows narrows 'for every input' (looked for: loops, veiled, ifaces, maps, wideKeys, modest, calm, conditions, laid).
  DERIVED. THE GIVEN ROWS OF THIS SEAT. 4 by the template 'for every input the law returns true; each argument reads behind the call as it read before'; 0 by the template 'total and deterministic' (their statements: YtaofljigbobdpaaTotals.lean).
  GIVEN WITH THE SEED: the statements are not yours to turn. If you find one false, say at which input.
  Laid BY PROGRAM, IN A SANDBOX (cutbox-rows.mjs): the forced cells as the released guide's own fill.sh prints them over the translation 7230a3a05a9e2914… (all of the seat's roots in one cut). By AI agents, Wed Nov 11 2026. No macro, syntax, notation, axiom, sorry.
-/
import Derived.Test.YtaofljigbobdpaaChecked
import GoSem.Claim
import GoSem.ClaimJoined
import GoSem.ClaimMapViews
import Derived.JoinedTies
import Derived.KernelRfl
namespace Go.Proofs.Ytaofljigbobdpaa
/- THE CELL 'sum', in the pinned program and in every row, IS THE sha256 OF THE DUMP (.gsa) THAT YtaofljigbobdpaaProg.lean LOADS. Nothing in Lean hashes anything: it is a label: what it is worth is what the hold of that sum in a sandbox is worth. -/
noncomputable def Try.pinned : Pinned := { name := "ytaofljigbobdpaa", sum := "7230a3a05a9e29147b4c1483afee7dd526429e541f671f2f84d0d666fa5c6b55", checked := Try.checked }
namespace Rows
def none {H : Type} : Left H := { results := [], args := [] }

/-- 'sondagelaw07.NamesClimbs': WHATEVER THE INPUT: true; the input reads as it did. -/
def namesClimbsSpec : ChangeSpec := { name := "namesClimbs", fn := fun _ => fun
  | [d] => { results := [.lit (.bool true)], args := [d] }
  | _ => none }
def namesClimbsRow : OpenClaim := { program := "ytaofljigbobdpaa", sum := "7230a3a05a9e29147b4c1483afee7dd526429e541f671f2f84d0d666fa5c6b55", func := "sondage/sondagelaw07.NamesClimbs", spec := "namesClimbs", inPlace := ["internal/bytealg.abigen_runtime_cmpstring"], unfollowed := true, recurses := true, apart := false }
def NamesClimbsSaid : Prop := namesClimbsRow.holds Try.pinned (OpenSpec.ofChange namesClimbsSpec)

/-- ITS FALSE NEIGHBOUR: 'it returns false'. Refute it at one input. -/
def namesClimbsWrong : ChangeSpec := { name := "namesClimbs", fn := fun _ => fun
  | [d] => { results := [.lit (.bool false)], args := [d] }
  | _ => none }
def NamesClimbsWrongFalsely : Prop := namesClimbsRow.holds Try.pinned (OpenSpec.ofChange namesClimbsWrong)

/-- 'sondagelaw07.NamesLattice': WHATEVER THE INPUT: true; the input reads as it did. -/
def namesLatticeSpec : ChangeSpec := { name := "namesLattice", fn := fun _ => fun
  | [d1, d2, d3] => { results := [.lit (.bool true)], args := [d1, d2, d3] }
  | _ => none }
def namesLatticeRow : OpenClaim := { program := "ytaofljigbobdpaa", sum := "7230a3a05a9e29147b4c1483afee7dd526429e541f671f2f84d0d666fa5c6b55", func := "sondage/sondagelaw07.NamesLattice", spec := "namesLattice", inPlace := ["internal/bytealg.abigen_runtime_cmpstring"], unfollowed := true, recurses := true, apart := false }
def NamesLatticeSaid : Prop := namesLatticeRow.holds Try.pinned (OpenSpec.ofChange namesLatticeSpec)

/-- ITS FALSE NEIGHBOUR: 'it returns false'. Refute it at one input. -/
def namesLatticeWrong : ChangeSpec := { name := "namesLattice", fn := fun _ => fun
  | [d1, d2, d3] => { results := [.lit (.bool false)], args := [d1, d2, d3] }
  | _ => none }
def NamesLatticeWrongFalsely : Prop := namesLatticeRow.holds Try.pinned (OpenSpec.ofChange namesLatticeWrong)

/-- 'sondagelaw07.NamesOnly': WHATEVER THE INPUT: true; the input reads as it did. -/
def namesOnlySpec : ChangeSpec := { name := "namesOnly", fn := fun _ => fun
  | [d1, d2, d3] => { results := [.lit (.bool true)], args := [d1, d2, d3] }
  | _ => none }
def namesOnlyRow : OpenClaim := { program := "ytaofljigbobdpaa", sum := "7230a3a05a9e29147b4c1483afee7dd526429e541f671f2f84d0d666fa5c6b55", func := "sondage/sondagelaw07.NamesOnly", spec := "namesOnly", inPlace := ["internal/bytealg.abigen_runtime_cmpstring"], unfollowed := true, recurses := true, apart := false }
def NamesOnlySaid : Prop := namesOnlyRow.holds Try.pinned (OpenSpec.ofChange namesOnlySpec)

/-- ITS FALSE NEIGHBOUR: 'it returns false'. Refute it at one input. -/
def namesOnlyWrong : ChangeSpec := { name := "namesOnly", fn := fun _ => fun
  | [d1, d2, d3] => { results := [.lit (.bool false)], args := [d1, d2, d3] }
  | _ => none }
def NamesOnlyWrongFalsely : Prop := namesOnlyRow.holds Try.pinned (OpenSpec.ofChange namesOnlyWrong)

/-- 'sondagelaw07.NamesSets': WHATEVER THE INPUT: true; the input reads as it did. -/
def namesSetsSpec : ChangeSpec := { name := "namesSets", fn := fun _ => fun
  | [d1, d2, d3] => { results := [.lit (.bool true)], args := [d1, d2, d3] }
  | _ => none }
def namesSetsRow : OpenClaim := { program := "ytaofljigbobdpaa", sum := "7230a3a05a9e29147b4c1483afee7dd526429e541f671f2f84d0d666fa5c6b55", func := "sondage/sondagelaw07.NamesSets", spec := "namesSets", inPlace := ["internal/bytealg.abigen_runtime_cmpstring"], unfollowed := true, recurses := true, apart := false }
def NamesSetsSaid : Prop := namesSetsRow.holds Try.pinned (OpenSpec.ofChange namesSetsSpec)

/-- ITS FALSE NEIGHBOUR: 'it returns false'. Refute it at one input. -/
def namesSetsWrong : ChangeSpec := { name := "namesSets", fn := fun _ => fun
  | [d1, d2, d3] => { results := [.lit (.bool false)], args := [d1, d2, d3] }
  | _ => none }
def NamesSetsWrongFalsely : Prop := namesSetsRow.holds Try.pinned (OpenSpec.ofChange namesSetsWrong)

/- THE SECOND FORM. 'bulk': how many values and letters a reading holds, each counted each time it is reached (what is shared counts as often as it is met; a slice's spare places count too). A statement '..UptoSaid' is the law's where the arguments, and the package variables that the reading takes, are together of bulk at most 1048576: NARROWER than '..Said'. Prove '..Said' where nothing that the law and all that it calls make is longer than what came in: it says more and counts as full. Else prove '..UptoSaid'. A law counts once. -/
mutual
def uptoBulk {H : Type} : DataW H → Nat
  | .lit (.string bytes) => bytes.length + 1
  | .lit _ => 1
  | .nil => 1
  | .ptr d => uptoBulk d + 1
  | .slice elems spare => uptoBulkAll elems + uptoBulkAll spare + 1
  | .agg parts => uptoBulkAll parts + 1
  | .iface _ d => uptoBulk d + 1
  | .map entries => uptoBulkEntries entries + 1
  | .held _ => 1
def uptoBulkAll {H : Type} : List (DataW H) → Nat
  | [] => 0
  | d :: r => uptoBulk d + uptoBulkAll r
def uptoBulkEntries {H : Type} : List (Lit × DataW H) → Nat
  | [] => 0
  | x :: r => uptoBulkEntry x + uptoBulkEntries r
def uptoBulkEntry {H : Type} : Lit × DataW H → Nat
  | (.string bytes, d) => bytes.length + uptoBulk d + 1
  | (_, d) => uptoBulk d + 1
 end
def uptoSmall : (H : Type) → List (DataW H) → Bool := fun _ ds => decide (uptoBulkAll ds ≤ 1048576)
def OpenSpec.upto (s : _root_.Go.ChangeSpec) : _root_.Go.OpenSpec := { _root_.Go.OpenSpec.ofChange s with cond := some uptoSmall }

/-- 'sondagelaw07.NamesClimbs', WHERE WHAT IT READS IS OF BULK AT MOST 1048576: true; the input reads as it did. -/
def namesClimbsUptoRow : OpenClaim := { program := "ytaofljigbobdpaa", sum := "7230a3a05a9e29147b4c1483afee7dd526429e541f671f2f84d0d666fa5c6b55", func := "sondage/sondagelaw07.NamesClimbs", spec := "namesClimbs", inPlace := ["internal/bytealg.abigen_runtime_cmpstring"], unfollowed := true, recurses := true, apart := false, narrowed := true }
def NamesClimbsUptoSaid : Prop := namesClimbsUptoRow.holds Try.pinned (OpenSpec.upto namesClimbsSpec)

/-- 'sondagelaw07.NamesLattice', WHERE WHAT IT READS IS OF BULK AT MOST 1048576: true; the input reads as it did. -/
def namesLatticeUptoRow : OpenClaim := { program := "ytaofljigbobdpaa", sum := "7230a3a05a9e29147b4c1483afee7dd526429e541f671f2f84d0d666fa5c6b55", func := "sondage/sondagelaw07.NamesLattice", spec := "namesLattice", inPlace := ["internal/bytealg.abigen_runtime_cmpstring"], unfollowed := true, recurses := true, apart := false, narrowed := true }
def NamesLatticeUptoSaid : Prop := namesLatticeUptoRow.holds Try.pinned (OpenSpec.upto namesLatticeSpec)

/-- 'sondagelaw07.NamesOnly', WHERE WHAT IT READS IS OF BULK AT MOST 1048576: true; the input reads as it did. -/
def namesOnlyUptoRow : OpenClaim := { program := "ytaofljigbobdpaa", sum := "7230a3a05a9e29147b4c1483afee7dd526429e541f671f2f84d0d666fa5c6b55", func := "sondage/sondagelaw07.NamesOnly", spec := "namesOnly", inPlace := ["internal/bytealg.abigen_runtime_cmpstring"], unfollowed := true, recurses := true, apart := false, narrowed := true }
def NamesOnlyUptoSaid : Prop := namesOnlyUptoRow.holds Try.pinned (OpenSpec.upto namesOnlySpec)

/-- 'sondagelaw07.NamesSets', WHERE WHAT IT READS IS OF BULK AT MOST 1048576: true; the input reads as it did. -/
def namesSetsUptoRow : OpenClaim := { program := "ytaofljigbobdpaa", sum := "7230a3a05a9e29147b4c1483afee7dd526429e541f671f2f84d0d666fa5c6b55", func := "sondage/sondagelaw07.NamesSets", spec := "namesSets", inPlace := ["internal/bytealg.abigen_runtime_cmpstring"], unfollowed := true, recurses := true, apart := false, narrowed := true }
def NamesSetsUptoSaid : Prop := namesSetsUptoRow.holds Try.pinned (OpenSpec.upto namesSetsSpec)

end Rows
end Go.Proofs.Ytaofljigbobdpaa
