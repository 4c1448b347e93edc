/-
  No cell of these rows narrows 'for every input' (looked for: loops, veiled, ifaces, maps, wideKeys, modest, calm, conditions, laid).
  DERIVED. THE GIVEN ROWS OF THIS SEAT. 4 by the template 'for every input the law returns true; each argument reads behind the call as it read before'; 0 by the template 'total and deterministic' (their statements: YtcjgacmoemiifaaTotals.lean).
  GIVEN WITH THE SEED: the statements are not yours to turn. If you find one false, say at which input.
  Laid BY PROGRAM, IN A SANDBOX (cutbox-rows.mjs): the forced cells as the released guide's own fill.sh prints them over the translation 165914d4ee2a3475… (all of the seat's roots in one cut). By AI agents, Wed Nov 11 2026. No macro, syntax, notation, axiom, sorry.
-/
import Derived.Test.YtcjgacmoemiifaaChecked
import GoSem.Claim
import GoSem.ClaimJoined
import GoSem.ClaimMapViews
import Derived.JoinedTies
import Derived.KernelRfl
namespace Go.Proofs.Ytcjgacmoemiifaa
/- THE CELL 'sum', in the pinned program and in every row, IS THE sha256 OF THE DUMP (.gsa) THAT YtcjgacmoemiifaaProg.lean LOADS. Nothing in Lean hashes anything: it is a label: what it is worth is what the hold of that sum in a sandbox is worth. -/
noncomputable def Try.pinned : Pinned := { name := "ytcjgacmoemiifaa", sum := "165914d4ee2a34754d6120a797f6e113701c42777ec6306a58d0dd554b53d1be", checked := Try.checked }
namespace Rows
def none {H : Type} : Left H := { results := [], args := [] }

/-- 'sondagelaw05.CongMakes': WHATEVER THE INPUT: true; the input reads as it did. -/
def congMakesSpec : ChangeSpec := { name := "congMakes", fn := fun _ => fun
  | [d1, d2, d3] => { results := [.lit (.bool true)], args := [d1, d2, d3] }
  | _ => none }
def congMakesRow : OpenClaim := { program := "ytcjgacmoemiifaa", sum := "165914d4ee2a34754d6120a797f6e113701c42777ec6306a58d0dd554b53d1be", func := "sondage/sondagelaw05.CongMakes", spec := "congMakes", inPlace := ["math/bits.Sub64", "math/bits.Add64"], named := ["math/bits.divideError", "math/bits.overflowError"], apart := false }
def CongMakesSaid : Prop := congMakesRow.holds Try.pinned (OpenSpec.ofChange congMakesSpec)

/-- ITS FALSE NEIGHBOUR: 'it returns false'. Refute it at one input. -/
def congMakesWrong : ChangeSpec := { name := "congMakes", fn := fun _ => fun
  | [d1, d2, d3] => { results := [.lit (.bool false)], args := [d1, d2, d3] }
  | _ => none }
def CongMakesWrongFalsely : Prop := congMakesRow.holds Try.pinned (OpenSpec.ofChange congMakesWrong)

/-- 'sondagelaw05.CongMeets': WHATEVER THE INPUT: true; the input reads as it did. -/
def congMeetsSpec : ChangeSpec := { name := "congMeets", fn := fun _ => fun
  | [d1, d2, d3] => { results := [.lit (.bool true)], args := [d1, d2, d3] }
  | _ => none }
def congMeetsRow : OpenClaim := { program := "ytcjgacmoemiifaa", sum := "165914d4ee2a34754d6120a797f6e113701c42777ec6306a58d0dd554b53d1be", func := "sondage/sondagelaw05.CongMeets", spec := "congMeets", inPlace := ["math/bits.Sub64", "math/bits.Add64"], named := ["math/bits.divideError", "math/bits.overflowError"], apart := false }
def CongMeetsSaid : Prop := congMeetsRow.holds Try.pinned (OpenSpec.ofChange congMeetsSpec)

/-- ITS FALSE NEIGHBOUR: 'it returns false'. Refute it at one input. -/
def congMeetsWrong : ChangeSpec := { name := "congMeets", fn := fun _ => fun
  | [d1, d2, d3] => { results := [.lit (.bool false)], args := [d1, d2, d3] }
  | _ => none }
def CongMeetsWrongFalsely : Prop := congMeetsRow.holds Try.pinned (OpenSpec.ofChange congMeetsWrong)

/-- 'sondagelaw05.CongClimbs': WHATEVER THE INPUT: true; the input reads as it did. -/
def congClimbsSpec : ChangeSpec := { name := "congClimbs", fn := fun _ => fun
  | [d] => { results := [.lit (.bool true)], args := [d] }
  | _ => none }
def congClimbsRow : OpenClaim := { program := "ytcjgacmoemiifaa", sum := "165914d4ee2a34754d6120a797f6e113701c42777ec6306a58d0dd554b53d1be", func := "sondage/sondagelaw05.CongClimbs", spec := "congClimbs", inPlace := ["math/bits.Sub64", "math/bits.Add64"], named := ["math/bits.divideError", "math/bits.overflowError"], apart := false }
def CongClimbsSaid : Prop := congClimbsRow.holds Try.pinned (OpenSpec.ofChange congClimbsSpec)

/-- ITS FALSE NEIGHBOUR: 'it returns false'. Refute it at one input. -/
def congClimbsWrong : ChangeSpec := { name := "congClimbs", fn := fun _ => fun
  | [d] => { results := [.lit (.bool false)], args := [d] }
  | _ => none }
def CongClimbsWrongFalsely : Prop := congClimbsRow.holds Try.pinned (OpenSpec.ofChange congClimbsWrong)

/-- 'sondagelaw05.CongFinds': WHATEVER THE INPUT: true; the input reads as it did. -/
def congFindsSpec : ChangeSpec := { name := "congFinds", fn := fun _ => fun
  | [d1, d2, d3] => { results := [.lit (.bool true)], args := [d1, d2, d3] }
  | _ => none }
def congFindsRow : OpenClaim := { program := "ytcjgacmoemiifaa", sum := "165914d4ee2a34754d6120a797f6e113701c42777ec6306a58d0dd554b53d1be", func := "sondage/sondagelaw05.CongFinds", spec := "congFinds", inPlace := ["math/bits.Sub64", "math/bits.Add64"], named := ["math/bits.divideError", "math/bits.overflowError"], apart := false }
def CongFindsSaid : Prop := congFindsRow.holds Try.pinned (OpenSpec.ofChange congFindsSpec)

/-- ITS FALSE NEIGHBOUR: 'it returns false'. Refute it at one input. -/
def congFindsWrong : ChangeSpec := { name := "congFinds", fn := fun _ => fun
  | [d1, d2, d3] => { results := [.lit (.bool false)], args := [d1, d2, d3] }
  | _ => none }
def CongFindsWrongFalsely : Prop := congFindsRow.holds Try.pinned (OpenSpec.ofChange congFindsWrong)

/- THE SECOND FORM. 'bulk': how many values and letters a reading holds, each counted each time it is reached (what is shared counts as often as it is met; a slice's spare places count too). A statement '..UptoSaid' is the law's where the arguments, and the package variables that the reading takes, are together of bulk at most 1048576: NARROWER than '..Said'. Prove '..Said' where nothing that the law and all that it calls make is longer than what came in: it says more and counts as full. Else prove '..UptoSaid'. A law counts once. -/
mutual
def uptoBulk {H : Type} : DataW H → Nat
  | .lit (.string bytes) => bytes.length + 1
  | .lit _ => 1
  | .nil => 1
  | .ptr d => uptoBulk d + 1
  | .slice elems spare => uptoBulkAll elems + uptoBulkAll spare + 1
  | .agg parts => uptoBulkAll parts + 1
  | .iface _ d => uptoBulk d + 1
  | .map entries => uptoBulkEntries entries + 1
  | .held _ => 1
def uptoBulkAll {H : Type} : List (DataW H) → Nat
  | [] => 0
  | d :: r => uptoBulk d + uptoBulkAll r
def uptoBulkEntries {H : Type} : List (Lit × DataW H) → Nat
  | [] => 0
  | x :: r => uptoBulkEntry x + uptoBulkEntries r
def uptoBulkEntry {H : Type} : Lit × DataW H → Nat
  | (.string bytes, d) => bytes.length + uptoBulk d + 1
  | (_, d) => uptoBulk d + 1
 end
def uptoSmall : (H : Type) → List (DataW H) → Bool := fun _ ds => decide (uptoBulkAll ds ≤ 1048576)
def OpenSpec.upto (s : _root_.Go.ChangeSpec) : _root_.Go.OpenSpec := { _root_.Go.OpenSpec.ofChange s with cond := some uptoSmall }

/-- 'sondagelaw05.CongMakes', WHERE WHAT IT READS IS OF BULK AT MOST 1048576: true; the input reads as it did. -/
def congMakesUptoRow : OpenClaim := { program := "ytcjgacmoemiifaa", sum := "165914d4ee2a34754d6120a797f6e113701c42777ec6306a58d0dd554b53d1be", func := "sondage/sondagelaw05.CongMakes", spec := "congMakes", inPlace := ["math/bits.Sub64", "math/bits.Add64"], named := ["math/bits.divideError", "math/bits.overflowError"], apart := false, narrowed := true }
def CongMakesUptoSaid : Prop := congMakesUptoRow.holds Try.pinned (OpenSpec.upto congMakesSpec)

/-- 'sondagelaw05.CongMeets', WHERE WHAT IT READS IS OF BULK AT MOST 1048576: true; the input reads as it did. -/
def congMeetsUptoRow : OpenClaim := { program := "ytcjgacmoemiifaa", sum := "165914d4ee2a34754d6120a797f6e113701c42777ec6306a58d0dd554b53d1be", func := "sondage/sondagelaw05.CongMeets", spec := "congMeets", inPlace := ["math/bits.Sub64", "math/bits.Add64"], named := ["math/bits.divideError", "math/bits.overflowError"], apart := false, narrowed := true }
def CongMeetsUptoSaid : Prop := congMeetsUptoRow.holds Try.pinned (OpenSpec.upto congMeetsSpec)

/-- 'sondagelaw05.CongClimbs', WHERE WHAT IT READS IS OF BULK AT MOST 1048576: true; the input reads as it did. -/
def congClimbsUptoRow : OpenClaim := { program := "ytcjgacmoemiifaa", sum := "165914d4ee2a34754d6120a797f6e113701c42777ec6306a58d0dd554b53d1be", func := "sondage/sondagelaw05.CongClimbs", spec := "congClimbs", inPlace := ["math/bits.Sub64", "math/bits.Add64"], named := ["math/bits.divideError", "math/bits.overflowError"], apart := false, narrowed := true }
def CongClimbsUptoSaid : Prop := congClimbsUptoRow.holds Try.pinned (OpenSpec.upto congClimbsSpec)

/-- 'sondagelaw05.CongFinds', WHERE WHAT IT READS IS OF BULK AT MOST 1048576: true; the input reads as it did. -/
def congFindsUptoRow : OpenClaim := { program := "ytcjgacmoemiifaa", sum := "165914d4ee2a34754d6120a797f6e113701c42777ec6306a58d0dd554b53d1be", func := "sondage/sondagelaw05.CongFinds", spec := "congFinds", inPlace := ["math/bits.Sub64", "math/bits.Add64"], named := ["math/bits.divideError", "math/bits.overflowError"], apart := false, narrowed := true }
def CongFindsUptoSaid : Prop := congFindsUptoRow.holds Try.pinned (OpenSpec.upto congFindsSpec)

end Rows
end Go.Proofs.Ytcjgacmoemiifaa
