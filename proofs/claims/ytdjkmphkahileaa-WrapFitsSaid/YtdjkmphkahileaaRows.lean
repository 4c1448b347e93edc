/-
  No cell of these rows narrows 'for every input' (looked for: loops, veiled, ifaces, maps, wideKeys, modest, calm, conditions, laid).
  DERIVED. THE GIVEN ROWS OF THIS SEAT. 4 by the template 'for every input the law returns true; each argument reads behind the call as it read before'; 0 by the template 'total and deterministic' (their statements: YtdjkmphkahileaaTotals.lean).
  GIVEN WITH THE SEED: the statements are not yours to turn. If you find one false, say at which input.
  Laid BY PROGRAM, IN A SANDBOX (cutbox-rows.mjs): the forced cells as the released guide's own fill.sh prints them over the translation 65425503f9b1c2de… (all of the seat's roots in one cut). By AI agents, Wed Nov 11 2026. No macro, syntax, notation, axiom, sorry.
-/
import Derived.Test.YtdjkmphkahileaaChecked
import GoSem.Claim
import GoSem.ClaimJoined
import GoSem.ClaimMapViews
import Derived.JoinedTies
import Derived.KernelRfl
namespace Go.Proofs.Ytdjkmphkahileaa
/- THE CELL 'sum', in the pinned program and in every row, IS THE sha256 OF THE DUMP (.gsa) THAT YtdjkmphkahileaaProg.lean LOADS. Nothing in Lean hashes anything: it is a label: what it is worth is what the hold of that sum in a sandbox is worth. -/
noncomputable def Try.pinned : Pinned := { name := "ytdjkmphkahileaa", sum := "65425503f9b1c2de0b4ecdefcec4f2efb15c188bc16236ec3be6738da2c715f7", checked := Try.checked }
namespace Rows
def none {H : Type} : Left H := { results := [], args := [] }

/-- 'sondagelaw02.WrapDoes': WHATEVER THE INPUT: true; the input reads as it did. -/
def wrapDoesSpec : ChangeSpec := { name := "wrapDoes", fn := fun _ => fun
  | [d1, d2, d3] => { results := [.lit (.bool true)], args := [d1, d2, d3] }
  | _ => none }
def wrapDoesRow : OpenClaim := { program := "ytdjkmphkahileaa", sum := "65425503f9b1c2de0b4ecdefcec4f2efb15c188bc16236ec3be6738da2c715f7", func := "sondage/sondagelaw02.WrapDoes", spec := "wrapDoes", inPlace := ["math/bits.Add64", "math/bits.Sub64"], apart := false }
def WrapDoesSaid : Prop := wrapDoesRow.holds Try.pinned (OpenSpec.ofChange wrapDoesSpec)

/-- ITS FALSE NEIGHBOUR: 'it returns false'. Refute it at one input. -/
def wrapDoesWrong : ChangeSpec := { name := "wrapDoes", fn := fun _ => fun
  | [d1, d2, d3] => { results := [.lit (.bool false)], args := [d1, d2, d3] }
  | _ => none }
def WrapDoesWrongFalsely : Prop := wrapDoesRow.holds Try.pinned (OpenSpec.ofChange wrapDoesWrong)

/-- 'sondagelaw02.WrapParts': WHATEVER THE INPUT: true; the input reads as it did. -/
def wrapPartsSpec : ChangeSpec := { name := "wrapParts", fn := fun _ => fun
  | [d1, d2] => { results := [.lit (.bool true)], args := [d1, d2] }
  | _ => none }
def wrapPartsRow : OpenClaim := { program := "ytdjkmphkahileaa", sum := "65425503f9b1c2de0b4ecdefcec4f2efb15c188bc16236ec3be6738da2c715f7", func := "sondage/sondagelaw02.WrapParts", spec := "wrapParts", inPlace := ["math/bits.Add64", "math/bits.Sub64"], apart := false }
def WrapPartsSaid : Prop := wrapPartsRow.holds Try.pinned (OpenSpec.ofChange wrapPartsSpec)

/-- ITS FALSE NEIGHBOUR: 'it returns false'. Refute it at one input. -/
def wrapPartsWrong : ChangeSpec := { name := "wrapParts", fn := fun _ => fun
  | [d1, d2] => { results := [.lit (.bool false)], args := [d1, d2] }
  | _ => none }
def WrapPartsWrongFalsely : Prop := wrapPartsRow.holds Try.pinned (OpenSpec.ofChange wrapPartsWrong)

/-- 'sondagelaw02.WrapOnes': WHATEVER THE INPUT: true; the input reads as it did. -/
def wrapOnesSpec : ChangeSpec := { name := "wrapOnes", fn := fun _ => fun
  | [d1, d2] => { results := [.lit (.bool true)], args := [d1, d2] }
  | _ => none }
def wrapOnesRow : OpenClaim := { program := "ytdjkmphkahileaa", sum := "65425503f9b1c2de0b4ecdefcec4f2efb15c188bc16236ec3be6738da2c715f7", func := "sondage/sondagelaw02.WrapOnes", spec := "wrapOnes", inPlace := ["math/bits.Sub64", "math/bits.Add64"], apart := false }
def WrapOnesSaid : Prop := wrapOnesRow.holds Try.pinned (OpenSpec.ofChange wrapOnesSpec)

/-- ITS FALSE NEIGHBOUR: 'it returns false'. Refute it at one input. -/
def wrapOnesWrong : ChangeSpec := { name := "wrapOnes", fn := fun _ => fun
  | [d1, d2] => { results := [.lit (.bool false)], args := [d1, d2] }
  | _ => none }
def WrapOnesWrongFalsely : Prop := wrapOnesRow.holds Try.pinned (OpenSpec.ofChange wrapOnesWrong)

/-- 'sondagelaw02.WrapFits': WHATEVER THE INPUT: true; the input reads as it did. -/
def wrapFitsSpec : ChangeSpec := { name := "wrapFits", fn := fun _ => fun
  | [d1, d2, d3] => { results := [.lit (.bool true)], args := [d1, d2, d3] }
  | _ => none }
def wrapFitsRow : OpenClaim := { program := "ytdjkmphkahileaa", sum := "65425503f9b1c2de0b4ecdefcec4f2efb15c188bc16236ec3be6738da2c715f7", func := "sondage/sondagelaw02.WrapFits", spec := "wrapFits", inPlace := ["math/bits.Add64", "math/bits.Sub64"], apart := false }
def WrapFitsSaid : Prop := wrapFitsRow.holds Try.pinned (OpenSpec.ofChange wrapFitsSpec)

/-- ITS FALSE NEIGHBOUR: 'it returns false'. Refute it at one input. -/
def wrapFitsWrong : ChangeSpec := { name := "wrapFits", fn := fun _ => fun
  | [d1, d2, d3] => { results := [.lit (.bool false)], args := [d1, d2, d3] }
  | _ => none }
def WrapFitsWrongFalsely : Prop := wrapFitsRow.holds Try.pinned (OpenSpec.ofChange wrapFitsWrong)

/- THE SECOND FORM. 'bulk': how many values and letters a reading holds, each counted each time it is reached (what is shared counts as often as it is met; a slice's spare places count too). A statement '..UptoSaid' is the law's where the arguments, and the package variables that the reading takes, are together of bulk at most 1048576: NARROWER than '..Said'. Prove '..Said' where nothing that the law and all that it calls make is longer than what came in: it says more and counts as full. Else prove '..UptoSaid'. A law counts once. -/
mutual
def uptoBulk {H : Type} : DataW H → Nat
  | .lit (.string bytes) => bytes.length + 1
  | .lit _ => 1
  | .nil => 1
  | .ptr d => uptoBulk d + 1
  | .slice elems spare => uptoBulkAll elems + uptoBulkAll spare + 1
  | .agg parts => uptoBulkAll parts + 1
  | .iface _ d => uptoBulk d + 1
  | .map entries => uptoBulkEntries entries + 1
  | .held _ => 1
def uptoBulkAll {H : Type} : List (DataW H) → Nat
  | [] => 0
  | d :: r => uptoBulk d + uptoBulkAll r
def uptoBulkEntries {H : Type} : List (Lit × DataW H) → Nat
  | [] => 0
  | x :: r => uptoBulkEntry x + uptoBulkEntries r
def uptoBulkEntry {H : Type} : Lit × DataW H → Nat
  | (.string bytes, d) => bytes.length + uptoBulk d + 1
  | (_, d) => uptoBulk d + 1
 end
def uptoSmall : (H : Type) → List (DataW H) → Bool := fun _ ds => decide (uptoBulkAll ds ≤ 1048576)
def OpenSpec.upto (s : _root_.Go.ChangeSpec) : _root_.Go.OpenSpec := { _root_.Go.OpenSpec.ofChange s with cond := some uptoSmall }

/-- 'sondagelaw02.WrapDoes', WHERE WHAT IT READS IS OF BULK AT MOST 1048576: true; the input reads as it did. -/
def wrapDoesUptoRow : OpenClaim := { program := "ytdjkmphkahileaa", sum := "65425503f9b1c2de0b4ecdefcec4f2efb15c188bc16236ec3be6738da2c715f7", func := "sondage/sondagelaw02.WrapDoes", spec := "wrapDoes", inPlace := ["math/bits.Add64", "math/bits.Sub64"], apart := false, narrowed := true }
def WrapDoesUptoSaid : Prop := wrapDoesUptoRow.holds Try.pinned (OpenSpec.upto wrapDoesSpec)

/-- 'sondagelaw02.WrapParts', WHERE WHAT IT READS IS OF BULK AT MOST 1048576: true; the input reads as it did. -/
def wrapPartsUptoRow : OpenClaim := { program := "ytdjkmphkahileaa", sum := "65425503f9b1c2de0b4ecdefcec4f2efb15c188bc16236ec3be6738da2c715f7", func := "sondage/sondagelaw02.WrapParts", spec := "wrapParts", inPlace := ["math/bits.Add64", "math/bits.Sub64"], apart := false, narrowed := true }
def WrapPartsUptoSaid : Prop := wrapPartsUptoRow.holds Try.pinned (OpenSpec.upto wrapPartsSpec)

/-- 'sondagelaw02.WrapOnes', WHERE WHAT IT READS IS OF BULK AT MOST 1048576: true; the input reads as it did. -/
def wrapOnesUptoRow : OpenClaim := { program := "ytdjkmphkahileaa", sum := "65425503f9b1c2de0b4ecdefcec4f2efb15c188bc16236ec3be6738da2c715f7", func := "sondage/sondagelaw02.WrapOnes", spec := "wrapOnes", inPlace := ["math/bits.Sub64", "math/bits.Add64"], apart := false, narrowed := true }
def WrapOnesUptoSaid : Prop := wrapOnesUptoRow.holds Try.pinned (OpenSpec.upto wrapOnesSpec)

/-- 'sondagelaw02.WrapFits', WHERE WHAT IT READS IS OF BULK AT MOST 1048576: true; the input reads as it did. -/
def wrapFitsUptoRow : OpenClaim := { program := "ytdjkmphkahileaa", sum := "65425503f9b1c2de0b4ecdefcec4f2efb15c188bc16236ec3be6738da2c715f7", func := "sondage/sondagelaw02.WrapFits", spec := "wrapFits", inPlace := ["math/bits.Add64", "math/bits.Sub64"], apart := false, narrowed := true }
def WrapFitsUptoSaid : Prop := wrapFitsUptoRow.holds Try.pinned (OpenSpec.upto wrapFitsSpec)

end Rows
end Go.Proofs.Ytdjkmphkahileaa
