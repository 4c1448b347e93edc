/-
  No cell of these rows narrows 'for every input' (looked for: loops, veiled, ifaces, maps, wideKeys, modest, calm, conditions, laid).
  DERIVED. THE GIVEN ROWS OF THIS SEAT. 4 by the template 'for every input the law returns true; each argument reads behind the call as it read before'; 0 by the template 'total and deterministic' (their statements: YtebnbajjenpldaaTotals.lean).
  GIVEN WITH THE SEED: the statements are not yours to turn. If you find one false, say at which input.
  Laid BY PROGRAM, IN A SANDBOX (cutbox-rows.mjs): the forced cells as the released guide's own fill.sh prints them over the translation 580e1523a8d8b917… (all of the seat's roots in one cut). By AI agents, Wed Nov 11 2026. No macro, syntax, notation, axiom, sorry.
-/
import Derived.Test.YtebnbajjenpldaaChecked
import GoSem.Claim
import GoSem.ClaimJoined
import GoSem.ClaimMapViews
import Derived.JoinedTies
import Derived.KernelRfl
namespace Go.Proofs.Ytebnbajjenpldaa
/- THE CELL 'sum', in the pinned program and in every row, IS THE sha256 OF THE DUMP (.gsa) THAT YtebnbajjenpldaaProg.lean LOADS. Nothing in Lean hashes anything: it is a label: what it is worth is what the hold of that sum in a sandbox is worth. -/
noncomputable def Try.pinned : Pinned := { name := "ytebnbajjenpldaa", sum := "580e1523a8d8b91799aeeebfbea953ae9905ae2a26f38441f6c59b90f5bafc4a", checked := Try.checked }
namespace Rows
def none {H : Type} : Left H := { results := [], args := [] }

/-- 'sondagelaw04.ReckonDoes': WHATEVER THE INPUT: true; the input reads as it did. -/
def reckonDoesSpec : ChangeSpec := { name := "reckonDoes", fn := fun _ => fun
  | [d1, d2, d3] => { results := [.lit (.bool true)], args := [d1, d2, d3] }
  | _ => none }
def reckonDoesRow : OpenClaim := { program := "ytebnbajjenpldaa", sum := "580e1523a8d8b91799aeeebfbea953ae9905ae2a26f38441f6c59b90f5bafc4a", func := "sondage/sondagelaw04.ReckonDoes", spec := "reckonDoes", inPlace := ["math/bits.Add64", "math/bits.Sub64"], unfollowed := true, recurses := true, apart := false }
def ReckonDoesSaid : Prop := reckonDoesRow.holds Try.pinned (OpenSpec.ofChange reckonDoesSpec)

/-- ITS FALSE NEIGHBOUR: 'it returns false'. Refute it at one input. -/
def reckonDoesWrong : ChangeSpec := { name := "reckonDoes", fn := fun _ => fun
  | [d1, d2, d3] => { results := [.lit (.bool false)], args := [d1, d2, d3] }
  | _ => none }
def ReckonDoesWrongFalsely : Prop := reckonDoesRow.holds Try.pinned (OpenSpec.ofChange reckonDoesWrong)

/-- 'sondagelaw04.ReckonOnes': WHATEVER THE INPUT: true; the input reads as it did. -/
def reckonOnesSpec : ChangeSpec := { name := "reckonOnes", fn := fun _ => fun
  | [d1, d2, d3] => { results := [.lit (.bool true)], args := [d1, d2, d3] }
  | _ => none }
def reckonOnesRow : OpenClaim := { program := "ytebnbajjenpldaa", sum := "580e1523a8d8b91799aeeebfbea953ae9905ae2a26f38441f6c59b90f5bafc4a", func := "sondage/sondagelaw04.ReckonOnes", spec := "reckonOnes", inPlace := ["math/bits.Add64", "math/bits.Sub64"], unfollowed := true, recurses := true, apart := false }
def ReckonOnesSaid : Prop := reckonOnesRow.holds Try.pinned (OpenSpec.ofChange reckonOnesSpec)

/-- ITS FALSE NEIGHBOUR: 'it returns false'. Refute it at one input. -/
def reckonOnesWrong : ChangeSpec := { name := "reckonOnes", fn := fun _ => fun
  | [d1, d2, d3] => { results := [.lit (.bool false)], args := [d1, d2, d3] }
  | _ => none }
def ReckonOnesWrongFalsely : Prop := reckonOnesRow.holds Try.pinned (OpenSpec.ofChange reckonOnesWrong)

/-- 'sondagelaw04.ReckonExact': WHATEVER THE INPUT: true; the input reads as it did. -/
def reckonExactSpec : ChangeSpec := { name := "reckonExact", fn := fun _ => fun
  | [d1, d2, d3] => { results := [.lit (.bool true)], args := [d1, d2, d3] }
  | _ => none }
def reckonExactRow : OpenClaim := { program := "ytebnbajjenpldaa", sum := "580e1523a8d8b91799aeeebfbea953ae9905ae2a26f38441f6c59b90f5bafc4a", func := "sondage/sondagelaw04.ReckonExact", spec := "reckonExact", inPlace := ["math/bits.Add64", "math/bits.Sub64"], unfollowed := true, recurses := true, apart := false }
def ReckonExactSaid : Prop := reckonExactRow.holds Try.pinned (OpenSpec.ofChange reckonExactSpec)

/-- ITS FALSE NEIGHBOUR: 'it returns false'. Refute it at one input. -/
def reckonExactWrong : ChangeSpec := { name := "reckonExact", fn := fun _ => fun
  | [d1, d2, d3] => { results := [.lit (.bool false)], args := [d1, d2, d3] }
  | _ => none }
def ReckonExactWrongFalsely : Prop := reckonExactRow.holds Try.pinned (OpenSpec.ofChange reckonExactWrong)

/-- 'sondagelaw04.ReckonSound': WHATEVER THE INPUT: true; the input reads as it did. -/
def reckonSoundSpec : ChangeSpec := { name := "reckonSound", fn := fun _ => fun
  | [d1, d2] => { results := [.lit (.bool true)], args := [d1, d2] }
  | _ => none }
def reckonSoundRow : OpenClaim := { program := "ytebnbajjenpldaa", sum := "580e1523a8d8b91799aeeebfbea953ae9905ae2a26f38441f6c59b90f5bafc4a", func := "sondage/sondagelaw04.ReckonSound", spec := "reckonSound", inPlace := ["math/bits.Add64", "math/bits.Sub64"], unfollowed := true, recurses := true, apart := false }
def ReckonSoundSaid : Prop := reckonSoundRow.holds Try.pinned (OpenSpec.ofChange reckonSoundSpec)

/-- ITS FALSE NEIGHBOUR: 'it returns false'. Refute it at one input. -/
def reckonSoundWrong : ChangeSpec := { name := "reckonSound", fn := fun _ => fun
  | [d1, d2] => { results := [.lit (.bool false)], args := [d1, d2] }
  | _ => none }
def ReckonSoundWrongFalsely : Prop := reckonSoundRow.holds Try.pinned (OpenSpec.ofChange reckonSoundWrong)

/- THE SECOND FORM. 'bulk': how many values and letters a reading holds, each counted each time it is reached (what is shared counts as often as it is met; a slice's spare places count too). A statement '..UptoSaid' is the law's where the arguments, and the package variables that the reading takes, are together of bulk at most 1048576: NARROWER than '..Said'. Prove '..Said' where nothing that the law and all that it calls make is longer than what came in: it says more and counts as full. Else prove '..UptoSaid'. A law counts once. -/
mutual
def uptoBulk {H : Type} : DataW H → Nat
  | .lit (.string bytes) => bytes.length + 1
  | .lit _ => 1
  | .nil => 1
  | .ptr d => uptoBulk d + 1
  | .slice elems spare => uptoBulkAll elems + uptoBulkAll spare + 1
  | .agg parts => uptoBulkAll parts + 1
  | .iface _ d => uptoBulk d + 1
  | .map entries => uptoBulkEntries entries + 1
  | .held _ => 1
def uptoBulkAll {H : Type} : List (DataW H) → Nat
  | [] => 0
  | d :: r => uptoBulk d + uptoBulkAll r
def uptoBulkEntries {H : Type} : List (Lit × DataW H) → Nat
  | [] => 0
  | x :: r => uptoBulkEntry x + uptoBulkEntries r
def uptoBulkEntry {H : Type} : Lit × DataW H → Nat
  | (.string bytes, d) => bytes.length + uptoBulk d + 1
  | (_, d) => uptoBulk d + 1
 end
def uptoSmall : (H : Type) → List (DataW H) → Bool := fun _ ds => decide (uptoBulkAll ds ≤ 1048576)
def OpenSpec.upto (s : _root_.Go.ChangeSpec) : _root_.Go.OpenSpec := { _root_.Go.OpenSpec.ofChange s with cond := some uptoSmall }

/-- 'sondagelaw04.ReckonDoes', WHERE WHAT IT READS IS OF BULK AT MOST 1048576: true; the input reads as it did. -/
def reckonDoesUptoRow : OpenClaim := { program := "ytebnbajjenpldaa", sum := "580e1523a8d8b91799aeeebfbea953ae9905ae2a26f38441f6c59b90f5bafc4a", func := "sondage/sondagelaw04.ReckonDoes", spec := "reckonDoes", inPlace := ["math/bits.Add64", "math/bits.Sub64"], unfollowed := true, recurses := true, apart := false, narrowed := true }
def ReckonDoesUptoSaid : Prop := reckonDoesUptoRow.holds Try.pinned (OpenSpec.upto reckonDoesSpec)

/-- 'sondagelaw04.ReckonOnes', WHERE WHAT IT READS IS OF BULK AT MOST 1048576: true; the input reads as it did. -/
def reckonOnesUptoRow : OpenClaim := { program := "ytebnbajjenpldaa", sum := "580e1523a8d8b91799aeeebfbea953ae9905ae2a26f38441f6c59b90f5bafc4a", func := "sondage/sondagelaw04.ReckonOnes", spec := "reckonOnes", inPlace := ["math/bits.Add64", "math/bits.Sub64"], unfollowed := true, recurses := true, apart := false, narrowed := true }
def ReckonOnesUptoSaid : Prop := reckonOnesUptoRow.holds Try.pinned (OpenSpec.upto reckonOnesSpec)

/-- 'sondagelaw04.ReckonExact', WHERE WHAT IT READS IS OF BULK AT MOST 1048576: true; the input reads as it did. -/
def reckonExactUptoRow : OpenClaim := { program := "ytebnbajjenpldaa", sum := "580e1523a8d8b91799aeeebfbea953ae9905ae2a26f38441f6c59b90f5bafc4a", func := "sondage/sondagelaw04.ReckonExact", spec := "reckonExact", inPlace := ["math/bits.Add64", "math/bits.Sub64"], unfollowed := true, recurses := true, apart := false, narrowed := true }
def ReckonExactUptoSaid : Prop := reckonExactUptoRow.holds Try.pinned (OpenSpec.upto reckonExactSpec)

/-- 'sondagelaw04.ReckonSound', WHERE WHAT IT READS IS OF BULK AT MOST 1048576: true; the input reads as it did. -/
def reckonSoundUptoRow : OpenClaim := { program := "ytebnbajjenpldaa", sum := "580e1523a8d8b91799aeeebfbea953ae9905ae2a26f38441f6c59b90f5bafc4a", func := "sondage/sondagelaw04.ReckonSound", spec := "reckonSound", inPlace := ["math/bits.Add64", "math/bits.Sub64"], unfollowed := true, recurses := true, apart := false, narrowed := true }
def ReckonSoundUptoSaid : Prop := reckonSoundUptoRow.holds Try.pinned (OpenSpec.upto reckonSoundSpec)

end Rows
end Go.Proofs.Ytebnbajjenpldaa
