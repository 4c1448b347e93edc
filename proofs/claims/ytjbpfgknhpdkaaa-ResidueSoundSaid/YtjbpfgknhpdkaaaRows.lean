/-
  No cell of these rows narrows 'for every input' (looked for: loops, veiled, ifaces, maps, wideKeys, modest, calm, conditions, laid).
  DERIVED. THE GIVEN ROWS OF THIS SEAT. 3 by the template 'for every input the law returns true; each argument reads behind the call as it read before'; 0 by the template 'total and deterministic' (their statements: YtjbpfgknhpdkaaaTotals.lean).
  GIVEN WITH THE SEED: the statements are not yours to turn. If you find one false, say at which input.
  Laid BY PROGRAM, IN A SANDBOX (cutbox-rows.mjs): the forced cells as the released guide's own fill.sh prints them over the translation 0b17c55816a888bf… (all of the seat's roots in one cut). By AI agents, Wed Nov 11 2026. No macro, syntax, notation, axiom, sorry.
-/
import Derived.Test.YtjbpfgknhpdkaaaChecked
import GoSem.Claim
import GoSem.ClaimJoined
import GoSem.ClaimMapViews
import Derived.JoinedTies
import Derived.KernelRfl
namespace Go.Proofs.Ytjbpfgknhpdkaaa
/- THE CELL 'sum', in the pinned program and in every row, IS THE sha256 OF THE DUMP (.gsa) THAT YtjbpfgknhpdkaaaProg.lean LOADS. Nothing in Lean hashes anything: it is a label: what it is worth is what the hold of that sum in a sandbox is worth. -/
noncomputable def Try.pinned : Pinned := { name := "ytjbpfgknhpdkaaa", sum := "0b17c55816a888bfc568e98faa097b31af559737c922c44e53e8dd9709e2d66f", checked := Try.checked }
namespace Rows
def none {H : Type} : Left H := { results := [], args := [] }

/-- 'sondagelaw06.ResidueDoes': WHATEVER THE INPUT: true; the input reads as it did. -/
def residueDoesSpec : ChangeSpec := { name := "residueDoes", fn := fun _ => fun
  | [d] => { results := [.lit (.bool true)], args := [d] }
  | _ => none }
def residueDoesRow : OpenClaim := { program := "ytjbpfgknhpdkaaa", sum := "0b17c55816a888bfc568e98faa097b31af559737c922c44e53e8dd9709e2d66f", func := "sondage/sondagelaw06.ResidueDoes", spec := "residueDoes", inPlace := ["math/bits.Add64", "math/bits.Sub64"], named := ["math/bits.divideError", "math/bits.overflowError"], apart := false }
def ResidueDoesSaid : Prop := residueDoesRow.holds Try.pinned (OpenSpec.ofChange residueDoesSpec)

/-- ITS FALSE NEIGHBOUR: 'it returns false'. Refute it at one input. -/
def residueDoesWrong : ChangeSpec := { name := "residueDoes", fn := fun _ => fun
  | [d] => { results := [.lit (.bool false)], args := [d] }
  | _ => none }
def ResidueDoesWrongFalsely : Prop := residueDoesRow.holds Try.pinned (OpenSpec.ofChange residueDoesWrong)

/-- 'sondagelaw06.ResidueExact': WHATEVER THE INPUT: true; the input reads as it did. -/
def residueExactSpec : ChangeSpec := { name := "residueExact", fn := fun _ => fun
  | [d1, d2, d3] => { results := [.lit (.bool true)], args := [d1, d2, d3] }
  | _ => none }
def residueExactRow : OpenClaim := { program := "ytjbpfgknhpdkaaa", sum := "0b17c55816a888bfc568e98faa097b31af559737c922c44e53e8dd9709e2d66f", func := "sondage/sondagelaw06.ResidueExact", spec := "residueExact", inPlace := ["math/bits.Add64", "math/bits.Sub64"], named := ["math/bits.divideError", "math/bits.overflowError"], apart := false }
def ResidueExactSaid : Prop := residueExactRow.holds Try.pinned (OpenSpec.ofChange residueExactSpec)

/-- ITS FALSE NEIGHBOUR: 'it returns false'. Refute it at one input. -/
def residueExactWrong : ChangeSpec := { name := "residueExact", fn := fun _ => fun
  | [d1, d2, d3] => { results := [.lit (.bool false)], args := [d1, d2, d3] }
  | _ => none }
def ResidueExactWrongFalsely : Prop := residueExactRow.holds Try.pinned (OpenSpec.ofChange residueExactWrong)

/-- 'sondagelaw06.ResidueSound': WHATEVER THE INPUT: true; the input reads as it did. -/
def residueSoundSpec : ChangeSpec := { name := "residueSound", fn := fun _ => fun
  | [d] => { results := [.lit (.bool true)], args := [d] }
  | _ => none }
def residueSoundRow : OpenClaim := { program := "ytjbpfgknhpdkaaa", sum := "0b17c55816a888bfc568e98faa097b31af559737c922c44e53e8dd9709e2d66f", func := "sondage/sondagelaw06.ResidueSound", spec := "residueSound", inPlace := ["math/bits.Add64", "math/bits.Sub64"], named := ["math/bits.divideError", "math/bits.overflowError"], apart := false }
def ResidueSoundSaid : Prop := residueSoundRow.holds Try.pinned (OpenSpec.ofChange residueSoundSpec)

/-- ITS FALSE NEIGHBOUR: 'it returns false'. Refute it at one input. -/
def residueSoundWrong : ChangeSpec := { name := "residueSound", fn := fun _ => fun
  | [d] => { results := [.lit (.bool false)], args := [d] }
  | _ => none }
def ResidueSoundWrongFalsely : Prop := residueSoundRow.holds Try.pinned (OpenSpec.ofChange residueSoundWrong)

/- THE SECOND FORM. 'bulk': how many values and letters a reading holds, each counted each time it is reached (what is shared counts as often as it is met; a slice's spare places count too). A statement '..UptoSaid' is the law's where the arguments, and the package variables that the reading takes, are together of bulk at most 1048576: NARROWER than '..Said'. Prove '..Said' where nothing that the law and all that it calls make is longer than what came in: it says more and counts as full. Else prove '..UptoSaid'. A law counts once. -/
mutual
def uptoBulk {H : Type} : DataW H → Nat
  | .lit (.string bytes) => bytes.length + 1
  | .lit _ => 1
  | .nil => 1
  | .ptr d => uptoBulk d + 1
  | .slice elems spare => uptoBulkAll elems + uptoBulkAll spare + 1
  | .agg parts => uptoBulkAll parts + 1
  | .iface _ d => uptoBulk d + 1
  | .map entries => uptoBulkEntries entries + 1
  | .held _ => 1
def uptoBulkAll {H : Type} : List (DataW H) → Nat
  | [] => 0
  | d :: r => uptoBulk d + uptoBulkAll r
def uptoBulkEntries {H : Type} : List (Lit × DataW H) → Nat
  | [] => 0
  | x :: r => uptoBulkEntry x + uptoBulkEntries r
def uptoBulkEntry {H : Type} : Lit × DataW H → Nat
  | (.string bytes, d) => bytes.length + uptoBulk d + 1
  | (_, d) => uptoBulk d + 1
 end
def uptoSmall : (H : Type) → List (DataW H) → Bool := fun _ ds => decide (uptoBulkAll ds ≤ 1048576)
def OpenSpec.upto (s : _root_.Go.ChangeSpec) : _root_.Go.OpenSpec := { _root_.Go.OpenSpec.ofChange s with cond := some uptoSmall }

/-- 'sondagelaw06.ResidueDoes', WHERE WHAT IT READS IS OF BULK AT MOST 1048576: true; the input reads as it did. -/
def residueDoesUptoRow : OpenClaim := { program := "ytjbpfgknhpdkaaa", sum := "0b17c55816a888bfc568e98faa097b31af559737c922c44e53e8dd9709e2d66f", func := "sondage/sondagelaw06.ResidueDoes", spec := "residueDoes", inPlace := ["math/bits.Add64", "math/bits.Sub64"], named := ["math/bits.divideError", "math/bits.overflowError"], apart := false, narrowed := true }
def ResidueDoesUptoSaid : Prop := residueDoesUptoRow.holds Try.pinned (OpenSpec.upto residueDoesSpec)

/-- 'sondagelaw06.ResidueExact', WHERE WHAT IT READS IS OF BULK AT MOST 1048576: true; the input reads as it did. -/
def residueExactUptoRow : OpenClaim := { program := "ytjbpfgknhpdkaaa", sum := "0b17c55816a888bfc568e98faa097b31af559737c922c44e53e8dd9709e2d66f", func := "sondage/sondagelaw06.ResidueExact", spec := "residueExact", inPlace := ["math/bits.Add64", "math/bits.Sub64"], named := ["math/bits.divideError", "math/bits.overflowError"], apart := false, narrowed := true }
def ResidueExactUptoSaid : Prop := residueExactUptoRow.holds Try.pinned (OpenSpec.upto residueExactSpec)

/-- 'sondagelaw06.ResidueSound', WHERE WHAT IT READS IS OF BULK AT MOST 1048576: true; the input reads as it did. -/
def residueSoundUptoRow : OpenClaim := { program := "ytjbpfgknhpdkaaa", sum := "0b17c55816a888bfc568e98faa097b31af559737c922c44e53e8dd9709e2d66f", func := "sondage/sondagelaw06.ResidueSound", spec := "residueSound", inPlace := ["math/bits.Add64", "math/bits.Sub64"], named := ["math/bits.divideError", "math/bits.overflowError"], apart := false, narrowed := true }
def ResidueSoundUptoSaid : Prop := residueSoundUptoRow.holds Try.pinned (OpenSpec.upto residueSoundSpec)

end Rows
end Go.Proofs.Ytjbpfgknhpdkaaa
