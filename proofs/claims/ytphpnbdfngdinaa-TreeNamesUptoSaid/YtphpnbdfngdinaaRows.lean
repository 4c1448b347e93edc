/-
  NARROWER THAN 'FOR EVERY INPUT', by the rows' own cells (each row's printed sentence says how): TreeNames: loops · TreeMeasures: loops · TreeSame: loops · TreeBare: loops.
  DERIVED. THE GIVEN ROWS OF THIS SEAT. 4 by the template 'for every input the law returns true; each argument reads behind the call as it read before'; 0 by the template 'total and deterministic' (their statements: YtphpnbdfngdinaaTotals.lean).
  GIVEN WITH THE SEED: the statements are not yours to turn. If you find one false, say at which input.
  Laid BY PROGRAM, IN A SANDBOX (cutbox-rows.mjs): the forced cells as the released guide's own fill.sh prints them over the translation c0de003af1b0ae25… (all of the seat's roots in one cut). By AI agents, Wed Nov 11 2026. No macro, syntax, notation, axiom, sorry.
-/
import Derived.Test.YtphpnbdfngdinaaChecked
import GoSem.Claim
import GoSem.ClaimJoined
import GoSem.ClaimMapViews
import Derived.JoinedTies
import Derived.KernelRfl
namespace Go.Proofs.Ytphpnbdfngdinaa
/- THE CELL 'sum', in the pinned program and in every row, IS THE sha256 OF THE DUMP (.gsa) THAT YtphpnbdfngdinaaProg.lean LOADS. Nothing in Lean hashes anything: it is a label: what it is worth is what the hold of that sum in a sandbox is worth. -/
noncomputable def Try.pinned : Pinned := { name := "ytphpnbdfngdinaa", sum := "c0de003af1b0ae252e2256026713678e3d890bafc108531807728356746e31f7", checked := Try.checked }
namespace Rows
def none {H : Type} : Left H := { results := [], args := [] }

/-- 'sondagelaw11.TreeNames': WHATEVER THE INPUT: true; the input reads as it did. -/
def treeNamesSpec : ChangeSpec := { name := "treeNames", fn := fun _ => fun
  | [d] => { results := [.lit (.bool true)], args := [d] }
  | _ => none }
def treeNamesRow : OpenClaim := { program := "ytphpnbdfngdinaa", sum := "c0de003af1b0ae252e2256026713678e3d890bafc108531807728356746e31f7", func := "sondage/sondagelaw11.TreeNames", spec := "treeNames", unfollowed := true, recurses := true, loops := true, apart := false }
def TreeNamesSaid : Prop := treeNamesRow.holds Try.pinned (OpenSpec.ofChange treeNamesSpec)

/-- ITS FALSE NEIGHBOUR: 'it returns false'. Refute it at one input. -/
def treeNamesWrong : ChangeSpec := { name := "treeNames", fn := fun _ => fun
  | [d] => { results := [.lit (.bool false)], args := [d] }
  | _ => none }
def TreeNamesWrongFalsely : Prop := treeNamesRow.holds Try.pinned (OpenSpec.ofChange treeNamesWrong)

/-- 'sondagelaw11.TreeMeasures': WHATEVER THE INPUT: true; the input reads as it did. -/
def treeMeasuresSpec : ChangeSpec := { name := "treeMeasures", fn := fun _ => fun
  | [d1, d2] => { results := [.lit (.bool true)], args := [d1, d2] }
  | _ => none }
def treeMeasuresRow : OpenClaim := { program := "ytphpnbdfngdinaa", sum := "c0de003af1b0ae252e2256026713678e3d890bafc108531807728356746e31f7", func := "sondage/sondagelaw11.TreeMeasures", spec := "treeMeasures", unfollowed := true, recurses := true, loops := true, apart := false }
def TreeMeasuresSaid : Prop := treeMeasuresRow.holds Try.pinned (OpenSpec.ofChange treeMeasuresSpec)

/-- ITS FALSE NEIGHBOUR: 'it returns false'. Refute it at one input. -/
def treeMeasuresWrong : ChangeSpec := { name := "treeMeasures", fn := fun _ => fun
  | [d1, d2] => { results := [.lit (.bool false)], args := [d1, d2] }
  | _ => none }
def TreeMeasuresWrongFalsely : Prop := treeMeasuresRow.holds Try.pinned (OpenSpec.ofChange treeMeasuresWrong)

/-- 'sondagelaw11.TreeSame': WHATEVER THE INPUT: true; the input reads as it did. -/
def treeSameSpec : ChangeSpec := { name := "treeSame", fn := fun _ => fun
  | [d1, d2, d3] => { results := [.lit (.bool true)], args := [d1, d2, d3] }
  | _ => none }
def treeSameRow : OpenClaim := { program := "ytphpnbdfngdinaa", sum := "c0de003af1b0ae252e2256026713678e3d890bafc108531807728356746e31f7", func := "sondage/sondagelaw11.TreeSame", spec := "treeSame", unfollowed := true, recurses := true, loops := true, apart := false }
def TreeSameSaid : Prop := treeSameRow.holds Try.pinned (OpenSpec.ofChange treeSameSpec)

/-- ITS FALSE NEIGHBOUR: 'it returns false'. Refute it at one input. -/
def treeSameWrong : ChangeSpec := { name := "treeSame", fn := fun _ => fun
  | [d1, d2, d3] => { results := [.lit (.bool false)], args := [d1, d2, d3] }
  | _ => none }
def TreeSameWrongFalsely : Prop := treeSameRow.holds Try.pinned (OpenSpec.ofChange treeSameWrong)

/-- 'sondagelaw11.TreeBare': WHATEVER THE INPUT: true; the input reads as it did. -/
def treeBareSpec : ChangeSpec := { name := "treeBare", fn := fun _ => fun
  | [d] => { results := [.lit (.bool true)], args := [d] }
  | _ => none }
def treeBareRow : OpenClaim := { program := "ytphpnbdfngdinaa", sum := "c0de003af1b0ae252e2256026713678e3d890bafc108531807728356746e31f7", func := "sondage/sondagelaw11.TreeBare", spec := "treeBare", unfollowed := true, recurses := true, loops := true, apart := false }
def TreeBareSaid : Prop := treeBareRow.holds Try.pinned (OpenSpec.ofChange treeBareSpec)

/-- ITS FALSE NEIGHBOUR: 'it returns false'. Refute it at one input. -/
def treeBareWrong : ChangeSpec := { name := "treeBare", fn := fun _ => fun
  | [d] => { results := [.lit (.bool false)], args := [d] }
  | _ => none }
def TreeBareWrongFalsely : Prop := treeBareRow.holds Try.pinned (OpenSpec.ofChange treeBareWrong)

/- THE SECOND FORM. 'bulk': how many values and letters a reading holds, each counted each time it is reached (what is shared counts as often as it is met; a slice's spare places count too). A statement '..UptoSaid' is the law's where the arguments, and the package variables that the reading takes, are together of bulk at most 1048576: NARROWER than '..Said'. Prove '..Said' where nothing that the law and all that it calls make is longer than what came in: it says more and counts as full. Else prove '..UptoSaid'. A law counts once. -/
mutual
def uptoBulk {H : Type} : DataW H → Nat
  | .lit (.string bytes) => bytes.length + 1
  | .lit _ => 1
  | .nil => 1
  | .ptr d => uptoBulk d + 1
  | .slice elems spare => uptoBulkAll elems + uptoBulkAll spare + 1
  | .agg parts => uptoBulkAll parts + 1
  | .iface _ d => uptoBulk d + 1
  | .map entries => uptoBulkEntries entries + 1
  | .held _ => 1
def uptoBulkAll {H : Type} : List (DataW H) → Nat
  | [] => 0
  | d :: r => uptoBulk d + uptoBulkAll r
def uptoBulkEntries {H : Type} : List (Lit × DataW H) → Nat
  | [] => 0
  | x :: r => uptoBulkEntry x + uptoBulkEntries r
def uptoBulkEntry {H : Type} : Lit × DataW H → Nat
  | (.string bytes, d) => bytes.length + uptoBulk d + 1
  | (_, d) => uptoBulk d + 1
 end
def uptoSmall : (H : Type) → List (DataW H) → Bool := fun _ ds => decide (uptoBulkAll ds ≤ 1048576)
def OpenSpec.upto (s : _root_.Go.ChangeSpec) : _root_.Go.OpenSpec := { _root_.Go.OpenSpec.ofChange s with cond := some uptoSmall }

/-- 'sondagelaw11.TreeNames', WHERE WHAT IT READS IS OF BULK AT MOST 1048576: true; the input reads as it did. -/
def treeNamesUptoRow : OpenClaim := { program := "ytphpnbdfngdinaa", sum := "c0de003af1b0ae252e2256026713678e3d890bafc108531807728356746e31f7", func := "sondage/sondagelaw11.TreeNames", spec := "treeNames", unfollowed := true, recurses := true, loops := true, apart := false, narrowed := true }
def TreeNamesUptoSaid : Prop := treeNamesUptoRow.holds Try.pinned (OpenSpec.upto treeNamesSpec)

/-- 'sondagelaw11.TreeMeasures', WHERE WHAT IT READS IS OF BULK AT MOST 1048576: true; the input reads as it did. -/
def treeMeasuresUptoRow : OpenClaim := { program := "ytphpnbdfngdinaa", sum := "c0de003af1b0ae252e2256026713678e3d890bafc108531807728356746e31f7", func := "sondage/sondagelaw11.TreeMeasures", spec := "treeMeasures", unfollowed := true, recurses := true, loops := true, apart := false, narrowed := true }
def TreeMeasuresUptoSaid : Prop := treeMeasuresUptoRow.holds Try.pinned (OpenSpec.upto treeMeasuresSpec)

/-- 'sondagelaw11.TreeSame', WHERE WHAT IT READS IS OF BULK AT MOST 1048576: true; the input reads as it did. -/
def treeSameUptoRow : OpenClaim := { program := "ytphpnbdfngdinaa", sum := "c0de003af1b0ae252e2256026713678e3d890bafc108531807728356746e31f7", func := "sondage/sondagelaw11.TreeSame", spec := "treeSame", unfollowed := true, recurses := true, loops := true, apart := false, narrowed := true }
def TreeSameUptoSaid : Prop := treeSameUptoRow.holds Try.pinned (OpenSpec.upto treeSameSpec)

/-- 'sondagelaw11.TreeBare', WHERE WHAT IT READS IS OF BULK AT MOST 1048576: true; the input reads as it did. -/
def treeBareUptoRow : OpenClaim := { program := "ytphpnbdfngdinaa", sum := "c0de003af1b0ae252e2256026713678e3d890bafc108531807728356746e31f7", func := "sondage/sondagelaw11.TreeBare", spec := "treeBare", unfollowed := true, recurses := true, loops := true, apart := false, narrowed := true }
def TreeBareUptoSaid : Prop := treeBareUptoRow.holds Try.pinned (OpenSpec.upto treeBareSpec)

end Rows
end Go.Proofs.Ytphpnbdfngdinaa
