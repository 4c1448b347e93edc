/-
  NARROWER THAN 'FOR EVERY INPUT', by the rows' own cells (each row's printed sentence says how): ChangeOf: loops · ChangeNone: loops · ChangeTouches: loops.
  DERIVED. THE GIVEN ROWS OF THIS SEAT. 3 by the template 'for every input the law returns true; each argument reads behind the call as it read before'; 0 by the template 'total and deterministic' (their statements: YtpeimfcmhedjmaaTotals.lean).
  GIVEN WITH THE SEED: the statements are not yours to turn. If you find one false, say at which input.
  Laid BY PROGRAM, IN A SANDBOX (cutbox-rows.mjs): the forced cells as the released guide's own fill.sh prints them over the translation 7509e63cf0bf870a… (all of the seat's roots in one cut). By AI agents, Wed Nov 11 2026. No macro, syntax, notation, axiom, sorry.
-/
import Derived.Test.YtpeimfcmhedjmaaChecked
import GoSem.Claim
import GoSem.ClaimJoined
import GoSem.ClaimMapViews
import Derived.JoinedTies
import Derived.KernelRfl
namespace Go.Proofs.Ytpeimfcmhedjmaa
/- THE CELL 'sum', in the pinned program and in every row, IS THE sha256 OF THE DUMP (.gsa) THAT YtpeimfcmhedjmaaProg.lean LOADS. Nothing in Lean hashes anything: it is a label: what it is worth is what the hold of that sum in a sandbox is worth. -/
noncomputable def Try.pinned : Pinned := { name := "ytpeimfcmhedjmaa", sum := "7509e63cf0bf870a30da1c38b8cc5ae0ba3614cc0565449e03077abb7409d5ef", checked := Try.checked }
namespace Rows
def none {H : Type} : Left H := { results := [], args := [] }

/-- 'sondagelaw18.ChangeOf': WHATEVER THE INPUT: true; the input reads as it did. -/
def changeOfSpec : ChangeSpec := { name := "changeOf", fn := fun _ => fun
  | [d1, d2] => { results := [.lit (.bool true)], args := [d1, d2] }
  | _ => none }
def changeOfRow : OpenClaim := { program := "ytpeimfcmhedjmaa", sum := "7509e63cf0bf870a30da1c38b8cc5ae0ba3614cc0565449e03077abb7409d5ef", func := "sondage/sondagelaw18.ChangeOf", spec := "changeOf", unfollowed := true, recurses := true, loops := true, apart := false }
def ChangeOfSaid : Prop := changeOfRow.holds Try.pinned (OpenSpec.ofChange changeOfSpec)

/-- ITS FALSE NEIGHBOUR: 'it returns false'. Refute it at one input. -/
def changeOfWrong : ChangeSpec := { name := "changeOf", fn := fun _ => fun
  | [d1, d2] => { results := [.lit (.bool false)], args := [d1, d2] }
  | _ => none }
def ChangeOfWrongFalsely : Prop := changeOfRow.holds Try.pinned (OpenSpec.ofChange changeOfWrong)

/-- 'sondagelaw18.ChangeNone': WHATEVER THE INPUT: true; the input reads as it did. -/
def changeNoneSpec : ChangeSpec := { name := "changeNone", fn := fun _ => fun
  | [d1, d2] => { results := [.lit (.bool true)], args := [d1, d2] }
  | _ => none }
def changeNoneRow : OpenClaim := { program := "ytpeimfcmhedjmaa", sum := "7509e63cf0bf870a30da1c38b8cc5ae0ba3614cc0565449e03077abb7409d5ef", func := "sondage/sondagelaw18.ChangeNone", spec := "changeNone", unfollowed := true, recurses := true, loops := true, apart := false }
def ChangeNoneSaid : Prop := changeNoneRow.holds Try.pinned (OpenSpec.ofChange changeNoneSpec)

/-- ITS FALSE NEIGHBOUR: 'it returns false'. Refute it at one input. -/
def changeNoneWrong : ChangeSpec := { name := "changeNone", fn := fun _ => fun
  | [d1, d2] => { results := [.lit (.bool false)], args := [d1, d2] }
  | _ => none }
def ChangeNoneWrongFalsely : Prop := changeNoneRow.holds Try.pinned (OpenSpec.ofChange changeNoneWrong)

/-- 'sondagelaw18.ChangeTouches': WHATEVER THE INPUT: true; the input reads as it did. -/
def changeTouchesSpec : ChangeSpec := { name := "changeTouches", fn := fun _ => fun
  | [d1, d2, d3] => { results := [.lit (.bool true)], args := [d1, d2, d3] }
  | _ => none }
def changeTouchesRow : OpenClaim := { program := "ytpeimfcmhedjmaa", sum := "7509e63cf0bf870a30da1c38b8cc5ae0ba3614cc0565449e03077abb7409d5ef", func := "sondage/sondagelaw18.ChangeTouches", spec := "changeTouches", unfollowed := true, recurses := true, loops := true, apart := false }
def ChangeTouchesSaid : Prop := changeTouchesRow.holds Try.pinned (OpenSpec.ofChange changeTouchesSpec)

/-- ITS FALSE NEIGHBOUR: 'it returns false'. Refute it at one input. -/
def changeTouchesWrong : ChangeSpec := { name := "changeTouches", fn := fun _ => fun
  | [d1, d2, d3] => { results := [.lit (.bool false)], args := [d1, d2, d3] }
  | _ => none }
def ChangeTouchesWrongFalsely : Prop := changeTouchesRow.holds Try.pinned (OpenSpec.ofChange changeTouchesWrong)

/- THE SECOND FORM. 'bulk': how many values and letters a reading holds, each counted each time it is reached (what is shared counts as often as it is met; a slice's spare places count too). A statement '..UptoSaid' is the law's where the arguments, and the package variables that the reading takes, are together of bulk at most 1048576: NARROWER than '..Said'. Prove '..Said' where nothing that the law and all that it calls make is longer than what came in: it says more and counts as full. Else prove '..UptoSaid'. A law counts once. -/
mutual
def uptoBulk {H : Type} : DataW H → Nat
  | .lit (.string bytes) => bytes.length + 1
  | .lit _ => 1
  | .nil => 1
  | .ptr d => uptoBulk d + 1
  | .slice elems spare => uptoBulkAll elems + uptoBulkAll spare + 1
  | .agg parts => uptoBulkAll parts + 1
  | .iface _ d => uptoBulk d + 1
  | .map entries => uptoBulkEntries entries + 1
  | .held _ => 1
def uptoBulkAll {H : Type} : List (DataW H) → Nat
  | [] => 0
  | d :: r => uptoBulk d + uptoBulkAll r
def uptoBulkEntries {H : Type} : List (Lit × DataW H) → Nat
  | [] => 0
  | x :: r => uptoBulkEntry x + uptoBulkEntries r
def uptoBulkEntry {H : Type} : Lit × DataW H → Nat
  | (.string bytes, d) => bytes.length + uptoBulk d + 1
  | (_, d) => uptoBulk d + 1
 end
def uptoSmall : (H : Type) → List (DataW H) → Bool := fun _ ds => decide (uptoBulkAll ds ≤ 1048576)
def OpenSpec.upto (s : _root_.Go.ChangeSpec) : _root_.Go.OpenSpec := { _root_.Go.OpenSpec.ofChange s with cond := some uptoSmall }

/-- 'sondagelaw18.ChangeOf', WHERE WHAT IT READS IS OF BULK AT MOST 1048576: true; the input reads as it did. -/
def changeOfUptoRow : OpenClaim := { program := "ytpeimfcmhedjmaa", sum := "7509e63cf0bf870a30da1c38b8cc5ae0ba3614cc0565449e03077abb7409d5ef", func := "sondage/sondagelaw18.ChangeOf", spec := "changeOf", unfollowed := true, recurses := true, loops := true, apart := false, narrowed := true }
def ChangeOfUptoSaid : Prop := changeOfUptoRow.holds Try.pinned (OpenSpec.upto changeOfSpec)

/-- 'sondagelaw18.ChangeNone', WHERE WHAT IT READS IS OF BULK AT MOST 1048576: true; the input reads as it did. -/
def changeNoneUptoRow : OpenClaim := { program := "ytpeimfcmhedjmaa", sum := "7509e63cf0bf870a30da1c38b8cc5ae0ba3614cc0565449e03077abb7409d5ef", func := "sondage/sondagelaw18.ChangeNone", spec := "changeNone", unfollowed := true, recurses := true, loops := true, apart := false, narrowed := true }
def ChangeNoneUptoSaid : Prop := changeNoneUptoRow.holds Try.pinned (OpenSpec.upto changeNoneSpec)

/-- 'sondagelaw18.ChangeTouches', WHERE WHAT IT READS IS OF BULK AT MOST 1048576: true; the input reads as it did. -/
def changeTouchesUptoRow : OpenClaim := { program := "ytpeimfcmhedjmaa", sum := "7509e63cf0bf870a30da1c38b8cc5ae0ba3614cc0565449e03077abb7409d5ef", func := "sondage/sondagelaw18.ChangeTouches", spec := "changeTouches", unfollowed := true, recurses := true, loops := true, apart := false, narrowed := true }
def ChangeTouchesUptoSaid : Prop := changeTouchesUptoRow.holds Try.pinned (OpenSpec.upto changeTouchesSpec)

end Rows
end Go.Proofs.Ytpeimfcmhedjmaa
