/-
  No cell of these rows narrows 'for every input' (looked for: loops, veiled, ifaces, maps, wideKeys, modest, calm, conditions, laid).
  DERIVED. THE GIVEN ROWS OF THIS SEAT. 5 by the template 'for every input the law returns true; each argument reads behind the call as it read before'; 0 by the template 'total and deterministic' (their statements: YtbkohmpogdameaaTotals.lean).
  GIVEN WITH THE SEED: the statements are not yours to turn. If you find one false, say at which input.
  Laid BY PROGRAM, IN A SANDBOX (cutbox-rows.mjs): the forced cells as the released guide's own fill.sh prints them over the translation 0022cf64d65a7110… (all of the seat's roots in one cut). By AI agents, Wed Nov 11 2026. No macro, syntax, notation, axiom, sorry.
-/
import Derived.Test.YtbkohmpogdameaaChecked
import GoSem.Claim
import GoSem.ClaimJoined
import GoSem.ClaimMapViews
import Derived.JoinedTies
import Derived.KernelRfl
namespace Go.Proofs.Ytbkohmpogdameaa
/- THE CELL 'sum', in the pinned program and in every row, IS THE sha256 OF THE DUMP (.gsa) THAT YtbkohmpogdameaaProg.lean LOADS. Nothing in Lean hashes anything: it is a label: what it is worth is what the hold of that sum in a sandbox is worth. -/
noncomputable def Try.pinned : Pinned := { name := "ytbkohmpogdameaa", sum := "0022cf64d65a71106d60f5c2b91045103181a8ba2f611f78e86c435b9c4895d7", checked := Try.checked }
namespace Rows
def none {H : Type} : Left H := { results := [], args := [] }

/-- 'sondagelaw01.WideProducts': WHATEVER THE INPUT: true; the input reads as it did. -/
def wideProductsSpec : ChangeSpec := { name := "wideProducts", fn := fun _ => fun
  | [d1, d2] => { results := [.lit (.bool true)], args := [d1, d2] }
  | _ => none }
def wideProductsRow : OpenClaim := { program := "ytbkohmpogdameaa", sum := "0022cf64d65a71106d60f5c2b91045103181a8ba2f611f78e86c435b9c4895d7", func := "sondage/sondagelaw01.WideProducts", spec := "wideProducts", inPlace := ["math/bits.Sub64"], apart := false }
def WideProductsSaid : Prop := wideProductsRow.holds Try.pinned (OpenSpec.ofChange wideProductsSpec)

/-- ITS FALSE NEIGHBOUR: 'it returns false'. Refute it at one input. -/
def wideProductsWrong : ChangeSpec := { name := "wideProducts", fn := fun _ => fun
  | [d1, d2] => { results := [.lit (.bool false)], args := [d1, d2] }
  | _ => none }
def WideProductsWrongFalsely : Prop := wideProductsRow.holds Try.pinned (OpenSpec.ofChange wideProductsWrong)

/-- 'sondagelaw01.WideStands': WHATEVER THE INPUT: true; the input reads as it did. -/
def wideStandsSpec : ChangeSpec := { name := "wideStands", fn := fun _ => fun
  | [d1, d2] => { results := [.lit (.bool true)], args := [d1, d2] }
  | _ => none }
def wideStandsRow : OpenClaim := { program := "ytbkohmpogdameaa", sum := "0022cf64d65a71106d60f5c2b91045103181a8ba2f611f78e86c435b9c4895d7", func := "sondage/sondagelaw01.WideStands", spec := "wideStands", inPlace := ["math/bits.Sub64"], apart := false }
def WideStandsSaid : Prop := wideStandsRow.holds Try.pinned (OpenSpec.ofChange wideStandsSpec)

/-- ITS FALSE NEIGHBOUR: 'it returns false'. Refute it at one input. -/
def wideStandsWrong : ChangeSpec := { name := "wideStands", fn := fun _ => fun
  | [d1, d2] => { results := [.lit (.bool false)], args := [d1, d2] }
  | _ => none }
def WideStandsWrongFalsely : Prop := wideStandsRow.holds Try.pinned (OpenSpec.ofChange wideStandsWrong)

/-- 'sondagelaw01.WideSums': WHATEVER THE INPUT: true; the input reads as it did. -/
def wideSumsSpec : ChangeSpec := { name := "wideSums", fn := fun _ => fun
  | [d1, d2] => { results := [.lit (.bool true)], args := [d1, d2] }
  | _ => none }
def wideSumsRow : OpenClaim := { program := "ytbkohmpogdameaa", sum := "0022cf64d65a71106d60f5c2b91045103181a8ba2f611f78e86c435b9c4895d7", func := "sondage/sondagelaw01.WideSums", spec := "wideSums", inPlace := ["math/bits.Add64", "math/bits.Sub64"], apart := false }
def WideSumsSaid : Prop := wideSumsRow.holds Try.pinned (OpenSpec.ofChange wideSumsSpec)

/-- ITS FALSE NEIGHBOUR: 'it returns false'. Refute it at one input. -/
def wideSumsWrong : ChangeSpec := { name := "wideSums", fn := fun _ => fun
  | [d1, d2] => { results := [.lit (.bool false)], args := [d1, d2] }
  | _ => none }
def WideSumsWrongFalsely : Prop := wideSumsRow.holds Try.pinned (OpenSpec.ofChange wideSumsWrong)

/-- 'sondagelaw01.WideBests': WHATEVER THE INPUT: true; the input reads as it did. -/
def wideBestsSpec : ChangeSpec := { name := "wideBests", fn := fun _ => fun
  | [d1, d2] => { results := [.lit (.bool true)], args := [d1, d2] }
  | _ => none }
def wideBestsRow : OpenClaim := { program := "ytbkohmpogdameaa", sum := "0022cf64d65a71106d60f5c2b91045103181a8ba2f611f78e86c435b9c4895d7", func := "sondage/sondagelaw01.WideBests", spec := "wideBests", inPlace := ["math/bits.Sub64"], apart := false }
def WideBestsSaid : Prop := wideBestsRow.holds Try.pinned (OpenSpec.ofChange wideBestsSpec)

/-- ITS FALSE NEIGHBOUR: 'it returns false'. Refute it at one input. -/
def wideBestsWrong : ChangeSpec := { name := "wideBests", fn := fun _ => fun
  | [d1, d2] => { results := [.lit (.bool false)], args := [d1, d2] }
  | _ => none }
def WideBestsWrongFalsely : Prop := wideBestsRow.holds Try.pinned (OpenSpec.ofChange wideBestsWrong)

/-- 'sondagelaw01.WideRules': WHATEVER THE INPUT: true; the input reads as it did. -/
def wideRulesSpec : ChangeSpec := { name := "wideRules", fn := fun _ => fun
  | [d1, d2, d3] => { results := [.lit (.bool true)], args := [d1, d2, d3] }
  | _ => none }
def wideRulesRow : OpenClaim := { program := "ytbkohmpogdameaa", sum := "0022cf64d65a71106d60f5c2b91045103181a8ba2f611f78e86c435b9c4895d7", func := "sondage/sondagelaw01.WideRules", spec := "wideRules", inPlace := ["math/bits.Add64", "math/bits.Sub64"], apart := false }
def WideRulesSaid : Prop := wideRulesRow.holds Try.pinned (OpenSpec.ofChange wideRulesSpec)

/-- ITS FALSE NEIGHBOUR: 'it returns false'. Refute it at one input. -/
def wideRulesWrong : ChangeSpec := { name := "wideRules", fn := fun _ => fun
  | [d1, d2, d3] => { results := [.lit (.bool false)], args := [d1, d2, d3] }
  | _ => none }
def WideRulesWrongFalsely : Prop := wideRulesRow.holds Try.pinned (OpenSpec.ofChange wideRulesWrong)

/- THE SECOND FORM. 'bulk': how many values and letters a reading holds, each counted each time it is reached (what is shared counts as often as it is met; a slice's spare places count too). A statement '..UptoSaid' is the law's where the arguments, and the package variables that the reading takes, are together of bulk at most 1048576: NARROWER than '..Said'. Prove '..Said' where nothing that the law and all that it calls make is longer than what came in: it says more and counts as full. Else prove '..UptoSaid'. A law counts once. -/
mutual
def uptoBulk {H : Type} : DataW H → Nat
  | .lit (.string bytes) => bytes.length + 1
  | .lit _ => 1
  | .nil => 1
  | .ptr d => uptoBulk d + 1
  | .slice elems spare => uptoBulkAll elems + uptoBulkAll spare + 1
  | .agg parts => uptoBulkAll parts + 1
  | .iface _ d => uptoBulk d + 1
  | .map entries => uptoBulkEntries entries + 1
  | .held _ => 1
def uptoBulkAll {H : Type} : List (DataW H) → Nat
  | [] => 0
  | d :: r => uptoBulk d + uptoBulkAll r
def uptoBulkEntries {H : Type} : List (Lit × DataW H) → Nat
  | [] => 0
  | x :: r => uptoBulkEntry x + uptoBulkEntries r
def uptoBulkEntry {H : Type} : Lit × DataW H → Nat
  | (.string bytes, d) => bytes.length + uptoBulk d + 1
  | (_, d) => uptoBulk d + 1
 end
def uptoSmall : (H : Type) → List (DataW H) → Bool := fun _ ds => decide (uptoBulkAll ds ≤ 1048576)
def OpenSpec.upto (s : _root_.Go.ChangeSpec) : _root_.Go.OpenSpec := { _root_.Go.OpenSpec.ofChange s with cond := some uptoSmall }

/-- 'sondagelaw01.WideProducts', WHERE WHAT IT READS IS OF BULK AT MOST 1048576: true; the input reads as it did. -/
def wideProductsUptoRow : OpenClaim := { program := "ytbkohmpogdameaa", sum := "0022cf64d65a71106d60f5c2b91045103181a8ba2f611f78e86c435b9c4895d7", func := "sondage/sondagelaw01.WideProducts", spec := "wideProducts", inPlace := ["math/bits.Sub64"], apart := false, narrowed := true }
def WideProductsUptoSaid : Prop := wideProductsUptoRow.holds Try.pinned (OpenSpec.upto wideProductsSpec)

/-- 'sondagelaw01.WideStands', WHERE WHAT IT READS IS OF BULK AT MOST 1048576: true; the input reads as it did. -/
def wideStandsUptoRow : OpenClaim := { program := "ytbkohmpogdameaa", sum := "0022cf64d65a71106d60f5c2b91045103181a8ba2f611f78e86c435b9c4895d7", func := "sondage/sondagelaw01.WideStands", spec := "wideStands", inPlace := ["math/bits.Sub64"], apart := false, narrowed := true }
def WideStandsUptoSaid : Prop := wideStandsUptoRow.holds Try.pinned (OpenSpec.upto wideStandsSpec)

/-- 'sondagelaw01.WideSums', WHERE WHAT IT READS IS OF BULK AT MOST 1048576: true; the input reads as it did. -/
def wideSumsUptoRow : OpenClaim := { program := "ytbkohmpogdameaa", sum := "0022cf64d65a71106d60f5c2b91045103181a8ba2f611f78e86c435b9c4895d7", func := "sondage/sondagelaw01.WideSums", spec := "wideSums", inPlace := ["math/bits.Add64", "math/bits.Sub64"], apart := false, narrowed := true }
def WideSumsUptoSaid : Prop := wideSumsUptoRow.holds Try.pinned (OpenSpec.upto wideSumsSpec)

/-- 'sondagelaw01.WideBests', WHERE WHAT IT READS IS OF BULK AT MOST 1048576: true; the input reads as it did. -/
def wideBestsUptoRow : OpenClaim := { program := "ytbkohmpogdameaa", sum := "0022cf64d65a71106d60f5c2b91045103181a8ba2f611f78e86c435b9c4895d7", func := "sondage/sondagelaw01.WideBests", spec := "wideBests", inPlace := ["math/bits.Sub64"], apart := false, narrowed := true }
def WideBestsUptoSaid : Prop := wideBestsUptoRow.holds Try.pinned (OpenSpec.upto wideBestsSpec)

/-- 'sondagelaw01.WideRules', WHERE WHAT IT READS IS OF BULK AT MOST 1048576: true; the input reads as it did. -/
def wideRulesUptoRow : OpenClaim := { program := "ytbkohmpogdameaa", sum := "0022cf64d65a71106d60f5c2b91045103181a8ba2f611f78e86c435b9c4895d7", func := "sondage/sondagelaw01.WideRules", spec := "wideRules", inPlace := ["math/bits.Add64", "math/bits.Sub64"], apart := false, narrowed := true }
def WideRulesUptoSaid : Prop := wideRulesUptoRow.holds Try.pinned (OpenSpec.upto wideRulesSpec)

end Rows
end Go.Proofs.Ytbkohmpogdameaa
