/-
  No cell of these rows narrows 'for every input' (looked for: loops, veiled, ifaces, maps, wideKeys, modest, calm, conditions, laid).
  DERIVED. THE GIVEN ROWS OF THIS SEAT. 3 by the template 'for every input the law returns true; each argument reads behind the call as it read before'; 0 by the template 'total and deterministic' (their statements: YtmgklehakmdiiaaTotals.lean).
  GIVEN WITH THE SEED: the statements are not yours to turn. If you find one false, say at which input.
  Laid BY PROGRAM, IN A SANDBOX (cutbox-rows.mjs): the forced cells as the released guide's own fill.sh prints them over the translation a00daa7b24ad87e4… (all of the seat's roots in one cut). By AI agents, Wed Nov 11 2026. No macro, syntax, notation, axiom, sorry.
-/
import Derived.Test.YtmgklehakmdiiaaChecked
import GoSem.Claim
import GoSem.ClaimJoined
import GoSem.ClaimMapViews
import Derived.JoinedTies
import Derived.KernelRfl
namespace Go.Proofs.Ytmgklehakmdiiaa
/- THE CELL 'sum', in the pinned program and in every row, IS THE sha256 OF THE DUMP (.gsa) THAT YtmgklehakmdiiaaProg.lean LOADS. Nothing in Lean hashes anything: it is a label: what it is worth is what the hold of that sum in a sandbox is worth. -/
noncomputable def Try.pinned : Pinned := { name := "ytmgklehakmdiiaa", sum := "a00daa7b24ad87e426b5e930b6be509d1c37ab67a293fbfbc29e8c33e89c9e2d", checked := Try.checked }
namespace Rows
def none {H : Type} : Left H := { results := [], args := [] }

/-- 'sondagelaw13.GrammarFuncs': WHATEVER THE INPUT: true; the input reads as it did. -/
def grammarFuncsSpec : ChangeSpec := { name := "grammarFuncs", fn := fun _ => fun
  | [d] => { results := [.lit (.bool true)], args := [d] }
  | _ => none }
def grammarFuncsRow : OpenClaim := { program := "ytmgklehakmdiiaa", sum := "a00daa7b24ad87e426b5e930b6be509d1c37ab67a293fbfbc29e8c33e89c9e2d", func := "sondage/sondagelaw13.GrammarFuncs", spec := "grammarFuncs", inPlace := ["internal/bytealg.IndexByteString"], unfollowed := true, recurses := true, apart := false }
def GrammarFuncsSaid : Prop := grammarFuncsRow.holds Try.pinned (OpenSpec.ofChange grammarFuncsSpec)

/-- ITS FALSE NEIGHBOUR: 'it returns false'. Refute it at one input. -/
def grammarFuncsWrong : ChangeSpec := { name := "grammarFuncs", fn := fun _ => fun
  | [d] => { results := [.lit (.bool false)], args := [d] }
  | _ => none }
def GrammarFuncsWrongFalsely : Prop := grammarFuncsRow.holds Try.pinned (OpenSpec.ofChange grammarFuncsWrong)

/-- 'sondagelaw13.GrammarTokens': WHATEVER THE INPUT: true; the input reads as it did. -/
def grammarTokensSpec : ChangeSpec := { name := "grammarTokens", fn := fun _ => fun
  | [d1, d2] => { results := [.lit (.bool true)], args := [d1, d2] }
  | _ => none }
def grammarTokensRow : OpenClaim := { program := "ytmgklehakmdiiaa", sum := "a00daa7b24ad87e426b5e930b6be509d1c37ab67a293fbfbc29e8c33e89c9e2d", func := "sondage/sondagelaw13.GrammarTokens", spec := "grammarTokens", inPlace := ["internal/bytealg.IndexByteString"], unfollowed := true, recurses := true, apart := false }
def GrammarTokensSaid : Prop := grammarTokensRow.holds Try.pinned (OpenSpec.ofChange grammarTokensSpec)

/-- ITS FALSE NEIGHBOUR: 'it returns false'. Refute it at one input. -/
def grammarTokensWrong : ChangeSpec := { name := "grammarTokens", fn := fun _ => fun
  | [d1, d2] => { results := [.lit (.bool false)], args := [d1, d2] }
  | _ => none }
def GrammarTokensWrongFalsely : Prop := grammarTokensRow.holds Try.pinned (OpenSpec.ofChange grammarTokensWrong)

/-- 'sondagelaw13.GrammarGlobals': WHATEVER THE INPUT: true; the input reads as it did. -/
def grammarGlobalsSpec : ChangeSpec := { name := "grammarGlobals", fn := fun _ => fun
  | [d] => { results := [.lit (.bool true)], args := [d] }
  | _ => none }
def grammarGlobalsRow : OpenClaim := { program := "ytmgklehakmdiiaa", sum := "a00daa7b24ad87e426b5e930b6be509d1c37ab67a293fbfbc29e8c33e89c9e2d", func := "sondage/sondagelaw13.GrammarGlobals", spec := "grammarGlobals", inPlace := ["internal/bytealg.IndexByteString"], unfollowed := true, recurses := true, apart := false }
def GrammarGlobalsSaid : Prop := grammarGlobalsRow.holds Try.pinned (OpenSpec.ofChange grammarGlobalsSpec)

/-- ITS FALSE NEIGHBOUR: 'it returns false'. Refute it at one input. -/
def grammarGlobalsWrong : ChangeSpec := { name := "grammarGlobals", fn := fun _ => fun
  | [d] => { results := [.lit (.bool false)], args := [d] }
  | _ => none }
def GrammarGlobalsWrongFalsely : Prop := grammarGlobalsRow.holds Try.pinned (OpenSpec.ofChange grammarGlobalsWrong)

/- THE SECOND FORM. 'bulk': how many values and letters a reading holds, each counted each time it is reached (what is shared counts as often as it is met; a slice's spare places count too). A statement '..UptoSaid' is the law's where the arguments, and the package variables that the reading takes, are together of bulk at most 1048576: NARROWER than '..Said'. Prove '..Said' where nothing that the law and all that it calls make is longer than what came in: it says more and counts as full. Else prove '..UptoSaid'. A law counts once. -/
mutual
def uptoBulk {H : Type} : DataW H → Nat
  | .lit (.string bytes) => bytes.length + 1
  | .lit _ => 1
  | .nil => 1
  | .ptr d => uptoBulk d + 1
  | .slice elems spare => uptoBulkAll elems + uptoBulkAll spare + 1
  | .agg parts => uptoBulkAll parts + 1
  | .iface _ d => uptoBulk d + 1
  | .map entries => uptoBulkEntries entries + 1
  | .held _ => 1
def uptoBulkAll {H : Type} : List (DataW H) → Nat
  | [] => 0
  | d :: r => uptoBulk d + uptoBulkAll r
def uptoBulkEntries {H : Type} : List (Lit × DataW H) → Nat
  | [] => 0
  | x :: r => uptoBulkEntry x + uptoBulkEntries r
def uptoBulkEntry {H : Type} : Lit × DataW H → Nat
  | (.string bytes, d) => bytes.length + uptoBulk d + 1
  | (_, d) => uptoBulk d + 1
 end
def uptoSmall : (H : Type) → List (DataW H) → Bool := fun _ ds => decide (uptoBulkAll ds ≤ 1048576)
def OpenSpec.upto (s : _root_.Go.ChangeSpec) : _root_.Go.OpenSpec := { _root_.Go.OpenSpec.ofChange s with cond := some uptoSmall }

/-- 'sondagelaw13.GrammarFuncs', WHERE WHAT IT READS IS OF BULK AT MOST 1048576: true; the input reads as it did. -/
def grammarFuncsUptoRow : OpenClaim := { program := "ytmgklehakmdiiaa", sum := "a00daa7b24ad87e426b5e930b6be509d1c37ab67a293fbfbc29e8c33e89c9e2d", func := "sondage/sondagelaw13.GrammarFuncs", spec := "grammarFuncs", inPlace := ["internal/bytealg.IndexByteString"], unfollowed := true, recurses := true, apart := false, narrowed := true }
def GrammarFuncsUptoSaid : Prop := grammarFuncsUptoRow.holds Try.pinned (OpenSpec.upto grammarFuncsSpec)

/-- 'sondagelaw13.GrammarTokens', WHERE WHAT IT READS IS OF BULK AT MOST 1048576: true; the input reads as it did. -/
def grammarTokensUptoRow : OpenClaim := { program := "ytmgklehakmdiiaa", sum := "a00daa7b24ad87e426b5e930b6be509d1c37ab67a293fbfbc29e8c33e89c9e2d", func := "sondage/sondagelaw13.GrammarTokens", spec := "grammarTokens", inPlace := ["internal/bytealg.IndexByteString"], unfollowed := true, recurses := true, apart := false, narrowed := true }
def GrammarTokensUptoSaid : Prop := grammarTokensUptoRow.holds Try.pinned (OpenSpec.upto grammarTokensSpec)

/-- 'sondagelaw13.GrammarGlobals', WHERE WHAT IT READS IS OF BULK AT MOST 1048576: true; the input reads as it did. -/
def grammarGlobalsUptoRow : OpenClaim := { program := "ytmgklehakmdiiaa", sum := "a00daa7b24ad87e426b5e930b6be509d1c37ab67a293fbfbc29e8c33e89c9e2d", func := "sondage/sondagelaw13.GrammarGlobals", spec := "grammarGlobals", inPlace := ["internal/bytealg.IndexByteString"], unfollowed := true, recurses := true, apart := false, narrowed := true }
def GrammarGlobalsUptoSaid : Prop := grammarGlobalsUptoRow.holds Try.pinned (OpenSpec.upto grammarGlobalsSpec)

end Rows
end Go.Proofs.Ytmgklehakmdiiaa
