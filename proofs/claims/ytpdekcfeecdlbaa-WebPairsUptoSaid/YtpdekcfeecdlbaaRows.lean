/-
  No cell of these rows narrows 'for every input' (looked for: loops, veiled, ifaces, maps, wideKeys, modest, calm, conditions, laid).
  DERIVED. THE GIVEN ROWS OF THIS SEAT. 4 by the template 'for every input the law returns true; each argument reads behind the call as it read before'; 0 by the template 'total and deterministic' (their statements: YtpdekcfeecdlbaaTotals.lean).
  GIVEN WITH THE SEED: the statements are not yours to turn. If you find one false, say at which input.
  Laid BY PROGRAM, IN A SANDBOX (cutbox-rows.mjs): the forced cells as the released guide's own fill.sh prints them over the translation e4827d43f8407a1f… (all of the seat's roots in one cut). By AI agents, Wed Nov 11 2026. No macro, syntax, notation, axiom, sorry.
-/
import Derived.Test.YtpdekcfeecdlbaaChecked
import GoSem.Claim
import GoSem.ClaimJoined
import GoSem.ClaimMapViews
import Derived.JoinedTies
import Derived.KernelRfl
namespace Go.Proofs.Ytpdekcfeecdlbaa
/- THE CELL 'sum', in the pinned program and in every row, IS THE sha256 OF THE DUMP (.gsa) THAT YtpdekcfeecdlbaaProg.lean LOADS. Nothing in Lean hashes anything: it is a label: what it is worth is what the hold of that sum in a sandbox is worth. -/
noncomputable def Try.pinned : Pinned := { name := "ytpdekcfeecdlbaa", sum := "e4827d43f8407a1f873e405a477d683ce79f0f21d30becd9da09f147e27a1e16", checked := Try.checked }
namespace Rows
def none {H : Type} : Left H := { results := [], args := [] }

/-- 'sondagelaw29.WebAll': WHATEVER THE INPUT: true; the input reads as it did. -/
def webAllSpec : ChangeSpec := { name := "webAll", fn := fun _ => fun
  | [d1, d2] => { results := [.lit (.bool true)], args := [d1, d2] }
  | _ => none }
def webAllRow : OpenClaim := { program := "ytpdekcfeecdlbaa", sum := "e4827d43f8407a1f873e405a477d683ce79f0f21d30becd9da09f147e27a1e16", func := "sondage/sondagelaw29.WebAll", spec := "webAll", inPlace := ["internal/bytealg.abigen_runtime_cmpstring", "slices.overlaps[sondage/api.Key]"], unfollowed := true, recurses := true, plainKeys := false, apart := false }
def WebAllSaid : Prop := webAllRow.holds Try.pinned (OpenSpec.ofChange webAllSpec)

/-- ITS FALSE NEIGHBOUR: 'it returns false'. Refute it at one input. -/
def webAllWrong : ChangeSpec := { name := "webAll", fn := fun _ => fun
  | [d1, d2] => { results := [.lit (.bool false)], args := [d1, d2] }
  | _ => none }
def WebAllWrongFalsely : Prop := webAllRow.holds Try.pinned (OpenSpec.ofChange webAllWrong)

/-- 'sondagelaw29.WebPairs': WHATEVER THE INPUT: true; the input reads as it did. -/
def webPairsSpec : ChangeSpec := { name := "webPairs", fn := fun _ => fun
  | [d1, d2] => { results := [.lit (.bool true)], args := [d1, d2] }
  | _ => none }
def webPairsRow : OpenClaim := { program := "ytpdekcfeecdlbaa", sum := "e4827d43f8407a1f873e405a477d683ce79f0f21d30becd9da09f147e27a1e16", func := "sondage/sondagelaw29.WebPairs", spec := "webPairs", inPlace := ["internal/bytealg.abigen_runtime_cmpstring", "slices.overlaps[sondage/api.Key]"], unfollowed := true, recurses := true, plainKeys := false, apart := false }
def WebPairsSaid : Prop := webPairsRow.holds Try.pinned (OpenSpec.ofChange webPairsSpec)

/-- ITS FALSE NEIGHBOUR: 'it returns false'. Refute it at one input. -/
def webPairsWrong : ChangeSpec := { name := "webPairs", fn := fun _ => fun
  | [d1, d2] => { results := [.lit (.bool false)], args := [d1, d2] }
  | _ => none }
def WebPairsWrongFalsely : Prop := webPairsRow.holds Try.pinned (OpenSpec.ofChange webPairsWrong)

/-- 'sondagelaw29.WebBack': WHATEVER THE INPUT: true; the input reads as it did. -/
def webBackSpec : ChangeSpec := { name := "webBack", fn := fun _ => fun
  | [d1, d2, d3] => { results := [.lit (.bool true)], args := [d1, d2, d3] }
  | _ => none }
def webBackRow : OpenClaim := { program := "ytpdekcfeecdlbaa", sum := "e4827d43f8407a1f873e405a477d683ce79f0f21d30becd9da09f147e27a1e16", func := "sondage/sondagelaw29.WebBack", spec := "webBack", inPlace := ["internal/bytealg.abigen_runtime_cmpstring", "slices.overlaps[sondage/api.Key]"], unfollowed := true, recurses := true, plainKeys := false, apart := false }
def WebBackSaid : Prop := webBackRow.holds Try.pinned (OpenSpec.ofChange webBackSpec)

/-- ITS FALSE NEIGHBOUR: 'it returns false'. Refute it at one input. -/
def webBackWrong : ChangeSpec := { name := "webBack", fn := fun _ => fun
  | [d1, d2, d3] => { results := [.lit (.bool false)], args := [d1, d2, d3] }
  | _ => none }
def WebBackWrongFalsely : Prop := webBackRow.holds Try.pinned (OpenSpec.ofChange webBackWrong)

/-- 'sondagelaw29.WebNone': WHATEVER THE INPUT: true; the input reads as it did. -/
def webNoneSpec : ChangeSpec := { name := "webNone", fn := fun _ => fun
  | [d1, d2, d3] => { results := [.lit (.bool true)], args := [d1, d2, d3] }
  | _ => none }
def webNoneRow : OpenClaim := { program := "ytpdekcfeecdlbaa", sum := "e4827d43f8407a1f873e405a477d683ce79f0f21d30becd9da09f147e27a1e16", func := "sondage/sondagelaw29.WebNone", spec := "webNone", inPlace := ["internal/bytealg.abigen_runtime_cmpstring", "slices.overlaps[sondage/api.Key]"], unfollowed := true, recurses := true, plainKeys := false, apart := false }
def WebNoneSaid : Prop := webNoneRow.holds Try.pinned (OpenSpec.ofChange webNoneSpec)

/-- ITS FALSE NEIGHBOUR: 'it returns false'. Refute it at one input. -/
def webNoneWrong : ChangeSpec := { name := "webNone", fn := fun _ => fun
  | [d1, d2, d3] => { results := [.lit (.bool false)], args := [d1, d2, d3] }
  | _ => none }
def WebNoneWrongFalsely : Prop := webNoneRow.holds Try.pinned (OpenSpec.ofChange webNoneWrong)

/- THE SECOND FORM. 'bulk': how many values and letters a reading holds, each counted each time it is reached (what is shared counts as often as it is met; a slice's spare places count too). A statement '..UptoSaid' is the law's where the arguments, and the package variables that the reading takes, are together of bulk at most 1048576: NARROWER than '..Said'. Prove '..Said' where nothing that the law and all that it calls make is longer than what came in: it says more and counts as full. Else prove '..UptoSaid'. A law counts once. -/
mutual
def uptoBulk {H : Type} : DataW H → Nat
  | .lit (.string bytes) => bytes.length + 1
  | .lit _ => 1
  | .nil => 1
  | .ptr d => uptoBulk d + 1
  | .slice elems spare => uptoBulkAll elems + uptoBulkAll spare + 1
  | .agg parts => uptoBulkAll parts + 1
  | .iface _ d => uptoBulk d + 1
  | .map entries => uptoBulkEntries entries + 1
  | .held _ => 1
def uptoBulkAll {H : Type} : List (DataW H) → Nat
  | [] => 0
  | d :: r => uptoBulk d + uptoBulkAll r
def uptoBulkEntries {H : Type} : List (Lit × DataW H) → Nat
  | [] => 0
  | x :: r => uptoBulkEntry x + uptoBulkEntries r
def uptoBulkEntry {H : Type} : Lit × DataW H → Nat
  | (.string bytes, d) => bytes.length + uptoBulk d + 1
  | (_, d) => uptoBulk d + 1
 end
def uptoSmall : (H : Type) → List (DataW H) → Bool := fun _ ds => decide (uptoBulkAll ds ≤ 1048576)
def OpenSpec.upto (s : _root_.Go.ChangeSpec) : _root_.Go.OpenSpec := { _root_.Go.OpenSpec.ofChange s with cond := some uptoSmall }

/-- 'sondagelaw29.WebAll', WHERE WHAT IT READS IS OF BULK AT MOST 1048576: true; the input reads as it did. -/
def webAllUptoRow : OpenClaim := { program := "ytpdekcfeecdlbaa", sum := "e4827d43f8407a1f873e405a477d683ce79f0f21d30becd9da09f147e27a1e16", func := "sondage/sondagelaw29.WebAll", spec := "webAll", inPlace := ["internal/bytealg.abigen_runtime_cmpstring", "slices.overlaps[sondage/api.Key]"], unfollowed := true, recurses := true, plainKeys := false, apart := false, narrowed := true }
def WebAllUptoSaid : Prop := webAllUptoRow.holds Try.pinned (OpenSpec.upto webAllSpec)

/-- 'sondagelaw29.WebPairs', WHERE WHAT IT READS IS OF BULK AT MOST 1048576: true; the input reads as it did. -/
def webPairsUptoRow : OpenClaim := { program := "ytpdekcfeecdlbaa", sum := "e4827d43f8407a1f873e405a477d683ce79f0f21d30becd9da09f147e27a1e16", func := "sondage/sondagelaw29.WebPairs", spec := "webPairs", inPlace := ["internal/bytealg.abigen_runtime_cmpstring", "slices.overlaps[sondage/api.Key]"], unfollowed := true, recurses := true, plainKeys := false, apart := false, narrowed := true }
def WebPairsUptoSaid : Prop := webPairsUptoRow.holds Try.pinned (OpenSpec.upto webPairsSpec)

/-- 'sondagelaw29.WebBack', WHERE WHAT IT READS IS OF BULK AT MOST 1048576: true; the input reads as it did. -/
def webBackUptoRow : OpenClaim := { program := "ytpdekcfeecdlbaa", sum := "e4827d43f8407a1f873e405a477d683ce79f0f21d30becd9da09f147e27a1e16", func := "sondage/sondagelaw29.WebBack", spec := "webBack", inPlace := ["internal/bytealg.abigen_runtime_cmpstring", "slices.overlaps[sondage/api.Key]"], unfollowed := true, recurses := true, plainKeys := false, apart := false, narrowed := true }
def WebBackUptoSaid : Prop := webBackUptoRow.holds Try.pinned (OpenSpec.upto webBackSpec)

/-- 'sondagelaw29.WebNone', WHERE WHAT IT READS IS OF BULK AT MOST 1048576: true; the input reads as it did. -/
def webNoneUptoRow : OpenClaim := { program := "ytpdekcfeecdlbaa", sum := "e4827d43f8407a1f873e405a477d683ce79f0f21d30becd9da09f147e27a1e16", func := "sondage/sondagelaw29.WebNone", spec := "webNone", inPlace := ["internal/bytealg.abigen_runtime_cmpstring", "slices.overlaps[sondage/api.Key]"], unfollowed := true, recurses := true, plainKeys := false, apart := false, narrowed := true }
def WebNoneUptoSaid : Prop := webNoneUptoRow.holds Try.pinned (OpenSpec.upto webNoneSpec)

end Rows
end Go.Proofs.Ytpdekcfeecdlbaa
