/- WideStands: for every input the call returns true, and each argument reads behind it as it read before. -/
import Derived.Test.YtbkohmpogdameaaWl2
import Derived.Test.YtbkohmpogdameaaFr
namespace Go.Proofs.Ytbkohmpogdameaa
open Go.ChangeShapes Go.WideShapes Go.ChangeAt Go.RowKit Go.Joins
set_option linter.unusedVariables false

set_option maxRecDepth 100000 in
theorem liftedWideStands (os : Os) (started : os.Started) (H : Type) (enc : TypeId × Value → H) :
    ReturnsInHanded {} Try.checked os 4 .any (Rows.wideStandsSpec.pre6 enc Try.prog Try.f4 Rows.wideStandsRow.domain false) (Rows.wideStandsSpec.post enc Try.prog Try.f4 false true false false) := by
  refine returnsInHanded_of_change (C := Try.checked) own started (by kernel_rfl) Try.func4
    (ChangeSpec.witness6 (enc := enc) (C := Try.checked) false ⟨#[], #[.agg #[.int .i64 0, .int .u64 0], .agg #[.int .i64 0, .int .u64 0]], []⟩ 8 (by kernel_rfl) (by kernel_rfl) (by kernel_rfl) (by kernel_rfl)) ?_
  intro W base args ds gs before hval0 hW hcnd _
  have hval : ∀ (j : Nat) t v, Try.f4.params[j]? = some t → args[j]? = some v → Value.okWide Try.prog W .any base t v := hval0
  have hW' := hW
  obtain ⟨p, q, hA0, hV, rfl, hfz, hnd⟩ := hW
  have hA : DataW.TrodAll enc Try.prog W 0 (fun _ => true) true Try.f4.params.toList args.toList ds p := hA0
  obtain ⟨rfl, rfl⟩ := trodVars_none hV
  simp only [List.append_nil] at hW'
  have hback := args_back laidOut' (by kernel_rfl) hA (fun x hx => hW'.lt x hx)
  rw [Try.params4] at hA hval
  obtain ⟨v0, vs0, d0, ds0, p0, q0, hargs, rfl, hp0, h0, r0⟩ := trodAll_cons hA
  obtain ⟨v1, vs1, d1, ds1, p1, q1, rfl, rfl, hp1, h1, r1⟩ := trodAll_cons r0
  obtain ⟨rfl, rfl, hpn⟩ := trodAll_nil r1
  obtain rfl : args = #[v0, v1] := by cases args; simp_all
  obtain ⟨c0, e0, y0, z0, m0, rfl, rfl, rfl, hy0, hz0⟩ := open_agg2 Try.underlying24 (by kernel_rfl) (by kernel_rfl) (hval 0 24 v0 rfl rfl) h0
  obtain ⟨a0, ea0, rfl, wa0⟩ := DataW.trod_int Try.underlying2 hy0
  obtain ⟨b0, eb0, rfl, wb0⟩ := DataW.trod_int Try.underlying22 hz0
  simp at ea0 eb0; subst ea0 eb0
  have k0 : Ok2 a0 b0 := ⟨(i64_wf wa0).1, (i64_wf wa0).2, (u64_wf wb0).1, (u64_wf wb0).2⟩
  obtain ⟨c1, e1, y1, z1, m1, rfl, rfl, rfl, hy1, hz1⟩ := open_agg2 Try.underlying24 (by kernel_rfl) (by kernel_rfl) (hval 1 24 v1 rfl rfl) h1
  obtain ⟨a1, ea1, rfl, wa1⟩ := DataW.trod_int Try.underlying2 hy1
  obtain ⟨b1, eb1, rfl, wb1⟩ := DataW.trod_int Try.underlying22 hz1
  simp at ea1 eb1; subst ea1 eb1
  have k1 : Ok2 a1 b1 := ⟨(i64_wf wa1).1, (i64_wf wa1).2, (u64_wf wb1).1, (u64_wf wb1).2⟩
  clear hA0 hval0
  refine (stands_any a0 b0 a1 b1 W k0 k1).mono fun e W' ⟨he, hb⟩ => ?_
  subst he
  exact ⟨_, rfl, _, _, _, [], p, [], hW', trodAll_cons_mk (shut_bool Try.underlying4 _) trodAll_mk0, hback W' hb _ (fun x hx => by simpa using hW'.lt x hx), rfl, hb.frame _, fun h => by cases h⟩
theorem wideStands_holds : Rows.WideStandsSaid :=
  OpenClaim.holds_of_wide 4 Try.f4 rfl rfl rfl rfl rfl rfl rfl ⟨rfl, rfl, rfl, rfl, rfl⟩ rfl rfl rfl rfl rfl (by kernel_rfl) Try.func4 (by kernel_rfl)
    (of_decide_eq_true (by kernel_rfl)) (by unfold Func.isWrapper; rw [if_neg (of_decide_eq_false (by kernel_rfl))]; exact ⟨rfl, rfl⟩)
    (fun os started H enc _ => liftedWideStands os started H enc)
#print axioms wideStands_holds
end Go.Proofs.Ytbkohmpogdameaa
