/- ReckonExact: for every input the call returns true, and each argument reads behind it as it read before. -/
import Derived.Test.YtebnbajjenpldaaKr
import Derived.Test.YtebnbajjenpldaaFr
import Derived.Test.YtebnbajjenpldaaFr
namespace Go.Proofs.Ytebnbajjenpldaa
open Go.ChangeShapes Go.WideShapes Go.ChangeAt Go.RowKit Go.Joins
set_option linter.all false
set_option maxRecDepth 100000 in
theorem liftedReckonExact (os : Os) (started : os.Started) (H : Type) (enc : TypeId × Value → H) :
    ReturnsInHanded {} Try.checked os 5 .any (Rows.reckonExactSpec.pre6 enc Try.prog Try.f5 Rows.reckonExactRow.domain false) (Rows.reckonExactSpec.post enc Try.prog Try.f5 false true false false) := by
  refine returnsInHanded_of_change (C := Try.checked) own started (by kernel_rfl) Try.func5
    (ChangeSpec.witness6 (enc := enc) (C := Try.checked) false ⟨#[], #[.int .i64 0, .int .i64 0, .int .i64 0], []⟩ 8 (by kernel_rfl) (by kernel_rfl) (by kernel_rfl) (by kernel_rfl)) ?_
  intro W base args ds gs before hval0 hW hcnd _
  have hval : ∀ (j : Nat) t v, Try.f5.params[j]? = some t → args[j]? = some v → Value.okWide Try.prog W .any base t v := hval0
  have hW' := hW
  obtain ⟨p, q, hA0, hV, rfl, hfz, hnd⟩ := hW
  have hA : DataW.TrodAll enc Try.prog W 0 (fun _ => true) true Try.f5.params.toList args.toList ds p := hA0
  obtain ⟨rfl, rfl⟩ := trodVars_none hV
  simp only [List.append_nil] at hW'
  have hback := args_back laidOut' (by kernel_rfl) hA (fun x hx => hW'.lt x hx)
  rw [Try.params5] at hA hval
  obtain ⟨v0, vs0, d0, ds0, p0, q0, hargs, rfl, hp0, h0, r0⟩ := trodAll_cons hA
  obtain ⟨v1, vs1, d1, ds1, p1, q1, rfl, rfl, hp1, h1, r1⟩ := trodAll_cons r0
  obtain ⟨v2, vs2, d2, ds2, p2, q2, rfl, rfl, hp2, h2, r2⟩ := trodAll_cons r1
  obtain ⟨rfl, rfl, hpn⟩ := trodAll_nil r2
  obtain rfl : args = #[v0, v1, v2] := by cases args; simp_all
  obtain ⟨n0, x0, g0, rep0⟩ := Ab.rd_arg (t := 3) Ab.htab [3] (by kernel_rfl) (by kernel_rfl) (hval 0 3 v0 rfl rfl) h0
  obtain ⟨a0, rfl, k0⟩ := Ab.good_int Ab.ti3 rfl g0
  obtain ⟨n1, x1, g1, rep1⟩ := Ab.rd_arg (t := 3) Ab.htab [3] (by kernel_rfl) (by kernel_rfl) (hval 1 3 v1 rfl rfl) h1
  obtain ⟨a1, rfl, k1⟩ := Ab.good_int Ab.ti3 rfl g1
  obtain ⟨n2, x2, g2, rep2⟩ := Ab.rd_arg (t := 3) Ab.htab [3] (by kernel_rfl) (by kernel_rfl) (hval 2 3 v2 rfl rfl) h2
  obtain ⟨a2, rfl, k2⟩ := Ab.good_int Ab.ti3 rfl g2
  clear hA0 hval0
  refine (Ab.to_calls (us := #[v0, v1, v2]) (Ab.l04_ReckonExact_ok a0 a1 a2 true (Ab.ReckonExact_true a0 a1 a2 k0 k1 k2)) (Ab.ag_all W) (by simp only [Ab.RepsV]; exact ⟨_, _, rfl, rep0, ⟨_, _, rfl, rep1, ⟨_, _, rfl, rep2, rfl⟩⟩⟩)).mono fun e W' ⟨he, hb⟩ => ?_
  subst he
  exact ⟨_, rfl, _, _, _, [], p, [], hW', trodAll_cons_mk (shut_bool Try.underlying4 _) trodAll_mk0, hback W' hb _ (fun x hx => by simpa using hW'.lt x hx), rfl, hb.frame _, fun h => by cases h⟩
theorem reckonExact_holds : Rows.ReckonExactSaid :=
  OpenClaim.holds_of_wide 5 Try.f5 rfl rfl rfl rfl rfl rfl rfl ⟨rfl, rfl, rfl, rfl, rfl⟩ rfl rfl rfl rfl rfl (by kernel_rfl) Try.func5 (by kernel_rfl)
    (of_decide_eq_true (by kernel_rfl)) (by unfold Func.isWrapper; rw [if_neg (of_decide_eq_false (by kernel_rfl))]; exact ⟨rfl, rfl⟩)
    (fun os started H enc _ => liftedReckonExact os started H enc)
#print axioms reckonExact_holds
end Go.Proofs.Ytebnbajjenpldaa
