/- The texts that webBackUpto_holds leans on, part 4. -/
import Derived.Test.YtpdekcfeecdlbaaVb3
namespace Go.Proofs.Ytpdekcfeecdlbaa
open Go.ChangeShapes Go.WideShapes Go.ChangeAt Go.RowKit Go.Joins
set_option linter.all false
mutual
theorem bulk_leWebBack {H : Type} : ∀ d : DataW H, Ab.bulk d ≤ Rows.uptoBulk d
  | .lit (.string bytes) => by simp [Ab.bulk, Rows.uptoBulk]
  | .lit (.int _ _) => by simp [Ab.bulk, Rows.uptoBulk]
  | .lit (.bool _) => by simp [Ab.bulk, Rows.uptoBulk]
  | .lit l => by cases l <;> simp [Ab.bulk, Rows.uptoBulk]
  | .nil => by simp [Ab.bulk, Rows.uptoBulk]
  | .ptr d => by have := bulk_leWebBack d; simp only [Ab.bulk, Rows.uptoBulk]; omega
  | .slice elems spare => by have h1 := bulkAll_leWebBack elems; have h2 := bulkAll_leWebBack spare; simp only [Ab.bulk, Rows.uptoBulk]; omega
  | .agg parts => by have := bulkAll_leWebBack parts; simp only [Ab.bulk, Rows.uptoBulk]; omega
  | .iface t d => by have := bulk_leWebBack d; simp only [Ab.bulk, Rows.uptoBulk]; omega
  | .map entries => by simp [Ab.bulk, Rows.uptoBulk]
  | .held h => by simp [Ab.bulk, Rows.uptoBulk]
theorem bulkAll_leWebBack {H : Type} : ∀ l : List (DataW H), Ab.bulkAll l ≤ Rows.uptoBulkAll l
  | [] => by simp [Ab.bulkAll, Rows.uptoBulkAll]
  | d :: l => by have h1 := bulk_leWebBack d; have h2 := bulkAll_leWebBack l; simp only [Ab.bulkAll, Rows.uptoBulkAll]; omega
end
set_option maxRecDepth 100000 in
theorem liftedWebBackUpto (os : Os) (started : os.Started) (H : Type) (enc : TypeId × Value → H) (Fi : Stop.Interp) :
    ReturnsInHanded {} Try.checked os 5 .any ((Rows.OpenSpec.upto Rows.webBackSpec).pre6 enc Try.prog Try.f5 Rows.webBackUptoRow.domain false) (((Rows.OpenSpec.upto Rows.webBackSpec).at Fi).post enc Try.prog Try.f5 false true false false) := by
  refine returnsInHanded_of_cond (C := Try.checked) (s := Rows.OpenSpec.upto Rows.webBackSpec) (k := Rows.uptoSmall) rfl own started (by kernel_rfl) Try.func5
    (OpenSpec.witness (enc := enc) (C := Try.checked) (s := Rows.OpenSpec.upto Rows.webBackSpec) (k := Rows.uptoSmall) rfl false ⟨#[], #[.slice none 0 0, .agg #[.string ByteArray.empty, .int .i64 0], .agg #[.string ByteArray.empty, .int .i64 0]], []⟩ 8 (by kernel_rfl) (by kernel_rfl) (by kernel_rfl)
      (x := ([.nil, .agg [.lit (.string []), .lit (.int .i64 0)], .agg [.lit (.string []), .lit (.int .i64 0)]], [], [])) (by kernel_rfl) rfl (by kernel_rfl)) ?_
  intro W base args ds gs before hval0 hW _ hk _
  have hval : ∀ (j : Nat) t v, Try.f5.params[j]? = some t → args[j]? = some v → Value.okWide Try.prog W .any base t v := hval0
  have hW' := hW
  obtain ⟨p, q, hA0, hV, rfl, hfz, hnd⟩ := hW
  have hA : DataW.TrodAll enc Try.prog W 0 (fun _ => true) true Try.f5.params.toList args.toList ds p := hA0
  obtain ⟨rfl, rfl⟩ := trodVars_none hV
  simp only [List.append_nil] at hW' hk
  have hback := args_back laidOut' (by kernel_rfl) hA (fun x hx => hW'.lt x hx)
  rw [Try.params5] at hA hval
  obtain ⟨v0, vs0, d0, ds0, p0, q0, hargs, rfl, hp0, h0, r0⟩ := trodAll_cons hA
  obtain ⟨v1, vs1, d1, ds1, p1, q1, rfl, rfl, hp1, h1, r1⟩ := trodAll_cons r0
  obtain ⟨v2, vs2, d2, ds2, p2, q2, rfl, rfl, hp2, h2, r2⟩ := trodAll_cons r1
  obtain ⟨rfl, rfl, hpn⟩ := trodAll_nil r2
  obtain rfl : args = #[v0, v1, v2] := by cases args; simp_all
  obtain ⟨n0, x0, g0, rep0, u0⟩ := Ab.rdw_arg (t := 22) Ab.htab [3, 9, 22, 34, 48] (by kernel_rfl) (by kernel_rfl) (hval 0 22 v0 rfl rfl) h0
  obtain ⟨a0, rfl, k0⟩ := Ab.goodL22 g0
  obtain ⟨n1, x1, g1, rep1, u1⟩ := Ab.rdw_arg (t := 34) Ab.htab [3, 9, 22, 34, 48] (by kernel_rfl) (by kernel_rfl) (hval 1 34 v1 rfl rfl) h1
  obtain ⟨a1, rfl, k1⟩ := Ab.goodTApiKey g1
  obtain ⟨n2, x2, g2, rep2, u2⟩ := Ab.rdw_arg (t := 34) Ab.htab [3, 9, 22, 34, 48] (by kernel_rfl) (by kernel_rfl) (hval 2 34 v2 rfl rfl) h2
  obtain ⟨a2, rfl, k2⟩ := Ab.goodTApiKey g2
  have hb0 := of_decide_eq_true hk
  have hb1 := bulkAll_leWebBack [d0, d1, d2]
  simp only [Ab.bulkAll] at hb1
  clear hA0 hval0
  refine (Ab.to_calls (us := #[v0, v1, v2]) (Ab.WebBack_U a0 a1 a2 (by omega) k0 k1 k2) (Ab.ag_all W) (by simp only [Ab.RepsV]; exact ⟨_, _, rfl, rep0, ⟨_, _, rfl, rep1, ⟨_, _, rfl, rep2, rfl⟩⟩⟩)).mono fun e W' ⟨he, hb⟩ => ?_
  subst he
  exact ⟨_, rfl, _, _, _, [], p, [], hW', trodAll_cons_mk (shut_bool Try.underlying4 _) trodAll_mk0, hback W' hb _ (fun x hx => by simpa using hW'.lt x hx), rfl, hb.frame _, fun h => by cases h⟩
theorem webBackUpto_holds : Rows.WebBackUptoSaid :=
  OpenClaim.holds_of_cond 5 Try.f5 rfl rfl rfl rfl rfl rfl rfl ⟨rfl, rfl, rfl, rfl, rfl⟩ rfl rfl rfl rfl rfl (by kernel_rfl) Try.func5 (by kernel_rfl)
    (of_decide_eq_true (by kernel_rfl)) (by unfold Func.isWrapper; rw [if_neg (of_decide_eq_false (by kernel_rfl))]; exact ⟨rfl, rfl⟩)
    (fun os started H enc _ Fi => liftedWebBackUpto os started H enc Fi)
#print axioms webBackUpto_holds
end Go.Proofs.Ytpdekcfeecdlbaa
