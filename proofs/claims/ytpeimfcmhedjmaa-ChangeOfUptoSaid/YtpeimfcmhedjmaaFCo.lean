/- ChangeOf, where what it reads is of bulk at most 1048576: the call returns true, and each argument reads behind it as it read before. -/
import Derived.Test.YtpeimfcmhedjmaaCm
import Derived.JoinedCond
namespace Go.Proofs.Ytpeimfcmhedjmaa
open Go.ChangeShapes Go.WideShapes Go.ChangeAt Go.RowKit Go.Joins
set_option linter.all false
mutual
theorem bulk_leChangeOf {H : Type} : ∀ d : DataW H, Ab.bulk d ≤ Rows.uptoBulk d
  | .lit (.string bytes) => by simp [Ab.bulk, Rows.uptoBulk]
  | .lit (.int _ _) => by simp [Ab.bulk, Rows.uptoBulk]
  | .lit (.bool _) => by simp [Ab.bulk, Rows.uptoBulk]
  | .lit l => by cases l <;> simp [Ab.bulk, Rows.uptoBulk]
  | .nil => by simp [Ab.bulk, Rows.uptoBulk]
  | .ptr d => by have := bulk_leChangeOf d; simp only [Ab.bulk, Rows.uptoBulk]; omega
  | .slice elems spare => by have h1 := bulkAll_leChangeOf elems; have h2 := bulkAll_leChangeOf spare; simp only [Ab.bulk, Rows.uptoBulk]; omega
  | .agg parts => by have := bulkAll_leChangeOf parts; simp only [Ab.bulk, Rows.uptoBulk]; omega
  | .iface t d => by have := bulk_leChangeOf d; simp only [Ab.bulk, Rows.uptoBulk]; omega
  | .map entries => by simp [Ab.bulk, Rows.uptoBulk]
  | .held h => by simp [Ab.bulk, Rows.uptoBulk]
theorem bulkAll_leChangeOf {H : Type} : ∀ l : List (DataW H), Ab.bulkAll l ≤ Rows.uptoBulkAll l
  | [] => by simp [Ab.bulkAll, Rows.uptoBulkAll]
  | d :: l => by have h1 := bulk_leChangeOf d; have h2 := bulkAll_leChangeOf l; simp only [Ab.bulkAll, Rows.uptoBulkAll]; omega
end
set_option maxRecDepth 100000 in
theorem liftedChangeOfUpto (os : Os) (started : os.Started) (H : Type) (enc : TypeId × Value → H) (Fi : Stop.Interp) :
    ReturnsInHanded {} Try.checked os 3 .any ((Rows.OpenSpec.upto Rows.changeOfSpec).pre6 enc Try.prog Try.f3 Rows.changeOfUptoRow.domain false) (((Rows.OpenSpec.upto Rows.changeOfSpec).at Fi).post enc Try.prog Try.f3 false true false false) := by
  refine returnsInHanded_of_cond (C := Try.checked) (s := Rows.OpenSpec.upto Rows.changeOfSpec) (k := Rows.uptoSmall) rfl own started (by kernel_rfl) Try.func3
    (OpenSpec.witness (enc := enc) (C := Try.checked) (s := Rows.OpenSpec.upto Rows.changeOfSpec) (k := Rows.uptoSmall) rfl false ⟨#[], #[.agg #[.slice none 0 0, .slice none 0 0], .agg #[.slice none 0 0, .slice none 0 0]], []⟩ 8 (by kernel_rfl) (by kernel_rfl) (by kernel_rfl)
      (x := ([.agg [.nil, .nil], .agg [.nil, .nil]], [], [])) (by kernel_rfl) rfl (by kernel_rfl)) ?_
  intro W base args ds gs before hval0 hW _ hk _
  have hval : ∀ (j : Nat) t v, Try.f3.params[j]? = some t → args[j]? = some v → Value.okWide Try.prog W .any base t v := hval0
  have hW' := hW
  obtain ⟨p, q, hA0, hV, rfl, hfz, hnd⟩ := hW
  have hA : DataW.TrodAll enc Try.prog W 0 (fun _ => true) true Try.f3.params.toList args.toList ds p := hA0
  obtain ⟨rfl, rfl⟩ := trodVars_none hV
  simp only [List.append_nil] at hW' hk
  have hback := args_back laidOut' (by kernel_rfl) hA (fun x hx => hW'.lt x hx)
  rw [Try.params3] at hA hval
  obtain ⟨v0, vs0, d0, ds0, p0, q0, hargs, rfl, hp0, h0, r0⟩ := trodAll_cons hA
  obtain ⟨v1, vs1, d1, ds1, p1, q1, rfl, rfl, hp1, h1, r1⟩ := trodAll_cons r0
  obtain ⟨rfl, rfl, hpn⟩ := trodAll_nil r1
  obtain rfl : args = #[v0, v1] := by cases args; simp_all
  obtain ⟨n0, x0, g0, rep0, u0⟩ := Ab.rdw_arg (t := 25) Ab.htab [3, 4, 9, 22, 23, 25, 38, 39, 41, 43, 61, 71, 73, 76] (by kernel_rfl) (by kernel_rfl) (hval 0 25 v0 rfl rfl) h0
  obtain ⟨a0, rfl, k0⟩ := Ab.goodTApiProgram g0
  obtain ⟨n1, x1, g1, rep1, u1⟩ := Ab.rdw_arg (t := 25) Ab.htab [3, 4, 9, 22, 23, 25, 38, 39, 41, 43, 61, 71, 73, 76] (by kernel_rfl) (by kernel_rfl) (hval 1 25 v1 rfl rfl) h1
  obtain ⟨a1, rfl, k1⟩ := Ab.goodTApiProgram g1
  have hb0 := of_decide_eq_true hk
  have hb1 := bulkAll_leChangeOf [d0, d1]
  simp only [Ab.bulkAll] at hb1
  clear hA0 hval0
  refine (Ab.to_calls (us := #[v0, v1]) (Ab.l18_ChangeOf_ok a0 a1 true (Ab.ChangeOf_true a0 a1 (by omega) k0 k1)) (Ab.ag_all W) (by simp only [Ab.RepsV]; exact ⟨_, _, rfl, rep0, ⟨_, _, rfl, rep1, rfl⟩⟩)).mono fun e W' ⟨he, hb⟩ => ?_
  subst he
  exact ⟨_, rfl, _, _, _, [], p, [], hW', trodAll_cons_mk (shut_bool Try.underlying4 _) trodAll_mk0, hback W' hb _ (fun x hx => by simpa using hW'.lt x hx), rfl, hb.frame _, fun h => by cases h⟩
theorem changeOfUpto_holds : Rows.ChangeOfUptoSaid :=
  OpenClaim.holds_of_cond 3 Try.f3 rfl rfl rfl rfl rfl rfl rfl ⟨rfl, rfl, rfl, rfl, rfl⟩ rfl rfl rfl rfl rfl (by kernel_rfl) Try.func3 (by kernel_rfl)
    (of_decide_eq_true (by kernel_rfl)) (by unfold Func.isWrapper; rw [if_neg (of_decide_eq_false (by kernel_rfl))]; exact ⟨rfl, rfl⟩)
    (fun os started H enc _ Fi => liftedChangeOfUpto os started H enc Fi)
#print axioms changeOfUpto_holds
end Go.Proofs.Ytpeimfcmhedjmaa
