/- Layer 2: what fits. -/
import Derived.Test.YtdjkmphkahileaaWq
namespace Go.Proofs.Ytdjkmphkahileaa.Ab
open Go Go.RowKit Go.Shelf Go.Proofs.Ytdjkmphkahileaa
theorem rep_tupW {H : Hp} (n : Int) (b : Bool) : Rep H (.tup [.agg [.v (.int .i64 (hiW (n))), .v (.int .u64 (loW (n)))], .v (.bool b)]) (.tuple #[.agg #[.int .i64 (hiW (n)), .int .u64 (loW (n))], .bool b]) := by
  refine ⟨?_, rfl⟩
  simp only [Value.cells, RepC]
  refine ⟨[.agg #[.int .i64 (hiW (n)), .int .u64 (loW (n))], .bool b], rfl, ?_⟩
  simp only [RepsV]
  exact ⟨_, _, rfl, rep_W n, _, [], rfl, rep_v rfl, rfl⟩
def exI (op a b : Int) : Option Int := if op = 10 then some (a + b) else if op = 11 then some (a - b) else if op = 7 then some (a * b) else none
theorem wz : hiW 0 = 0 ∧ loW 0 = 0 := by unfold hiW loW; rw [wrap64_def]; omega
theorem wexactE (op a b : Int) (ka : I64 a) (kb : I64 b) : CallsD Try.prog 15 [.v (.int .i64 (op)), .v (.int .i64 (a)), .v (.int .i64 (b))] [] [] (fun d h k => d = .tup [.agg [.v (.int .i64 (hiW ((exI op a b).getD 0))), .v (.int .u64 (loW ((exI op a b).getD 0)))], .v (.bool (exI op a b).isSome)] ∧ h = [] ∧ k = []) := by
  refine of_calls (us := #[.int .i64 op, .int .i64 a, .int .i64 b]) (v := .tuple #[.agg #[.int .i64 (hiW ((exI op a b).getD 0)), .int .u64 (loW ((exI op a b).getD 0))], .bool (exI op a b).isSome]) ⟨_, Try.func15, rfl, rfl⟩ rfl (fun _ => rep_tupW _ _) (fun w => ?_)
  unfold exI
  by_cases h1 : op = 10
  · subst h1; exact wexact_add a b w ka kb
  by_cases h2 : op = 11
  · subst h2; exact wexact_sub a b w ka kb
  by_cases h3 : op = 7
  · subst h3; exact wexact_mul a b w ka kb
  simp only [h1, h2, h3, if_false, Option.getD_none, Option.isSome_none, wz.1, wz.2]
  exact wexact_no op a b w (by simp [*]) (by simp [*]) (by simp [*])
theorem rexactE (op a b : Int) (ka : I64 a) (kb : I64 b) : CallsD Try.prog 16 [.v (.int .i64 (op)), .v (.int .i64 (a)), .v (.int .i64 (b))] [] [] (fun d h k => d = .tup [.agg [.v (.int .i64 (hiW ((exI op a b).getD 0))), .v (.int .u64 (loW ((exI op a b).getD 0)))], .v (.bool (exI op a b).isSome)] ∧ h = [] ∧ k = []) := by
  refine of_calls (us := #[.int .i64 op, .int .i64 a, .int .i64 b]) (v := .tuple #[.agg #[.int .i64 (hiW ((exI op a b).getD 0)), .int .u64 (loW ((exI op a b).getD 0))], .bool (exI op a b).isSome]) ⟨_, Try.func16, rfl, rfl⟩ rfl (fun _ => rep_tupW _ _) (fun w => ?_)
  unfold exI
  by_cases h1 : op = 10
  · subst h1; exact rexact_add a b w ka kb
  by_cases h2 : op = 11
  · subst h2; exact rexact_sub a b w ka kb
  by_cases h3 : op = 7
  · subst h3; exact rexact_mul a b w ka kb
  simp only [h1, h2, h3, if_false, Option.getD_none, Option.isSome_none, wz.1, wz.2]
  exact rexact_no op a b w (by simp [*]) (by simp [*]) (by simp [*])
def Big (n : Int) : Prop := -170141183460469231731687303715884105728 ≤ n ∧ n < 170141183460469231731687303715884105728
def fit (n : Int) : Bool := decide (-9223372036854775808 ≤ n) && decide (n < 9223372036854775808)
theorem fit_iff (n : Int) : fit n = true ↔ I64 n := by simp [fit, I64]
def toI (n : Int) : Int := if fit n = true then n else 0
theorem rintE (n : Int) (kn : Big n) : CallsD Try.prog 17 [.agg [.v (.int .i64 (hiW (n))), .v (.int .u64 (loW (n)))]] [] [] (fun d h k => d = .tup [.v (.int .i64 (toI n)), .v (.bool (fit n))] ∧ h = [] ∧ k = []) := by
  refine of_calls (us := #[.agg #[.int .i64 (hiW (n)), .int .u64 (loW (n))]]) (v := .tuple #[.int .i64 (toI n), .bool (fit n)]) ⟨_, Try.func17, rfl, rfl⟩ rfl (fun _ => rep_tup2 rfl rfl) (fun w => ?_)
  have e := V_W_id kn.1 kn.2
  unfold toI
  by_cases h : fit n = true
  · have := rint_yes (hiW n) (loW n) w (ok2 n) (by rw [e]; exact (fit_iff n).1 h)
    rw [e] at this
    rw [if_pos h, h]; exact this
  · have := rint_no (hiW n) (loW n) w (ok2 n) (by rw [e]; exact fun x => h ((fit_iff n).2 x))
    rw [if_neg h, Bool.eq_false_iff.2 h]; exact this
theorem wintE (n : Int) (kn : Big n) : CallsD Try.prog 36 [.agg [.v (.int .i64 (hiW (n))), .v (.int .u64 (loW (n)))]] [] [] (fun d h k => d = .tup [.v (.int .i64 (toI n)), .v (.bool (fit n))] ∧ h = [] ∧ k = []) := by
  refine of_calls (us := #[.agg #[.int .i64 (hiW (n)), .int .u64 (loW (n))]]) (v := .tuple #[.int .i64 (toI n), .bool (fit n)]) ⟨_, Try.func36, rfl, rfl⟩ rfl (fun _ => rep_tup2 rfl rfl) (fun w => ?_)
  have e := V_W_id kn.1 kn.2
  unfold toI
  by_cases h : fit n = true
  · have := wint_yes (hiW n) (loW n) w (ok2 n) (by rw [e]; exact (fit_iff n).1 h)
    rw [e] at this
    rw [if_pos h, h]; exact this
  · have := wint_no (hiW n) (loW n) w (ok2 n) (by rw [e]; exact fun x => h ((fit_iff n).2 x))
    rw [if_neg h, Bool.eq_false_iff.2 h]; exact this
theorem fitsE (op a b n : Int) (is : Bool) (ka : I64 a) (kb : I64 b) (kn : Big n) (h1 : (exI op a b).getD 0 = n) (h2 : (exI op a b).isSome = is) : CallsD Try.prog 18 [.v (.int .i64 (op)), .v (.int .i64 (a)), .v (.int .i64 (b))] [] [] (fun d h k => d = .v (.bool (is && fit n)) ∧ h = [] ∧ k = []) := by
  have hx := wexactE op a b ka kb
  rw [h1, h2] at hx
  refine enter htab Try.func18 rfl rfl rfl rfl rfl (fun C => ?_)
  refine wpD_seq ?_
  refine wpD_region ?_
  refine p_pure htab rfl rfl rfl rfl ?_
  refine ops_nil ?_
  refine then_normal ?_
  refine wpD_seq ?_
  refine wpD_region ?_
  refine p_pure htab rfl rfl rfl rfl ?_
  refine p_pure htab rfl rfl rfl rfl ?_
  refine p_pure htab rfl rfl rfl rfl ?_
  refine p_call0 (hx) rfl rfl rfl rfl rfl (WkL.refl _) ?_
  rintro _ rfl
  refine p_pure htab rfl rfl rfl rfl ?_
  refine p_pure htab rfl rfl rfl rfl ?_
  refine p_pure htab rfl rfl rfl rfl ?_
  refine p_alloc htab rfl rfl rfl rfl rfl rfl rfl (fun b1 => ?_)
  refine p_store 0 htab rfl rfl rfl rfl rfl rfl rfl rfl rfl rfl rfl rfl ?_
  refine p_pure htab rfl rfl rfl rfl ?_
  refine ops_nil ?_
  refine then_normal ?_
  refine wpD_seq ?_
  refine wpD_seq ?_
  refine wpD_region ?_
  refine p_pure htab rfl rfl rfl rfl ?_
  refine p_pure htab rfl rfl rfl rfl ?_
  refine ops_nil ?_
  refine then_normal ?_
  refine wpD_cond rfl (fun hc2 => ?_) (fun hc2 => ?_)
  · skip
    refine wpD_seq ?_
    refine wpD_region ?_
    refine p_pure htab rfl rfl rfl rfl ?_
    refine ops_nil ?_
    refine then_normal ?_
    refine wpD_ret ?_
    refine then_ret ?_
    refine ret1 (.inl rfl) rfl ?_
    first | rfl | (simp_all [ofVal]; done)
  · skip
    refine wpD_skip ?_
    refine then_normal ?_
    refine wpD_seq ?_
    refine wpD_region ?_
    refine p_load 0 htab rfl rfl rfl rfl rfl rfl rfl rfl ?_
    refine p_call0 (wintE n kn) rfl rfl rfl rfl rfl (WkL.refl _) ?_
    rintro _ rfl
    refine p_pure htab rfl rfl rfl rfl ?_
    refine p_pure htab rfl rfl rfl rfl ?_
    refine p_pure htab rfl rfl rfl rfl ?_
    refine p_pure htab rfl rfl rfl rfl ?_
    refine p_pure htab rfl rfl rfl rfl ?_
    refine ops_nil ?_
    refine then_normal ?_
    refine wpD_seq ?_
    refine wpD_region ?_
    refine p_pure htab rfl rfl rfl rfl ?_
    refine p_pure htab rfl rfl rfl rfl ?_
    refine ops_nil ?_
    refine then_normal ?_
    refine wpD_ret ?_
    refine ret1 (.inl rfl) rfl ?_
    first | rfl | (simp_all [ofVal]; done)
theorem law_fits (op a b n m e : Int) (is : Bool) (ka : I64 a) (kb : I64 b) (kn : Big n) (h1 : (exI op a b).getD 0 = n) (h2 : (exI op a b).isSome = is) (h3 : doI op a b = (m, e)) (h4 : is = true → fit n = true → e = 0 ∧ m = toI n) :
    CallsD Try.prog 6 [.v (.int .i64 (op)), .v (.int .i64 (a)), .v (.int .i64 (b))] [] [] (fun d h k => d = .v (.bool true) ∧ h = [] ∧ k = []) := by
  have hx := wexactE op a b ka kb
  have hy := rexactE op a b ka kb
  rw [h1, h2] at hx hy
  refine enter htab Try.func6 rfl rfl rfl rfl rfl (fun C => ?_)
  refine wpD_seq ?_
  refine wpD_region ?_
  refine p_pure htab rfl rfl rfl rfl ?_
  refine ops_nil ?_
  refine then_normal ?_
  refine wpD_seq ?_
  refine wpD_region ?_
  refine p_pure htab rfl rfl rfl rfl ?_
  refine p_pure htab rfl rfl rfl rfl ?_
  refine p_pure htab rfl rfl rfl rfl ?_
  refine p_call0 (hx) rfl rfl rfl rfl rfl (WkL.refl _) ?_
  rintro _ rfl
  refine p_pure htab rfl rfl rfl rfl ?_
  refine p_pure htab rfl rfl rfl rfl ?_
  refine p_pure htab rfl rfl rfl rfl ?_
  refine p_alloc htab rfl rfl rfl rfl rfl rfl rfl (fun b1 => ?_)
  refine p_store 0 htab rfl rfl rfl rfl rfl rfl rfl rfl rfl rfl rfl rfl ?_
  refine p_pure htab rfl rfl rfl rfl ?_
  refine ops_nil ?_
  refine then_normal ?_
  refine wpD_seq ?_
  refine wpD_region ?_
  refine p_pure htab rfl rfl rfl rfl ?_
  refine p_pure htab rfl rfl rfl rfl ?_
  refine p_pure htab rfl rfl rfl rfl ?_
  refine p_call0 (hy) rfl rfl rfl rfl rfl (WkL.refl _) ?_
  rintro _ rfl
  refine p_pure htab rfl rfl rfl rfl ?_
  refine p_pure htab rfl rfl rfl rfl ?_
  refine p_pure htab rfl rfl rfl rfl ?_
  refine p_alloc htab rfl rfl rfl rfl rfl rfl rfl (fun b2 => ?_)
  refine p_store 1 htab rfl rfl rfl rfl rfl rfl rfl rfl rfl rfl rfl rfl ?_
  refine p_pure htab rfl rfl rfl rfl ?_
  refine ops_nil ?_
  refine then_normal ?_
  refine wpD_seq ?_
  refine wpD_region ?_
  refine p_load 1 htab rfl rfl rfl rfl rfl rfl rfl rfl ?_
  refine p_call0 (rintE n kn) rfl rfl rfl rfl rfl (WkL.refl _) ?_
  rintro _ rfl
  refine p_pure htab rfl rfl rfl rfl ?_
  refine p_pure htab rfl rfl rfl rfl ?_
  refine p_pure htab rfl rfl rfl rfl ?_
  refine p_pure htab rfl rfl rfl rfl ?_
  refine p_pure htab rfl rfl rfl rfl ?_
  refine ops_nil ?_
  refine then_normal ?_
  refine wpD_seq ?_
  refine wpD_seq ?_
  refine wpD_region ?_
  refine p_load 0 htab rfl rfl rfl rfl rfl rfl rfl rfl ?_
  refine p_load 1 htab rfl rfl rfl rfl rfl rfl rfl rfl ?_
  refine p_eqS htab rfl rfl rfl rfl rfl eqt31 rfl rfl rfl rfl rfl ?_
  refine p_pure htab rfl rfl rfl rfl ?_
  refine p_split (i := 37) rfl (fun hg3 => ?_) (fun hg3 => ?_)
  · skip
    refine p_skip rfl rfl rfl ?_
    refine p_skip rfl rfl rfl ?_
    refine p_skip rfl rfl rfl ?_
    refine p_pickT rfl rfl rfl rfl rfl rfl ?_
    refine p_pure htab rfl rfl rfl rfl ?_
    refine p_skip rfl rfl rfl ?_
    refine p_skip rfl rfl rfl ?_
    refine p_skip rfl rfl rfl ?_
    refine p_skip rfl rfl rfl ?_
    refine p_skip rfl rfl rfl ?_
    refine p_skip rfl rfl rfl ?_
    refine p_skip rfl rfl rfl ?_
    refine p_skip rfl rfl rfl ?_
    refine p_skip rfl rfl rfl ?_
    refine p_pickT rfl rfl rfl rfl rfl rfl ?_
    refine ops_nil ?_
    refine then_normal ?_
    refine wpD_true rfl ?_
    refine wpD_seq ?_
    refine wpD_region ?_
    refine p_pure htab rfl rfl rfl rfl ?_
    refine ops_nil ?_
    refine then_normal ?_
    refine wpD_ret ?_
    refine then_ret ?_
    refine ret1 (.inl rfl) rfl ?_
    first | rfl | (exfalso; simp_all; done) | (exfalso; simp_all; omega)
  · skip
    refine p_pure htab rfl rfl rfl rfl ?_
    refine p_pure htab rfl rfl rfl rfl ?_
    refine p_pure htab rfl rfl rfl rfl ?_
    refine p_pickF rfl rfl rfl rfl rfl rfl ?_
    refine p_pure htab rfl rfl rfl rfl ?_
    refine p_split (i := 42) rfl (fun hg4 => ?_) (fun hg4 => ?_)
    · skip
      refine p_skip rfl rfl rfl ?_
      refine p_skip rfl rfl rfl ?_
      refine p_skip rfl rfl rfl ?_
      refine p_skip rfl rfl rfl ?_
      refine p_skip rfl rfl rfl ?_
      refine p_skip rfl rfl rfl ?_
      refine p_skip rfl rfl rfl ?_
      refine p_skip rfl rfl rfl ?_
      refine p_skip rfl rfl rfl ?_
      refine p_pickT rfl rfl rfl rfl rfl rfl ?_
      refine ops_nil ?_
      refine then_normal ?_
      refine wpD_true rfl ?_
      refine wpD_seq ?_
      refine wpD_region ?_
      refine p_pure htab rfl rfl rfl rfl ?_
      refine ops_nil ?_
      refine then_normal ?_
      refine wpD_ret ?_
      refine then_ret ?_
      refine ret1 (.inl rfl) rfl ?_
      first | rfl | (exfalso; simp_all; done) | (exfalso; simp_all; omega)
    · skip
      refine p_pure htab rfl rfl rfl rfl ?_
      refine p_pure htab rfl rfl rfl rfl ?_
      refine p_pure htab rfl rfl rfl rfl ?_
      refine p_call0 (fitsE op a b n is ka kb kn h1 h2) rfl rfl rfl rfl rfl (WkL.refl _) ?_
      rintro _ rfl
      refine p_pure htab rfl rfl rfl rfl ?_
      refine p_pure htab rfl rfl rfl rfl ?_
      refine p_split (i := 48) rfl (fun hg5 => ?_) (fun hg5 => ?_)
      · skip
        refine p_pure htab rfl rfl rfl rfl ?_
        refine p_pickT rfl rfl rfl rfl rfl rfl ?_
        refine p_pure htab rfl rfl rfl rfl ?_
        refine p_pickF rfl rfl rfl rfl rfl rfl ?_
        refine ops_nil ?_
        refine then_normal ?_
        refine wpD_cond rfl (fun hc6 => ?_) (fun hc6 => ?_)
        · skip
          refine wpD_seq ?_
          refine wpD_region ?_
          refine p_pure htab rfl rfl rfl rfl ?_
          refine ops_nil ?_
          refine then_normal ?_
          refine wpD_ret ?_
          refine then_ret ?_
          refine ret1 (.inl rfl) rfl ?_
          first | rfl | (exfalso; simp_all; done) | (exfalso; simp_all; omega)
        · skip
          refine wpD_skip ?_
          refine then_normal ?_
          refine wpD_seq ?_
          refine wpD_region ?_
          refine p_pure htab rfl rfl rfl rfl ?_
          refine p_pure htab rfl rfl rfl rfl ?_
          refine p_pure htab rfl rfl rfl rfl ?_
          refine p_call0 (wdoE op a b m e ka kb h3) rfl rfl rfl rfl rfl (WkL.refl _) ?_
          rintro _ rfl
          refine p_pure htab rfl rfl rfl rfl ?_
          refine p_pure htab rfl rfl rfl rfl ?_
          refine p_pure htab rfl rfl rfl rfl ?_
          refine p_pure htab rfl rfl rfl rfl ?_
          refine p_pure htab rfl rfl rfl rfl ?_
          refine ops_nil ?_
          refine then_normal ?_
          refine wpD_seq ?_
          refine wpD_region ?_
          refine p_pure htab rfl rfl rfl rfl ?_
          refine p_pure htab rfl rfl rfl rfl ?_
          refine p_pure htab rfl rfl rfl rfl ?_
          refine p_split (i := 62) rfl (fun hg7 => ?_) (fun hg7 => ?_)
          · skip
            refine p_skip rfl rfl rfl ?_
            refine p_skip rfl rfl rfl ?_
            refine p_pickT rfl rfl rfl rfl rfl rfl ?_
            refine p_pure htab rfl rfl rfl rfl ?_
            refine p_skip rfl rfl rfl ?_
            refine p_skip rfl rfl rfl ?_
            refine p_skip rfl rfl rfl ?_
            refine p_skip rfl rfl rfl ?_
            refine p_skip rfl rfl rfl ?_
            refine p_skip rfl rfl rfl ?_
            refine p_skip rfl rfl rfl ?_
            refine p_pickT rfl rfl rfl rfl rfl rfl ?_
            refine p_pure htab rfl rfl rfl rfl ?_
            refine p_call0 (livesE) rfl rfl rfl rfl rfl (WkL.refl _) ?_
            rintro _ rfl
            refine p_pickT rfl rfl rfl rfl rfl rfl ?_
            refine p_pure htab rfl rfl rfl rfl ?_
            refine ops_nil ?_
            refine then_normal ?_
            refine wpD_ret ?_
            refine ret1 (.inl rfl) rfl ?_
            first | rfl | (exfalso; simp_all; done) | (exfalso; simp_all; omega)
          · skip
            refine p_pure htab rfl rfl rfl rfl ?_
            refine p_pure htab rfl rfl rfl rfl ?_
            refine p_pickF rfl rfl rfl rfl rfl rfl ?_
            refine p_pure htab rfl rfl rfl rfl ?_
            refine p_split (i := 66) rfl (fun hg8 => ?_) (fun hg8 => ?_)
            · skip
              refine p_skip rfl rfl rfl ?_
              refine p_skip rfl rfl rfl ?_
              refine p_skip rfl rfl rfl ?_
              refine p_skip rfl rfl rfl ?_
              refine p_skip rfl rfl rfl ?_
              refine p_skip rfl rfl rfl ?_
              refine p_skip rfl rfl rfl ?_
              refine p_pickT rfl rfl rfl rfl rfl rfl ?_
              refine p_pure htab rfl rfl rfl rfl ?_
              refine p_call0 (livesE) rfl rfl rfl rfl rfl (WkL.refl _) ?_
              rintro _ rfl
              refine p_pickT rfl rfl rfl rfl rfl rfl ?_
              refine p_pure htab rfl rfl rfl rfl ?_
              refine ops_nil ?_
              refine then_normal ?_
              refine wpD_ret ?_
              refine ret1 (.inl rfl) rfl ?_
              first | rfl | (exfalso; simp_all; done) | (exfalso; simp_all; omega)
            · skip
              refine p_pure htab rfl rfl rfl rfl ?_
              refine p_pure htab rfl rfl rfl rfl ?_
              refine p_pure htab rfl rfl rfl rfl ?_
              refine p_split (i := 69) rfl (fun hg9 => ?_) (fun hg9 => ?_)
              · skip
                refine p_pure htab rfl rfl rfl rfl ?_
                refine p_pure htab rfl rfl rfl rfl ?_
                refine p_pure htab rfl rfl rfl rfl ?_
                refine p_pickT rfl rfl rfl rfl rfl rfl ?_
                refine p_pickF rfl rfl rfl rfl rfl rfl ?_
                refine p_pure htab rfl rfl rfl rfl ?_
                refine p_split (i := 75) rfl (fun hg10 => ?_) (fun hg10 => ?_)
                · skip
                  refine p_call0 (livesE) rfl rfl rfl rfl rfl (WkL.refl _) ?_
                  rintro _ rfl
                  refine p_pickT rfl rfl rfl rfl rfl rfl ?_
                  refine p_pure htab rfl rfl rfl rfl ?_
                  refine ops_nil ?_
                  refine then_normal ?_
                  refine wpD_ret ?_
                  refine ret1 (.inl rfl) rfl ?_
                  first | rfl | (exfalso; simp_all; done) | (exfalso; simp_all; omega)
                · skip
                  refine p_skip rfl rfl rfl ?_
                  refine p_pickF rfl rfl rfl rfl rfl rfl ?_
                  refine p_pure htab rfl rfl rfl rfl ?_
                  refine ops_nil ?_
                  refine then_normal ?_
                  refine wpD_ret ?_
                  refine ret1 (.inl rfl) rfl ?_
                  first | rfl | (exfalso; simp_all; done) | (exfalso; simp_all; omega)
              · skip
                refine p_skip rfl rfl rfl ?_
                refine p_skip rfl rfl rfl ?_
                refine p_skip rfl rfl rfl ?_
                refine p_pickF rfl rfl rfl rfl rfl rfl ?_
                refine p_pickF rfl rfl rfl rfl rfl rfl ?_
                refine p_pure htab rfl rfl rfl rfl ?_
                refine p_skip rfl rfl rfl ?_
                refine p_pickF rfl rfl rfl rfl rfl rfl ?_
                refine p_pure htab rfl rfl rfl rfl ?_
                refine ops_nil ?_
                refine then_normal ?_
                refine wpD_ret ?_
                refine ret1 (.inl rfl) rfl ?_
                first | rfl | (exfalso; simp_all; done) | (exfalso; simp_all; omega)
      · skip
        refine p_skip rfl rfl rfl ?_
        refine p_pickF rfl rfl rfl rfl rfl rfl ?_
        refine p_pure htab rfl rfl rfl rfl ?_
        refine p_pickF rfl rfl rfl rfl rfl rfl ?_
        refine ops_nil ?_
        refine then_normal ?_
        refine wpD_cond rfl (fun hc11 => ?_) (fun hc11 => ?_)
        · skip
          refine wpD_seq ?_
          refine wpD_region ?_
          refine p_pure htab rfl rfl rfl rfl ?_
          refine ops_nil ?_
          refine then_normal ?_
          refine wpD_ret ?_
          refine then_ret ?_
          refine ret1 (.inl rfl) rfl ?_
          first | rfl | (exfalso; simp_all; done) | (exfalso; simp_all; omega)
        · skip
          refine wpD_skip ?_
          refine then_normal ?_
          refine wpD_seq ?_
          refine wpD_region ?_
          refine p_pure htab rfl rfl rfl rfl ?_
          refine p_pure htab rfl rfl rfl rfl ?_
          refine p_pure htab rfl rfl rfl rfl ?_
          refine p_call0 (wdoE op a b m e ka kb h3) rfl rfl rfl rfl rfl (WkL.refl _) ?_
          rintro _ rfl
          refine p_pure htab rfl rfl rfl rfl ?_
          refine p_pure htab rfl rfl rfl rfl ?_
          refine p_pure htab rfl rfl rfl rfl ?_
          refine p_pure htab rfl rfl rfl rfl ?_
          refine p_pure htab rfl rfl rfl rfl ?_
          refine ops_nil ?_
          refine then_normal ?_
          refine wpD_seq ?_
          refine wpD_region ?_
          refine p_pure htab rfl rfl rfl rfl ?_
          refine p_pure htab rfl rfl rfl rfl ?_
          refine p_pure htab rfl rfl rfl rfl ?_
          refine p_split (i := 62) rfl (fun hg12 => ?_) (fun hg12 => ?_)
          · skip
            refine p_skip rfl rfl rfl ?_
            refine p_skip rfl rfl rfl ?_
            refine p_pickT rfl rfl rfl rfl rfl rfl ?_
            refine p_pure htab rfl rfl rfl rfl ?_
            refine p_skip rfl rfl rfl ?_
            refine p_skip rfl rfl rfl ?_
            refine p_skip rfl rfl rfl ?_
            refine p_skip rfl rfl rfl ?_
            refine p_skip rfl rfl rfl ?_
            refine p_skip rfl rfl rfl ?_
            refine p_skip rfl rfl rfl ?_
            refine p_pickT rfl rfl rfl rfl rfl rfl ?_
            refine p_pure htab rfl rfl rfl rfl ?_
            refine p_call0 (livesE) rfl rfl rfl rfl rfl (WkL.refl _) ?_
            rintro _ rfl
            refine p_pickT rfl rfl rfl rfl rfl rfl ?_
            refine p_pure htab rfl rfl rfl rfl ?_
            refine ops_nil ?_
            refine then_normal ?_
            refine wpD_ret ?_
            refine ret1 (.inl rfl) rfl ?_
            first | rfl | (exfalso; simp_all; done) | (exfalso; simp_all; omega)
          · skip
            refine p_pure htab rfl rfl rfl rfl ?_
            refine p_pure htab rfl rfl rfl rfl ?_
            refine p_pickF rfl rfl rfl rfl rfl rfl ?_
            refine p_pure htab rfl rfl rfl rfl ?_
            refine p_split (i := 66) rfl (fun hg13 => ?_) (fun hg13 => ?_)
            · skip
              refine p_skip rfl rfl rfl ?_
              refine p_skip rfl rfl rfl ?_
              refine p_skip rfl rfl rfl ?_
              refine p_skip rfl rfl rfl ?_
              refine p_skip rfl rfl rfl ?_
              refine p_skip rfl rfl rfl ?_
              refine p_skip rfl rfl rfl ?_
              refine p_pickT rfl rfl rfl rfl rfl rfl ?_
              refine p_pure htab rfl rfl rfl rfl ?_
              refine p_call0 (livesE) rfl rfl rfl rfl rfl (WkL.refl _) ?_
              rintro _ rfl
              refine p_pickT rfl rfl rfl rfl rfl rfl ?_
              refine p_pure htab rfl rfl rfl rfl ?_
              refine ops_nil ?_
              refine then_normal ?_
              refine wpD_ret ?_
              refine ret1 (.inl rfl) rfl ?_
              first | rfl | (exfalso; simp_all; done) | (exfalso; simp_all; omega)
            · skip
              refine p_pure htab rfl rfl rfl rfl ?_
              refine p_pure htab rfl rfl rfl rfl ?_
              refine p_pure htab rfl rfl rfl rfl ?_
              refine p_split (i := 69) rfl (fun hg14 => ?_) (fun hg14 => ?_)
              · skip
                refine p_pure htab rfl rfl rfl rfl ?_
                refine p_pure htab rfl rfl rfl rfl ?_
                refine p_pure htab rfl rfl rfl rfl ?_
                refine p_pickT rfl rfl rfl rfl rfl rfl ?_
                refine p_pickF rfl rfl rfl rfl rfl rfl ?_
                refine p_pure htab rfl rfl rfl rfl ?_
                refine p_split (i := 75) rfl (fun hg15 => ?_) (fun hg15 => ?_)
                · skip
                  refine p_call0 (livesE) rfl rfl rfl rfl rfl (WkL.refl _) ?_
                  rintro _ rfl
                  refine p_pickT rfl rfl rfl rfl rfl rfl ?_
                  refine p_pure htab rfl rfl rfl rfl ?_
                  refine ops_nil ?_
                  refine then_normal ?_
                  refine wpD_ret ?_
                  refine ret1 (.inl rfl) rfl ?_
                  first | rfl | (exfalso; simp_all; done) | (exfalso; simp_all; omega)
                · skip
                  refine p_skip rfl rfl rfl ?_
                  refine p_pickF rfl rfl rfl rfl rfl rfl ?_
                  refine p_pure htab rfl rfl rfl rfl ?_
                  refine ops_nil ?_
                  refine then_normal ?_
                  refine wpD_ret ?_
                  refine ret1 (.inl rfl) rfl ?_
                  first | rfl | (exfalso; simp_all; done) | (exfalso; simp_all; omega)
              · skip
                refine p_skip rfl rfl rfl ?_
                refine p_skip rfl rfl rfl ?_
                refine p_skip rfl rfl rfl ?_
                refine p_pickF rfl rfl rfl rfl rfl rfl ?_
                refine p_pickF rfl rfl rfl rfl rfl rfl ?_
                refine p_pure htab rfl rfl rfl rfl ?_
                refine p_skip rfl rfl rfl ?_
                refine p_pickF rfl rfl rfl rfl rfl rfl ?_
                refine p_pure htab rfl rfl rfl rfl ?_
                refine ops_nil ?_
                refine then_normal ?_
                refine wpD_ret ?_
                refine ret1 (.inl rfl) rfl ?_
                first | rfl | (exfalso; simp_all; done) | (exfalso; simp_all; omega)
theorem ex_big (op a b : Int) (ka : I64 a) (kb : I64 b) : Big ((exI op a b).getD 0) := by
  unfold exI Big
  unfold I64 at ka kb
  have hm : (a * b).natAbs ≤ 9223372036854775808 * 9223372036854775808 := by rw [Int.natAbs_mul]; exact Nat.mul_le_mul (by omega) (by omega)
  split
  · simp; omega
  · split
    · simp; omega
    · split
      · simp; omega
      · simp
theorem fits_all (op a b : Int) (ka : I64 a) (kb : I64 b) : CallsD Try.prog 6 [.v (.int .i64 (op)), .v (.int .i64 (a)), .v (.int .i64 (b))] [] [] (fun d h k => d = .v (.bool true) ∧ h = [] ∧ k = []) := by
  refine law_fits op a b _ (doI op a b).1 (doI op a b).2 _ ka kb (ex_big op a b ka kb) rfl rfl (Prod.eta _).symm (fun h1 h2 => ?_)
  unfold toI
  rw [if_pos h2]
  have hf := (fit_iff _).1 h2
  revert h1 hf
  unfold exI doI
  by_cases c1 : op = 10
  · simp only [c1, if_true, Option.getD_some]; intro _ hf; simp; exact wrap64_id hf
  · by_cases c2 : op = 11
    · simp only [c2, if_true, Option.getD_some]; intro _ hf; simp; exact wrap64_id hf
    · by_cases c3 : op = 7
      · simp only [c3, if_true, Option.getD_some]; intro _ hf; simp; exact wrap64_id hf
      · simp [c1, c2, c3]
end Go.Proofs.Ytdjkmphkahileaa.Ab
namespace Go.Proofs.Ytdjkmphkahileaa
open Go Go.RowKit
theorem fits_any (op a b : Int) (w : World) (ka : I64 a) (kb : I64 b) : Calls Try.prog 6 #[.int .i64 op, .int .i64 a, .int .i64 b] w fun e w' => e = .returned (.bool true) ∧ Below w.heap.size w w' :=
  Ab.to_calls (Ab.fits_all op a b ka kb) (H := fun _ => none) (fun _ _ h => by cases h) (by
    simp only [Ab.RepsV]
    exact ⟨_, _, rfl, Ab.rep_v rfl, _, _, rfl, Ab.rep_v rfl, _, _, rfl, Ab.rep_v rfl, rfl⟩)
end Go.Proofs.Ytdjkmphkahileaa
