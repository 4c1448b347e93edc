/- Layer 2: contracts over the abstract machine, and the laws' walks. -/
import Derived.Test.YtdjkmphkahileaaWl6
import Derived.Test.YtdjkmphkahileaaTb
import Derived.Test.YtdjkmphkahileaaAb8
namespace Go.Proofs.Ytdjkmphkahileaa.Ab
open Go Go.RowKit Go.Shelf Go.Proofs.Ytdjkmphkahileaa
theorem rep_tup2 {H : Hp} {x y : Value} (hx : one x = true) (hy : one y = true) : Rep H (.tup [.v x, .v y]) (.tuple #[x, y]) := by
  refine ⟨?_, rfl⟩
  simp only [Value.cells, RepC]
  refine ⟨[x, y], rfl, ?_⟩
  simp only [RepsV]
  exact ⟨x, [y], rfl, rep_v hx, y, [], rfl, rep_v hy, rfl⟩
theorem rep_W {H : Hp} (n : Int) : Rep H (.agg [.v (.int .i64 (hiW (n))), .v (.int .u64 (loW (n)))]) (.agg #[.int .i64 (hiW (n)), .int .u64 (loW (n))]) := rep_agg (us := [.int .i64 (hiW n), .int .u64 (loW n)]) (reps_vals [.int .i64 (hiW n), .int .u64 (loW n)] (by simp [one]))
theorem wdoE (op a b q e : Int) (ka : I64 a) (kb : I64 b) (h : doI op a b = (q, e)) : CallsD Try.prog 7 [.v (.int .i64 (op)), .v (.int .i64 (a)), .v (.int .i64 (b))] [] [] (fun d h k => d = .tup [.v (.int .i64 (q)), .v (.int .i64 (e))] ∧ h = [] ∧ k = []) :=
  of_calls (us := #[.int .i64 op, .int .i64 a, .int .i64 b]) (v := .tuple #[.int .i64 q, .int .i64 e]) ⟨_, Try.func7, rfl, rfl⟩ rfl (fun _ => rep_tup2 rfl rfl) (fun w => by have := wdo op a b w ka kb; rw [h] at this; exact this)
theorem rofE (n : Int) (k : I64 n) : CallsD Try.prog 10 [.v (.int .i64 (n))] [] [] (fun d h k => d = .agg [.v (.int .i64 (hiW (n))), .v (.int .u64 (loW (n)))] ∧ h = [] ∧ k = []) :=
  of_calls (us := #[.int .i64 n]) (v := .agg #[.int .i64 (hiW (n)), .int .u64 (loW (n))]) ⟨_, Try.func10, rfl, rfl⟩ rfl (fun _ => rep_W n) (fun w => rof_any n w k)
theorem rnegE (n : Int) : CallsD Try.prog 11 [.agg [.v (.int .i64 (hiW (n))), .v (.int .u64 (loW (n)))]] [] [] (fun d h k => d = .agg [.v (.int .i64 (hiW (-n))), .v (.int .u64 (loW (-n)))] ∧ h = [] ∧ k = []) :=
  of_calls (us := #[.agg #[.int .i64 (hiW (n)), .int .u64 (loW (n))]]) (v := .agg #[.int .i64 (hiW (-n)), .int .u64 (loW (-n))]) ⟨_, Try.func11, rfl, rfl⟩ rfl (fun _ => rep_W (-n)) (fun w => by have := rneg_any (hiW n) (loW n) w (ok2 n); rw [hiW_neg, loW_neg] at this; exact this)
theorem rcmpE (x y : Int) (hx : -170141183460469231731687303715884105728 ≤ x ∧ x < 170141183460469231731687303715884105728) (hy : -170141183460469231731687303715884105728 ≤ y ∧ y < 170141183460469231731687303715884105728) :
    CallsD Try.prog 12 [.agg [.v (.int .i64 (hiW (x))), .v (.int .u64 (loW (x)))], .agg [.v (.int .i64 (hiW (y))), .v (.int .u64 (loW (y)))]] [] [] (fun d h k => d = .v (.int .i64 (cmpI x y)) ∧ h = [] ∧ k = []) :=
  of_calls (us := #[.agg #[.int .i64 (hiW (x)), .int .u64 (loW (x))], .agg #[.int .i64 (hiW (y)), .int .u64 (loW (y))]]) (v := .int .i64 (cmpI x y)) ⟨_, Try.func12, rfl, rfl⟩ rfl (fun _ => rep_v rfl) (fun w => by have := rcmp_any (hiW x) (loW x) (hiW y) (loW y) w (ok2 x) (ok2 y); rw [V_W_id hx.1 hx.2, V_W_id hy.1 hy.2] at this; exact this)
theorem livesE : CallsD Try.prog 9 [] [] [] (fun d h k => d = .v (.bool true) ∧ h = [] ∧ k = []) :=
  of_calls (us := #[]) (v := .bool true) ⟨_, Try.func9, rfl, rfl⟩ rfl (fun _ => rep_v rfl) (fun w => wrapLives w)
theorem parts_zero' (a : Int) (ka : I64 a) : CallsD Try.prog 4 [.v (.int .i64 (a)), .v (.int .i64 (0))] [] [] (fun d h k => d = .v (.bool true) ∧ h = [] ∧ k = []) := by
  have k0 : I64 0 := by unfold I64; omega
  have h8 : doI 8 a 0 = (0, 10) := rfl
  have h9 : doI 9 a 0 = (0, 10) := rfl
  have h7 : doI 7 0 0 = (0, 0) := by simp [doI, wrap64_def]
  have hs : doI 10 0 0 = (0, 0) := by simp [doI, wrap64_def]
  refine enter htab Try.func4 rfl rfl rfl rfl rfl (fun C => ?_)
  refine wpD_seq ?_
  refine wpD_region ?_
  refine p_pure htab rfl rfl rfl rfl ?_
  refine ops_nil ?_
  refine then_normal ?_
  refine wpD_seq ?_
  refine wpD_region ?_
  refine p_pure htab rfl rfl rfl rfl ?_
  refine p_pure htab rfl rfl rfl rfl ?_
  refine p_call0 (wdoE 8 a 0 0 10 ka k0 h8) rfl rfl rfl rfl rfl (WkL.refl _) ?_
  rintro _ rfl
  refine p_pure htab rfl rfl rfl rfl ?_
  refine p_pure htab rfl rfl rfl rfl ?_
  refine p_pure htab rfl rfl rfl rfl ?_
  refine p_pure htab rfl rfl rfl rfl ?_
  refine p_pure htab rfl rfl rfl rfl ?_
  refine ops_nil ?_
  refine then_normal ?_
  refine wpD_seq ?_
  refine wpD_region ?_
  refine p_pure htab rfl rfl rfl rfl ?_
  refine p_pure htab rfl rfl rfl rfl ?_
  refine p_call0 (wdoE 9 a 0 0 10 ka k0 h9) rfl rfl rfl rfl rfl (WkL.refl _) ?_
  rintro _ rfl
  refine p_pure htab rfl rfl rfl rfl ?_
  refine p_pure htab rfl rfl rfl rfl ?_
  refine p_pure htab rfl rfl rfl rfl ?_
  refine p_pure htab rfl rfl rfl rfl ?_
  refine p_pure htab rfl rfl rfl rfl ?_
  refine ops_nil ?_
  refine then_normal ?_
  refine wpD_seq ?_
  refine wpD_seq ?_
  refine wpD_region ?_
  refine p_pure htab rfl rfl rfl rfl ?_
  refine p_pure htab rfl rfl rfl rfl ?_
  refine ops_nil ?_
  refine then_normal ?_
  refine wpD_cond rfl (fun hc1 => ?_) (fun hc1 => ?_)
  · skip
    refine wpD_seq ?_
    refine wpD_region ?_
    refine p_pure htab rfl rfl rfl rfl ?_
    refine p_pure htab rfl rfl rfl rfl ?_
    refine p_pure htab rfl rfl rfl rfl ?_
    refine p_split (i := 31) rfl (fun hg2 => ?_) (fun hg2 => ?_)
    · skip
      refine p_pure htab rfl rfl rfl rfl ?_
      refine p_pure htab rfl rfl rfl rfl ?_
      refine p_pickT rfl rfl rfl rfl rfl rfl ?_
      refine p_pure htab rfl rfl rfl rfl ?_
      refine p_split (i := 35) rfl (fun hg3 => ?_) (fun hg3 => ?_)
      · skip
        refine p_call0 (livesE) rfl rfl rfl rfl rfl (WkL.refl _) ?_
        rintro _ rfl
        refine p_pickT rfl rfl rfl rfl rfl rfl ?_
        refine p_pure htab rfl rfl rfl rfl ?_
        refine ops_nil ?_
        refine then_normal ?_
        refine wpD_ret ?_
        refine then_ret ?_
        refine ret1 (.inl rfl) rfl ?_
        first | rfl | (exfalso; simp_all; done)
      · skip
        refine p_skip rfl rfl rfl ?_
        refine p_pickF rfl rfl rfl rfl rfl rfl ?_
        refine p_pure htab rfl rfl rfl rfl ?_
        refine ops_nil ?_
        refine then_normal ?_
        refine wpD_ret ?_
        refine then_ret ?_
        refine ret1 (.inl rfl) rfl ?_
        first | rfl | (exfalso; simp_all; done)
    · skip
      refine p_skip rfl rfl rfl ?_
      refine p_skip rfl rfl rfl ?_
      refine p_pickF rfl rfl rfl rfl rfl rfl ?_
      refine p_pure htab rfl rfl rfl rfl ?_
      refine p_skip rfl rfl rfl ?_
      refine p_pickF rfl rfl rfl rfl rfl rfl ?_
      refine p_pure htab rfl rfl rfl rfl ?_
      refine ops_nil ?_
      refine then_normal ?_
      refine wpD_ret ?_
      refine then_ret ?_
      refine ret1 (.inl rfl) rfl ?_
      first | rfl | (exfalso; simp_all; done)
  · skip
    refine wpD_skip ?_
    refine then_normal ?_
    refine wpD_seq ?_
    refine wpD_region ?_
    refine p_pure htab rfl rfl rfl rfl ?_
    refine p_pure htab rfl rfl rfl rfl ?_
    refine p_call0 (wdoE 7 0 0 0 0 k0 k0 h7) rfl rfl rfl rfl rfl (WkL.refl _) ?_
    rintro _ rfl
    refine p_pure htab rfl rfl rfl rfl ?_
    refine p_pure htab rfl rfl rfl rfl ?_
    refine p_pure htab rfl rfl rfl rfl ?_
    refine p_pure htab rfl rfl rfl rfl ?_
    refine p_pure htab rfl rfl rfl rfl ?_
    refine ops_nil ?_
    refine then_normal ?_
    refine wpD_seq ?_
    refine wpD_region ?_
    refine p_pure htab rfl rfl rfl rfl ?_
    refine p_pure htab rfl rfl rfl rfl ?_
    refine p_call0 (wdoE 10 0 0 0 0 k0 k0 hs) rfl rfl rfl rfl rfl (WkL.refl _) ?_
    rintro _ rfl
    refine p_pure htab rfl rfl rfl rfl ?_
    refine p_pure htab rfl rfl rfl rfl ?_
    refine p_pure htab rfl rfl rfl rfl ?_
    refine p_pure htab rfl rfl rfl rfl ?_
    refine p_pure htab rfl rfl rfl rfl ?_
    refine ops_nil ?_
    refine then_normal ?_
    refine wpD_seq ?_
    refine wpD_region ?_
    refine p_pure htab rfl rfl rfl rfl ?_
    refine p_call0 (rofE 0 k0) rfl rfl rfl rfl rfl (WkL.refl _) ?_
    rintro _ rfl
    refine p_alloc htab rfl rfl rfl rfl rfl rfl rfl (fun b4 => ?_)
    refine p_store 0 htab rfl rfl rfl rfl rfl rfl rfl rfl rfl rfl rfl rfl ?_
    refine ops_nil ?_
    refine then_normal ?_
    refine wpD_seq ?_
    refine wpD_seq ?_
    refine wpD_region ?_
    refine p_pure htab rfl rfl rfl rfl ?_
    refine p_pure htab rfl rfl rfl rfl ?_
    refine ops_nil ?_
    refine then_normal ?_
    refine wpD_cond rfl (fun hc5 => ?_) (fun hc5 => ?_)
    · skip
      refine wpD_region ?_
      refine p_load 0 htab rfl rfl rfl rfl rfl rfl rfl rfl ?_
      refine p_call0 (rnegE _) rfl rfl rfl rfl rfl (WkL.refl _) ?_
      rintro _ rfl
      refine p_store 0 htab rfl rfl rfl rfl rfl rfl rfl rfl rfl rfl rfl rfl ?_
      refine ops_nil ?_
      refine then_normal ?_
      refine wpD_seq ?_
      refine wpD_region ?_
      refine p_pure htab rfl rfl rfl rfl ?_
      refine p_call0 (rofE 0 k0) rfl rfl rfl rfl rfl (WkL.refl _) ?_
      rintro _ rfl
      refine p_alloc htab rfl rfl rfl rfl rfl rfl rfl (fun b6 => ?_)
      refine p_store 1 htab rfl rfl rfl rfl rfl rfl rfl rfl rfl rfl rfl rfl ?_
      refine ops_nil ?_
      refine then_normal ?_
      refine wpD_seq ?_
      refine wpD_seq ?_
      refine wpD_region ?_
      refine p_pure htab rfl rfl rfl rfl ?_
      refine p_pure htab rfl rfl rfl rfl ?_
      refine ops_nil ?_
      refine then_normal ?_
      refine wpD_cond rfl (fun hc7 => ?_) (fun hc7 => ?_)
      · skip
        refine wpD_region ?_
        refine p_load 1 htab rfl rfl rfl rfl rfl rfl rfl rfl ?_
        refine p_call0 (rnegE _) rfl rfl rfl rfl rfl (WkL.refl _) ?_
        rintro _ rfl
        refine p_store 1 htab rfl rfl rfl rfl rfl rfl rfl rfl rfl rfl rfl rfl ?_
        refine ops_nil ?_
        refine then_normal ?_
        refine wpD_seq ?_
        refine wpD_region ?_
        refine p_pure htab rfl rfl rfl rfl ?_
        refine p_pure htab rfl rfl rfl rfl ?_
        refine p_pure htab rfl rfl rfl rfl ?_
        refine p_split (i := 64) rfl (fun hg8 => ?_) (fun hg8 => ?_)
        · skip
          refine p_pure htab rfl rfl rfl rfl ?_
          refine p_pure htab rfl rfl rfl rfl ?_
          refine p_pickT rfl rfl rfl rfl rfl rfl ?_
          refine p_pure htab rfl rfl rfl rfl ?_
          refine p_split (i := 68) rfl (fun hg9 => ?_) (fun hg9 => ?_)
          · skip
            refine p_pure htab rfl rfl rfl rfl ?_
            refine p_pure htab rfl rfl rfl rfl ?_
            refine p_pure htab rfl rfl rfl rfl ?_
            refine p_pickT rfl rfl rfl rfl rfl rfl ?_
            refine p_pure htab rfl rfl rfl rfl ?_
            refine p_split (i := 73) rfl (fun hg10 => ?_) (fun hg10 => ?_)
            · skip
              refine p_load 1 htab rfl rfl rfl rfl rfl rfl rfl rfl ?_
              refine p_load 0 htab rfl rfl rfl rfl rfl rfl rfl rfl ?_
              refine p_call0 (rcmpE _ _ (by omega) (by omega)) rfl rfl rfl rfl rfl (WkL.refl _) ?_
              rintro _ rfl
              refine p_pure htab rfl rfl rfl rfl ?_
              refine p_pickT rfl rfl rfl rfl rfl rfl ?_
              refine p_pure htab rfl rfl rfl rfl ?_
              refine p_split (i := 79) rfl (fun hg11 => ?_) (fun hg11 => ?_)
              · skip
                refine p_pure htab rfl rfl rfl rfl ?_
                refine p_pure htab rfl rfl rfl rfl ?_
                refine p_pure htab rfl rfl rfl rfl ?_
                refine p_split (i := 82) rfl (fun hg12 => ?_) (fun hg12 => ?_)
                · skip
                  refine p_skip rfl rfl rfl ?_
                  refine p_skip rfl rfl rfl ?_
                  refine p_skip rfl rfl rfl ?_
                  refine p_skip rfl rfl rfl ?_
                  refine p_skip rfl rfl rfl ?_
                  refine p_pickT rfl rfl rfl rfl rfl rfl ?_
                  refine p_pickT rfl rfl rfl rfl rfl rfl ?_
                  refine p_pure htab rfl rfl rfl rfl ?_
                  refine p_call0 (livesE) rfl rfl rfl rfl rfl (WkL.refl _) ?_
                  rintro _ rfl
                  refine p_pickT rfl rfl rfl rfl rfl rfl ?_
                  refine p_pure htab rfl rfl rfl rfl ?_
                  refine ops_nil ?_
                  refine then_normal ?_
                  refine wpD_ret ?_
                  refine ret1 (.inl rfl) rfl ?_
                  first | rfl | (exfalso; simp_all; done)
                · skip
                  refine p_pure htab rfl rfl rfl rfl ?_
                  refine p_pure htab rfl rfl rfl rfl ?_
                  refine p_pure htab rfl rfl rfl rfl ?_
                  refine p_pure htab rfl rfl rfl rfl ?_
                  refine p_pure htab rfl rfl rfl rfl ?_
                  refine p_pickF rfl rfl rfl rfl rfl rfl ?_
                  refine p_pickT rfl rfl rfl rfl rfl rfl ?_
                  refine p_pure htab rfl rfl rfl rfl ?_
                  refine p_split (i := 90) rfl (fun hg13 => ?_) (fun hg13 => ?_)
                  · skip
                    refine p_call0 (livesE) rfl rfl rfl rfl rfl (WkL.refl _) ?_
                    rintro _ rfl
                    refine p_pickT rfl rfl rfl rfl rfl rfl ?_
                    refine p_pure htab rfl rfl rfl rfl ?_
                    refine ops_nil ?_
                    refine then_normal ?_
                    refine wpD_ret ?_
                    refine ret1 (.inl rfl) rfl ?_
                    first | rfl | (exfalso; simp_all; done)
                  · skip
                    refine p_skip rfl rfl rfl ?_
                    refine p_pickF rfl rfl rfl rfl rfl rfl ?_
                    refine p_pure htab rfl rfl rfl rfl ?_
                    refine ops_nil ?_
                    refine then_normal ?_
                    refine wpD_ret ?_
                    refine ret1 (.inl rfl) rfl ?_
                    first | rfl | (exfalso; simp_all; done)
              · skip
                refine p_skip rfl rfl rfl ?_
                refine p_skip rfl rfl rfl ?_
                refine p_skip rfl rfl rfl ?_
                refine p_skip rfl rfl rfl ?_
                refine p_skip rfl rfl rfl ?_
                refine p_skip rfl rfl rfl ?_
                refine p_skip rfl rfl rfl ?_
                refine p_skip rfl rfl rfl ?_
                refine p_skip rfl rfl rfl ?_
                refine p_pickF rfl rfl rfl rfl rfl rfl ?_
                refine p_pure htab rfl rfl rfl rfl ?_
                refine p_skip rfl rfl rfl ?_
                refine p_pickF rfl rfl rfl rfl rfl rfl ?_
                refine p_pure htab rfl rfl rfl rfl ?_
                refine ops_nil ?_
                refine then_normal ?_
                refine wpD_ret ?_
                refine ret1 (.inl rfl) rfl ?_
                first | rfl | (exfalso; simp_all; done)
            · skip
              refine p_skip rfl rfl rfl ?_
              refine p_skip rfl rfl rfl ?_
              refine p_skip rfl rfl rfl ?_
              refine p_skip rfl rfl rfl ?_
              refine p_pickF rfl rfl rfl rfl rfl rfl ?_
              refine p_pure htab rfl rfl rfl rfl ?_
              refine p_skip rfl rfl rfl ?_
              refine p_skip rfl rfl rfl ?_
              refine p_skip rfl rfl rfl ?_
              refine p_skip rfl rfl rfl ?_
              refine p_skip rfl rfl rfl ?_
              refine p_skip rfl rfl rfl ?_
              refine p_skip rfl rfl rfl ?_
              refine p_skip rfl rfl rfl ?_
              refine p_skip rfl rfl rfl ?_
              refine p_pickF rfl rfl rfl rfl rfl rfl ?_
              refine p_pure htab rfl rfl rfl rfl ?_
              refine p_skip rfl rfl rfl ?_
              refine p_pickF rfl rfl rfl rfl rfl rfl ?_
              refine p_pure htab rfl rfl rfl rfl ?_
              refine ops_nil ?_
              refine then_normal ?_
              refine wpD_ret ?_
              refine ret1 (.inl rfl) rfl ?_
              first | rfl | (exfalso; simp_all; done)
          · skip
            refine p_skip rfl rfl rfl ?_
            refine p_skip rfl rfl rfl ?_
            refine p_skip rfl rfl rfl ?_
            refine p_pickF rfl rfl rfl rfl rfl rfl ?_
            refine p_pure htab rfl rfl rfl rfl ?_
            refine p_skip rfl rfl rfl ?_
            refine p_skip rfl rfl rfl ?_
            refine p_skip rfl rfl rfl ?_
            refine p_skip rfl rfl rfl ?_
            refine p_pickF rfl rfl rfl rfl rfl rfl ?_
            refine p_pure htab rfl rfl rfl rfl ?_
            refine p_skip rfl rfl rfl ?_
            refine p_skip rfl rfl rfl ?_
            refine p_skip rfl rfl rfl ?_
            refine p_skip rfl rfl rfl ?_
            refine p_skip rfl rfl rfl ?_
            refine p_skip rfl rfl rfl ?_
            refine p_skip rfl rfl rfl ?_
            refine p_skip rfl rfl rfl ?_
            refine p_skip rfl rfl rfl ?_
            refine p_pickF rfl rfl rfl rfl rfl rfl ?_
            refine p_pure htab rfl rfl rfl rfl ?_
            refine p_skip rfl rfl rfl ?_
            refine p_pickF rfl rfl rfl rfl rfl rfl ?_
            refine p_pure htab rfl rfl rfl rfl ?_
            refine ops_nil ?_
            refine then_normal ?_
            refine wpD_ret ?_
            refine ret1 (.inl rfl) rfl ?_
            first | rfl | (exfalso; simp_all; done)
        · skip
          refine p_skip rfl rfl rfl ?_
          refine p_skip rfl rfl rfl ?_
          refine p_pickF rfl rfl rfl rfl rfl rfl ?_
          refine p_pure htab rfl rfl rfl rfl ?_
          refine p_skip rfl rfl rfl ?_
          refine p_skip rfl rfl rfl ?_
          refine p_skip rfl rfl rfl ?_
          refine p_pickF rfl rfl rfl rfl rfl rfl ?_
          refine p_pure htab rfl rfl rfl rfl ?_
          refine p_skip rfl rfl rfl ?_
          refine p_skip rfl rfl rfl ?_
          refine p_skip rfl rfl rfl ?_
          refine p_skip rfl rfl rfl ?_
          refine p_pickF rfl rfl rfl rfl rfl rfl ?_
          refine p_pure htab rfl rfl rfl rfl ?_
          refine p_skip rfl rfl rfl ?_
          refine p_skip rfl rfl rfl ?_
          refine p_skip rfl rfl rfl ?_
          refine p_skip rfl rfl rfl ?_
          refine p_skip rfl rfl rfl ?_
          refine p_skip rfl rfl rfl ?_
          refine p_skip rfl rfl rfl ?_
          refine p_skip rfl rfl rfl ?_
          refine p_skip rfl rfl rfl ?_
          refine p_pickF rfl rfl rfl rfl rfl rfl ?_
          refine p_pure htab rfl rfl rfl rfl ?_
          refine p_skip rfl rfl rfl ?_
          refine p_pickF rfl rfl rfl rfl rfl rfl ?_
          refine p_pure htab rfl rfl rfl rfl ?_
          refine ops_nil ?_
          refine then_normal ?_
          refine wpD_ret ?_
          refine ret1 (.inl rfl) rfl ?_
          first | rfl | (exfalso; simp_all; done)
      · skip
        refine wpD_skip ?_
        refine then_normal ?_
        refine wpD_seq ?_
        refine wpD_region ?_
        refine p_pure htab rfl rfl rfl rfl ?_
        refine p_pure htab rfl rfl rfl rfl ?_
        refine p_pure htab rfl rfl rfl rfl ?_
        refine p_split (i := 64) rfl (fun hg14 => ?_) (fun hg14 => ?_)
        · skip
          refine p_pure htab rfl rfl rfl rfl ?_
          refine p_pure htab rfl rfl rfl rfl ?_
          refine p_pickT rfl rfl rfl rfl rfl rfl ?_
          refine p_pure htab rfl rfl rfl rfl ?_
          refine p_split (i := 68) rfl (fun hg15 => ?_) (fun hg15 => ?_)
          · skip
            refine p_pure htab rfl rfl rfl rfl ?_
            refine p_pure htab rfl rfl rfl rfl ?_
            refine p_pure htab rfl rfl rfl rfl ?_
            refine p_pickT rfl rfl rfl rfl rfl rfl ?_
            refine p_pure htab rfl rfl rfl rfl ?_
            refine p_split (i := 73) rfl (fun hg16 => ?_) (fun hg16 => ?_)
            · skip
              refine p_load 1 htab rfl rfl rfl rfl rfl rfl rfl rfl ?_
              refine p_load 0 htab rfl rfl rfl rfl rfl rfl rfl rfl ?_
              refine p_call0 (rcmpE _ _ (by omega) (by omega)) rfl rfl rfl rfl rfl (WkL.refl _) ?_
              rintro _ rfl
              refine p_pure htab rfl rfl rfl rfl ?_
              refine p_pickT rfl rfl rfl rfl rfl rfl ?_
              refine p_pure htab rfl rfl rfl rfl ?_
              refine p_split (i := 79) rfl (fun hg17 => ?_) (fun hg17 => ?_)
              · skip
                refine p_pure htab rfl rfl rfl rfl ?_
                refine p_pure htab rfl rfl rfl rfl ?_
                refine p_pure htab rfl rfl rfl rfl ?_
                refine p_split (i := 82) rfl (fun hg18 => ?_) (fun hg18 => ?_)
                · skip
                  refine p_skip rfl rfl rfl ?_
                  refine p_skip rfl rfl rfl ?_
                  refine p_skip rfl rfl rfl ?_
                  refine p_skip rfl rfl rfl ?_
                  refine p_skip rfl rfl rfl ?_
                  refine p_pickT rfl rfl rfl rfl rfl rfl ?_
                  refine p_pickT rfl rfl rfl rfl rfl rfl ?_
                  refine p_pure htab rfl rfl rfl rfl ?_
                  refine p_call0 (livesE) rfl rfl rfl rfl rfl (WkL.refl _) ?_
                  rintro _ rfl
                  refine p_pickT rfl rfl rfl rfl rfl rfl ?_
                  refine p_pure htab rfl rfl rfl rfl ?_
                  refine ops_nil ?_
                  refine then_normal ?_
                  refine wpD_ret ?_
                  refine ret1 (.inl rfl) rfl ?_
                  first | rfl | (exfalso; simp_all; done)
                · skip
                  refine p_pure htab rfl rfl rfl rfl ?_
                  refine p_pure htab rfl rfl rfl rfl ?_
                  refine p_pure htab rfl rfl rfl rfl ?_
                  refine p_pure htab rfl rfl rfl rfl ?_
                  refine p_pure htab rfl rfl rfl rfl ?_
                  refine p_pickF rfl rfl rfl rfl rfl rfl ?_
                  refine p_pickT rfl rfl rfl rfl rfl rfl ?_
                  refine p_pure htab rfl rfl rfl rfl ?_
                  refine p_split (i := 90) rfl (fun hg19 => ?_) (fun hg19 => ?_)
                  · skip
                    refine p_call0 (livesE) rfl rfl rfl rfl rfl (WkL.refl _) ?_
                    rintro _ rfl
                    refine p_pickT rfl rfl rfl rfl rfl rfl ?_
                    refine p_pure htab rfl rfl rfl rfl ?_
                    refine ops_nil ?_
                    refine then_normal ?_
                    refine wpD_ret ?_
                    refine ret1 (.inl rfl) rfl ?_
                    first | rfl | (exfalso; simp_all; done)
                  · skip
                    refine p_skip rfl rfl rfl ?_
                    refine p_pickF rfl rfl rfl rfl rfl rfl ?_
                    refine p_pure htab rfl rfl rfl rfl ?_
                    refine ops_nil ?_
                    refine then_normal ?_
                    refine wpD_ret ?_
                    refine ret1 (.inl rfl) rfl ?_
                    first | rfl | (exfalso; simp_all; done)
              · skip
                refine p_skip rfl rfl rfl ?_
                refine p_skip rfl rfl rfl ?_
                refine p_skip rfl rfl rfl ?_
                refine p_skip rfl rfl rfl ?_
                refine p_skip rfl rfl rfl ?_
                refine p_skip rfl rfl rfl ?_
                refine p_skip rfl rfl rfl ?_
                refine p_skip rfl rfl rfl ?_
                refine p_skip rfl rfl rfl ?_
                refine p_pickF rfl rfl rfl rfl rfl rfl ?_
                refine p_pure htab rfl rfl rfl rfl ?_
                refine p_skip rfl rfl rfl ?_
                refine p_pickF rfl rfl rfl rfl rfl rfl ?_
                refine p_pure htab rfl rfl rfl rfl ?_
                refine ops_nil ?_
                refine then_normal ?_
                refine wpD_ret ?_
                refine ret1 (.inl rfl) rfl ?_
                first | rfl | (exfalso; simp_all; done)
            · skip
              refine p_skip rfl rfl rfl ?_
              refine p_skip rfl rfl rfl ?_
              refine p_skip rfl rfl rfl ?_
              refine p_skip rfl rfl rfl ?_
              refine p_pickF rfl rfl rfl rfl rfl rfl ?_
              refine p_pure htab rfl rfl rfl rfl ?_
              refine p_skip rfl rfl rfl ?_
              refine p_skip rfl rfl rfl ?_
              refine p_skip rfl rfl rfl ?_
              refine p_skip rfl rfl rfl ?_
              refine p_skip rfl rfl rfl ?_
              refine p_skip rfl rfl rfl ?_
              refine p_skip rfl rfl rfl ?_
              refine p_skip rfl rfl rfl ?_
              refine p_skip rfl rfl rfl ?_
              refine p_pickF rfl rfl rfl rfl rfl rfl ?_
              refine p_pure htab rfl rfl rfl rfl ?_
              refine p_skip rfl rfl rfl ?_
              refine p_pickF rfl rfl rfl rfl rfl rfl ?_
              refine p_pure htab rfl rfl rfl rfl ?_
              refine ops_nil ?_
              refine then_normal ?_
              refine wpD_ret ?_
              refine ret1 (.inl rfl) rfl ?_
              first | rfl | (exfalso; simp_all; done)
          · skip
            refine p_skip rfl rfl rfl ?_
            refine p_skip rfl rfl rfl ?_
            refine p_skip rfl rfl rfl ?_
            refine p_pickF rfl rfl rfl rfl rfl rfl ?_
            refine p_pure htab rfl rfl rfl rfl ?_
            refine p_skip rfl rfl rfl ?_
            refine p_skip rfl rfl rfl ?_
            refine p_skip rfl rfl rfl ?_
            refine p_skip rfl rfl rfl ?_
            refine p_pickF rfl rfl rfl rfl rfl rfl ?_
            refine p_pure htab rfl rfl rfl rfl ?_
            refine p_skip rfl rfl rfl ?_
            refine p_skip rfl rfl rfl ?_
            refine p_skip rfl rfl rfl ?_
            refine p_skip rfl rfl rfl ?_
            refine p_skip rfl rfl rfl ?_
            refine p_skip rfl rfl rfl ?_
            refine p_skip rfl rfl rfl ?_
            refine p_skip rfl rfl rfl ?_
            refine p_skip rfl rfl rfl ?_
            refine p_pickF rfl rfl rfl rfl rfl rfl ?_
            refine p_pure htab rfl rfl rfl rfl ?_
            refine p_skip rfl rfl rfl ?_
            refine p_pickF rfl rfl rfl rfl rfl rfl ?_
            refine p_pure htab rfl rfl rfl rfl ?_
            refine ops_nil ?_
            refine then_normal ?_
            refine wpD_ret ?_
            refine ret1 (.inl rfl) rfl ?_
            first | rfl | (exfalso; simp_all; done)
        · skip
          refine p_skip rfl rfl rfl ?_
          refine p_skip rfl rfl rfl ?_
          refine p_pickF rfl rfl rfl rfl rfl rfl ?_
          refine p_pure htab rfl rfl rfl rfl ?_
          refine p_skip rfl rfl rfl ?_
          refine p_skip rfl rfl rfl ?_
          refine p_skip rfl rfl rfl ?_
          refine p_pickF rfl rfl rfl rfl rfl rfl ?_
          refine p_pure htab rfl rfl rfl rfl ?_
          refine p_skip rfl rfl rfl ?_
          refine p_skip rfl rfl rfl ?_
          refine p_skip rfl rfl rfl ?_
          refine p_skip rfl rfl rfl ?_
          refine p_pickF rfl rfl rfl rfl rfl rfl ?_
          refine p_pure htab rfl rfl rfl rfl ?_
          refine p_skip rfl rfl rfl ?_
          refine p_skip rfl rfl rfl ?_
          refine p_skip rfl rfl rfl ?_
          refine p_skip rfl rfl rfl ?_
          refine p_skip rfl rfl rfl ?_
          refine p_skip rfl rfl rfl ?_
          refine p_skip rfl rfl rfl ?_
          refine p_skip rfl rfl rfl ?_
          refine p_skip rfl rfl rfl ?_
          refine p_pickF rfl rfl rfl rfl rfl rfl ?_
          refine p_pure htab rfl rfl rfl rfl ?_
          refine p_skip rfl rfl rfl ?_
          refine p_pickF rfl rfl rfl rfl rfl rfl ?_
          refine p_pure htab rfl rfl rfl rfl ?_
          refine ops_nil ?_
          refine then_normal ?_
          refine wpD_ret ?_
          refine ret1 (.inl rfl) rfl ?_
          first | rfl | (exfalso; simp_all; done)
    · skip
      refine wpD_skip ?_
      refine then_normal ?_
      refine wpD_seq ?_
      refine wpD_region ?_
      refine p_pure htab rfl rfl rfl rfl ?_
      refine p_call0 (rofE 0 k0) rfl rfl rfl rfl rfl (WkL.refl _) ?_
      rintro _ rfl
      refine p_alloc htab rfl rfl rfl rfl rfl rfl rfl (fun b20 => ?_)
      refine p_store 1 htab rfl rfl rfl rfl rfl rfl rfl rfl rfl rfl rfl rfl ?_
      refine ops_nil ?_
      refine then_normal ?_
      refine wpD_seq ?_
      refine wpD_seq ?_
      refine wpD_region ?_
      refine p_pure htab rfl rfl rfl rfl ?_
      refine p_pure htab rfl rfl rfl rfl ?_
      refine ops_nil ?_
      refine then_normal ?_
      refine wpD_cond rfl (fun hc21 => ?_) (fun hc21 => ?_)
      · skip
        refine wpD_region ?_
        refine p_load 1 htab rfl rfl rfl rfl rfl rfl rfl rfl ?_
        refine p_call0 (rnegE _) rfl rfl rfl rfl rfl (WkL.refl _) ?_
        rintro _ rfl
        refine p_store 1 htab rfl rfl rfl rfl rfl rfl rfl rfl rfl rfl rfl rfl ?_
        refine ops_nil ?_
        refine then_normal ?_
        refine wpD_seq ?_
        refine wpD_region ?_
        refine p_pure htab rfl rfl rfl rfl ?_
        refine p_pure htab rfl rfl rfl rfl ?_
        refine p_pure htab rfl rfl rfl rfl ?_
        refine p_split (i := 64) rfl (fun hg22 => ?_) (fun hg22 => ?_)
        · skip
          refine p_pure htab rfl rfl rfl rfl ?_
          refine p_pure htab rfl rfl rfl rfl ?_
          refine p_pickT rfl rfl rfl rfl rfl rfl ?_
          refine p_pure htab rfl rfl rfl rfl ?_
          refine p_split (i := 68) rfl (fun hg23 => ?_) (fun hg23 => ?_)
          · skip
            refine p_pure htab rfl rfl rfl rfl ?_
            refine p_pure htab rfl rfl rfl rfl ?_
            refine p_pure htab rfl rfl rfl rfl ?_
            refine p_pickT rfl rfl rfl rfl rfl rfl ?_
            refine p_pure htab rfl rfl rfl rfl ?_
            refine p_split (i := 73) rfl (fun hg24 => ?_) (fun hg24 => ?_)
            · skip
              refine p_load 1 htab rfl rfl rfl rfl rfl rfl rfl rfl ?_
              refine p_load 0 htab rfl rfl rfl rfl rfl rfl rfl rfl ?_
              refine p_call0 (rcmpE _ _ (by omega) (by omega)) rfl rfl rfl rfl rfl (WkL.refl _) ?_
              rintro _ rfl
              refine p_pure htab rfl rfl rfl rfl ?_
              refine p_pickT rfl rfl rfl rfl rfl rfl ?_
              refine p_pure htab rfl rfl rfl rfl ?_
              refine p_split (i := 79) rfl (fun hg25 => ?_) (fun hg25 => ?_)
              · skip
                refine p_pure htab rfl rfl rfl rfl ?_
                refine p_pure htab rfl rfl rfl rfl ?_
                refine p_pure htab rfl rfl rfl rfl ?_
                refine p_split (i := 82) rfl (fun hg26 => ?_) (fun hg26 => ?_)
                · skip
                  refine p_skip rfl rfl rfl ?_
                  refine p_skip rfl rfl rfl ?_
                  refine p_skip rfl rfl rfl ?_
                  refine p_skip rfl rfl rfl ?_
                  refine p_skip rfl rfl rfl ?_
                  refine p_pickT rfl rfl rfl rfl rfl rfl ?_
                  refine p_pickT rfl rfl rfl rfl rfl rfl ?_
                  refine p_pure htab rfl rfl rfl rfl ?_
                  refine p_call0 (livesE) rfl rfl rfl rfl rfl (WkL.refl _) ?_
                  rintro _ rfl
                  refine p_pickT rfl rfl rfl rfl rfl rfl ?_
                  refine p_pure htab rfl rfl rfl rfl ?_
                  refine ops_nil ?_
                  refine then_normal ?_
                  refine wpD_ret ?_
                  refine ret1 (.inl rfl) rfl ?_
                  first | rfl | (exfalso; simp_all; done)
                · skip
                  refine p_pure htab rfl rfl rfl rfl ?_
                  refine p_pure htab rfl rfl rfl rfl ?_
                  refine p_pure htab rfl rfl rfl rfl ?_
                  refine p_pure htab rfl rfl rfl rfl ?_
                  refine p_pure htab rfl rfl rfl rfl ?_
                  refine p_pickF rfl rfl rfl rfl rfl rfl ?_
                  refine p_pickT rfl rfl rfl rfl rfl rfl ?_
                  refine p_pure htab rfl rfl rfl rfl ?_
                  refine p_split (i := 90) rfl (fun hg27 => ?_) (fun hg27 => ?_)
                  · skip
                    refine p_call0 (livesE) rfl rfl rfl rfl rfl (WkL.refl _) ?_
                    rintro _ rfl
                    refine p_pickT rfl rfl rfl rfl rfl rfl ?_
                    refine p_pure htab rfl rfl rfl rfl ?_
                    refine ops_nil ?_
                    refine then_normal ?_
                    refine wpD_ret ?_
                    refine ret1 (.inl rfl) rfl ?_
                    first | rfl | (exfalso; simp_all; done)
                  · skip
                    refine p_skip rfl rfl rfl ?_
                    refine p_pickF rfl rfl rfl rfl rfl rfl ?_
                    refine p_pure htab rfl rfl rfl rfl ?_
                    refine ops_nil ?_
                    refine then_normal ?_
                    refine wpD_ret ?_
                    refine ret1 (.inl rfl) rfl ?_
                    first | rfl | (exfalso; simp_all; done)
              · skip
                refine p_skip rfl rfl rfl ?_
                refine p_skip rfl rfl rfl ?_
                refine p_skip rfl rfl rfl ?_
                refine p_skip rfl rfl rfl ?_
                refine p_skip rfl rfl rfl ?_
                refine p_skip rfl rfl rfl ?_
                refine p_skip rfl rfl rfl ?_
                refine p_skip rfl rfl rfl ?_
                refine p_skip rfl rfl rfl ?_
                refine p_pickF rfl rfl rfl rfl rfl rfl ?_
                refine p_pure htab rfl rfl rfl rfl ?_
                refine p_skip rfl rfl rfl ?_
                refine p_pickF rfl rfl rfl rfl rfl rfl ?_
                refine p_pure htab rfl rfl rfl rfl ?_
                refine ops_nil ?_
                refine then_normal ?_
                refine wpD_ret ?_
                refine ret1 (.inl rfl) rfl ?_
                first | rfl | (exfalso; simp_all; done)
            · skip
              refine p_skip rfl rfl rfl ?_
              refine p_skip rfl rfl rfl ?_
              refine p_skip rfl rfl rfl ?_
              refine p_skip rfl rfl rfl ?_
              refine p_pickF rfl rfl rfl rfl rfl rfl ?_
              refine p_pure htab rfl rfl rfl rfl ?_
              refine p_skip rfl rfl rfl ?_
              refine p_skip rfl rfl rfl ?_
              refine p_skip rfl rfl rfl ?_
              refine p_skip rfl rfl rfl ?_
              refine p_skip rfl rfl rfl ?_
              refine p_skip rfl rfl rfl ?_
              refine p_skip rfl rfl rfl ?_
              refine p_skip rfl rfl rfl ?_
              refine p_skip rfl rfl rfl ?_
              refine p_pickF rfl rfl rfl rfl rfl rfl ?_
              refine p_pure htab rfl rfl rfl rfl ?_
              refine p_skip rfl rfl rfl ?_
              refine p_pickF rfl rfl rfl rfl rfl rfl ?_
              refine p_pure htab rfl rfl rfl rfl ?_
              refine ops_nil ?_
              refine then_normal ?_
              refine wpD_ret ?_
              refine ret1 (.inl rfl) rfl ?_
              first | rfl | (exfalso; simp_all; done)
          · skip
            refine p_skip rfl rfl rfl ?_
            refine p_skip rfl rfl rfl ?_
            refine p_skip rfl rfl rfl ?_
            refine p_pickF rfl rfl rfl rfl rfl rfl ?_
            refine p_pure htab rfl rfl rfl rfl ?_
            refine p_skip rfl rfl rfl ?_
            refine p_skip rfl rfl rfl ?_
            refine p_skip rfl rfl rfl ?_
            refine p_skip rfl rfl rfl ?_
            refine p_pickF rfl rfl rfl rfl rfl rfl ?_
            refine p_pure htab rfl rfl rfl rfl ?_
            refine p_skip rfl rfl rfl ?_
            refine p_skip rfl rfl rfl ?_
            refine p_skip rfl rfl rfl ?_
            refine p_skip rfl rfl rfl ?_
            refine p_skip rfl rfl rfl ?_
            refine p_skip rfl rfl rfl ?_
            refine p_skip rfl rfl rfl ?_
            refine p_skip rfl rfl rfl ?_
            refine p_skip rfl rfl rfl ?_
            refine p_pickF rfl rfl rfl rfl rfl rfl ?_
            refine p_pure htab rfl rfl rfl rfl ?_
            refine p_skip rfl rfl rfl ?_
            refine p_pickF rfl rfl rfl rfl rfl rfl ?_
            refine p_pure htab rfl rfl rfl rfl ?_
            refine ops_nil ?_
            refine then_normal ?_
            refine wpD_ret ?_
            refine ret1 (.inl rfl) rfl ?_
            first | rfl | (exfalso; simp_all; done)
        · skip
          refine p_skip rfl rfl rfl ?_
          refine p_skip rfl rfl rfl ?_
          refine p_pickF rfl rfl rfl rfl rfl rfl ?_
          refine p_pure htab rfl rfl rfl rfl ?_
          refine p_skip rfl rfl rfl ?_
          refine p_skip rfl rfl rfl ?_
          refine p_skip rfl rfl rfl ?_
          refine p_pickF rfl rfl rfl rfl rfl rfl ?_
          refine p_pure htab rfl rfl rfl rfl ?_
          refine p_skip rfl rfl rfl ?_
          refine p_skip rfl rfl rfl ?_
          refine p_skip rfl rfl rfl ?_
          refine p_skip rfl rfl rfl ?_
          refine p_pickF rfl rfl rfl rfl rfl rfl ?_
          refine p_pure htab rfl rfl rfl rfl ?_
          refine p_skip rfl rfl rfl ?_
          refine p_skip rfl rfl rfl ?_
          refine p_skip rfl rfl rfl ?_
          refine p_skip rfl rfl rfl ?_
          refine p_skip rfl rfl rfl ?_
          refine p_skip rfl rfl rfl ?_
          refine p_skip rfl rfl rfl ?_
          refine p_skip rfl rfl rfl ?_
          refine p_skip rfl rfl rfl ?_
          refine p_pickF rfl rfl rfl rfl rfl rfl ?_
          refine p_pure htab rfl rfl rfl rfl ?_
          refine p_skip rfl rfl rfl ?_
          refine p_pickF rfl rfl rfl rfl rfl rfl ?_
          refine p_pure htab rfl rfl rfl rfl ?_
          refine ops_nil ?_
          refine then_normal ?_
          refine wpD_ret ?_
          refine ret1 (.inl rfl) rfl ?_
          first | rfl | (exfalso; simp_all; done)
      · skip
        refine wpD_skip ?_
        refine then_normal ?_
        refine wpD_seq ?_
        refine wpD_region ?_
        refine p_pure htab rfl rfl rfl rfl ?_
        refine p_pure htab rfl rfl rfl rfl ?_
        refine p_pure htab rfl rfl rfl rfl ?_
        refine p_split (i := 64) rfl (fun hg28 => ?_) (fun hg28 => ?_)
        · skip
          refine p_pure htab rfl rfl rfl rfl ?_
          refine p_pure htab rfl rfl rfl rfl ?_
          refine p_pickT rfl rfl rfl rfl rfl rfl ?_
          refine p_pure htab rfl rfl rfl rfl ?_
          refine p_split (i := 68) rfl (fun hg29 => ?_) (fun hg29 => ?_)
          · skip
            refine p_pure htab rfl rfl rfl rfl ?_
            refine p_pure htab rfl rfl rfl rfl ?_
            refine p_pure htab rfl rfl rfl rfl ?_
            refine p_pickT rfl rfl rfl rfl rfl rfl ?_
            refine p_pure htab rfl rfl rfl rfl ?_
            refine p_split (i := 73) rfl (fun hg30 => ?_) (fun hg30 => ?_)
            · skip
              refine p_load 1 htab rfl rfl rfl rfl rfl rfl rfl rfl ?_
              refine p_load 0 htab rfl rfl rfl rfl rfl rfl rfl rfl ?_
              refine p_call0 (rcmpE _ _ (by omega) (by omega)) rfl rfl rfl rfl rfl (WkL.refl _) ?_
              rintro _ rfl
              refine p_pure htab rfl rfl rfl rfl ?_
              refine p_pickT rfl rfl rfl rfl rfl rfl ?_
              refine p_pure htab rfl rfl rfl rfl ?_
              refine p_split (i := 79) rfl (fun hg31 => ?_) (fun hg31 => ?_)
              · skip
                refine p_pure htab rfl rfl rfl rfl ?_
                refine p_pure htab rfl rfl rfl rfl ?_
                refine p_pure htab rfl rfl rfl rfl ?_
                refine p_split (i := 82) rfl (fun hg32 => ?_) (fun hg32 => ?_)
                · skip
                  refine p_skip rfl rfl rfl ?_
                  refine p_skip rfl rfl rfl ?_
                  refine p_skip rfl rfl rfl ?_
                  refine p_skip rfl rfl rfl ?_
                  refine p_skip rfl rfl rfl ?_
                  refine p_pickT rfl rfl rfl rfl rfl rfl ?_
                  refine p_pickT rfl rfl rfl rfl rfl rfl ?_
                  refine p_pure htab rfl rfl rfl rfl ?_
                  refine p_call0 (livesE) rfl rfl rfl rfl rfl (WkL.refl _) ?_
                  rintro _ rfl
                  refine p_pickT rfl rfl rfl rfl rfl rfl ?_
                  refine p_pure htab rfl rfl rfl rfl ?_
                  refine ops_nil ?_
                  refine then_normal ?_
                  refine wpD_ret ?_
                  refine ret1 (.inl rfl) rfl ?_
                  first | rfl | (exfalso; simp_all; done)
                · skip
                  refine p_pure htab rfl rfl rfl rfl ?_
                  refine p_pure htab rfl rfl rfl rfl ?_
                  refine p_pure htab rfl rfl rfl rfl ?_
                  refine p_pure htab rfl rfl rfl rfl ?_
                  refine p_pure htab rfl rfl rfl rfl ?_
                  refine p_pickF rfl rfl rfl rfl rfl rfl ?_
                  refine p_pickT rfl rfl rfl rfl rfl rfl ?_
                  refine p_pure htab rfl rfl rfl rfl ?_
                  refine p_split (i := 90) rfl (fun hg33 => ?_) (fun hg33 => ?_)
                  · skip
                    refine p_call0 (livesE) rfl rfl rfl rfl rfl (WkL.refl _) ?_
                    rintro _ rfl
                    refine p_pickT rfl rfl rfl rfl rfl rfl ?_
                    refine p_pure htab rfl rfl rfl rfl ?_
                    refine ops_nil ?_
                    refine then_normal ?_
                    refine wpD_ret ?_
                    refine ret1 (.inl rfl) rfl ?_
                    first | rfl | (exfalso; simp_all; done)
                  · skip
                    refine p_skip rfl rfl rfl ?_
                    refine p_pickF rfl rfl rfl rfl rfl rfl ?_
                    refine p_pure htab rfl rfl rfl rfl ?_
                    refine ops_nil ?_
                    refine then_normal ?_
                    refine wpD_ret ?_
                    refine ret1 (.inl rfl) rfl ?_
                    first | rfl | (exfalso; simp_all; done)
              · skip
                refine p_skip rfl rfl rfl ?_
                refine p_skip rfl rfl rfl ?_
                refine p_skip rfl rfl rfl ?_
                refine p_skip rfl rfl rfl ?_
                refine p_skip rfl rfl rfl ?_
                refine p_skip rfl rfl rfl ?_
                refine p_skip rfl rfl rfl ?_
                refine p_skip rfl rfl rfl ?_
                refine p_skip rfl rfl rfl ?_
                refine p_pickF rfl rfl rfl rfl rfl rfl ?_
                refine p_pure htab rfl rfl rfl rfl ?_
                refine p_skip rfl rfl rfl ?_
                refine p_pickF rfl rfl rfl rfl rfl rfl ?_
                refine p_pure htab rfl rfl rfl rfl ?_
                refine ops_nil ?_
                refine then_normal ?_
                refine wpD_ret ?_
                refine ret1 (.inl rfl) rfl ?_
                first | rfl | (exfalso; simp_all; done)
            · skip
              refine p_skip rfl rfl rfl ?_
              refine p_skip rfl rfl rfl ?_
              refine p_skip rfl rfl rfl ?_
              refine p_skip rfl rfl rfl ?_
              refine p_pickF rfl rfl rfl rfl rfl rfl ?_
              refine p_pure htab rfl rfl rfl rfl ?_
              refine p_skip rfl rfl rfl ?_
              refine p_skip rfl rfl rfl ?_
              refine p_skip rfl rfl rfl ?_
              refine p_skip rfl rfl rfl ?_
              refine p_skip rfl rfl rfl ?_
              refine p_skip rfl rfl rfl ?_
              refine p_skip rfl rfl rfl ?_
              refine p_skip rfl rfl rfl ?_
              refine p_skip rfl rfl rfl ?_
              refine p_pickF rfl rfl rfl rfl rfl rfl ?_
              refine p_pure htab rfl rfl rfl rfl ?_
              refine p_skip rfl rfl rfl ?_
              refine p_pickF rfl rfl rfl rfl rfl rfl ?_
              refine p_pure htab rfl rfl rfl rfl ?_
              refine ops_nil ?_
              refine then_normal ?_
              refine wpD_ret ?_
              refine ret1 (.inl rfl) rfl ?_
              first | rfl | (exfalso; simp_all; done)
          · skip
            refine p_skip rfl rfl rfl ?_
            refine p_skip rfl rfl rfl ?_
            refine p_skip rfl rfl rfl ?_
            refine p_pickF rfl rfl rfl rfl rfl rfl ?_
            refine p_pure htab rfl rfl rfl rfl ?_
            refine p_skip rfl rfl rfl ?_
            refine p_skip rfl rfl rfl ?_
            refine p_skip rfl rfl rfl ?_
            refine p_skip rfl rfl rfl ?_
            refine p_pickF rfl rfl rfl rfl rfl rfl ?_
            refine p_pure htab rfl rfl rfl rfl ?_
            refine p_skip rfl rfl rfl ?_
            refine p_skip rfl rfl rfl ?_
            refine p_skip rfl rfl rfl ?_
            refine p_skip rfl rfl rfl ?_
            refine p_skip rfl rfl rfl ?_
            refine p_skip rfl rfl rfl ?_
            refine p_skip rfl rfl rfl ?_
            refine p_skip rfl rfl rfl ?_
            refine p_skip rfl rfl rfl ?_
            refine p_pickF rfl rfl rfl rfl rfl rfl ?_
            refine p_pure htab rfl rfl rfl rfl ?_
            refine p_skip rfl rfl rfl ?_
            refine p_pickF rfl rfl rfl rfl rfl rfl ?_
            refine p_pure htab rfl rfl rfl rfl ?_
            refine ops_nil ?_
            refine then_normal ?_
            refine wpD_ret ?_
            refine ret1 (.inl rfl) rfl ?_
            first | rfl | (exfalso; simp_all; done)
        · skip
          refine p_skip rfl rfl rfl ?_
          refine p_skip rfl rfl rfl ?_
          refine p_pickF rfl rfl rfl rfl rfl rfl ?_
          refine p_pure htab rfl rfl rfl rfl ?_
          refine p_skip rfl rfl rfl ?_
          refine p_skip rfl rfl rfl ?_
          refine p_skip rfl rfl rfl ?_
          refine p_pickF rfl rfl rfl rfl rfl rfl ?_
          refine p_pure htab rfl rfl rfl rfl ?_
          refine p_skip rfl rfl rfl ?_
          refine p_skip rfl rfl rfl ?_
          refine p_skip rfl rfl rfl ?_
          refine p_skip rfl rfl rfl ?_
          refine p_pickF rfl rfl rfl rfl rfl rfl ?_
          refine p_pure htab rfl rfl rfl rfl ?_
          refine p_skip rfl rfl rfl ?_
          refine p_skip rfl rfl rfl ?_
          refine p_skip rfl rfl rfl ?_
          refine p_skip rfl rfl rfl ?_
          refine p_skip rfl rfl rfl ?_
          refine p_skip rfl rfl rfl ?_
          refine p_skip rfl rfl rfl ?_
          refine p_skip rfl rfl rfl ?_
          refine p_skip rfl rfl rfl ?_
          refine p_pickF rfl rfl rfl rfl rfl rfl ?_
          refine p_pure htab rfl rfl rfl rfl ?_
          refine p_skip rfl rfl rfl ?_
          refine p_pickF rfl rfl rfl rfl rfl rfl ?_
          refine p_pure htab rfl rfl rfl rfl ?_
          refine ops_nil ?_
          refine then_normal ?_
          refine wpD_ret ?_
          refine ret1 (.inl rfl) rfl ?_
          first | rfl | (exfalso; simp_all; done)
theorem parts_some (a b q r p : Int) (ka : I64 a) (kb : I64 b) (kq : I64 q) (kr : I64 r) (kp : I64 p) (h8 : doI 8 a b = (q, 0)) (h9 : doI 9 a b = (r, 0)) (h7 : doI 7 q b = (p, 0)) (hs : doI 10 p r = (a, 0)) (hz : (b == 0) = false)
    (hc1 : r < 0 → b < 0 → cmpI (-r) (-b) < 0) (hc2 : r < 0 → 0 ≤ b → cmpI (-r) b < 0) (hc3 : 0 ≤ r → b < 0 → cmpI r (-b) < 0) (hc4 : 0 ≤ r → 0 ≤ b → cmpI r b < 0) (hg1 : ¬ r = 0 → r < 0 → a < 0) (hg2 : ¬ r = 0 → 0 ≤ r → 0 ≤ a) :
    CallsD Try.prog 4 [.v (.int .i64 (a)), .v (.int .i64 (b))] [] [] (fun d h k => d = .v (.bool true) ∧ h = [] ∧ k = []) := by
  unfold I64 at ka kb kq kr kp
  refine enter htab Try.func4 rfl rfl rfl rfl rfl (fun C => ?_)
  refine wpD_seq ?_
  refine wpD_region ?_
  refine p_pure htab rfl rfl rfl rfl ?_
  refine ops_nil ?_
  refine then_normal ?_
  refine wpD_seq ?_
  refine wpD_region ?_
  refine p_pure htab rfl rfl rfl rfl ?_
  refine p_pure htab rfl rfl rfl rfl ?_
  refine p_call0 (wdoE 8 a b q 0 ka kb h8) rfl rfl rfl rfl rfl (WkL.refl _) ?_
  rintro _ rfl
  refine p_pure htab rfl rfl rfl rfl ?_
  refine p_pure htab rfl rfl rfl rfl ?_
  refine p_pure htab rfl rfl rfl rfl ?_
  refine p_pure htab rfl rfl rfl rfl ?_
  refine p_pure htab rfl rfl rfl rfl ?_
  refine ops_nil ?_
  refine then_normal ?_
  refine wpD_seq ?_
  refine wpD_region ?_
  refine p_pure htab rfl rfl rfl rfl ?_
  refine p_pure htab rfl rfl rfl rfl ?_
  refine p_call0 (wdoE 9 a b r 0 ka kb h9) rfl rfl rfl rfl rfl (WkL.refl _) ?_
  rintro _ rfl
  refine p_pure htab rfl rfl rfl rfl ?_
  refine p_pure htab rfl rfl rfl rfl ?_
  refine p_pure htab rfl rfl rfl rfl ?_
  refine p_pure htab rfl rfl rfl rfl ?_
  refine p_pure htab rfl rfl rfl rfl ?_
  refine ops_nil ?_
  refine then_normal ?_
  refine wpD_seq ?_
  refine wpD_seq ?_
  refine wpD_region ?_
  refine p_pure htab rfl rfl rfl rfl ?_
  refine p_pure htab rfl rfl rfl rfl ?_
  refine ops_nil ?_
  refine then_normal ?_
  refine wpD_cond rfl (fun hc1 => ?_) (fun hc1 => ?_)
  · skip
    refine wpD_seq ?_
    refine wpD_region ?_
    refine p_pure htab rfl rfl rfl rfl ?_
    refine p_pure htab rfl rfl rfl rfl ?_
    refine p_pure htab rfl rfl rfl rfl ?_
    refine p_split (i := 31) rfl (fun hg2 => ?_) (fun hg2 => ?_)
    · skip
      refine p_pure htab rfl rfl rfl rfl ?_
      refine p_pure htab rfl rfl rfl rfl ?_
      refine p_pickT rfl rfl rfl rfl rfl rfl ?_
      refine p_pure htab rfl rfl rfl rfl ?_
      refine p_split (i := 35) rfl (fun hg3 => ?_) (fun hg3 => ?_)
      · skip
        refine p_call0 (livesE) rfl rfl rfl rfl rfl (WkL.refl _) ?_
        rintro _ rfl
        refine p_pickT rfl rfl rfl rfl rfl rfl ?_
        refine p_pure htab rfl rfl rfl rfl ?_
        refine ops_nil ?_
        refine then_normal ?_
        refine wpD_ret ?_
        refine then_ret ?_
        refine ret1 (.inl rfl) rfl ?_
        first | rfl | (exfalso; simp_all; done) | (exfalso; simp_all; omega)
      · skip
        refine p_skip rfl rfl rfl ?_
        refine p_pickF rfl rfl rfl rfl rfl rfl ?_
        refine p_pure htab rfl rfl rfl rfl ?_
        refine ops_nil ?_
        refine then_normal ?_
        refine wpD_ret ?_
        refine then_ret ?_
        refine ret1 (.inl rfl) rfl ?_
        first | rfl | (exfalso; simp_all; done) | (exfalso; simp_all; omega)
    · skip
      refine p_skip rfl rfl rfl ?_
      refine p_skip rfl rfl rfl ?_
      refine p_pickF rfl rfl rfl rfl rfl rfl ?_
      refine p_pure htab rfl rfl rfl rfl ?_
      refine p_skip rfl rfl rfl ?_
      refine p_pickF rfl rfl rfl rfl rfl rfl ?_
      refine p_pure htab rfl rfl rfl rfl ?_
      refine ops_nil ?_
      refine then_normal ?_
      refine wpD_ret ?_
      refine then_ret ?_
      refine ret1 (.inl rfl) rfl ?_
      first | rfl | (exfalso; simp_all; done) | (exfalso; simp_all; omega)
  · skip
    refine wpD_skip ?_
    refine then_normal ?_
    refine wpD_seq ?_
    refine wpD_region ?_
    refine p_pure htab rfl rfl rfl rfl ?_
    refine p_pure htab rfl rfl rfl rfl ?_
    refine p_call0 (wdoE 7 q b p 0 kq kb h7) rfl rfl rfl rfl rfl (WkL.refl _) ?_
    rintro _ rfl
    refine p_pure htab rfl rfl rfl rfl ?_
    refine p_pure htab rfl rfl rfl rfl ?_
    refine p_pure htab rfl rfl rfl rfl ?_
    refine p_pure htab rfl rfl rfl rfl ?_
    refine p_pure htab rfl rfl rfl rfl ?_
    refine ops_nil ?_
    refine then_normal ?_
    refine wpD_seq ?_
    refine wpD_region ?_
    refine p_pure htab rfl rfl rfl rfl ?_
    refine p_pure htab rfl rfl rfl rfl ?_
    refine p_call0 (wdoE 10 p r a 0 kp kr hs) rfl rfl rfl rfl rfl (WkL.refl _) ?_
    rintro _ rfl
    refine p_pure htab rfl rfl rfl rfl ?_
    refine p_pure htab rfl rfl rfl rfl ?_
    refine p_pure htab rfl rfl rfl rfl ?_
    refine p_pure htab rfl rfl rfl rfl ?_
    refine p_pure htab rfl rfl rfl rfl ?_
    refine ops_nil ?_
    refine then_normal ?_
    refine wpD_seq ?_
    refine wpD_region ?_
    refine p_pure htab rfl rfl rfl rfl ?_
    refine p_call0 (rofE b kb) rfl rfl rfl rfl rfl (WkL.refl _) ?_
    rintro _ rfl
    refine p_alloc htab rfl rfl rfl rfl rfl rfl rfl (fun b4 => ?_)
    refine p_store 0 htab rfl rfl rfl rfl rfl rfl rfl rfl rfl rfl rfl rfl ?_
    refine ops_nil ?_
    refine then_normal ?_
    refine wpD_seq ?_
    refine wpD_seq ?_
    refine wpD_region ?_
    refine p_pure htab rfl rfl rfl rfl ?_
    refine p_pure htab rfl rfl rfl rfl ?_
    refine ops_nil ?_
    refine then_normal ?_
    refine wpD_cond rfl (fun hc5 => ?_) (fun hc5 => ?_)
    · skip
      refine wpD_region ?_
      refine p_load 0 htab rfl rfl rfl rfl rfl rfl rfl rfl ?_
      refine p_call0 (rnegE _) rfl rfl rfl rfl rfl (WkL.refl _) ?_
      rintro _ rfl
      refine p_store 0 htab rfl rfl rfl rfl rfl rfl rfl rfl rfl rfl rfl rfl ?_
      refine ops_nil ?_
      refine then_normal ?_
      refine wpD_seq ?_
      refine wpD_region ?_
      refine p_pure htab rfl rfl rfl rfl ?_
      refine p_call0 (rofE r kr) rfl rfl rfl rfl rfl (WkL.refl _) ?_
      rintro _ rfl
      refine p_alloc htab rfl rfl rfl rfl rfl rfl rfl (fun b6 => ?_)
      refine p_store 1 htab rfl rfl rfl rfl rfl rfl rfl rfl rfl rfl rfl rfl ?_
      refine ops_nil ?_
      refine then_normal ?_
      refine wpD_seq ?_
      refine wpD_seq ?_
      refine wpD_region ?_
      refine p_pure htab rfl rfl rfl rfl ?_
      refine p_pure htab rfl rfl rfl rfl ?_
      refine ops_nil ?_
      refine then_normal ?_
      refine wpD_cond rfl (fun hc7 => ?_) (fun hc7 => ?_)
      · skip
        refine wpD_region ?_
        refine p_load 1 htab rfl rfl rfl rfl rfl rfl rfl rfl ?_
        refine p_call0 (rnegE _) rfl rfl rfl rfl rfl (WkL.refl _) ?_
        rintro _ rfl
        refine p_store 1 htab rfl rfl rfl rfl rfl rfl rfl rfl rfl rfl rfl rfl ?_
        refine ops_nil ?_
        refine then_normal ?_
        refine wpD_seq ?_
        refine wpD_region ?_
        refine p_pure htab rfl rfl rfl rfl ?_
        refine p_pure htab rfl rfl rfl rfl ?_
        refine p_pure htab rfl rfl rfl rfl ?_
        refine p_split (i := 64) rfl (fun hg8 => ?_) (fun hg8 => ?_)
        · skip
          refine p_pure htab rfl rfl rfl rfl ?_
          refine p_pure htab rfl rfl rfl rfl ?_
          refine p_pickT rfl rfl rfl rfl rfl rfl ?_
          refine p_pure htab rfl rfl rfl rfl ?_
          refine p_split (i := 68) rfl (fun hg9 => ?_) (fun hg9 => ?_)
          · skip
            refine p_pure htab rfl rfl rfl rfl ?_
            refine p_pure htab rfl rfl rfl rfl ?_
            refine p_pure htab rfl rfl rfl rfl ?_
            refine p_pickT rfl rfl rfl rfl rfl rfl ?_
            refine p_pure htab rfl rfl rfl rfl ?_
            refine p_split (i := 73) rfl (fun hg10 => ?_) (fun hg10 => ?_)
            · skip
              refine p_load 1 htab rfl rfl rfl rfl rfl rfl rfl rfl ?_
              refine p_load 0 htab rfl rfl rfl rfl rfl rfl rfl rfl ?_
              refine p_call0 (rcmpE _ _ (by omega) (by omega)) rfl rfl rfl rfl rfl (WkL.refl _) ?_
              rintro _ rfl
              refine p_pure htab rfl rfl rfl rfl ?_
              refine p_pickT rfl rfl rfl rfl rfl rfl ?_
              refine p_pure htab rfl rfl rfl rfl ?_
              refine p_split (i := 79) rfl (fun hg11 => ?_) (fun hg11 => ?_)
              · skip
                refine p_pure htab rfl rfl rfl rfl ?_
                refine p_pure htab rfl rfl rfl rfl ?_
                refine p_pure htab rfl rfl rfl rfl ?_
                refine p_split (i := 82) rfl (fun hg12 => ?_) (fun hg12 => ?_)
                · skip
                  refine p_skip rfl rfl rfl ?_
                  refine p_skip rfl rfl rfl ?_
                  refine p_skip rfl rfl rfl ?_
                  refine p_skip rfl rfl rfl ?_
                  refine p_skip rfl rfl rfl ?_
                  refine p_pickT rfl rfl rfl rfl rfl rfl ?_
                  refine p_pickT rfl rfl rfl rfl rfl rfl ?_
                  refine p_pure htab rfl rfl rfl rfl ?_
                  refine p_call0 (livesE) rfl rfl rfl rfl rfl (WkL.refl _) ?_
                  rintro _ rfl
                  refine p_pickT rfl rfl rfl rfl rfl rfl ?_
                  refine p_pure htab rfl rfl rfl rfl ?_
                  refine ops_nil ?_
                  refine then_normal ?_
                  refine wpD_ret ?_
                  refine ret1 (.inl rfl) rfl ?_
                  first | rfl | (exfalso; simp_all; done) | (exfalso; simp_all; omega)
                · skip
                  refine p_pure htab rfl rfl rfl rfl ?_
                  refine p_pure htab rfl rfl rfl rfl ?_
                  refine p_pure htab rfl rfl rfl rfl ?_
                  refine p_pure htab rfl rfl rfl rfl ?_
                  refine p_pure htab rfl rfl rfl rfl ?_
                  refine p_pickF rfl rfl rfl rfl rfl rfl ?_
                  refine p_pickT rfl rfl rfl rfl rfl rfl ?_
                  refine p_pure htab rfl rfl rfl rfl ?_
                  refine p_split (i := 90) rfl (fun hg13 => ?_) (fun hg13 => ?_)
                  · skip
                    refine p_call0 (livesE) rfl rfl rfl rfl rfl (WkL.refl _) ?_
                    rintro _ rfl
                    refine p_pickT rfl rfl rfl rfl rfl rfl ?_
                    refine p_pure htab rfl rfl rfl rfl ?_
                    refine ops_nil ?_
                    refine then_normal ?_
                    refine wpD_ret ?_
                    refine ret1 (.inl rfl) rfl ?_
                    first | rfl | (exfalso; simp_all; done) | (exfalso; simp_all; omega)
                  · skip
                    refine p_skip rfl rfl rfl ?_
                    refine p_pickF rfl rfl rfl rfl rfl rfl ?_
                    refine p_pure htab rfl rfl rfl rfl ?_
                    refine ops_nil ?_
                    refine then_normal ?_
                    refine wpD_ret ?_
                    refine ret1 (.inl rfl) rfl ?_
                    first | rfl | (exfalso; simp_all; done) | (exfalso; simp_all; omega)
              · skip
                refine p_skip rfl rfl rfl ?_
                refine p_skip rfl rfl rfl ?_
                refine p_skip rfl rfl rfl ?_
                refine p_skip rfl rfl rfl ?_
                refine p_skip rfl rfl rfl ?_
                refine p_skip rfl rfl rfl ?_
                refine p_skip rfl rfl rfl ?_
                refine p_skip rfl rfl rfl ?_
                refine p_skip rfl rfl rfl ?_
                refine p_pickF rfl rfl rfl rfl rfl rfl ?_
                refine p_pure htab rfl rfl rfl rfl ?_
                refine p_skip rfl rfl rfl ?_
                refine p_pickF rfl rfl rfl rfl rfl rfl ?_
                refine p_pure htab rfl rfl rfl rfl ?_
                refine ops_nil ?_
                refine then_normal ?_
                refine wpD_ret ?_
                refine ret1 (.inl rfl) rfl ?_
                first | rfl | (exfalso; simp_all; done) | (exfalso; simp_all; omega)
            · skip
              refine p_skip rfl rfl rfl ?_
              refine p_skip rfl rfl rfl ?_
              refine p_skip rfl rfl rfl ?_
              refine p_skip rfl rfl rfl ?_
              refine p_pickF rfl rfl rfl rfl rfl rfl ?_
              refine p_pure htab rfl rfl rfl rfl ?_
              refine p_skip rfl rfl rfl ?_
              refine p_skip rfl rfl rfl ?_
              refine p_skip rfl rfl rfl ?_
              refine p_skip rfl rfl rfl ?_
              refine p_skip rfl rfl rfl ?_
              refine p_skip rfl rfl rfl ?_
              refine p_skip rfl rfl rfl ?_
              refine p_skip rfl rfl rfl ?_
              refine p_skip rfl rfl rfl ?_
              refine p_pickF rfl rfl rfl rfl rfl rfl ?_
              refine p_pure htab rfl rfl rfl rfl ?_
              refine p_skip rfl rfl rfl ?_
              refine p_pickF rfl rfl rfl rfl rfl rfl ?_
              refine p_pure htab rfl rfl rfl rfl ?_
              refine ops_nil ?_
              refine then_normal ?_
              refine wpD_ret ?_
              refine ret1 (.inl rfl) rfl ?_
              first | rfl | (exfalso; simp_all; done) | (exfalso; simp_all; omega)
          · skip
            refine p_skip rfl rfl rfl ?_
            refine p_skip rfl rfl rfl ?_
            refine p_skip rfl rfl rfl ?_
            refine p_pickF rfl rfl rfl rfl rfl rfl ?_
            refine p_pure htab rfl rfl rfl rfl ?_
            refine p_skip rfl rfl rfl ?_
            refine p_skip rfl rfl rfl ?_
            refine p_skip rfl rfl rfl ?_
            refine p_skip rfl rfl rfl ?_
            refine p_pickF rfl rfl rfl rfl rfl rfl ?_
            refine p_pure htab rfl rfl rfl rfl ?_
            refine p_skip rfl rfl rfl ?_
            refine p_skip rfl rfl rfl ?_
            refine p_skip rfl rfl rfl ?_
            refine p_skip rfl rfl rfl ?_
            refine p_skip rfl rfl rfl ?_
            refine p_skip rfl rfl rfl ?_
            refine p_skip rfl rfl rfl ?_
            refine p_skip rfl rfl rfl ?_
            refine p_skip rfl rfl rfl ?_
            refine p_pickF rfl rfl rfl rfl rfl rfl ?_
            refine p_pure htab rfl rfl rfl rfl ?_
            refine p_skip rfl rfl rfl ?_
            refine p_pickF rfl rfl rfl rfl rfl rfl ?_
            refine p_pure htab rfl rfl rfl rfl ?_
            refine ops_nil ?_
            refine then_normal ?_
            refine wpD_ret ?_
            refine ret1 (.inl rfl) rfl ?_
            first | rfl | (exfalso; simp_all; done) | (exfalso; simp_all; omega)
        · skip
          refine p_skip rfl rfl rfl ?_
          refine p_skip rfl rfl rfl ?_
          refine p_pickF rfl rfl rfl rfl rfl rfl ?_
          refine p_pure htab rfl rfl rfl rfl ?_
          refine p_skip rfl rfl rfl ?_
          refine p_skip rfl rfl rfl ?_
          refine p_skip rfl rfl rfl ?_
          refine p_pickF rfl rfl rfl rfl rfl rfl ?_
          refine p_pure htab rfl rfl rfl rfl ?_
          refine p_skip rfl rfl rfl ?_
          refine p_skip rfl rfl rfl ?_
          refine p_skip rfl rfl rfl ?_
          refine p_skip rfl rfl rfl ?_
          refine p_pickF rfl rfl rfl rfl rfl rfl ?_
          refine p_pure htab rfl rfl rfl rfl ?_
          refine p_skip rfl rfl rfl ?_
          refine p_skip rfl rfl rfl ?_
          refine p_skip rfl rfl rfl ?_
          refine p_skip rfl rfl rfl ?_
          refine p_skip rfl rfl rfl ?_
          refine p_skip rfl rfl rfl ?_
          refine p_skip rfl rfl rfl ?_
          refine p_skip rfl rfl rfl ?_
          refine p_skip rfl rfl rfl ?_
          refine p_pickF rfl rfl rfl rfl rfl rfl ?_
          refine p_pure htab rfl rfl rfl rfl ?_
          refine p_skip rfl rfl rfl ?_
          refine p_pickF rfl rfl rfl rfl rfl rfl ?_
          refine p_pure htab rfl rfl rfl rfl ?_
          refine ops_nil ?_
          refine then_normal ?_
          refine wpD_ret ?_
          refine ret1 (.inl rfl) rfl ?_
          first | rfl | (exfalso; simp_all; done) | (exfalso; simp_all; omega)
      · skip
        refine wpD_skip ?_
        refine then_normal ?_
        refine wpD_seq ?_
        refine wpD_region ?_
        refine p_pure htab rfl rfl rfl rfl ?_
        refine p_pure htab rfl rfl rfl rfl ?_
        refine p_pure htab rfl rfl rfl rfl ?_
        refine p_split (i := 64) rfl (fun hg14 => ?_) (fun hg14 => ?_)
        · skip
          refine p_pure htab rfl rfl rfl rfl ?_
          refine p_pure htab rfl rfl rfl rfl ?_
          refine p_pickT rfl rfl rfl rfl rfl rfl ?_
          refine p_pure htab rfl rfl rfl rfl ?_
          refine p_split (i := 68) rfl (fun hg15 => ?_) (fun hg15 => ?_)
          · skip
            refine p_pure htab rfl rfl rfl rfl ?_
            refine p_pure htab rfl rfl rfl rfl ?_
            refine p_pure htab rfl rfl rfl rfl ?_
            refine p_pickT rfl rfl rfl rfl rfl rfl ?_
            refine p_pure htab rfl rfl rfl rfl ?_
            refine p_split (i := 73) rfl (fun hg16 => ?_) (fun hg16 => ?_)
            · skip
              refine p_load 1 htab rfl rfl rfl rfl rfl rfl rfl rfl ?_
              refine p_load 0 htab rfl rfl rfl rfl rfl rfl rfl rfl ?_
              refine p_call0 (rcmpE _ _ (by omega) (by omega)) rfl rfl rfl rfl rfl (WkL.refl _) ?_
              rintro _ rfl
              refine p_pure htab rfl rfl rfl rfl ?_
              refine p_pickT rfl rfl rfl rfl rfl rfl ?_
              refine p_pure htab rfl rfl rfl rfl ?_
              refine p_split (i := 79) rfl (fun hg17 => ?_) (fun hg17 => ?_)
              · skip
                refine p_pure htab rfl rfl rfl rfl ?_
                refine p_pure htab rfl rfl rfl rfl ?_
                refine p_pure htab rfl rfl rfl rfl ?_
                refine p_split (i := 82) rfl (fun hg18 => ?_) (fun hg18 => ?_)
                · skip
                  refine p_skip rfl rfl rfl ?_
                  refine p_skip rfl rfl rfl ?_
                  refine p_skip rfl rfl rfl ?_
                  refine p_skip rfl rfl rfl ?_
                  refine p_skip rfl rfl rfl ?_
                  refine p_pickT rfl rfl rfl rfl rfl rfl ?_
                  refine p_pickT rfl rfl rfl rfl rfl rfl ?_
                  refine p_pure htab rfl rfl rfl rfl ?_
                  refine p_call0 (livesE) rfl rfl rfl rfl rfl (WkL.refl _) ?_
                  rintro _ rfl
                  refine p_pickT rfl rfl rfl rfl rfl rfl ?_
                  refine p_pure htab rfl rfl rfl rfl ?_
                  refine ops_nil ?_
                  refine then_normal ?_
                  refine wpD_ret ?_
                  refine ret1 (.inl rfl) rfl ?_
                  first | rfl | (exfalso; simp_all; done) | (exfalso; simp_all; omega)
                · skip
                  refine p_pure htab rfl rfl rfl rfl ?_
                  refine p_pure htab rfl rfl rfl rfl ?_
                  refine p_pure htab rfl rfl rfl rfl ?_
                  refine p_pure htab rfl rfl rfl rfl ?_
                  refine p_pure htab rfl rfl rfl rfl ?_
                  refine p_pickF rfl rfl rfl rfl rfl rfl ?_
                  refine p_pickT rfl rfl rfl rfl rfl rfl ?_
                  refine p_pure htab rfl rfl rfl rfl ?_
                  refine p_split (i := 90) rfl (fun hg19 => ?_) (fun hg19 => ?_)
                  · skip
                    refine p_call0 (livesE) rfl rfl rfl rfl rfl (WkL.refl _) ?_
                    rintro _ rfl
                    refine p_pickT rfl rfl rfl rfl rfl rfl ?_
                    refine p_pure htab rfl rfl rfl rfl ?_
                    refine ops_nil ?_
                    refine then_normal ?_
                    refine wpD_ret ?_
                    refine ret1 (.inl rfl) rfl ?_
                    first | rfl | (exfalso; simp_all; done) | (exfalso; simp_all; omega)
                  · skip
                    refine p_skip rfl rfl rfl ?_
                    refine p_pickF rfl rfl rfl rfl rfl rfl ?_
                    refine p_pure htab rfl rfl rfl rfl ?_
                    refine ops_nil ?_
                    refine then_normal ?_
                    refine wpD_ret ?_
                    refine ret1 (.inl rfl) rfl ?_
                    first | rfl | (exfalso; simp_all; done) | (exfalso; simp_all; omega)
              · skip
                refine p_skip rfl rfl rfl ?_
                refine p_skip rfl rfl rfl ?_
                refine p_skip rfl rfl rfl ?_
                refine p_skip rfl rfl rfl ?_
                refine p_skip rfl rfl rfl ?_
                refine p_skip rfl rfl rfl ?_
                refine p_skip rfl rfl rfl ?_
                refine p_skip rfl rfl rfl ?_
                refine p_skip rfl rfl rfl ?_
                refine p_pickF rfl rfl rfl rfl rfl rfl ?_
                refine p_pure htab rfl rfl rfl rfl ?_
                refine p_skip rfl rfl rfl ?_
                refine p_pickF rfl rfl rfl rfl rfl rfl ?_
                refine p_pure htab rfl rfl rfl rfl ?_
                refine ops_nil ?_
                refine then_normal ?_
                refine wpD_ret ?_
                refine ret1 (.inl rfl) rfl ?_
                first | rfl | (exfalso; simp_all; done) | (exfalso; simp_all; omega)
            · skip
              refine p_skip rfl rfl rfl ?_
              refine p_skip rfl rfl rfl ?_
              refine p_skip rfl rfl rfl ?_
              refine p_skip rfl rfl rfl ?_
              refine p_pickF rfl rfl rfl rfl rfl rfl ?_
              refine p_pure htab rfl rfl rfl rfl ?_
              refine p_skip rfl rfl rfl ?_
              refine p_skip rfl rfl rfl ?_
              refine p_skip rfl rfl rfl ?_
              refine p_skip rfl rfl rfl ?_
              refine p_skip rfl rfl rfl ?_
              refine p_skip rfl rfl rfl ?_
              refine p_skip rfl rfl rfl ?_
              refine p_skip rfl rfl rfl ?_
              refine p_skip rfl rfl rfl ?_
              refine p_pickF rfl rfl rfl rfl rfl rfl ?_
              refine p_pure htab rfl rfl rfl rfl ?_
              refine p_skip rfl rfl rfl ?_
              refine p_pickF rfl rfl rfl rfl rfl rfl ?_
              refine p_pure htab rfl rfl rfl rfl ?_
              refine ops_nil ?_
              refine then_normal ?_
              refine wpD_ret ?_
              refine ret1 (.inl rfl) rfl ?_
              first | rfl | (exfalso; simp_all; done) | (exfalso; simp_all; omega)
          · skip
            refine p_skip rfl rfl rfl ?_
            refine p_skip rfl rfl rfl ?_
            refine p_skip rfl rfl rfl ?_
            refine p_pickF rfl rfl rfl rfl rfl rfl ?_
            refine p_pure htab rfl rfl rfl rfl ?_
            refine p_skip rfl rfl rfl ?_
            refine p_skip rfl rfl rfl ?_
            refine p_skip rfl rfl rfl ?_
            refine p_skip rfl rfl rfl ?_
            refine p_pickF rfl rfl rfl rfl rfl rfl ?_
            refine p_pure htab rfl rfl rfl rfl ?_
            refine p_skip rfl rfl rfl ?_
            refine p_skip rfl rfl rfl ?_
            refine p_skip rfl rfl rfl ?_
            refine p_skip rfl rfl rfl ?_
            refine p_skip rfl rfl rfl ?_
            refine p_skip rfl rfl rfl ?_
            refine p_skip rfl rfl rfl ?_
            refine p_skip rfl rfl rfl ?_
            refine p_skip rfl rfl rfl ?_
            refine p_pickF rfl rfl rfl rfl rfl rfl ?_
            refine p_pure htab rfl rfl rfl rfl ?_
            refine p_skip rfl rfl rfl ?_
            refine p_pickF rfl rfl rfl rfl rfl rfl ?_
            refine p_pure htab rfl rfl rfl rfl ?_
            refine ops_nil ?_
            refine then_normal ?_
            refine wpD_ret ?_
            refine ret1 (.inl rfl) rfl ?_
            first | rfl | (exfalso; simp_all; done) | (exfalso; simp_all; omega)
        · skip
          refine p_skip rfl rfl rfl ?_
          refine p_skip rfl rfl rfl ?_
          refine p_pickF rfl rfl rfl rfl rfl rfl ?_
          refine p_pure htab rfl rfl rfl rfl ?_
          refine p_skip rfl rfl rfl ?_
          refine p_skip rfl rfl rfl ?_
          refine p_skip rfl rfl rfl ?_
          refine p_pickF rfl rfl rfl rfl rfl rfl ?_
          refine p_pure htab rfl rfl rfl rfl ?_
          refine p_skip rfl rfl rfl ?_
          refine p_skip rfl rfl rfl ?_
          refine p_skip rfl rfl rfl ?_
          refine p_skip rfl rfl rfl ?_
          refine p_pickF rfl rfl rfl rfl rfl rfl ?_
          refine p_pure htab rfl rfl rfl rfl ?_
          refine p_skip rfl rfl rfl ?_
          refine p_skip rfl rfl rfl ?_
          refine p_skip rfl rfl rfl ?_
          refine p_skip rfl rfl rfl ?_
          refine p_skip rfl rfl rfl ?_
          refine p_skip rfl rfl rfl ?_
          refine p_skip rfl rfl rfl ?_
          refine p_skip rfl rfl rfl ?_
          refine p_skip rfl rfl rfl ?_
          refine p_pickF rfl rfl rfl rfl rfl rfl ?_
          refine p_pure htab rfl rfl rfl rfl ?_
          refine p_skip rfl rfl rfl ?_
          refine p_pickF rfl rfl rfl rfl rfl rfl ?_
          refine p_pure htab rfl rfl rfl rfl ?_
          refine ops_nil ?_
          refine then_normal ?_
          refine wpD_ret ?_
          refine ret1 (.inl rfl) rfl ?_
          first | rfl | (exfalso; simp_all; done) | (exfalso; simp_all; omega)
    · skip
      refine wpD_skip ?_
      refine then_normal ?_
      refine wpD_seq ?_
      refine wpD_region ?_
      refine p_pure htab rfl rfl rfl rfl ?_
      refine p_call0 (rofE r kr) rfl rfl rfl rfl rfl (WkL.refl _) ?_
      rintro _ rfl
      refine p_alloc htab rfl rfl rfl rfl rfl rfl rfl (fun b20 => ?_)
      refine p_store 1 htab rfl rfl rfl rfl rfl rfl rfl rfl rfl rfl rfl rfl ?_
      refine ops_nil ?_
      refine then_normal ?_
      refine wpD_seq ?_
      refine wpD_seq ?_
      refine wpD_region ?_
      refine p_pure htab rfl rfl rfl rfl ?_
      refine p_pure htab rfl rfl rfl rfl ?_
      refine ops_nil ?_
      refine then_normal ?_
      refine wpD_cond rfl (fun hc21 => ?_) (fun hc21 => ?_)
      · skip
        refine wpD_region ?_
        refine p_load 1 htab rfl rfl rfl rfl rfl rfl rfl rfl ?_
        refine p_call0 (rnegE _) rfl rfl rfl rfl rfl (WkL.refl _) ?_
        rintro _ rfl
        refine p_store 1 htab rfl rfl rfl rfl rfl rfl rfl rfl rfl rfl rfl rfl ?_
        refine ops_nil ?_
        refine then_normal ?_
        refine wpD_seq ?_
        refine wpD_region ?_
        refine p_pure htab rfl rfl rfl rfl ?_
        refine p_pure htab rfl rfl rfl rfl ?_
        refine p_pure htab rfl rfl rfl rfl ?_
        refine p_split (i := 64) rfl (fun hg22 => ?_) (fun hg22 => ?_)
        · skip
          refine p_pure htab rfl rfl rfl rfl ?_
          refine p_pure htab rfl rfl rfl rfl ?_
          refine p_pickT rfl rfl rfl rfl rfl rfl ?_
          refine p_pure htab rfl rfl rfl rfl ?_
          refine p_split (i := 68) rfl (fun hg23 => ?_) (fun hg23 => ?_)
          · skip
            refine p_pure htab rfl rfl rfl rfl ?_
            refine p_pure htab rfl rfl rfl rfl ?_
            refine p_pure htab rfl rfl rfl rfl ?_
            refine p_pickT rfl rfl rfl rfl rfl rfl ?_
            refine p_pure htab rfl rfl rfl rfl ?_
            refine p_split (i := 73) rfl (fun hg24 => ?_) (fun hg24 => ?_)
            · skip
              refine p_load 1 htab rfl rfl rfl rfl rfl rfl rfl rfl ?_
              refine p_load 0 htab rfl rfl rfl rfl rfl rfl rfl rfl ?_
              refine p_call0 (rcmpE _ _ (by omega) (by omega)) rfl rfl rfl rfl rfl (WkL.refl _) ?_
              rintro _ rfl
              refine p_pure htab rfl rfl rfl rfl ?_
              refine p_pickT rfl rfl rfl rfl rfl rfl ?_
              refine p_pure htab rfl rfl rfl rfl ?_
              refine p_split (i := 79) rfl (fun hg25 => ?_) (fun hg25 => ?_)
              · skip
                refine p_pure htab rfl rfl rfl rfl ?_
                refine p_pure htab rfl rfl rfl rfl ?_
                refine p_pure htab rfl rfl rfl rfl ?_
                refine p_split (i := 82) rfl (fun hg26 => ?_) (fun hg26 => ?_)
                · skip
                  refine p_skip rfl rfl rfl ?_
                  refine p_skip rfl rfl rfl ?_
                  refine p_skip rfl rfl rfl ?_
                  refine p_skip rfl rfl rfl ?_
                  refine p_skip rfl rfl rfl ?_
                  refine p_pickT rfl rfl rfl rfl rfl rfl ?_
                  refine p_pickT rfl rfl rfl rfl rfl rfl ?_
                  refine p_pure htab rfl rfl rfl rfl ?_
                  refine p_call0 (livesE) rfl rfl rfl rfl rfl (WkL.refl _) ?_
                  rintro _ rfl
                  refine p_pickT rfl rfl rfl rfl rfl rfl ?_
                  refine p_pure htab rfl rfl rfl rfl ?_
                  refine ops_nil ?_
                  refine then_normal ?_
                  refine wpD_ret ?_
                  refine ret1 (.inl rfl) rfl ?_
                  first | rfl | (exfalso; simp_all; done) | (exfalso; simp_all; omega)
                · skip
                  refine p_pure htab rfl rfl rfl rfl ?_
                  refine p_pure htab rfl rfl rfl rfl ?_
                  refine p_pure htab rfl rfl rfl rfl ?_
                  refine p_pure htab rfl rfl rfl rfl ?_
                  refine p_pure htab rfl rfl rfl rfl ?_
                  refine p_pickF rfl rfl rfl rfl rfl rfl ?_
                  refine p_pickT rfl rfl rfl rfl rfl rfl ?_
                  refine p_pure htab rfl rfl rfl rfl ?_
                  refine p_split (i := 90) rfl (fun hg27 => ?_) (fun hg27 => ?_)
                  · skip
                    refine p_call0 (livesE) rfl rfl rfl rfl rfl (WkL.refl _) ?_
                    rintro _ rfl
                    refine p_pickT rfl rfl rfl rfl rfl rfl ?_
                    refine p_pure htab rfl rfl rfl rfl ?_
                    refine ops_nil ?_
                    refine then_normal ?_
                    refine wpD_ret ?_
                    refine ret1 (.inl rfl) rfl ?_
                    first | rfl | (exfalso; simp_all; done) | (exfalso; simp_all; omega)
                  · skip
                    refine p_skip rfl rfl rfl ?_
                    refine p_pickF rfl rfl rfl rfl rfl rfl ?_
                    refine p_pure htab rfl rfl rfl rfl ?_
                    refine ops_nil ?_
                    refine then_normal ?_
                    refine wpD_ret ?_
                    refine ret1 (.inl rfl) rfl ?_
                    first | rfl | (exfalso; simp_all; done) | (exfalso; simp_all; omega)
              · skip
                refine p_skip rfl rfl rfl ?_
                refine p_skip rfl rfl rfl ?_
                refine p_skip rfl rfl rfl ?_
                refine p_skip rfl rfl rfl ?_
                refine p_skip rfl rfl rfl ?_
                refine p_skip rfl rfl rfl ?_
                refine p_skip rfl rfl rfl ?_
                refine p_skip rfl rfl rfl ?_
                refine p_skip rfl rfl rfl ?_
                refine p_pickF rfl rfl rfl rfl rfl rfl ?_
                refine p_pure htab rfl rfl rfl rfl ?_
                refine p_skip rfl rfl rfl ?_
                refine p_pickF rfl rfl rfl rfl rfl rfl ?_
                refine p_pure htab rfl rfl rfl rfl ?_
                refine ops_nil ?_
                refine then_normal ?_
                refine wpD_ret ?_
                refine ret1 (.inl rfl) rfl ?_
                first | rfl | (exfalso; simp_all; done) | (exfalso; simp_all; omega)
            · skip
              refine p_skip rfl rfl rfl ?_
              refine p_skip rfl rfl rfl ?_
              refine p_skip rfl rfl rfl ?_
              refine p_skip rfl rfl rfl ?_
              refine p_pickF rfl rfl rfl rfl rfl rfl ?_
              refine p_pure htab rfl rfl rfl rfl ?_
              refine p_skip rfl rfl rfl ?_
              refine p_skip rfl rfl rfl ?_
              refine p_skip rfl rfl rfl ?_
              refine p_skip rfl rfl rfl ?_
              refine p_skip rfl rfl rfl ?_
              refine p_skip rfl rfl rfl ?_
              refine p_skip rfl rfl rfl ?_
              refine p_skip rfl rfl rfl ?_
              refine p_skip rfl rfl rfl ?_
              refine p_pickF rfl rfl rfl rfl rfl rfl ?_
              refine p_pure htab rfl rfl rfl rfl ?_
              refine p_skip rfl rfl rfl ?_
              refine p_pickF rfl rfl rfl rfl rfl rfl ?_
              refine p_pure htab rfl rfl rfl rfl ?_
              refine ops_nil ?_
              refine then_normal ?_
              refine wpD_ret ?_
              refine ret1 (.inl rfl) rfl ?_
              first | rfl | (exfalso; simp_all; done) | (exfalso; simp_all; omega)
          · skip
            refine p_skip rfl rfl rfl ?_
            refine p_skip rfl rfl rfl ?_
            refine p_skip rfl rfl rfl ?_
            refine p_pickF rfl rfl rfl rfl rfl rfl ?_
            refine p_pure htab rfl rfl rfl rfl ?_
            refine p_skip rfl rfl rfl ?_
            refine p_skip rfl rfl rfl ?_
            refine p_skip rfl rfl rfl ?_
            refine p_skip rfl rfl rfl ?_
            refine p_pickF rfl rfl rfl rfl rfl rfl ?_
            refine p_pure htab rfl rfl rfl rfl ?_
            refine p_skip rfl rfl rfl ?_
            refine p_skip rfl rfl rfl ?_
            refine p_skip rfl rfl rfl ?_
            refine p_skip rfl rfl rfl ?_
            refine p_skip rfl rfl rfl ?_
            refine p_skip rfl rfl rfl ?_
            refine p_skip rfl rfl rfl ?_
            refine p_skip rfl rfl rfl ?_
            refine p_skip rfl rfl rfl ?_
            refine p_pickF rfl rfl rfl rfl rfl rfl ?_
            refine p_pure htab rfl rfl rfl rfl ?_
            refine p_skip rfl rfl rfl ?_
            refine p_pickF rfl rfl rfl rfl rfl rfl ?_
            refine p_pure htab rfl rfl rfl rfl ?_
            refine ops_nil ?_
            refine then_normal ?_
            refine wpD_ret ?_
            refine ret1 (.inl rfl) rfl ?_
            first | rfl | (exfalso; simp_all; done) | (exfalso; simp_all; omega)
        · skip
          refine p_skip rfl rfl rfl ?_
          refine p_skip rfl rfl rfl ?_
          refine p_pickF rfl rfl rfl rfl rfl rfl ?_
          refine p_pure htab rfl rfl rfl rfl ?_
          refine p_skip rfl rfl rfl ?_
          refine p_skip rfl rfl rfl ?_
          refine p_skip rfl rfl rfl ?_
          refine p_pickF rfl rfl rfl rfl rfl rfl ?_
          refine p_pure htab rfl rfl rfl rfl ?_
          refine p_skip rfl rfl rfl ?_
          refine p_skip rfl rfl rfl ?_
          refine p_skip rfl rfl rfl ?_
          refine p_skip rfl rfl rfl ?_
          refine p_pickF rfl rfl rfl rfl rfl rfl ?_
          refine p_pure htab rfl rfl rfl rfl ?_
          refine p_skip rfl rfl rfl ?_
          refine p_skip rfl rfl rfl ?_
          refine p_skip rfl rfl rfl ?_
          refine p_skip rfl rfl rfl ?_
          refine p_skip rfl rfl rfl ?_
          refine p_skip rfl rfl rfl ?_
          refine p_skip rfl rfl rfl ?_
          refine p_skip rfl rfl rfl ?_
          refine p_skip rfl rfl rfl ?_
          refine p_pickF rfl rfl rfl rfl rfl rfl ?_
          refine p_pure htab rfl rfl rfl rfl ?_
          refine p_skip rfl rfl rfl ?_
          refine p_pickF rfl rfl rfl rfl rfl rfl ?_
          refine p_pure htab rfl rfl rfl rfl ?_
          refine ops_nil ?_
          refine then_normal ?_
          refine wpD_ret ?_
          refine ret1 (.inl rfl) rfl ?_
          first | rfl | (exfalso; simp_all; done) | (exfalso; simp_all; omega)
      · skip
        refine wpD_skip ?_
        refine then_normal ?_
        refine wpD_seq ?_
        refine wpD_region ?_
        refine p_pure htab rfl rfl rfl rfl ?_
        refine p_pure htab rfl rfl rfl rfl ?_
        refine p_pure htab rfl rfl rfl rfl ?_
        refine p_split (i := 64) rfl (fun hg28 => ?_) (fun hg28 => ?_)
        · skip
          refine p_pure htab rfl rfl rfl rfl ?_
          refine p_pure htab rfl rfl rfl rfl ?_
          refine p_pickT rfl rfl rfl rfl rfl rfl ?_
          refine p_pure htab rfl rfl rfl rfl ?_
          refine p_split (i := 68) rfl (fun hg29 => ?_) (fun hg29 => ?_)
          · skip
            refine p_pure htab rfl rfl rfl rfl ?_
            refine p_pure htab rfl rfl rfl rfl ?_
            refine p_pure htab rfl rfl rfl rfl ?_
            refine p_pickT rfl rfl rfl rfl rfl rfl ?_
            refine p_pure htab rfl rfl rfl rfl ?_
            refine p_split (i := 73) rfl (fun hg30 => ?_) (fun hg30 => ?_)
            · skip
              refine p_load 1 htab rfl rfl rfl rfl rfl rfl rfl rfl ?_
              refine p_load 0 htab rfl rfl rfl rfl rfl rfl rfl rfl ?_
              refine p_call0 (rcmpE _ _ (by omega) (by omega)) rfl rfl rfl rfl rfl (WkL.refl _) ?_
              rintro _ rfl
              refine p_pure htab rfl rfl rfl rfl ?_
              refine p_pickT rfl rfl rfl rfl rfl rfl ?_
              refine p_pure htab rfl rfl rfl rfl ?_
              refine p_split (i := 79) rfl (fun hg31 => ?_) (fun hg31 => ?_)
              · skip
                refine p_pure htab rfl rfl rfl rfl ?_
                refine p_pure htab rfl rfl rfl rfl ?_
                refine p_pure htab rfl rfl rfl rfl ?_
                refine p_split (i := 82) rfl (fun hg32 => ?_) (fun hg32 => ?_)
                · skip
                  refine p_skip rfl rfl rfl ?_
                  refine p_skip rfl rfl rfl ?_
                  refine p_skip rfl rfl rfl ?_
                  refine p_skip rfl rfl rfl ?_
                  refine p_skip rfl rfl rfl ?_
                  refine p_pickT rfl rfl rfl rfl rfl rfl ?_
                  refine p_pickT rfl rfl rfl rfl rfl rfl ?_
                  refine p_pure htab rfl rfl rfl rfl ?_
                  refine p_call0 (livesE) rfl rfl rfl rfl rfl (WkL.refl _) ?_
                  rintro _ rfl
                  refine p_pickT rfl rfl rfl rfl rfl rfl ?_
                  refine p_pure htab rfl rfl rfl rfl ?_
                  refine ops_nil ?_
                  refine then_normal ?_
                  refine wpD_ret ?_
                  refine ret1 (.inl rfl) rfl ?_
                  first | rfl | (exfalso; simp_all; done) | (exfalso; simp_all; omega)
                · skip
                  refine p_pure htab rfl rfl rfl rfl ?_
                  refine p_pure htab rfl rfl rfl rfl ?_
                  refine p_pure htab rfl rfl rfl rfl ?_
                  refine p_pure htab rfl rfl rfl rfl ?_
                  refine p_pure htab rfl rfl rfl rfl ?_
                  refine p_pickF rfl rfl rfl rfl rfl rfl ?_
                  refine p_pickT rfl rfl rfl rfl rfl rfl ?_
                  refine p_pure htab rfl rfl rfl rfl ?_
                  refine p_split (i := 90) rfl (fun hg33 => ?_) (fun hg33 => ?_)
                  · skip
                    refine p_call0 (livesE) rfl rfl rfl rfl rfl (WkL.refl _) ?_
                    rintro _ rfl
                    refine p_pickT rfl rfl rfl rfl rfl rfl ?_
                    refine p_pure htab rfl rfl rfl rfl ?_
                    refine ops_nil ?_
                    refine then_normal ?_
                    refine wpD_ret ?_
                    refine ret1 (.inl rfl) rfl ?_
                    first | rfl | (exfalso; simp_all; done) | (exfalso; simp_all; omega)
                  · skip
                    refine p_skip rfl rfl rfl ?_
                    refine p_pickF rfl rfl rfl rfl rfl rfl ?_
                    refine p_pure htab rfl rfl rfl rfl ?_
                    refine ops_nil ?_
                    refine then_normal ?_
                    refine wpD_ret ?_
                    refine ret1 (.inl rfl) rfl ?_
                    first | rfl | (exfalso; simp_all; done) | (exfalso; simp_all; omega)
              · skip
                refine p_skip rfl rfl rfl ?_
                refine p_skip rfl rfl rfl ?_
                refine p_skip rfl rfl rfl ?_
                refine p_skip rfl rfl rfl ?_
                refine p_skip rfl rfl rfl ?_
                refine p_skip rfl rfl rfl ?_
                refine p_skip rfl rfl rfl ?_
                refine p_skip rfl rfl rfl ?_
                refine p_skip rfl rfl rfl ?_
                refine p_pickF rfl rfl rfl rfl rfl rfl ?_
                refine p_pure htab rfl rfl rfl rfl ?_
                refine p_skip rfl rfl rfl ?_
                refine p_pickF rfl rfl rfl rfl rfl rfl ?_
                refine p_pure htab rfl rfl rfl rfl ?_
                refine ops_nil ?_
                refine then_normal ?_
                refine wpD_ret ?_
                refine ret1 (.inl rfl) rfl ?_
                first | rfl | (exfalso; simp_all; done) | (exfalso; simp_all; omega)
            · skip
              refine p_skip rfl rfl rfl ?_
              refine p_skip rfl rfl rfl ?_
              refine p_skip rfl rfl rfl ?_
              refine p_skip rfl rfl rfl ?_
              refine p_pickF rfl rfl rfl rfl rfl rfl ?_
              refine p_pure htab rfl rfl rfl rfl ?_
              refine p_skip rfl rfl rfl ?_
              refine p_skip rfl rfl rfl ?_
              refine p_skip rfl rfl rfl ?_
              refine p_skip rfl rfl rfl ?_
              refine p_skip rfl rfl rfl ?_
              refine p_skip rfl rfl rfl ?_
              refine p_skip rfl rfl rfl ?_
              refine p_skip rfl rfl rfl ?_
              refine p_skip rfl rfl rfl ?_
              refine p_pickF rfl rfl rfl rfl rfl rfl ?_
              refine p_pure htab rfl rfl rfl rfl ?_
              refine p_skip rfl rfl rfl ?_
              refine p_pickF rfl rfl rfl rfl rfl rfl ?_
              refine p_pure htab rfl rfl rfl rfl ?_
              refine ops_nil ?_
              refine then_normal ?_
              refine wpD_ret ?_
              refine ret1 (.inl rfl) rfl ?_
              first | rfl | (exfalso; simp_all; done) | (exfalso; simp_all; omega)
          · skip
            refine p_skip rfl rfl rfl ?_
            refine p_skip rfl rfl rfl ?_
            refine p_skip rfl rfl rfl ?_
            refine p_pickF rfl rfl rfl rfl rfl rfl ?_
            refine p_pure htab rfl rfl rfl rfl ?_
            refine p_skip rfl rfl rfl ?_
            refine p_skip rfl rfl rfl ?_
            refine p_skip rfl rfl rfl ?_
            refine p_skip rfl rfl rfl ?_
            refine p_pickF rfl rfl rfl rfl rfl rfl ?_
            refine p_pure htab rfl rfl rfl rfl ?_
            refine p_skip rfl rfl rfl ?_
            refine p_skip rfl rfl rfl ?_
            refine p_skip rfl rfl rfl ?_
            refine p_skip rfl rfl rfl ?_
            refine p_skip rfl rfl rfl ?_
            refine p_skip rfl rfl rfl ?_
            refine p_skip rfl rfl rfl ?_
            refine p_skip rfl rfl rfl ?_
            refine p_skip rfl rfl rfl ?_
            refine p_pickF rfl rfl rfl rfl rfl rfl ?_
            refine p_pure htab rfl rfl rfl rfl ?_
            refine p_skip rfl rfl rfl ?_
            refine p_pickF rfl rfl rfl rfl rfl rfl ?_
            refine p_pure htab rfl rfl rfl rfl ?_
            refine ops_nil ?_
            refine then_normal ?_
            refine wpD_ret ?_
            refine ret1 (.inl rfl) rfl ?_
            first | rfl | (exfalso; simp_all; done) | (exfalso; simp_all; omega)
        · skip
          refine p_skip rfl rfl rfl ?_
          refine p_skip rfl rfl rfl ?_
          refine p_pickF rfl rfl rfl rfl rfl rfl ?_
          refine p_pure htab rfl rfl rfl rfl ?_
          refine p_skip rfl rfl rfl ?_
          refine p_skip rfl rfl rfl ?_
          refine p_skip rfl rfl rfl ?_
          refine p_pickF rfl rfl rfl rfl rfl rfl ?_
          refine p_pure htab rfl rfl rfl rfl ?_
          refine p_skip rfl rfl rfl ?_
          refine p_skip rfl rfl rfl ?_
          refine p_skip rfl rfl rfl ?_
          refine p_skip rfl rfl rfl ?_
          refine p_pickF rfl rfl rfl rfl rfl rfl ?_
          refine p_pure htab rfl rfl rfl rfl ?_
          refine p_skip rfl rfl rfl ?_
          refine p_skip rfl rfl rfl ?_
          refine p_skip rfl rfl rfl ?_
          refine p_skip rfl rfl rfl ?_
          refine p_skip rfl rfl rfl ?_
          refine p_skip rfl rfl rfl ?_
          refine p_skip rfl rfl rfl ?_
          refine p_skip rfl rfl rfl ?_
          refine p_skip rfl rfl rfl ?_
          refine p_pickF rfl rfl rfl rfl rfl rfl ?_
          refine p_pure htab rfl rfl rfl rfl ?_
          refine p_skip rfl rfl rfl ?_
          refine p_pickF rfl rfl rfl rfl rfl rfl ?_
          refine p_pure htab rfl rfl rfl rfl ?_
          refine ops_nil ?_
          refine then_normal ?_
          refine wpD_ret ?_
          refine ret1 (.inl rfl) rfl ?_
          first | rfl | (exfalso; simp_all; done) | (exfalso; simp_all; omega)
theorem cmp_neg {x y : Int} (h : x < y) : cmpI x y < 0 := by rw [cmpI_lt h]; omega
theorem parts_all (a b : Int) (ka : I64 a) (kb : I64 b) : CallsD Try.prog 4 [.v (.int .i64 (a)), .v (.int .i64 (b))] [] [] (fun d h k => d = .v (.bool true) ∧ h = [] ∧ k = []) := by
  by_cases hz : b = 0
  · subst hz; exact parts_zero' a ka
  have h8 : doI 8 a b = (wrap64 (a.tdiv b), 0) := by simp [doI, hz]
  have h9 : doI 9 a b = (a.tmod b, 0) := by simp [doI, hz]
  have kq := wrap64_range (a.tdiv b)
  have l1 : (a.tmod b).natAbs ≤ a.natAbs := by rw [Int.natAbs_tmod]; exact Nat.mod_le _ _
  have l2 : (a.tmod b).natAbs < b.natAbs := by rw [Int.natAbs_tmod]; exact Nat.mod_lt _ (by omega)
  have kr : I64 (a.tmod b) := by unfold I64 at *; omega
  have h7 : doI 7 (wrap64 (a.tdiv b)) b = (wrap64 (wrap64 (a.tdiv b) * b), 0) := by simp [doI]
  have hp := wrap64_range (wrap64 (a.tdiv b) * b)
  have e := rem_eq a b ka kb hz
  have hs : doI 10 (wrap64 (wrap64 (a.tdiv b) * b)) (a.tmod b) = (a, 0) := by
    simp only [doI, if_true]
    rw [← e]
    have : wrap64 (wrap64 (wrap64 (a.tdiv b) * b) + wrap64 (a - wrap64 (a.tdiv b) * b)) = a := by
      generalize wrap64 (a.tdiv b) * b = m at *
      unfold I64 at ka
      rw [wrap64_def, wrap64_def m, wrap64_def (a - m)]
      omega
    rw [this]
  refine parts_some a b _ _ _ ka kb ⟨kq.1, by omega⟩ kr ⟨hp.1, by omega⟩ h8 h9 h7 hs (by simpa using hz) (fun _ _ => cmp_neg (by omega)) (fun _ _ => cmp_neg (by omega)) (fun _ _ => cmp_neg (by omega)) (fun _ _ => cmp_neg (by omega)) (fun h1 h2 => ?_) (fun h1 h2 => ?_)
  · by_cases ha : a < 0
    · exact ha
    · have := Int.tmod_nonneg (a := a) b (by omega)
      omega
  · by_cases ha : a < 0
    · have := Int.tmod_nonneg (a := -a) b (by omega)
      rw [Int.neg_tmod] at this; omega
    · omega
end Go.Proofs.Ytdjkmphkahileaa.Ab
