/- The statements' own functions on sums, products and standings: each returns true. -/
import Derived.Test.YtbkohmpogdameaaWd7
namespace Go.Proofs.Ytbkohmpogdameaa
open Go.RowKit Go.Shelf
theorem lives_any (w : World) : Calls Try.prog 12 #[] w fun e w' => e = .returned (.bool true) ∧ Below w.heap.size w w' := by
  have z1 : hiW (-9223372036854775808 * -9223372036854775808) = 4611686018427387904 := by unfold hiW; rw [wrap64_def]; rfl
  have z2 : loW (-9223372036854775808 * -9223372036854775808) = 0 := by rfl
  have z3 : clampI (V 4611686018427387904 0) = 9223372036854775807 := by rfl
  have Z1 := Lib.hid z1; have Z2 := Lib.hid z2; have Z3 := Lib.hid z3; clear z1 z2 z3
  go_enter Try.func12, Try.ntmps12
  go_wp2_with fail
  refine (wmul_any _ _ _ (by unfold I64; omega) (by unfold I64; omega)).mono ?_
  rintro e w1 ⟨rfl, hb1⟩
  rw [Z1.out, Z2.out]
  go_wp2_with fail
  refine (wmul_any _ _ _ (by unfold I64; omega) (by unfold I64; omega)).mono ?_
  rintro e w2 ⟨rfl, hb2⟩
  rw [Z1.out, Z2.out]
  go_wp2_with fail
  refine (wclamp_any _ _ _ (by unfold Ok2; omega)).mono ?_
  rintro e w3 ⟨rfl, hb3⟩
  rw [Z3.out]
  go_wp2
  go_ret
  exact ⟨rfl, below_then (below_then hb1 hb2) hb3⟩
theorem products_any (a b : Int) (w : World) (ka : I64 a) (kb : I64 b) : Calls Try.prog 3 #[.int .i64 a, .int .i64 b] w fun e w' => e = .returned (.bool true) ∧ Below w.heap.size w w' := by
  go_enter Try.func3, Try.ntmps3
  go_wp2_with fail
  refine (wmul_any _ _ _ ka kb).mono ?_
  rintro e w1 ⟨rfl, hb1⟩
  go_wp2_with fail
  refine (rmul_any _ _ _ ka kb).mono ?_
  rintro e w2 ⟨rfl, hb2⟩
  go_wp2_with fail
  refine (wof_any _ _ ka).mono ?_
  rintro e w3 ⟨rfl, hb3⟩
  go_wp2_with fail
  refine (rof_any _ _ ka).mono ?_
  rintro e w4 ⟨rfl, hb4⟩
  go_wp2_with fail
  refine (lives_any _).mono ?_
  rintro e w5 ⟨rfl, hb5⟩
  go_wp2
  go_ret
  exact ⟨rfl, below_then (below_then (below_then (below_then hb1 hb2) hb3) hb4) hb5⟩
set_option maxRecDepth 100000 in
theorem sums_any (h l h' l' : Int) (w : World) (k : Ok2 h l) (k' : Ok2 h' l') : Calls Try.prog 5 #[.agg #[.int .i64 h, .int .u64 l], .agg #[.int .i64 h', .int .u64 l']] w fun e w' => e = .returned (.bool true) ∧ Below w.heap.size w w' := by
  go_enter Try.func5, Try.ntmps5
  go_wp2_with fail
  refine abs_world (F := fun w1 => Below w.heap.size w w1 ∧ Blk E w1 w.heap.size w.heap.size #[.int .i64 h, .int .u64 l] 24 ∧ Blk E w1 w.heap.size (w.heap.size + 1) #[.int .i64 h', .int .u64 l'] 24) ?_ ?_
  · refine ⟨?_, ?_, ?_⟩
    (repeat (first | with_reducible exact Below.refl _ _ | with_reducible assumption | (with_reducible refine below_set ?_ ?_; focus ((try dsimp only); first | with_reducible assumption | omega)) | (with_reducible refine below_alloc ?_ ?_; focus (first | omega | (simp; done) | (simp; omega))) | with_reducible refine below_drewN ?_ _ | with_reducible refine Below.drew ?_))
    all_goals (apply Blk.cast; (repeat (first | with_reducible assumption | (with_reducible apply Blk.mk_new; (focus (first | exact agE _ | assumption)); (focus (first | rfl | (simp; done))); (focus omega)) | with_reducible apply Blk.alloc | with_reducible apply Blk.drewN | with_reducible apply Blk.drew | with_reducible apply Blk.set | (with_reducible apply Blk.far'; focus (first | with_reducible assumption | (apply Ne.symm; with_reducible assumption) | omega)))); (try (first | (simp; done) | rfl)))
  rintro w1 ⟨f1, f2, f3⟩
  refine ls_take (H0 := E) 27 (fun e => match e with | 2 => .is (· = .agg #[.int .i64 (hiW (V h l + V h' l')), .int .u64 (loW (V h l + V h' l'))]) | 5 => .is (· = .agg #[.int .i64 (hiW (V h l + V h' l')), .int .u64 (loW (V h l + V h' l'))]) | 10 => .is (· = .agg #[.int .i64 (hiW (V h l - V h' l')), .int .u64 (loW (V h l - V h' l'))]) | 13 => .is (· = .agg #[.int .i64 (hiW (V h l - V h' l')), .int .u64 (loW (V h l - V h' l'))]) | 18 => .is (· = .agg #[.int .i64 (hiW (-(V h l))), .int .u64 (loW (-(V h l)))]) | 20 => .is (· = .agg #[.int .i64 (hiW (-(V h l))), .int .u64 (loW (-(V h l)))]) | 24 => .is (· = .bool true) | _ => .tt) [[],[],[],[],[],[],[2,5],[],[],[],[],[],[],[],[10,13],[],[],[],[],[],[],[18,20],[],[],[],[24],[]] [2,5,10,13,18,20,24] [] [[],[],[0,1],[],[],[0,1,2,3,4],[0,1,2,3,4,5],[0,1,2,3,4,5,6],[0,1,2,3,4,5,6,7],[0,1,2,3,4,5,6,7],[0,1,2,3,4,5,6,7,8,9],[0,1,2,3,4,5,6,7],[0,1,2,3,4,5,6,7],[0,1,2,3,4,5,6,7,8,9,10,11,12],[0,1,2,3,4,5,6,7,8,9,10,11,12,13],[0,1,2,3,4,5,6,7,8,9,10,11,12,13,14],[0,1,2,3,4,5,6,7,8,9,10,11,12,13,14,15],[0,1,2,3,4,5,6,7,8,9,10,11,12,13,14,15,16],[0,1,2,3,4,5,6,7,8,9,10,11,12,13,14,15,16,17],[0,1,2,3,4,5,6,7,8,9,10,11,12,13,14,15,16],[0,1,2,3,4,5,6,7,8,9,10,11,12,13,14,15,16,17,18,19],[0,1,2,3,4,5,6,7,8,9,10,11,12,13,14,15,16,17,18,19,20],[0,1,2,3,4,5,6,7,8,9,10,11,12,13,14,15,16,17,18,19,20,21],[0,1,2,3,4,5,6,7,8,9,10,11,12,13,14,15,16,17,18,19,20,21,22],[0,1,2,3,4,5,6,7,8,9,10,11,12,13,14,15,16,17,18,19,20,21,22,23],[0,1,2,3,4,5,6,7,8,9,10,11,12,13,14,15,16,17,18,19,20,21,22,23,24],[0,1,2,3,4,5,6,7,8,9,10,11,12,13,14,15,16,17,18,19,20,21,22,23,24,25]] (agE _) (by kernel_rfl) (by kernel_rfl) (by kernel_rfl) (by rfl) (by rfl) (by kernel_rfl) ?_
  intro vals
  refine lsq (by rfl) (by rfl) ?_; apply Exists.intro; refine ⟨fun H w2 hg hp => ?_, ?_⟩
  · have g0 := (f2.below hg.below).cell; have g1 := (f3.below hg.below).cell; (first | (go_simp; rfl) | go_simp)
  (try simp only [Act.put, List.setIfInBounds_toArray, List.set_cons_zero, List.set_cons_succ])
  refine lsq (by rfl) (by rfl) ?_; apply Exists.intro; refine ⟨fun H w2 hg hp => ?_, ?_⟩
  · have g0 := (f2.below hg.below).cell; have g1 := (f3.below hg.below).cell; (first | (go_simp; rfl) | go_simp)
  (try simp only [Act.put, List.setIfInBounds_toArray, List.set_cons_zero, List.set_cons_succ])
  refine ls_ev (by rfl) (by rfl) (by rfl) (fun H w2 hg hp => ?_) ?_
  · refine gives_call (f := 21) ?_; apply Exists.intro; refine ⟨?_, ?_⟩
    · (first | (go_simp; rfl) | go_simp)
    · exact (wadd_any _ _ _ _ _ k k').mono fun e w3 ⟨he, hb⟩ => ⟨_, he, H, Grow.of_below hg.ag hb, rfl⟩
  (try simp only [Act.put, List.setIfInBounds_toArray, List.set_cons_zero, List.set_cons_succ])
  refine lsq (by rfl) (by rfl) ?_; apply Exists.intro; refine ⟨fun H w2 hg hp => ?_, ?_⟩
  · have g0 := (f2.below hg.below).cell; have g1 := (f3.below hg.below).cell; (first | (go_simp; rfl) | go_simp)
  (try simp only [Act.put, List.setIfInBounds_toArray, List.set_cons_zero, List.set_cons_succ])
  refine lsq (by rfl) (by rfl) ?_; apply Exists.intro; refine ⟨fun H w2 hg hp => ?_, ?_⟩
  · have g0 := (f2.below hg.below).cell; have g1 := (f3.below hg.below).cell; (first | (go_simp; rfl) | go_simp)
  (try simp only [Act.put, List.setIfInBounds_toArray, List.set_cons_zero, List.set_cons_succ])
  refine ls_ev (by rfl) (by rfl) (by rfl) (fun H w2 hg hp => ?_) ?_
  · refine gives_call (f := 22) ?_; apply Exists.intro; refine ⟨?_, ?_⟩
    · (first | (go_simp; rfl) | go_simp)
    · exact (radd_any _ _ _ _ _ k k').mono fun e w3 ⟨he, hb⟩ => ⟨_, he, H, Grow.of_below hg.ag hb, rfl⟩
  (try simp only [Act.put, List.setIfInBounds_toArray, List.set_cons_zero, List.set_cons_succ])
  refine lsq (by rfl) (by rfl) ?_; apply Exists.intro; refine ⟨fun H w2 hg hp => ?_, ?_⟩
  · have hv2 : vals 2 = .agg #[.int .i64 (hiW (V h l + V h' l')), .int .u64 (loW (V h l + V h' l'))] := hp 2 (by simp); have hv5 : vals 5 = .agg #[.int .i64 (hiW (V h l + V h' l')), .int .u64 (loW (V h l + V h' l'))] := hp 5 (by simp); (first | (go_simp; rfl) | go_simp)
  (try simp only [Act.put, List.setIfInBounds_toArray, List.set_cons_zero, List.set_cons_succ])
  refine lsq (by rfl) (by rfl) ?_; apply Exists.intro; refine ⟨fun H w2 hg hp => ?_, ?_⟩
  · (first | (go_simp; rfl) | go_simp)
  (try simp only [Act.put, List.setIfInBounds_toArray, List.set_cons_zero, List.set_cons_succ])
  first | refine ls_skip (by rfl) (by rfl) ?_ | (refine lsq (by rfl) (by rfl) ?_; apply Exists.intro; refine ⟨fun H w2 hg hp => ?_, ?_⟩; focus (have g0 := (f2.below hg.below).cell; have g1 := (f3.below hg.below).cell; (first | (go_simp; rfl) | go_simp)))
  (try simp only [Act.put, List.setIfInBounds_toArray, List.set_cons_zero, List.set_cons_succ])
  first | refine ls_skip (by rfl) (by rfl) ?_ | (refine lsq (by rfl) (by rfl) ?_; apply Exists.intro; refine ⟨fun H w2 hg hp => ?_, ?_⟩; focus (have g0 := (f2.below hg.below).cell; have g1 := (f3.below hg.below).cell; (first | (go_simp; rfl) | go_simp)))
  (try simp only [Act.put, List.setIfInBounds_toArray, List.set_cons_zero, List.set_cons_succ])
  refine ls_ev (by rfl) (by rfl) (by rfl) (fun H w2 hg hp => ?_) ?_
  · refine gives_call (f := 23) ?_; apply Exists.intro; refine ⟨?_, ?_⟩
    · (first | (go_simp; rfl) | go_simp)
    · exact (wsub_any _ _ _ _ _ k k').mono fun e w3 ⟨he, hb⟩ => ⟨_, he, H, Grow.of_below hg.ag hb, rfl⟩
  (try simp only [Act.put, List.setIfInBounds_toArray, List.set_cons_zero, List.set_cons_succ])
  first | refine ls_skip (by rfl) (by rfl) ?_ | (refine lsq (by rfl) (by rfl) ?_; apply Exists.intro; refine ⟨fun H w2 hg hp => ?_, ?_⟩; focus (have g0 := (f2.below hg.below).cell; have g1 := (f3.below hg.below).cell; (first | (go_simp; rfl) | go_simp)))
  (try simp only [Act.put, List.setIfInBounds_toArray, List.set_cons_zero, List.set_cons_succ])
  first | refine ls_skip (by rfl) (by rfl) ?_ | (refine lsq (by rfl) (by rfl) ?_; apply Exists.intro; refine ⟨fun H w2 hg hp => ?_, ?_⟩; focus (have g0 := (f2.below hg.below).cell; have g1 := (f3.below hg.below).cell; (first | (go_simp; rfl) | go_simp)))
  (try simp only [Act.put, List.setIfInBounds_toArray, List.set_cons_zero, List.set_cons_succ])
  refine ls_ev (by rfl) (by rfl) (by rfl) (fun H w2 hg hp => ?_) ?_
  · refine gives_call (f := 24) ?_; apply Exists.intro; refine ⟨?_, ?_⟩
    · (first | (go_simp; rfl) | go_simp)
    · exact (rsub_any _ _ _ _ _ k k').mono fun e w3 ⟨he, hb⟩ => ⟨_, he, H, Grow.of_below hg.ag hb, rfl⟩
  (try simp only [Act.put, List.setIfInBounds_toArray, List.set_cons_zero, List.set_cons_succ])
  first | refine ls_skip (by rfl) (by rfl) ?_ | (refine lsq (by rfl) (by rfl) ?_; apply Exists.intro; refine ⟨fun H w2 hg hp => ?_, ?_⟩; focus (have hv10 : vals 10 = .agg #[.int .i64 (hiW (V h l - V h' l')), .int .u64 (loW (V h l - V h' l'))] := hp 10 (by simp); have hv13 : vals 13 = .agg #[.int .i64 (hiW (V h l - V h' l')), .int .u64 (loW (V h l - V h' l'))] := hp 13 (by simp); (first | (go_simp; rfl) | go_simp)))
  (try simp only [Act.put, List.setIfInBounds_toArray, List.set_cons_zero, List.set_cons_succ])
  refine lsq (by rfl) (by rfl) ?_; apply Exists.intro; refine ⟨fun H w2 hg hp => ?_, ?_⟩
  · (first | (go_simp; rfl) | go_simp)
  (try simp only [Act.put, List.setIfInBounds_toArray, List.set_cons_zero, List.set_cons_succ])
  refine lsq (by rfl) (by rfl) ?_; apply Exists.intro; refine ⟨fun H w2 hg hp => ?_, ?_⟩
  · (first | (go_simp; rfl) | go_simp)
  (try simp only [Act.put, List.setIfInBounds_toArray, List.set_cons_zero, List.set_cons_succ])
  first | refine ls_skip (by rfl) (by rfl) ?_ | (refine lsq (by rfl) (by rfl) ?_; apply Exists.intro; refine ⟨fun H w2 hg hp => ?_, ?_⟩; focus (have g0 := (f2.below hg.below).cell; have g1 := (f3.below hg.below).cell; (first | (go_simp; rfl) | go_simp)))
  (try simp only [Act.put, List.setIfInBounds_toArray, List.set_cons_zero, List.set_cons_succ])
  refine ls_ev (by rfl) (by rfl) (by rfl) (fun H w2 hg hp => ?_) ?_
  · refine gives_call (f := 25) ?_; apply Exists.intro; refine ⟨?_, ?_⟩
    · (first | (go_simp; rfl) | go_simp)
    · exact (wneg_any _ _ _ k).mono fun e w3 ⟨he, hb⟩ => ⟨_, he, H, Grow.of_below hg.ag hb, rfl⟩
  (try simp only [Act.put, List.setIfInBounds_toArray, List.set_cons_zero, List.set_cons_succ])
  first | refine ls_skip (by rfl) (by rfl) ?_ | (refine lsq (by rfl) (by rfl) ?_; apply Exists.intro; refine ⟨fun H w2 hg hp => ?_, ?_⟩; focus (have g0 := (f2.below hg.below).cell; have g1 := (f3.below hg.below).cell; (first | (go_simp; rfl) | go_simp)))
  (try simp only [Act.put, List.setIfInBounds_toArray, List.set_cons_zero, List.set_cons_succ])
  refine ls_ev (by rfl) (by rfl) (by rfl) (fun H w2 hg hp => ?_) ?_
  · refine gives_call (f := 26) ?_; apply Exists.intro; refine ⟨?_, ?_⟩
    · (first | (go_simp; rfl) | go_simp)
    · exact (rneg_any _ _ _ k).mono fun e w3 ⟨he, hb⟩ => ⟨_, he, H, Grow.of_below hg.ag hb, rfl⟩
  (try simp only [Act.put, List.setIfInBounds_toArray, List.set_cons_zero, List.set_cons_succ])
  first | refine ls_skip (by rfl) (by rfl) ?_ | (refine lsq (by rfl) (by rfl) ?_; apply Exists.intro; refine ⟨fun H w2 hg hp => ?_, ?_⟩; focus (have hv18 : vals 18 = .agg #[.int .i64 (hiW (-(V h l))), .int .u64 (loW (-(V h l)))] := hp 18 (by simp); have hv20 : vals 20 = .agg #[.int .i64 (hiW (-(V h l))), .int .u64 (loW (-(V h l)))] := hp 20 (by simp); (first | (go_simp; rfl) | go_simp)))
  (try simp only [Act.put, List.setIfInBounds_toArray, List.set_cons_zero, List.set_cons_succ])
  refine lsq (by rfl) (by rfl) ?_; apply Exists.intro; refine ⟨fun H w2 hg hp => ?_, ?_⟩
  · (first | (go_simp; rfl) | go_simp)
  (try simp only [Act.put, List.setIfInBounds_toArray, List.set_cons_zero, List.set_cons_succ])
  refine lsq (by rfl) (by rfl) ?_; apply Exists.intro; refine ⟨fun H w2 hg hp => ?_, ?_⟩
  · (first | (go_simp; rfl) | go_simp)
  (try simp only [Act.put, List.setIfInBounds_toArray, List.set_cons_zero, List.set_cons_succ])
  refine ls_ev (by rfl) (by rfl) (by rfl) (fun H w2 hg hp => ?_) ?_
  · refine gives_call (f := 12) ?_; apply Exists.intro; refine ⟨?_, ?_⟩
    · (first | (go_simp; rfl) | go_simp)
    · exact (lives_any _).mono fun e w3 ⟨he, hb⟩ => ⟨_, he, H, Grow.of_below hg.ag hb, rfl⟩
  (try simp only [Act.put, List.setIfInBounds_toArray, List.set_cons_zero, List.set_cons_succ])
  refine lsq (by rfl) (by rfl) ?_; apply Exists.intro; refine ⟨fun H w2 hg hp => ?_, ?_⟩
  · have hv24 : vals 24 = .bool true := hp 24 (by simp); (first | (go_simp; rfl) | go_simp)
  (try simp only [Act.put, List.setIfInBounds_toArray, List.set_cons_zero, List.set_cons_succ])
  refine lsq (by rfl) (by rfl) ?_; apply Exists.intro; refine ⟨fun H w2 hg hp => ?_, ?_⟩
  · (first | (go_simp; rfl) | go_simp)
  refine ls_nil (fun H w2 hg hr hd => ?_)
  have e2 : vals 2 = .agg #[.int .i64 (hiW (V h l + V h' l')), .int .u64 (loW (V h l + V h' l'))] := hr 2 (by simp)
  have e5 : vals 5 = .agg #[.int .i64 (hiW (V h l + V h' l')), .int .u64 (loW (V h l + V h' l'))] := hr 5 (by simp)
  have e10 : vals 10 = .agg #[.int .i64 (hiW (V h l - V h' l')), .int .u64 (loW (V h l - V h' l'))] := hr 10 (by simp)
  have e13 : vals 13 = .agg #[.int .i64 (hiW (V h l - V h' l')), .int .u64 (loW (V h l - V h' l'))] := hr 13 (by simp)
  have e18 : vals 18 = .agg #[.int .i64 (hiW (-(V h l))), .int .u64 (loW (-(V h l)))] := hr 18 (by simp)
  have e20 : vals 20 = .agg #[.int .i64 (hiW (-(V h l))), .int .u64 (loW (-(V h l)))] := hr 20 (by simp)
  have e24 : vals 24 = .bool true := hr 24 (by simp)
  simp only [e2, e5, e10, e13, e18, e20, e24, Act.put, List.setIfInBounds_toArray, List.set_cons_zero, List.set_cons_succ, List.drop_succ_cons, List.drop_zero]
  refine wpList_nil ?_
  have hb3 := below_then f1 hg.below
  clear hr hd hg f1 f2 f3 e2 e5 e10 e13 e18 e20 e24
  go_wp2
  go_ret
  exact ⟨rfl, hb3⟩
end Go.Proofs.Ytbkohmpogdameaa
