/- The references' functions on numbers of two words, further: Cmp, Int, Clamp. -/
import Derived.Test.YtebnbajjenpldaaWd3
namespace Go.Proofs.Ytebnbajjenpldaa
open Go.RowKit
theorem rcmp_any (h l h' l' : Int) (w : World) (k : Ok2 h l) (k' : Ok2 h' l') :
    Calls Try.prog 47 #[.agg #[.int .i64 h, .int .u64 l], .agg #[.int .i64 h', .int .u64 l']] w fun e w' => e = .returned (.int .i64 (cmpI (V h l) (V h' l'))) ∧ Below w.heap.size w w' := by
  by_cases hs : (!(decide (h < 0) == decide (h' < 0))) = false
  · exact rcmp_same h l h' l' w k k' hs
  · have hs' : (!(decide (h < 0) == decide (h' < 0))) = true := by simpa using hs
    by_cases hn : h < 0
    · have hn' : ¬ h' < 0 := by intro h2; rw [decide_eq_true hn, decide_eq_true h2] at hs'; cases hs'
      have HF : Hid (-1 = cmpI (V h l) (V h' l')) := (cmpI_lt (by unfold Ok2 at k k'; unfold V; omega)).symm
      clear hs k k'
      go_enter Try.func47, Try.ntmps47
      go_wp2
      go_ret
      exact ⟨ret_int HF.out, by (repeat (first | with_reducible exact Below.refl _ _ | with_reducible assumption | (with_reducible refine below_set ?_ ?_; focus ((try dsimp only); first | with_reducible assumption | omega)) | (with_reducible refine below_alloc ?_ ?_; focus (first | omega | (simp; done) | (simp; omega))) | with_reducible refine below_drewN ?_ _ | with_reducible refine Below.drew ?_))⟩
    · have hn' : h' < 0 := by
        rcases Int.lt_or_le h' 0 with h2 | h2
        · exact h2
        · rw [decide_eq_false hn, decide_eq_false (by omega)] at hs'; cases hs'
      have HF : Hid (1 = cmpI (V h l) (V h' l')) := (cmpI_gt (by unfold Ok2 at k k'; unfold V; omega)).symm
      clear hs k k'
      go_enter Try.func47, Try.ntmps47
      go_wp2
      go_ret
      exact ⟨ret_int HF.out, by (repeat (first | with_reducible exact Below.refl _ _ | with_reducible assumption | (with_reducible refine below_set ?_ ?_; focus ((try dsimp only); first | with_reducible assumption | omega)) | (with_reducible refine below_alloc ?_ ?_; focus (first | omega | (simp; done) | (simp; omega))) | with_reducible refine below_drewN ?_ _ | with_reducible refine Below.drew ?_))⟩
set_option maxRecDepth 100000 in
theorem rint_yes (h l : Int) (w : World) (k : Ok2 h l) (hy : I64 (V h l)) :
    Calls Try.prog 87 #[.agg #[.int .i64 h, .int .u64 l]] w fun e w' => e = .returned (.tuple #[.int .i64 (V h l), .bool true]) ∧ Below w.heap.size w w' := by
  obtain ⟨c1, hc1⟩ : ∃ c, cmpI (V h l) (V (hiW (-9223372036854775808)) (loW (-9223372036854775808))) = c := ⟨_, rfl⟩
  obtain ⟨c2, hc2⟩ : ∃ c, cmpI (V h l) (V (hiW 9223372036854775807) (loW 9223372036854775807)) = c := ⟨_, rfl⟩
  have g1 : 0 ≤ c1 := by rw [← hc1, V_W_id (by omega) (by omega)]; unfold I64 at hy; unfold cmpI; split <;> (try split) <;> omega
  have g2 : c2 ≤ 0 := by rw [← hc2, V_W_id (by omega) (by omega)]; unfold I64 at hy; unfold cmpI; split <;> (try split) <;> omega
  have g1' : decide (c1 < 0) = false := decide_eq_false (by omega)
  have g2' : decide (0 < c2) = false := decide_eq_false (by omega)
  have HF : Hid (wrap64 l = V h l) := by unfold I64 at hy; unfold Ok2 at k; unfold V at hy ⊢; rw [Hid, wrap64_def]; omega
  have HC1 := Lib.hid hc1; have HC2 := Lib.hid hc2; clear hc1 hc2 hy
  have hl := k.2.2
  go_enter Try.func87, Try.ntmps87
  go_wp2_with fail
  refine abs_world (F := fun w1 => Below w.heap.size w w1 ∧ Blk E w1 w.heap.size w.heap.size #[.int .i64 h, .int .u64 l] 31) ?_ ?_
  · refine ⟨?_, ?_⟩
    (repeat (first | with_reducible exact Below.refl _ _ | with_reducible assumption | (with_reducible refine below_set ?_ ?_; focus ((try dsimp only); first | with_reducible assumption | omega)) | (with_reducible refine below_alloc ?_ ?_; focus (first | omega | (simp; done) | (simp; omega))) | with_reducible refine below_drewN ?_ _ | with_reducible refine Below.drew ?_))
    all_goals (apply Blk.cast; (repeat (first | with_reducible assumption | (with_reducible apply Blk.mk_new; (focus (first | exact agE _ | assumption)); (focus (first | rfl | (simp; done))); (focus omega)) | with_reducible apply Blk.alloc | with_reducible apply Blk.drewN | with_reducible apply Blk.drew | with_reducible apply Blk.set | (with_reducible apply Blk.far'; focus (first | with_reducible assumption | (apply Ne.symm; with_reducible assumption) | omega)))); (try (first | (simp; done) | rfl)))
  rintro w1 ⟨f1, f2⟩
  refine ls_take (H0 := E) 10 (fun e => match e with | 1 => .is (· = .agg #[.int .i64 (hiW (-9223372036854775808)), .int .u64 (loW (-9223372036854775808))]) | 2 => .is (· = .int .i64 c1) | 6 => .is (· = .agg #[.int .i64 (hiW (9223372036854775807)), .int .u64 (loW (9223372036854775807))]) | 7 => .is (· = .int .i64 c2) | _ => .tt) [[],[],[1],[2],[],[],[],[6],[7],[]] [1,2,6,7] [] [[],[],[0,1],[0,1,2],[0,1,2,3],[0,1,2,3,4],[0,1,2,3,4],[0,1,2,3,4,5,6],[0,1,2,3,4,5,6,7],[0,1,2,3,4,5,6,7,8]] (agE _) (by kernel_rfl) (by kernel_rfl) (by kernel_rfl) (by rfl) (by rfl) (by kernel_rfl) ?_
  intro vals
  refine lsq (by rfl) (by rfl) ?_; apply Exists.intro; refine ⟨fun H w2 hg hp => ?_, ?_⟩
  · have g0 := (f2.below hg.below).cell; (first | (go_simp; rfl) | go_simp)
  (try simp only [Act.put, List.setIfInBounds_toArray, List.set_cons_zero, List.set_cons_succ])
  refine ls_ev (by rfl) (by rfl) (by rfl) (fun H w2 hg hp => ?_) ?_
  · refine gives_call (f := 52) ?_; apply Exists.intro; refine ⟨?_, ?_⟩
    · (first | (go_simp; rfl) | go_simp)
    · refine (rof_any _ _ (by unfold I64; omega)).mono ?_
      rintro e w3 ⟨rfl, hb⟩
      exact ⟨_, rfl, H, Grow.of_below hg.ag hb, rfl⟩
  (try simp only [Act.put, List.setIfInBounds_toArray, List.set_cons_zero, List.set_cons_succ])
  refine ls_ev (by rfl) (by rfl) (by rfl) (fun H w2 hg hp => ?_) ?_
  · refine gives_call (f := 47) ?_; apply Exists.intro; refine ⟨?_, ?_⟩
    · have hv1 : vals 1 = .agg #[.int .i64 (hiW (-9223372036854775808)), .int .u64 (loW (-9223372036854775808))] := hp 1 (by simp); (first | (go_simp; rfl) | go_simp)
    · refine (rcmp_any _ _ _ _ _ k (ok2 _)).mono ?_
      rintro e w3 ⟨rfl, hb⟩
      exact ⟨_, rfl, H, Grow.of_below hg.ag hb, congrArg (Value.int .i64) HC1.out⟩
  (try simp only [Act.put, List.setIfInBounds_toArray, List.set_cons_zero, List.set_cons_succ])
  refine lsq (by rfl) (by rfl) ?_; apply Exists.intro; refine ⟨fun H w2 hg hp => ?_, ?_⟩
  · have hv2 : vals 2 = .int .i64 c1 := hp 2 (by simp); (first | (go_simp; rfl) | go_simp)
  (try simp only [Act.put, List.setIfInBounds_toArray, List.set_cons_zero, List.set_cons_succ])
  refine lsq (by rfl) (by rfl) ?_; apply Exists.intro; refine ⟨fun H w2 hg hp => ?_, ?_⟩
  · (first | (go_simp; rfl) | go_simp)
  (try simp only [Act.put, List.setIfInBounds_toArray, List.set_cons_zero, List.set_cons_succ])
  first | refine ls_skip (by rfl) (by rfl) ?_ | (refine lsq (by rfl) (by rfl) ?_; apply Exists.intro; refine ⟨fun H w2 hg hp => ?_, ?_⟩; focus (have g0 := (f2.below hg.below).cell; (first | (go_simp; rfl) | go_simp)))
  (try simp only [Act.put, List.setIfInBounds_toArray, List.set_cons_zero, List.set_cons_succ])
  refine ls_ev (by rfl) (by rfl) (by rfl) (fun H w2 hg hp => ?_) ?_
  · refine gives_call (f := 52) ?_; apply Exists.intro; refine ⟨?_, ?_⟩
    · (first | (go_simp; rfl) | go_simp)
    · refine (rof_any _ _ (by unfold I64; omega)).mono ?_
      rintro e w3 ⟨rfl, hb⟩
      exact ⟨_, rfl, H, Grow.of_below hg.ag hb, rfl⟩
  (try simp only [Act.put, List.setIfInBounds_toArray, List.set_cons_zero, List.set_cons_succ])
  refine ls_ev (by rfl) (by rfl) (by rfl) (fun H w2 hg hp => ?_) ?_
  · refine gives_call (f := 47) ?_; apply Exists.intro; refine ⟨?_, ?_⟩
    · have hv6 : vals 6 = .agg #[.int .i64 (hiW (9223372036854775807)), .int .u64 (loW (9223372036854775807))] := hp 6 (by simp); (first | (go_simp; rfl) | go_simp)
    · refine (rcmp_any _ _ _ _ _ k (ok2 _)).mono ?_
      rintro e w3 ⟨rfl, hb⟩
      exact ⟨_, rfl, H, Grow.of_below hg.ag hb, congrArg (Value.int .i64) HC2.out⟩
  (try simp only [Act.put, List.setIfInBounds_toArray, List.set_cons_zero, List.set_cons_succ])
  first | refine ls_skip (by rfl) (by rfl) ?_ | (refine lsq (by rfl) (by rfl) ?_; apply Exists.intro; refine ⟨fun H w2 hg hp => ?_, ?_⟩; focus (have hv7 : vals 7 = .int .i64 c2 := hp 7 (by simp); (first | (go_simp; rfl) | go_simp)))
  (try simp only [Act.put, List.setIfInBounds_toArray, List.set_cons_zero, List.set_cons_succ])
  refine lsq (by rfl) (by rfl) ?_; apply Exists.intro; refine ⟨fun H w2 hg hp => ?_, ?_⟩
  · (first | (go_simp; rfl) | go_simp)
  refine ls_nil (fun H w2 hg hr hd => ?_)
  have e1 : vals 1 = .agg #[.int .i64 (hiW (-9223372036854775808)), .int .u64 (loW (-9223372036854775808))] := hr 1 (by simp)
  have e2 : vals 2 = .int .i64 c1 := hr 2 (by simp)
  have e6 : vals 6 = .agg #[.int .i64 (hiW (9223372036854775807)), .int .u64 (loW (9223372036854775807))] := hr 6 (by simp)
  have e7 : vals 7 = .int .i64 c2 := hr 7 (by simp)
  simp only [e1, e2, e6, e7, Act.put, List.setIfInBounds_toArray, List.set_cons_zero, List.set_cons_succ, List.drop_succ_cons, List.drop_zero]
  refine wpList_nil ?_
  have m4 := f2.below hg.below
  have hb2 := below_then f1 hg.below
  have c6 := m4.cell
  clear hr hd hg f1 f2 e1 e2 e6 e7 m4 k
  go_wp2
  go_ret2
  exact ⟨by rw [HF.out]; rfl, by (repeat (first | with_reducible exact Below.refl _ _ | with_reducible assumption | (with_reducible refine below_set ?_ ?_; focus ((try dsimp only); first | with_reducible assumption | omega)) | (with_reducible refine below_alloc ?_ ?_; focus (first | omega | (simp; done) | (simp; omega))) | with_reducible refine below_drewN ?_ _ | with_reducible refine Below.drew ?_))⟩
set_option maxRecDepth 100000 in
theorem rint_hi (h l : Int) (w : World) (k : Ok2 h l) (hy : 9223372036854775807 < V h l) :
    Calls Try.prog 87 #[.agg #[.int .i64 h, .int .u64 l]] w fun e w' => e = .returned (.tuple #[.int .i64 0, .bool false]) ∧ Below w.heap.size w w' := by
  obtain ⟨c1, hc1⟩ : ∃ c, cmpI (V h l) (V (hiW (-9223372036854775808)) (loW (-9223372036854775808))) = c := ⟨_, rfl⟩
  obtain ⟨c2, hc2⟩ : ∃ c, cmpI (V h l) (V (hiW 9223372036854775807) (loW 9223372036854775807)) = c := ⟨_, rfl⟩
  have g1 : 0 ≤ c1 := by rw [← hc1, V_W_id (by omega) (by omega)]; unfold cmpI; split <;> (try split) <;> omega
  have g2 : 0 < c2 := by rw [← hc2, V_W_id (by omega) (by omega)]; unfold cmpI; split <;> (try split) <;> omega
  have g1' : decide (c1 < 0) = false := decide_eq_false (by omega)
  have g2' : decide (0 < c2) = true := decide_eq_true (by omega)
  have HC1 := Lib.hid hc1; have HC2 := Lib.hid hc2; clear hc1 hc2 hy
  have hl := k.2.2
  go_enter Try.func87, Try.ntmps87
  go_wp2_with fail
  refine abs_world (F := fun w1 => Below w.heap.size w w1 ∧ Blk E w1 w.heap.size w.heap.size #[.int .i64 h, .int .u64 l] 31) ?_ ?_
  · refine ⟨?_, ?_⟩
    (repeat (first | with_reducible exact Below.refl _ _ | with_reducible assumption | (with_reducible refine below_set ?_ ?_; focus ((try dsimp only); first | with_reducible assumption | omega)) | (with_reducible refine below_alloc ?_ ?_; focus (first | omega | (simp; done) | (simp; omega))) | with_reducible refine below_drewN ?_ _ | with_reducible refine Below.drew ?_))
    all_goals (apply Blk.cast; (repeat (first | with_reducible assumption | (with_reducible apply Blk.mk_new; (focus (first | exact agE _ | assumption)); (focus (first | rfl | (simp; done))); (focus omega)) | with_reducible apply Blk.alloc | with_reducible apply Blk.drewN | with_reducible apply Blk.drew | with_reducible apply Blk.set | (with_reducible apply Blk.far'; focus (first | with_reducible assumption | (apply Ne.symm; with_reducible assumption) | omega)))); (try (first | (simp; done) | rfl)))
  rintro w1 ⟨f1, f2⟩
  refine ls_take (H0 := E) 10 (fun e => match e with | 1 => .is (· = .agg #[.int .i64 (hiW (-9223372036854775808)), .int .u64 (loW (-9223372036854775808))]) | 2 => .is (· = .int .i64 c1) | 6 => .is (· = .agg #[.int .i64 (hiW (9223372036854775807)), .int .u64 (loW (9223372036854775807))]) | 7 => .is (· = .int .i64 c2) | _ => .tt) [[],[],[1],[2],[],[],[],[6],[7],[]] [1,2,6,7] [] [[],[],[0,1],[0,1,2],[0,1,2,3],[0,1,2,3,4],[0,1,2,3,4],[0,1,2,3,4,5,6],[0,1,2,3,4,5,6,7],[0,1,2,3,4,5,6,7,8]] (agE _) (by kernel_rfl) (by kernel_rfl) (by kernel_rfl) (by rfl) (by rfl) (by kernel_rfl) ?_
  intro vals
  refine lsq (by rfl) (by rfl) ?_; apply Exists.intro; refine ⟨fun H w2 hg hp => ?_, ?_⟩
  · have g0 := (f2.below hg.below).cell; (first | (go_simp; rfl) | go_simp)
  (try simp only [Act.put, List.setIfInBounds_toArray, List.set_cons_zero, List.set_cons_succ])
  refine ls_ev (by rfl) (by rfl) (by rfl) (fun H w2 hg hp => ?_) ?_
  · refine gives_call (f := 52) ?_; apply Exists.intro; refine ⟨?_, ?_⟩
    · (first | (go_simp; rfl) | go_simp)
    · refine (rof_any _ _ (by unfold I64; omega)).mono ?_
      rintro e w3 ⟨rfl, hb⟩
      exact ⟨_, rfl, H, Grow.of_below hg.ag hb, rfl⟩
  (try simp only [Act.put, List.setIfInBounds_toArray, List.set_cons_zero, List.set_cons_succ])
  refine ls_ev (by rfl) (by rfl) (by rfl) (fun H w2 hg hp => ?_) ?_
  · refine gives_call (f := 47) ?_; apply Exists.intro; refine ⟨?_, ?_⟩
    · have hv1 : vals 1 = .agg #[.int .i64 (hiW (-9223372036854775808)), .int .u64 (loW (-9223372036854775808))] := hp 1 (by simp); (first | (go_simp; rfl) | go_simp)
    · refine (rcmp_any _ _ _ _ _ k (ok2 _)).mono ?_
      rintro e w3 ⟨rfl, hb⟩
      exact ⟨_, rfl, H, Grow.of_below hg.ag hb, congrArg (Value.int .i64) HC1.out⟩
  (try simp only [Act.put, List.setIfInBounds_toArray, List.set_cons_zero, List.set_cons_succ])
  refine lsq (by rfl) (by rfl) ?_; apply Exists.intro; refine ⟨fun H w2 hg hp => ?_, ?_⟩
  · have hv2 : vals 2 = .int .i64 c1 := hp 2 (by simp); (first | (go_simp; rfl) | go_simp)
  (try simp only [Act.put, List.setIfInBounds_toArray, List.set_cons_zero, List.set_cons_succ])
  refine lsq (by rfl) (by rfl) ?_; apply Exists.intro; refine ⟨fun H w2 hg hp => ?_, ?_⟩
  · (first | (go_simp; rfl) | go_simp)
  (try simp only [Act.put, List.setIfInBounds_toArray, List.set_cons_zero, List.set_cons_succ])
  first | refine ls_skip (by rfl) (by rfl) ?_ | (refine lsq (by rfl) (by rfl) ?_; apply Exists.intro; refine ⟨fun H w2 hg hp => ?_, ?_⟩; focus (have g0 := (f2.below hg.below).cell; (first | (go_simp; rfl) | go_simp)))
  (try simp only [Act.put, List.setIfInBounds_toArray, List.set_cons_zero, List.set_cons_succ])
  refine ls_ev (by rfl) (by rfl) (by rfl) (fun H w2 hg hp => ?_) ?_
  · refine gives_call (f := 52) ?_; apply Exists.intro; refine ⟨?_, ?_⟩
    · (first | (go_simp; rfl) | go_simp)
    · refine (rof_any _ _ (by unfold I64; omega)).mono ?_
      rintro e w3 ⟨rfl, hb⟩
      exact ⟨_, rfl, H, Grow.of_below hg.ag hb, rfl⟩
  (try simp only [Act.put, List.setIfInBounds_toArray, List.set_cons_zero, List.set_cons_succ])
  refine ls_ev (by rfl) (by rfl) (by rfl) (fun H w2 hg hp => ?_) ?_
  · refine gives_call (f := 47) ?_; apply Exists.intro; refine ⟨?_, ?_⟩
    · have hv6 : vals 6 = .agg #[.int .i64 (hiW (9223372036854775807)), .int .u64 (loW (9223372036854775807))] := hp 6 (by simp); (first | (go_simp; rfl) | go_simp)
    · refine (rcmp_any _ _ _ _ _ k (ok2 _)).mono ?_
      rintro e w3 ⟨rfl, hb⟩
      exact ⟨_, rfl, H, Grow.of_below hg.ag hb, congrArg (Value.int .i64) HC2.out⟩
  (try simp only [Act.put, List.setIfInBounds_toArray, List.set_cons_zero, List.set_cons_succ])
  first | refine ls_skip (by rfl) (by rfl) ?_ | (refine lsq (by rfl) (by rfl) ?_; apply Exists.intro; refine ⟨fun H w2 hg hp => ?_, ?_⟩; focus (have hv7 : vals 7 = .int .i64 c2 := hp 7 (by simp); (first | (go_simp; rfl) | go_simp)))
  (try simp only [Act.put, List.setIfInBounds_toArray, List.set_cons_zero, List.set_cons_succ])
  refine lsq (by rfl) (by rfl) ?_; apply Exists.intro; refine ⟨fun H w2 hg hp => ?_, ?_⟩
  · (first | (go_simp; rfl) | go_simp)
  refine ls_nil (fun H w2 hg hr hd => ?_)
  have e1 : vals 1 = .agg #[.int .i64 (hiW (-9223372036854775808)), .int .u64 (loW (-9223372036854775808))] := hr 1 (by simp)
  have e2 : vals 2 = .int .i64 c1 := hr 2 (by simp)
  have e6 : vals 6 = .agg #[.int .i64 (hiW (9223372036854775807)), .int .u64 (loW (9223372036854775807))] := hr 6 (by simp)
  have e7 : vals 7 = .int .i64 c2 := hr 7 (by simp)
  simp only [e1, e2, e6, e7, Act.put, List.setIfInBounds_toArray, List.set_cons_zero, List.set_cons_succ, List.drop_succ_cons, List.drop_zero]
  refine wpList_nil ?_
  have m4 := f2.below hg.below
  have hb2 := below_then f1 hg.below
  have c6 := m4.cell
  clear hr hd hg f1 f2 e1 e2 e6 e7 m4 k
  go_wp2
  go_ret2
  exact ⟨rfl, by (repeat (first | with_reducible exact Below.refl _ _ | with_reducible assumption | (with_reducible refine below_set ?_ ?_; focus ((try dsimp only); first | with_reducible assumption | omega)) | (with_reducible refine below_alloc ?_ ?_; focus (first | omega | (simp; done) | (simp; omega))) | with_reducible refine below_drewN ?_ _ | with_reducible refine Below.drew ?_))⟩
set_option maxRecDepth 100000 in
theorem rint_lo (h l : Int) (w : World) (k : Ok2 h l) (hy : V h l < -9223372036854775808) :
    Calls Try.prog 87 #[.agg #[.int .i64 h, .int .u64 l]] w fun e w' => e = .returned (.tuple #[.int .i64 0, .bool false]) ∧ Below w.heap.size w w' := by
  obtain ⟨c1, hc1⟩ : ∃ c, cmpI (V h l) (V (hiW (-9223372036854775808)) (loW (-9223372036854775808))) = c := ⟨_, rfl⟩
  have g1 : c1 < 0 := by rw [← hc1, V_W_id (by omega) (by omega)]; unfold cmpI; split <;> (try split) <;> omega
  have g1' : decide (c1 < 0) = true := decide_eq_true (by omega)
  have HC1 := Lib.hid hc1; clear hc1 hy
  have hl := k.2.2
  go_enter Try.func87, Try.ntmps87
  go_wp2_with fail
  refine abs_world (F := fun w1 => Below w.heap.size w w1 ∧ Blk E w1 w.heap.size w.heap.size #[.int .i64 h, .int .u64 l] 31) ?_ ?_
  · refine ⟨?_, ?_⟩
    (repeat (first | with_reducible exact Below.refl _ _ | with_reducible assumption | (with_reducible refine below_set ?_ ?_; focus ((try dsimp only); first | with_reducible assumption | omega)) | (with_reducible refine below_alloc ?_ ?_; focus (first | omega | (simp; done) | (simp; omega))) | with_reducible refine below_drewN ?_ _ | with_reducible refine Below.drew ?_))
    all_goals (apply Blk.cast; (repeat (first | with_reducible assumption | (with_reducible apply Blk.mk_new; (focus (first | exact agE _ | assumption)); (focus (first | rfl | (simp; done))); (focus omega)) | with_reducible apply Blk.alloc | with_reducible apply Blk.drewN | with_reducible apply Blk.drew | with_reducible apply Blk.set | (with_reducible apply Blk.far'; focus (first | with_reducible assumption | (apply Ne.symm; with_reducible assumption) | omega)))); (try (first | (simp; done) | rfl)))
  rintro w1 ⟨f1, f2⟩
  refine ls_take (H0 := E) 10 (fun e => match e with | 1 => .is (· = .agg #[.int .i64 (hiW (-9223372036854775808)), .int .u64 (loW (-9223372036854775808))]) | 2 => .is (· = .int .i64 c1) | _ => .tt) [[],[],[1],[2],[],[],[],[6],[7],[]] [1,2,6,7] [] [[],[],[0,1],[0,1,2],[0,1,2,3],[0,1,2,3,4],[0,1,2,3,4],[0,1,2,3,4,5,6],[0,1,2,3,4,5,6,7],[0,1,2,3,4,5,6,7,8]] (agE _) (by kernel_rfl) (by kernel_rfl) (by kernel_rfl) (by rfl) (by rfl) (by kernel_rfl) ?_
  intro vals
  refine lsq (by rfl) (by rfl) ?_; apply Exists.intro; refine ⟨fun H w2 hg hp => ?_, ?_⟩
  · have g0 := (f2.below hg.below).cell; (first | (go_simp; rfl) | go_simp)
  (try simp only [Act.put, List.setIfInBounds_toArray, List.set_cons_zero, List.set_cons_succ])
  refine ls_ev (by rfl) (by rfl) (by rfl) (fun H w2 hg hp => ?_) ?_
  · refine gives_call (f := 52) ?_; apply Exists.intro; refine ⟨?_, ?_⟩
    · (first | (go_simp; rfl) | go_simp)
    · refine (rof_any _ _ (by unfold I64; omega)).mono ?_
      rintro e w3 ⟨rfl, hb⟩
      exact ⟨_, rfl, H, Grow.of_below hg.ag hb, rfl⟩
  (try simp only [Act.put, List.setIfInBounds_toArray, List.set_cons_zero, List.set_cons_succ])
  refine ls_ev (by rfl) (by rfl) (by rfl) (fun H w2 hg hp => ?_) ?_
  · refine gives_call (f := 47) ?_; apply Exists.intro; refine ⟨?_, ?_⟩
    · have hv1 : vals 1 = .agg #[.int .i64 (hiW (-9223372036854775808)), .int .u64 (loW (-9223372036854775808))] := hp 1 (by simp); (first | (go_simp; rfl) | go_simp)
    · refine (rcmp_any _ _ _ _ _ k (ok2 _)).mono ?_
      rintro e w3 ⟨rfl, hb⟩
      exact ⟨_, rfl, H, Grow.of_below hg.ag hb, congrArg (Value.int .i64) HC1.out⟩
  (try simp only [Act.put, List.setIfInBounds_toArray, List.set_cons_zero, List.set_cons_succ])
  refine lsq (by rfl) (by rfl) ?_; apply Exists.intro; refine ⟨fun H w2 hg hp => ?_, ?_⟩
  · have hv2 : vals 2 = .int .i64 c1 := hp 2 (by simp); (first | (go_simp; rfl) | go_simp)
  (try simp only [Act.put, List.setIfInBounds_toArray, List.set_cons_zero, List.set_cons_succ])
  refine lsq (by rfl) (by rfl) ?_; apply Exists.intro; refine ⟨fun H w2 hg hp => ?_, ?_⟩
  · (first | (go_simp; rfl) | go_simp)
  (try simp only [Act.put, List.setIfInBounds_toArray, List.set_cons_zero, List.set_cons_succ])
  refine ls_skip (by rfl) (by rfl) ?_
  (try simp only [Act.put, List.setIfInBounds_toArray, List.set_cons_zero, List.set_cons_succ])
  refine ls_evskip (by rfl) (fun _ _ => trivial) (by rfl) ?_
  (try simp only [Act.put, List.setIfInBounds_toArray, List.set_cons_zero, List.set_cons_succ])
  refine ls_evskip (by rfl) (fun _ _ => trivial) (by rfl) ?_
  (try simp only [Act.put, List.setIfInBounds_toArray, List.set_cons_zero, List.set_cons_succ])
  refine ls_skip (by rfl) (by rfl) ?_
  (try simp only [Act.put, List.setIfInBounds_toArray, List.set_cons_zero, List.set_cons_succ])
  refine lsq (by rfl) (by rfl) ?_; apply Exists.intro; refine ⟨fun H w2 hg hp => ?_, ?_⟩
  · (first | (go_simp; rfl) | go_simp)
  refine ls_nil (fun H w2 hg hr hd => ?_)
  have e1 : vals 1 = .agg #[.int .i64 (hiW (-9223372036854775808)), .int .u64 (loW (-9223372036854775808))] := hr 1 (by simp)
  have e2 : vals 2 = .int .i64 c1 := hr 2 (by simp)
  simp only [e1, e2, Act.put, List.setIfInBounds_toArray, List.set_cons_zero, List.set_cons_succ, List.drop_succ_cons, List.drop_zero]
  refine wpList_nil ?_
  have m4 := f2.below hg.below
  have hb2 := below_then f1 hg.below
  have c6 := m4.cell
  clear hr hd hg f1 f2 e1 e2 m4 k
  go_wp2
  go_ret2
  exact ⟨rfl, by (repeat (first | with_reducible exact Below.refl _ _ | with_reducible assumption | (with_reducible refine below_set ?_ ?_; focus ((try dsimp only); first | with_reducible assumption | omega)) | (with_reducible refine below_alloc ?_ ?_; focus (first | omega | (simp; done) | (simp; omega))) | with_reducible refine below_drewN ?_ _ | with_reducible refine Below.drew ?_))⟩
theorem rint_no (h l : Int) (w : World) (k : Ok2 h l) (hy : ¬ I64 (V h l)) :
    Calls Try.prog 87 #[.agg #[.int .i64 h, .int .u64 l]] w fun e w' => e = .returned (.tuple #[.int .i64 0, .bool false]) ∧ Below w.heap.size w w' := by
  unfold I64 at hy
  by_cases h1 : V h l < -9223372036854775808
  · exact rint_lo h l w k h1
  · exact rint_hi h l w k (by omega)
/-- The nearest int. -/
def clampI (n : Int) : Int := if n < -9223372036854775808 then -9223372036854775808 else if 9223372036854775807 < n then 9223372036854775807 else n
set_option maxRecDepth 100000 in
theorem rclamp_any (h l : Int) (w : World) (k : Ok2 h l) :
    Calls Try.prog 70 #[.agg #[.int .i64 h, .int .u64 l]] w fun e w' => e = .returned (.int .i64 (clampI (V h l))) ∧ Below w.heap.size w w' := by
  by_cases hy : I64 (V h l)
  · have HF : Hid (V h l = clampI (V h l)) := by unfold Hid clampI; unfold I64 at hy; rw [if_neg (by omega), if_neg (by omega)]
    go_enter Try.func70, Try.ntmps70
    go_wp2_with fail
    refine (rint_yes h l _ k hy).mono ?_
    rintro e w3 ⟨rfl, hb⟩
    have hb2 := below_then (a := w) (by (repeat (first | with_reducible exact Below.refl _ _ | with_reducible assumption | (with_reducible refine below_set ?_ ?_; focus ((try dsimp only); first | with_reducible assumption | omega)) | (with_reducible refine below_alloc ?_ ?_; focus (first | omega | (simp; done) | (simp; omega))) | with_reducible refine below_drewN ?_ _ | with_reducible refine Below.drew ?_))) hb
    clear hb
    go_wp2
    go_ret
    exact ⟨ret_int HF.out, by (repeat (first | with_reducible exact Below.refl _ _ | with_reducible assumption | (with_reducible refine below_set ?_ ?_; focus ((try dsimp only); first | with_reducible assumption | omega)) | (with_reducible refine below_alloc ?_ ?_; focus (first | omega | (simp; done) | (simp; omega))) | with_reducible refine below_drewN ?_ _ | with_reducible refine Below.drew ?_))⟩
  · by_cases h1 : V h l < -9223372036854775808
    · have HF : Hid (-9223372036854775808 = clampI (V h l)) := by unfold Hid clampI; rw [if_pos h1]
      have HC : Hid (cmpI (V h l) (V 0 0) = -1) := cmpI_lt (by unfold V at *; omega)
      go_enter Try.func70, Try.ntmps70
      go_wp2_with fail
      refine (rint_no h l _ k hy).mono ?_
      rintro e w3 ⟨rfl, hb⟩
      have m2 := Blk.below (H := E) (n := w.heap.size) (b := w.heap.size) (c := #[.int .i64 h, .int .u64 l]) (T := 31) (by (apply Blk.cast; (repeat (first | with_reducible assumption | (with_reducible apply Blk.mk_new; (focus (first | exact agE _ | assumption)); (focus (first | rfl | (simp; done))); (focus omega)) | with_reducible apply Blk.alloc | with_reducible apply Blk.drewN | with_reducible apply Blk.drew | with_reducible apply Blk.set | (with_reducible apply Blk.far'; focus (first | with_reducible assumption | (apply Ne.symm; with_reducible assumption) | omega)))); (try (first | (simp; done) | rfl)))) hb
      have hb2 := below_then (a := w) (by (repeat (first | with_reducible exact Below.refl _ _ | with_reducible assumption | (with_reducible refine below_set ?_ ?_; focus ((try dsimp only); first | with_reducible assumption | omega)) | (with_reducible refine below_alloc ?_ ?_; focus (first | omega | (simp; done) | (simp; omega))) | with_reducible refine below_drewN ?_ _ | with_reducible refine Below.drew ?_))) hb
      clear hb
      have c6 := m2.cell
      go_wp2_with fail
      refine (rcmp_any _ _ _ _ _ k (by unfold Ok2; omega)).mono ?_
      rintro e w4 ⟨rfl, hb⟩
      have hb3 := below_then hb2 hb
      clear hb hb2
      rw [HC.out]
      go_wp2
      go_ret
      exact ⟨ret_int HF.out, by (repeat (first | with_reducible exact Below.refl _ _ | with_reducible assumption | (with_reducible refine below_set ?_ ?_; focus ((try dsimp only); first | with_reducible assumption | omega)) | (with_reducible refine below_alloc ?_ ?_; focus (first | omega | (simp; done) | (simp; omega))) | with_reducible refine below_drewN ?_ _ | with_reducible refine Below.drew ?_))⟩
    · have HF : Hid (9223372036854775807 = clampI (V h l)) := by unfold Hid clampI; unfold I64 at hy; rw [if_neg h1, if_pos (by omega)]
      have HC : Hid (cmpI (V h l) (V 0 0) = 1) := cmpI_gt (by unfold I64 at hy; unfold V at *; omega)
      go_enter Try.func70, Try.ntmps70
      go_wp2_with fail
      refine (rint_no h l _ k hy).mono ?_
      rintro e w3 ⟨rfl, hb⟩
      have m2 := Blk.below (H := E) (n := w.heap.size) (b := w.heap.size) (c := #[.int .i64 h, .int .u64 l]) (T := 31) (by (apply Blk.cast; (repeat (first | with_reducible assumption | (with_reducible apply Blk.mk_new; (focus (first | exact agE _ | assumption)); (focus (first | rfl | (simp; done))); (focus omega)) | with_reducible apply Blk.alloc | with_reducible apply Blk.drewN | with_reducible apply Blk.drew | with_reducible apply Blk.set | (with_reducible apply Blk.far'; focus (first | with_reducible assumption | (apply Ne.symm; with_reducible assumption) | omega)))); (try (first | (simp; done) | rfl)))) hb
      have hb2 := below_then (a := w) (by (repeat (first | with_reducible exact Below.refl _ _ | with_reducible assumption | (with_reducible refine below_set ?_ ?_; focus ((try dsimp only); first | with_reducible assumption | omega)) | (with_reducible refine below_alloc ?_ ?_; focus (first | omega | (simp; done) | (simp; omega))) | with_reducible refine below_drewN ?_ _ | with_reducible refine Below.drew ?_))) hb
      clear hb
      have c6 := m2.cell
      go_wp2_with fail
      refine (rcmp_any _ _ _ _ _ k (by unfold Ok2; omega)).mono ?_
      rintro e w4 ⟨rfl, hb⟩
      have hb3 := below_then hb2 hb
      clear hb hb2
      rw [HC.out]
      go_wp2
      go_ret
      exact ⟨ret_int HF.out, by (repeat (first | with_reducible exact Below.refl _ _ | with_reducible assumption | (with_reducible refine below_set ?_ ?_; focus ((try dsimp only); first | with_reducible assumption | omega)) | (with_reducible refine below_alloc ?_ ?_; focus (first | omega | (simp; done) | (simp; omega))) | with_reducible refine below_drewN ?_ _ | with_reducible refine Below.drew ?_))⟩
end Go.Proofs.Ytebnbajjenpldaa
