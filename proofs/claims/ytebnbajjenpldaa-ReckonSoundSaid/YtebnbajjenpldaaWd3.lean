/- The references' functions on numbers of two words, further: Of, Cmp. -/
import Derived.Test.YtebnbajjenpldaaWd2
namespace Go.Proofs.Ytebnbajjenpldaa
open Go.RowKit
theorem ret_int {k : IntKind} {a b : Int} (h : a = b) : Ending.returned (.int k a) = .returned (.int k b) := by rw [h]
theorem ret_two {k j : IntKind} {a b c d : Int} (h : a = b) (g : c = d) : Ending.returned (.agg #[.int k a, .int j c]) = .returned (.agg #[.int k b, .int j d]) := by rw [h, g]
/-- How two numbers stand. -/
def cmpI (x y : Int) : Int := if x < y then -1 else if y < x then 1 else 0
theorem cmpI_lt {x y : Int} (h : x < y) : cmpI x y = -1 := by unfold cmpI; rw [if_pos h]
theorem cmpI_gt {x y : Int} (h : y < x) : cmpI x y = 1 := by unfold cmpI; rw [if_neg (by omega), if_pos h]
theorem cmpI_eq {x y : Int} (h : x = y) : cmpI x y = 0 := by unfold cmpI; rw [if_neg (by omega), if_neg (by omega)]
theorem cmpI_range (x y : Int) : -1 ≤ cmpI x y ∧ cmpI x y ≤ 1 := by unfold cmpI; split <;> (try split) <;> omega
set_option maxRecDepth 100000 in
theorem rof_any (n : Int) (w : World) (k : I64 n) :
    Calls Try.prog 52 #[.int .i64 n] w fun e w' => e = .returned (.agg #[.int .i64 (hiW (n)), .int .u64 (loW (n))]) ∧ Below w.heap.size w w' := by
  have k' := k
  unfold I64 at k
  obtain ⟨k1, k2⟩ := k
  by_cases hn : n < 0
  · have e1 : hiW (-V (hiW (V 0 (-(n + 1)) + V 0 1)) (loW (V 0 (-(n + 1)) + V 0 1))) = hiW n := hiW_congr (by rw [V_W]; unfold V; omega)
    have e2 : loW (-V (hiW (V 0 (-(n + 1)) + V 0 1)) (loW (V 0 (-(n + 1)) + V 0 1))) = loW n := loW_congr (by rw [V_W]; unfold V; omega)
    have E1 := Lib.hid e1; have E2 := Lib.hid e2; clear e1 e2
    have hc : IntKind.u64.wrap (-(n + 1)) = -(n + 1) := by rw [IntKind.wrap_u64]; omega
    go_enter Try.func52, Try.ntmps52
    go_wp2_with fail
    refine (radd_any _ _ _ _ _ (by unfold Ok2; omega) (by unfold Ok2; omega)).mono ?_
    rintro e w3 ⟨rfl, hb⟩
    have m2 := Blk.below (H := E) (n := w.heap.size) (b := w.heap.size) (c := #[.int .i64 0, .int .u64 0]) (T := 31) (by (apply Blk.cast; (repeat (first | with_reducible assumption | (with_reducible apply Blk.mk_new; (focus (first | exact agE _ | assumption)); (focus (first | rfl | (simp; done))); (focus omega)) | with_reducible apply Blk.alloc | with_reducible apply Blk.drewN | with_reducible apply Blk.drew | with_reducible apply Blk.set | (with_reducible apply Blk.far'; focus (first | with_reducible assumption | (apply Ne.symm; with_reducible assumption) | omega)))); (try (first | (simp; done) | rfl)))) hb
    have hb2 := below_then (a := w) (by (repeat (first | with_reducible exact Below.refl _ _ | with_reducible assumption | (with_reducible refine below_set ?_ ?_; focus ((try dsimp only); first | with_reducible assumption | omega)) | (with_reducible refine below_alloc ?_ ?_; focus (first | omega | (simp; done) | (simp; omega))) | with_reducible refine below_drewN ?_ _ | with_reducible refine Below.drew ?_))) hb
    clear hb
    have lm := m2.lt
    go_wp2_with fail
    refine (rneg_any _ _ _ (ok2 _)).mono ?_
    rintro e w4 ⟨rfl, hb⟩
    have m3 := m2.below hb
    have hb3 := below_then hb2 hb
    rw [E1.out, E2.out]
    clear hb m2 hb2
    have c6 := m3.cell; have z6 := m3.frozen
    go_wp2
    simp [bodyPost, results, Try.results52, go_sem, c6]
    (repeat (first | with_reducible exact Below.refl _ _ | with_reducible assumption | (with_reducible refine below_set ?_ ?_; focus ((try dsimp only); first | with_reducible assumption | omega)) | (with_reducible refine below_alloc ?_ ?_; focus (first | omega | (simp; done) | (simp; omega))) | with_reducible refine below_drewN ?_ _ | with_reducible refine Below.drew ?_))
  · have e1 : hiW n = 0 := by rw [hiW_int k', if_neg hn]
    have e2 : loW n = n := by unfold loW; omega
    have hc : IntKind.u64.wrap n = n := by rw [IntKind.wrap_u64]; omega
    go_enter Try.func52, Try.ntmps52
    go_wp2
    simp [bodyPost, results, Try.results52, go_sem]
    (repeat (first | with_reducible exact Below.refl _ _ | with_reducible assumption | (with_reducible refine below_set ?_ ?_; focus ((try dsimp only); first | with_reducible assumption | omega)) | (with_reducible refine below_alloc ?_ ?_; focus (first | omega | (simp; done) | (simp; omega))) | with_reducible refine below_drewN ?_ _ | with_reducible refine Below.drew ?_))
set_option maxRecDepth 100000 in
set_option maxHeartbeats 2000000 in
theorem rcmp_same (h l h' l' : Int) (w : World) (k : Ok2 h l) (k' : Ok2 h' l') (hs : (!(decide (h < 0) == decide (h' < 0))) = false) :
    Calls Try.prog 47 #[.agg #[.int .i64 h, .int .u64 l], .agg #[.int .i64 h', .int .u64 l']] w fun e w' => e = .returned (.int .i64 (cmpI (V h l) (V h' l'))) ∧ Below w.heap.size w w' := by
  have HS : Hid (h < 0 ↔ h' < 0) := by
    have : (decide (h < 0)) = decide (h' < 0) := by simpa using hs
    exact decide_eq_decide.1 this
  go_enter Try.func47, Try.ntmps47
  go_wp2_with fail
  refine abs_world (F := fun w1 => Below w.heap.size w w1 ∧ Blk E w1 w.heap.size w.heap.size #[.int .i64 h, .int .u64 l] 31 ∧ Blk E w1 w.heap.size (w.heap.size + 1) #[.int .i64 h', .int .u64 l'] 31) ?_ ?_
  · refine ⟨?_, ?_, ?_⟩
    (repeat (first | with_reducible exact Below.refl _ _ | with_reducible assumption | (with_reducible refine below_set ?_ ?_; focus ((try dsimp only); first | with_reducible assumption | omega)) | (with_reducible refine below_alloc ?_ ?_; focus (first | omega | (simp; done) | (simp; omega))) | with_reducible refine below_drewN ?_ _ | with_reducible refine Below.drew ?_))
    all_goals (apply Blk.cast; (repeat (first | with_reducible assumption | (with_reducible apply Blk.mk_new; (focus (first | exact agE _ | assumption)); (focus (first | rfl | (simp; done))); (focus omega)) | with_reducible apply Blk.alloc | with_reducible apply Blk.drewN | with_reducible apply Blk.drew | with_reducible apply Blk.set | (with_reducible apply Blk.far'; focus (first | with_reducible assumption | (apply Ne.symm; with_reducible assumption) | omega)))); (try (first | (simp; done) | rfl)))
  rintro w1 ⟨f1, f2, f3⟩
  refine ls_take (H0 := E) 6 (fun e => match e with | 1 => .is (D8 h l) | 3 => .is (D8 h' l') | 4 => .var w1.heap.size #[.int .u64 0, .int .u64 0, .int .u64 0, .int .u64 0, .int .u64 0, .int .u64 0, .int .u64 0, .int .u64 0] 79 | 5 => .var w1.heap.size #[.int .u64 0, .int .u64 0, .int .u64 0, .int .u64 0, .int .u64 0, .int .u64 0, .int .u64 0, .int .u64 0] 79 | _ => .tt) [[],[],[],[],[],[]] [1,3,4,5] [4,5] [[],[0],[],[0,1,2],[],[],[0,1,2,3,4,5],[0,1,2,3,4,5,6]] (agE _) (by kernel_rfl) (by kernel_rfl) (by kernel_rfl) (by rfl) (by rfl) (by kernel_rfl) ?_
  intro vals
  refine lsq (by rfl) (by rfl) ?_; apply Exists.intro; refine ⟨fun H w2 hg hp => ?_, ?_⟩
  · have g0 := (f2.below hg.below).cell; have g1 := (f3.below hg.below).cell; (first | (go_simp; rfl) | go_simp)
  (try simp only [Act.put, List.setIfInBounds_toArray, List.set_cons_zero, List.set_cons_succ])
  refine ls_ev (by rfl) (by rfl) (by rfl) (fun H w2 hg hp => ?_) ?_
  · refine gives_call (f := 72) ?_; apply Exists.intro; refine ⟨?_, ?_⟩
    · (first | (go_simp; rfl) | go_simp)
    · refine (digits_dg h l _ k).mono ?_
      rintro e w3 ⟨x0, x1, x2, x3, x4, x5, x6, x7, rfl, p0, p1, p2, p3, p4, p5, p6, p7, r1, r2, hb⟩
      exact ⟨_, rfl, H, Grow.of_below hg.ag hb, x0, x1, x2, x3, x4, x5, x6, x7, rfl, p0, p1, p2, p3, p4, p5, p6, p7, r1, r2⟩
  (try simp only [Act.put, List.setIfInBounds_toArray, List.set_cons_zero, List.set_cons_succ])
  refine lsq (by rfl) (by rfl) ?_; apply Exists.intro; refine ⟨fun H w2 hg hp => ?_, ?_⟩
  · have g0 := (f2.below hg.below).cell; have g1 := (f3.below hg.below).cell; (first | (go_simp; rfl) | go_simp)
  (try simp only [Act.put, List.setIfInBounds_toArray, List.set_cons_zero, List.set_cons_succ])
  refine ls_ev (by rfl) (by rfl) (by rfl) (fun H w2 hg hp => ?_) ?_
  · refine gives_call (f := 72) ?_; apply Exists.intro; refine ⟨?_, ?_⟩
    · (first | (go_simp; rfl) | go_simp)
    · refine (digits_dg h' l' _ k').mono ?_
      rintro e w3 ⟨x0, x1, x2, x3, x4, x5, x6, x7, rfl, p0, p1, p2, p3, p4, p5, p6, p7, r1, r2, hb⟩
      exact ⟨_, rfl, H, Grow.of_below hg.ag hb, x0, x1, x2, x3, x4, x5, x6, x7, rfl, p0, p1, p2, p3, p4, p5, p6, p7, r1, r2⟩
  (try simp only [Act.put, List.setIfInBounds_toArray, List.set_cons_zero, List.set_cons_succ])
  refine ls_alloc (by rfl) (by rfl) (fun w => ?_) (fun H w b hb => ⟨b, rfl, hb⟩) ?_
  · go_simp
  (try simp only [Act.put, List.setIfInBounds_toArray, List.set_cons_zero, List.set_cons_succ])
  refine ls_alloc (by rfl) (by rfl) (fun w => ?_) (fun H w b hb => ⟨b, rfl, hb⟩) ?_
  · go_simp
  refine ls_nil (fun H w2 hg hr hd => ?_)
  obtain ⟨x0, x1, x2, x3, x4, x5, x6, x7, e1, ⟨p0, q0⟩, ⟨p1, q1⟩, ⟨p2, q2⟩, ⟨p3, q3⟩, ⟨p4, q4⟩, ⟨p5, q5⟩, ⟨p6, q6⟩, ⟨p7, q7⟩, r1, r2⟩ := hr 1 (by simp)
  obtain ⟨y0, y1, y2, y3, y4, y5, y6, y7, e3, ⟨s0, t0⟩, ⟨s1, t1⟩, ⟨s2, t2⟩, ⟨s3, t3⟩, ⟨s4, t4⟩, ⟨s5, t5⟩, ⟨s6, t6⟩, ⟨s7, t7⟩, r3, r4⟩ := hr 3 (by simp)
  obtain ⟨b4, e4, k4⟩ := hr 4 (by simp)
  have k4 := k4.toE
  have l4 := k4.ge
  obtain ⟨b5, e5, k5⟩ := hr 5 (by simp)
  have k5 := k5.toE
  have l5 := k5.ge
  have n4_5 : b4 ≠ b5 := fun h => hd 4 (by simp) 5 (by simp) (by simp) (by simp) (by simp) b4 e4 (by rw [h]; exact e5)
  simp only [e1, e3, e4, e5, Act.put, List.setIfInBounds_toArray, List.set_cons_zero, List.set_cons_succ, List.drop_succ_cons, List.drop_zero]
  have hb2 := f1.trans (hg.below.mono f1.size)
  have lf := f1.size
  have lb4 : w.heap.size ≤ b4 := by omega
  have lb5 : w.heap.size ≤ b5 := by omega
  have c5 := k4.cell
  have z5 := k4.frozen
  have c6 := k5.cell
  have z6 := k5.frozen
  clear hr hd hg f2 f3 f1 e1 e3 e4 e5
  have k4 := Blk.ge_of k4 lb4
  have k5 := Blk.ge_of k5 lb5
  go_wp2
  refine abs_world (F := fun w3 => Below w.heap.size w w3 ∧ Blk E w3 w.heap.size b4 #[.int .u64 x0, .int .u64 x1, .int .u64 x2, .int .u64 x3, .int .u64 x4, .int .u64 x5, .int .u64 x6, .int .u64 x7] 79 ∧
     Blk E w3 w.heap.size b5 #[.int .u64 y0, .int .u64 y1, .int .u64 y2, .int .u64 y3, .int .u64 y4, .int .u64 y5, .int .u64 y6, .int .u64 y7] 79) ?_ ?_
  · refine ⟨?_, ?_, ?_⟩
    (repeat (first | with_reducible exact Below.refl _ _ | with_reducible assumption | (with_reducible refine below_set ?_ ?_; focus ((try dsimp only); first | with_reducible assumption | omega)) | (with_reducible refine below_alloc ?_ ?_; focus (first | omega | (simp; done) | (simp; omega))) | with_reducible refine below_drewN ?_ _ | with_reducible refine Below.drew ?_))
    (apply Blk.cast; (repeat (first | with_reducible assumption | (with_reducible apply Blk.mk_new; (focus (first | exact agE _ | assumption)); (focus (first | rfl | (simp; done))); (focus omega)) | with_reducible apply Blk.alloc | with_reducible apply Blk.drewN | with_reducible apply Blk.drew | with_reducible apply Blk.set | (with_reducible apply Blk.far'; focus (first | with_reducible assumption | (apply Ne.symm; with_reducible assumption) | omega)))); (try (first | (simp; done) | rfl)))
    (apply Blk.cast; (repeat (first | with_reducible assumption | (with_reducible apply Blk.mk_new; (focus (first | exact agE _ | assumption)); (focus (first | rfl | (simp; done))); (focus omega)) | with_reducible apply Blk.alloc | with_reducible apply Blk.drewN | with_reducible apply Blk.drew | with_reducible apply Blk.set | (with_reducible apply Blk.far'; focus (first | with_reducible assumption | (apply Ne.symm; with_reducible assumption) | omega)))); (try (first | (simp; done) | rfl)))
  clear k4 k5 hb2 c5 z5 c6 z6
  rintro w3 ⟨hb3, k4, k5⟩
  have c4 := k4.cell; have c5 := k5.cell
  have HB3 := Lib.hid hb3; have KK := Lib.hid k; have KK' := Lib.hid k'; clear k4 k5 hb3 l4 l5 lb4 lb5 n4_5 lf k k' hs
  refine wp_loop_rounds 9 ?_
  rw [rounds_succ]
  rcases Int.lt_trichotomy x7 y7 with hx | hx | hx
  · have hx' : ¬ y7 < x7 := by omega
    go_wp2
    go_quiet (fail)
    go_wp2
    go_ret
    refine ⟨ret_int (cmpI_lt ?_).symm, by have hb := HB3.out; (repeat (first | with_reducible exact Below.refl _ _ | with_reducible assumption | (with_reducible refine below_set ?_ ?_; focus ((try dsimp only); first | with_reducible assumption | omega)) | (with_reducible refine below_alloc ?_ ?_; focus (first | omega | (simp; done) | (simp; omega))) | with_reducible refine below_drewN ?_ _ | with_reducible refine Below.drew ?_))⟩
    have g1 := r1.out; have g2 := r2.out; have g3 := r3.out; have g4 := r4.out; have gs := HS.out; have gk := KK.out; have gk' := KK'.out
    unfold dv at g1 g2 g3 g4; unfold Ok2 at gk gk'; unfold V; omega
  · have hx1 : ¬ x7 < y7 := by omega
    have hx2 : ¬ y7 < x7 := by omega
    go_wp2
    go_quiet (fail)
    go_wp2
    go_quiet (fail)
    go_wp2
    have HX7 := Lib.hid hx; clear hx hx1 hx2
    show Code.rounds _ _ _ _ _ _
    rw [rounds_succ]
    rcases Int.lt_trichotomy x6 y6 with hx | hx | hx
    · have hx' : ¬ y6 < x6 := by omega
      go_wp2
      go_quiet (fail)
      go_wp2
      go_ret
      refine ⟨ret_int (cmpI_lt ?_).symm, by have hb := HB3.out; (repeat (first | with_reducible exact Below.refl _ _ | with_reducible assumption | (with_reducible refine below_set ?_ ?_; focus ((try dsimp only); first | with_reducible assumption | omega)) | (with_reducible refine below_alloc ?_ ?_; focus (first | omega | (simp; done) | (simp; omega))) | with_reducible refine below_drewN ?_ _ | with_reducible refine Below.drew ?_))⟩
      have g1 := r1.out; have g2 := r2.out; have g3 := r3.out; have g4 := r4.out; have gs := HS.out; have gk := KK.out; have gk' := KK'.out
      have hh7 := HX7.out; unfold dv at g1 g2 g3 g4; unfold Ok2 at gk gk'; unfold V; omega
    · have hx1 : ¬ x6 < y6 := by omega
      have hx2 : ¬ y6 < x6 := by omega
      go_wp2
      go_quiet (fail)
      go_wp2
      go_quiet (fail)
      go_wp2
      have HX6 := Lib.hid hx; clear hx hx1 hx2
      show Code.rounds _ _ _ _ _ _
      rw [rounds_succ]
      rcases Int.lt_trichotomy x5 y5 with hx | hx | hx
      · have hx' : ¬ y5 < x5 := by omega
        go_wp2
        go_quiet (fail)
        go_wp2
        go_ret
        refine ⟨ret_int (cmpI_lt ?_).symm, by have hb := HB3.out; (repeat (first | with_reducible exact Below.refl _ _ | with_reducible assumption | (with_reducible refine below_set ?_ ?_; focus ((try dsimp only); first | with_reducible assumption | omega)) | (with_reducible refine below_alloc ?_ ?_; focus (first | omega | (simp; done) | (simp; omega))) | with_reducible refine below_drewN ?_ _ | with_reducible refine Below.drew ?_))⟩
        have g1 := r1.out; have g2 := r2.out; have g3 := r3.out; have g4 := r4.out; have gs := HS.out; have gk := KK.out; have gk' := KK'.out
        have hh6 := HX6.out; have hh7 := HX7.out; unfold dv at g1 g2 g3 g4; unfold Ok2 at gk gk'; unfold V; omega
      · have hx1 : ¬ x5 < y5 := by omega
        have hx2 : ¬ y5 < x5 := by omega
        go_wp2
        go_quiet (fail)
        go_wp2
        go_quiet (fail)
        go_wp2
        have HX5 := Lib.hid hx; clear hx hx1 hx2
        show Code.rounds _ _ _ _ _ _
        rw [rounds_succ]
        rcases Int.lt_trichotomy x4 y4 with hx | hx | hx
        · have hx' : ¬ y4 < x4 := by omega
          go_wp2
          go_quiet (fail)
          go_wp2
          go_ret
          refine ⟨ret_int (cmpI_lt ?_).symm, by have hb := HB3.out; (repeat (first | with_reducible exact Below.refl _ _ | with_reducible assumption | (with_reducible refine below_set ?_ ?_; focus ((try dsimp only); first | with_reducible assumption | omega)) | (with_reducible refine below_alloc ?_ ?_; focus (first | omega | (simp; done) | (simp; omega))) | with_reducible refine below_drewN ?_ _ | with_reducible refine Below.drew ?_))⟩
          have g1 := r1.out; have g2 := r2.out; have g3 := r3.out; have g4 := r4.out; have gs := HS.out; have gk := KK.out; have gk' := KK'.out
          have hh5 := HX5.out; have hh6 := HX6.out; have hh7 := HX7.out; unfold dv at g1 g2 g3 g4; unfold Ok2 at gk gk'; unfold V; omega
        · have hx1 : ¬ x4 < y4 := by omega
          have hx2 : ¬ y4 < x4 := by omega
          go_wp2
          go_quiet (fail)
          go_wp2
          go_quiet (fail)
          go_wp2
          have HX4 := Lib.hid hx; clear hx hx1 hx2
          show Code.rounds _ _ _ _ _ _
          rw [rounds_succ]
          rcases Int.lt_trichotomy x3 y3 with hx | hx | hx
          · have hx' : ¬ y3 < x3 := by omega
            go_wp2
            go_quiet (fail)
            go_wp2
            go_ret
            refine ⟨ret_int (cmpI_lt ?_).symm, by have hb := HB3.out; (repeat (first | with_reducible exact Below.refl _ _ | with_reducible assumption | (with_reducible refine below_set ?_ ?_; focus ((try dsimp only); first | with_reducible assumption | omega)) | (with_reducible refine below_alloc ?_ ?_; focus (first | omega | (simp; done) | (simp; omega))) | with_reducible refine below_drewN ?_ _ | with_reducible refine Below.drew ?_))⟩
            have g1 := r1.out; have g2 := r2.out; have g3 := r3.out; have g4 := r4.out; have gs := HS.out; have gk := KK.out; have gk' := KK'.out
            have hh4 := HX4.out; have hh5 := HX5.out; have hh6 := HX6.out; have hh7 := HX7.out; unfold dv at g1 g2 g3 g4; unfold Ok2 at gk gk'; unfold V; omega
          · have hx1 : ¬ x3 < y3 := by omega
            have hx2 : ¬ y3 < x3 := by omega
            go_wp2
            go_quiet (fail)
            go_wp2
            go_quiet (fail)
            go_wp2
            have HX3 := Lib.hid hx; clear hx hx1 hx2
            show Code.rounds _ _ _ _ _ _
            rw [rounds_succ]
            rcases Int.lt_trichotomy x2 y2 with hx | hx | hx
            · have hx' : ¬ y2 < x2 := by omega
              go_wp2
              go_quiet (fail)
              go_wp2
              go_ret
              refine ⟨ret_int (cmpI_lt ?_).symm, by have hb := HB3.out; (repeat (first | with_reducible exact Below.refl _ _ | with_reducible assumption | (with_reducible refine below_set ?_ ?_; focus ((try dsimp only); first | with_reducible assumption | omega)) | (with_reducible refine below_alloc ?_ ?_; focus (first | omega | (simp; done) | (simp; omega))) | with_reducible refine below_drewN ?_ _ | with_reducible refine Below.drew ?_))⟩
              have g1 := r1.out; have g2 := r2.out; have g3 := r3.out; have g4 := r4.out; have gs := HS.out; have gk := KK.out; have gk' := KK'.out
              have hh3 := HX3.out; have hh4 := HX4.out; have hh5 := HX5.out; have hh6 := HX6.out; have hh7 := HX7.out; unfold dv at g1 g2 g3 g4; unfold Ok2 at gk gk'; unfold V; omega
            · have hx1 : ¬ x2 < y2 := by omega
              have hx2 : ¬ y2 < x2 := by omega
              go_wp2
              go_quiet (fail)
              go_wp2
              go_quiet (fail)
              go_wp2
              have HX2 := Lib.hid hx; clear hx hx1 hx2
              show Code.rounds _ _ _ _ _ _
              rw [rounds_succ]
              rcases Int.lt_trichotomy x1 y1 with hx | hx | hx
              · have hx' : ¬ y1 < x1 := by omega
                go_wp2
                go_quiet (fail)
                go_wp2
                go_ret
                refine ⟨ret_int (cmpI_lt ?_).symm, by have hb := HB3.out; (repeat (first | with_reducible exact Below.refl _ _ | with_reducible assumption | (with_reducible refine below_set ?_ ?_; focus ((try dsimp only); first | with_reducible assumption | omega)) | (with_reducible refine below_alloc ?_ ?_; focus (first | omega | (simp; done) | (simp; omega))) | with_reducible refine below_drewN ?_ _ | with_reducible refine Below.drew ?_))⟩
                have g1 := r1.out; have g2 := r2.out; have g3 := r3.out; have g4 := r4.out; have gs := HS.out; have gk := KK.out; have gk' := KK'.out
                have hh2 := HX2.out; have hh3 := HX3.out; have hh4 := HX4.out; have hh5 := HX5.out; have hh6 := HX6.out; have hh7 := HX7.out; unfold dv at g1 g2 g3 g4; unfold Ok2 at gk gk'; unfold V; omega
              · have hx1 : ¬ x1 < y1 := by omega
                have hx2 : ¬ y1 < x1 := by omega
                go_wp2
                go_quiet (fail)
                go_wp2
                go_quiet (fail)
                go_wp2
                have HX1 := Lib.hid hx; clear hx hx1 hx2
                show Code.rounds _ _ _ _ _ _
                rw [rounds_succ]
                rcases Int.lt_trichotomy x0 y0 with hx | hx | hx
                · have hx' : ¬ y0 < x0 := by omega
                  go_wp2
                  go_quiet (fail)
                  go_wp2
                  go_ret
                  refine ⟨ret_int (cmpI_lt ?_).symm, by have hb := HB3.out; (repeat (first | with_reducible exact Below.refl _ _ | with_reducible assumption | (with_reducible refine below_set ?_ ?_; focus ((try dsimp only); first | with_reducible assumption | omega)) | (with_reducible refine below_alloc ?_ ?_; focus (first | omega | (simp; done) | (simp; omega))) | with_reducible refine below_drewN ?_ _ | with_reducible refine Below.drew ?_))⟩
                  have g1 := r1.out; have g2 := r2.out; have g3 := r3.out; have g4 := r4.out; have gs := HS.out; have gk := KK.out; have gk' := KK'.out
                  have hh1 := HX1.out; have hh2 := HX2.out; have hh3 := HX3.out; have hh4 := HX4.out; have hh5 := HX5.out; have hh6 := HX6.out; have hh7 := HX7.out; unfold dv at g1 g2 g3 g4; unfold Ok2 at gk gk'; unfold V; omega
                · have hx1 : ¬ x0 < y0 := by omega
                  have hx2 : ¬ y0 < x0 := by omega
                  go_wp2
                  go_quiet (fail)
                  go_wp2
                  go_quiet (fail)
                  go_wp2
                  have HX0 := Lib.hid hx; clear hx hx1 hx2
                  show Code.rounds _ _ _ _ _ _
                  rw [rounds_succ]
                  go_wp2
                  go_ret
                  refine ⟨ret_int (cmpI_eq ?_).symm, by have hb := HB3.out; (repeat (first | with_reducible exact Below.refl _ _ | with_reducible assumption | (with_reducible refine below_set ?_ ?_; focus ((try dsimp only); first | with_reducible assumption | omega)) | (with_reducible refine below_alloc ?_ ?_; focus (first | omega | (simp; done) | (simp; omega))) | with_reducible refine below_drewN ?_ _ | with_reducible refine Below.drew ?_))⟩
                  have g1 := r1.out; have g2 := r2.out; have g3 := r3.out; have g4 := r4.out; have gs := HS.out; have gk := KK.out; have gk' := KK'.out; have hh0 := HX0.out; have hh1 := HX1.out; have hh2 := HX2.out; have hh3 := HX3.out; have hh4 := HX4.out; have hh5 := HX5.out; have hh6 := HX6.out; have hh7 := HX7.out
                  unfold dv at g1 g2 g3 g4; unfold Ok2 at gk gk'; unfold V; omega
                · have hx' : ¬ x0 < y0 := by omega
                  go_wp2
                  go_quiet (fail)
                  go_wp2
                  go_quiet (fail)
                  go_wp2
                  go_ret
                  refine ⟨ret_int (cmpI_gt ?_).symm, by have hb := HB3.out; (repeat (first | with_reducible exact Below.refl _ _ | with_reducible assumption | (with_reducible refine below_set ?_ ?_; focus ((try dsimp only); first | with_reducible assumption | omega)) | (with_reducible refine below_alloc ?_ ?_; focus (first | omega | (simp; done) | (simp; omega))) | with_reducible refine below_drewN ?_ _ | with_reducible refine Below.drew ?_))⟩
                  have g1 := r1.out; have g2 := r2.out; have g3 := r3.out; have g4 := r4.out; have gs := HS.out; have gk := KK.out; have gk' := KK'.out
                  have hh1 := HX1.out; have hh2 := HX2.out; have hh3 := HX3.out; have hh4 := HX4.out; have hh5 := HX5.out; have hh6 := HX6.out; have hh7 := HX7.out; unfold dv at g1 g2 g3 g4; unfold Ok2 at gk gk'; unfold V; omega
              · have hx' : ¬ x1 < y1 := by omega
                go_wp2
                go_quiet (fail)
                go_wp2
                go_quiet (fail)
                go_wp2
                go_ret
                refine ⟨ret_int (cmpI_gt ?_).symm, by have hb := HB3.out; (repeat (first | with_reducible exact Below.refl _ _ | with_reducible assumption | (with_reducible refine below_set ?_ ?_; focus ((try dsimp only); first | with_reducible assumption | omega)) | (with_reducible refine below_alloc ?_ ?_; focus (first | omega | (simp; done) | (simp; omega))) | with_reducible refine below_drewN ?_ _ | with_reducible refine Below.drew ?_))⟩
                have g1 := r1.out; have g2 := r2.out; have g3 := r3.out; have g4 := r4.out; have gs := HS.out; have gk := KK.out; have gk' := KK'.out
                have hh2 := HX2.out; have hh3 := HX3.out; have hh4 := HX4.out; have hh5 := HX5.out; have hh6 := HX6.out; have hh7 := HX7.out; unfold dv at g1 g2 g3 g4; unfold Ok2 at gk gk'; unfold V; omega
            · have hx' : ¬ x2 < y2 := by omega
              go_wp2
              go_quiet (fail)
              go_wp2
              go_quiet (fail)
              go_wp2
              go_ret
              refine ⟨ret_int (cmpI_gt ?_).symm, by have hb := HB3.out; (repeat (first | with_reducible exact Below.refl _ _ | with_reducible assumption | (with_reducible refine below_set ?_ ?_; focus ((try dsimp only); first | with_reducible assumption | omega)) | (with_reducible refine below_alloc ?_ ?_; focus (first | omega | (simp; done) | (simp; omega))) | with_reducible refine below_drewN ?_ _ | with_reducible refine Below.drew ?_))⟩
              have g1 := r1.out; have g2 := r2.out; have g3 := r3.out; have g4 := r4.out; have gs := HS.out; have gk := KK.out; have gk' := KK'.out
              have hh3 := HX3.out; have hh4 := HX4.out; have hh5 := HX5.out; have hh6 := HX6.out; have hh7 := HX7.out; unfold dv at g1 g2 g3 g4; unfold Ok2 at gk gk'; unfold V; omega
          · have hx' : ¬ x3 < y3 := by omega
            go_wp2
            go_quiet (fail)
            go_wp2
            go_quiet (fail)
            go_wp2
            go_ret
            refine ⟨ret_int (cmpI_gt ?_).symm, by have hb := HB3.out; (repeat (first | with_reducible exact Below.refl _ _ | with_reducible assumption | (with_reducible refine below_set ?_ ?_; focus ((try dsimp only); first | with_reducible assumption | omega)) | (with_reducible refine below_alloc ?_ ?_; focus (first | omega | (simp; done) | (simp; omega))) | with_reducible refine below_drewN ?_ _ | with_reducible refine Below.drew ?_))⟩
            have g1 := r1.out; have g2 := r2.out; have g3 := r3.out; have g4 := r4.out; have gs := HS.out; have gk := KK.out; have gk' := KK'.out
            have hh4 := HX4.out; have hh5 := HX5.out; have hh6 := HX6.out; have hh7 := HX7.out; unfold dv at g1 g2 g3 g4; unfold Ok2 at gk gk'; unfold V; omega
        · have hx' : ¬ x4 < y4 := by omega
          go_wp2
          go_quiet (fail)
          go_wp2
          go_quiet (fail)
          go_wp2
          go_ret
          refine ⟨ret_int (cmpI_gt ?_).symm, by have hb := HB3.out; (repeat (first | with_reducible exact Below.refl _ _ | with_reducible assumption | (with_reducible refine below_set ?_ ?_; focus ((try dsimp only); first | with_reducible assumption | omega)) | (with_reducible refine below_alloc ?_ ?_; focus (first | omega | (simp; done) | (simp; omega))) | with_reducible refine below_drewN ?_ _ | with_reducible refine Below.drew ?_))⟩
          have g1 := r1.out; have g2 := r2.out; have g3 := r3.out; have g4 := r4.out; have gs := HS.out; have gk := KK.out; have gk' := KK'.out
          have hh5 := HX5.out; have hh6 := HX6.out; have hh7 := HX7.out; unfold dv at g1 g2 g3 g4; unfold Ok2 at gk gk'; unfold V; omega
      · have hx' : ¬ x5 < y5 := by omega
        go_wp2
        go_quiet (fail)
        go_wp2
        go_quiet (fail)
        go_wp2
        go_ret
        refine ⟨ret_int (cmpI_gt ?_).symm, by have hb := HB3.out; (repeat (first | with_reducible exact Below.refl _ _ | with_reducible assumption | (with_reducible refine below_set ?_ ?_; focus ((try dsimp only); first | with_reducible assumption | omega)) | (with_reducible refine below_alloc ?_ ?_; focus (first | omega | (simp; done) | (simp; omega))) | with_reducible refine below_drewN ?_ _ | with_reducible refine Below.drew ?_))⟩
        have g1 := r1.out; have g2 := r2.out; have g3 := r3.out; have g4 := r4.out; have gs := HS.out; have gk := KK.out; have gk' := KK'.out
        have hh6 := HX6.out; have hh7 := HX7.out; unfold dv at g1 g2 g3 g4; unfold Ok2 at gk gk'; unfold V; omega
    · have hx' : ¬ x6 < y6 := by omega
      go_wp2
      go_quiet (fail)
      go_wp2
      go_quiet (fail)
      go_wp2
      go_ret
      refine ⟨ret_int (cmpI_gt ?_).symm, by have hb := HB3.out; (repeat (first | with_reducible exact Below.refl _ _ | with_reducible assumption | (with_reducible refine below_set ?_ ?_; focus ((try dsimp only); first | with_reducible assumption | omega)) | (with_reducible refine below_alloc ?_ ?_; focus (first | omega | (simp; done) | (simp; omega))) | with_reducible refine below_drewN ?_ _ | with_reducible refine Below.drew ?_))⟩
      have g1 := r1.out; have g2 := r2.out; have g3 := r3.out; have g4 := r4.out; have gs := HS.out; have gk := KK.out; have gk' := KK'.out
      have hh7 := HX7.out; unfold dv at g1 g2 g3 g4; unfold Ok2 at gk gk'; unfold V; omega
  · have hx' : ¬ x7 < y7 := by omega
    go_wp2
    go_quiet (fail)
    go_wp2
    go_quiet (fail)
    go_wp2
    go_ret
    refine ⟨ret_int (cmpI_gt ?_).symm, by have hb := HB3.out; (repeat (first | with_reducible exact Below.refl _ _ | with_reducible assumption | (with_reducible refine below_set ?_ ?_; focus ((try dsimp only); first | with_reducible assumption | omega)) | (with_reducible refine below_alloc ?_ ?_; focus (first | omega | (simp; done) | (simp; omega))) | with_reducible refine below_drewN ?_ _ | with_reducible refine Below.drew ?_))⟩
    have g1 := r1.out; have g2 := r2.out; have g3 := r3.out; have g4 := r4.out; have gs := HS.out; have gk := KK.out; have gk' := KK'.out
    unfold dv at g1 g2 g3 g4; unfold Ok2 at gk gk'; unfold V; omega
end Go.Proofs.Ytebnbajjenpldaa
