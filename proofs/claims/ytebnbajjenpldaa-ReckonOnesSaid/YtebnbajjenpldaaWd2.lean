/- The references' functions on numbers of two words, further. -/
import Derived.Test.YtebnbajjenpldaaWd1
namespace Go.Proofs.Ytebnbajjenpldaa
open Go.RowKit
theorem neg_digits {h l x0 x1 x2 x3 x4 x5 x6 x7 : Int} (r1 : Hid (dv x0 x1 x2 x3 = l)) (r2 : Hid (dv x4 x5 x6 x7 = h % 18446744073709551616)) (k : Ok2 h l) :
    (∃ D L, wrap64 (dv (65535 - x4) (65535 - x5) (65535 - x6) (65535 - x7)) = D ∧ dv (65535 - x0) (65535 - x1) (65535 - x2) (65535 - x3) = L ∧ Ok2 D L ∧ hiW (V D L + V 0 1) = hiW (-(V h l)) ∧ loW (V D L + V 0 1) = loW (-(V h l))) := by
  have e1 : dv (65535 - x0) (65535 - x1) (65535 - x2) (65535 - x3) = 18446744073709551615 - l := by rw [← r1.out]; unfold dv; omega
  have e2 : dv (65535 - x4) (65535 - x5) (65535 - x6) (65535 - x7) = 18446744073709551615 - h % 18446744073709551616 := by rw [← r2.out]; unfold dv; omega
  rw [e1, e2]
  have hw := wrap64_range (18446744073709551615 - h % 18446744073709551616)
  unfold Ok2 at k
  refine ⟨_, _, rfl, rfl, ⟨hw.1, hw.2, by omega, by omega⟩, hiW_congr ?_, loW_congr ?_⟩ <;> (rw [wrap64_def]; unfold V; omega)
set_option maxRecDepth 100000 in
set_option maxHeartbeats 1000000 in
theorem rneg_any (h l : Int) (w : World) (k : Ok2 h l) :
    Calls Try.prog 56 #[.agg #[.int .i64 h, .int .u64 l]] w fun e w' => e = .returned (.agg #[.int .i64 (hiW (-(V h l))), .int .u64 (loW (-(V h l)))]) ∧ Below w.heap.size w w' := by
  go_enter Try.func56, Try.ntmps56
  go_wp2_with fail
  refine (digits_dg h l _ k).mono ?_
  rintro e w3 ⟨x0, x1, x2, x3, x4, x5, x6, x7, rfl, ⟨p0, q0⟩, ⟨p1, q1⟩, ⟨p2, q2⟩, ⟨p3, q3⟩, ⟨p4, q4⟩, ⟨p5, q5⟩, ⟨p6, q6⟩, ⟨p7, q7⟩, r1, r2, hb⟩
  have m2 := Blk.below (H := E) (n := w.heap.size) (b := w.heap.size + 1) (c := #[.int .i64 0, .int .u64 0]) (T := 31) (by (apply Blk.cast; (repeat (first | with_reducible assumption | (with_reducible apply Blk.mk_new; (focus (first | exact agE _ | assumption)); (focus (first | rfl | (simp; done))); (focus omega)) | with_reducible apply Blk.alloc | with_reducible apply Blk.drewN | with_reducible apply Blk.drew | with_reducible apply Blk.set | (with_reducible apply Blk.far'; focus (first | with_reducible assumption | (apply Ne.symm; with_reducible assumption) | omega)))); (try (first | (simp; done) | rfl)))) hb
  have hb2 := below_then (a := w) (by (repeat (first | with_reducible exact Below.refl _ _ | with_reducible assumption | (with_reducible refine below_set ?_ ?_; focus ((try dsimp only); first | with_reducible assumption | omega)) | (with_reducible refine below_alloc ?_ ?_; focus (first | omega | (simp; done) | (simp; omega))) | with_reducible refine below_drewN ?_ _ | with_reducible refine Below.drew ?_))) hb
  obtain ⟨D, L, hD, hL, kD, hf⟩ := neg_digits r1 r2 k
  have HF := Lib.hid hf; have HD := Lib.hid hD; have HL := Lib.hid hL; have HM := Lib.hid m2; have HB := Lib.hid hb2
  have lm := m2.lt
  clear hf hD hL m2 hb2 hb r1 r2 k
  go_wp2
  refine wp_loop_rounds 9 ?_
  iterate 9
    rw [rounds_succ]
    go_wp2_with fail
    try show Code.rounds _ _ _ _ _ _
  refine (wide_any _ _ _ _ _ _ _ _ _ ?_ ?_ ?_ ?_ ?_ ?_ ?_ ?_).mono ?_
  iterate 8 (unfold Dig; omega)
  rintro e w4 ⟨rfl, hb4⟩
  rw [HD.out, HL.out]
  have m3 := HM.out
  have hb3 := HB.out
  have m4 := Blk.below (H := E) (n := w.heap.size) (b := w.heap.size + 1) (c := #[.int .i64 0, .int .u64 0]) (T := 31) (by (apply Blk.cast; (repeat (first | with_reducible assumption | (with_reducible apply Blk.mk_new; (focus (first | exact agE _ | assumption)); (focus (first | rfl | (simp; done))); (focus omega)) | with_reducible apply Blk.alloc | with_reducible apply Blk.drewN | with_reducible apply Blk.drew | with_reducible apply Blk.set | (with_reducible apply Blk.far'; focus (first | with_reducible assumption | (apply Ne.symm; with_reducible assumption) | omega)))); (try (first | (simp; done) | rfl)))) hb4
  have hb5 := below_then (a := w) (by (repeat (first | with_reducible exact Below.refl _ _ | with_reducible assumption | (with_reducible refine below_set ?_ ?_; focus ((try dsimp only); first | with_reducible assumption | omega)) | (with_reducible refine below_alloc ?_ ?_; focus (first | omega | (simp; done) | (simp; omega))) | with_reducible refine below_drewN ?_ _ | with_reducible refine Below.drew ?_))) hb4
  clear hb4 m3 hb3
  have HM := Lib.hid m4; have HB := Lib.hid hb5; clear m4 hb5
  go_wp2_with fail
  refine (radd_any _ _ _ _ _ kD (by unfold Ok2; omega)).mono ?_
  rintro e w5 ⟨rfl, hb6⟩
  rw [HF.out.1, HF.out.2]
  have m5 := HM.out.below hb6
  have hb7 := below_then HB.out hb6
  clear hb6
  have c6 := m5.cell; have z6 := m5.frozen
  go_wp2
  simp [bodyPost, results, Try.results56, go_sem, c6]
  (repeat (first | with_reducible exact Below.refl _ _ | with_reducible assumption | (with_reducible refine below_set ?_ ?_; focus ((try dsimp only); first | with_reducible assumption | omega)) | (with_reducible refine below_alloc ?_ ?_; focus (first | omega | (simp; done) | (simp; omega))) | with_reducible refine below_drewN ?_ _ | with_reducible refine Below.drew ?_))
set_option maxRecDepth 100000 in
theorem rsub_any (h l h' l' : Int) (w : World) (k : Ok2 h l) (k' : Ok2 h' l') :
    Calls Try.prog 48 #[.agg #[.int .i64 h, .int .u64 l], .agg #[.int .i64 h', .int .u64 l']] w fun e w' => e = .returned (.agg #[.int .i64 (hiW (V h l - V h' l')), .int .u64 (loW (V h l - V h' l'))]) ∧ Below w.heap.size w w' := by
  go_enter Try.func48, Try.ntmps48
  go_wp2_with fail
  refine abs_world (F := fun w1 => Below w.heap.size w w1 ∧ Blk E w1 w.heap.size w.heap.size #[.int .i64 h, .int .u64 l] 31 ∧ Blk E w1 w.heap.size (w.heap.size + 1) #[.int .i64 h', .int .u64 l'] 31 ∧ Blk E w1 w.heap.size (w.heap.size + 1 + 1) #[.int .i64 0, .int .u64 0] 31) ?_ ?_
  · refine ⟨?_, ?_, ?_, ?_⟩
    (repeat (first | with_reducible exact Below.refl _ _ | with_reducible assumption | (with_reducible refine below_set ?_ ?_; focus ((try dsimp only); first | with_reducible assumption | omega)) | (with_reducible refine below_alloc ?_ ?_; focus (first | omega | (simp; done) | (simp; omega))) | with_reducible refine below_drewN ?_ _ | with_reducible refine Below.drew ?_))
    all_goals (apply Blk.cast; (repeat (first | with_reducible assumption | (with_reducible apply Blk.mk_new; (focus (first | exact agE _ | assumption)); (focus (first | rfl | (simp; done))); (focus omega)) | with_reducible apply Blk.alloc | with_reducible apply Blk.drewN | with_reducible apply Blk.drew | with_reducible apply Blk.set | (with_reducible apply Blk.far'; focus (first | with_reducible assumption | (apply Ne.symm; with_reducible assumption) | omega)))); (try (first | (simp; done) | rfl)))
  rintro w1 ⟨f1, f2, f3, f4⟩
  refine ls_take (H0 := E) 3 (fun e => match e with | 2 => .is (· = .agg #[.int .i64 (hiW (-(V h' l'))), .int .u64 (loW (-(V h' l')))]) | _ => .tt) [[],[],[]] [2] [] [[],[],[1],[0,1,2],[0,1,2,3]] (agE _) (by kernel_rfl) (by kernel_rfl) (by kernel_rfl) (by rfl) (by rfl) (by kernel_rfl) ?_
  intro vals
  refine lsq (by rfl) (by rfl) ?_; apply Exists.intro; refine ⟨fun H w2 hg hp => ?_, ?_⟩
  · have g0 := (f2.below hg.below).cell; have g1 := (f3.below hg.below).cell; (first | (go_simp; rfl) | go_simp)
  (try simp only [Act.put, List.setIfInBounds_toArray, List.set_cons_zero, List.set_cons_succ])
  refine lsq (by rfl) (by rfl) ?_; apply Exists.intro; refine ⟨fun H w2 hg hp => ?_, ?_⟩
  · have g0 := (f2.below hg.below).cell; have g1 := (f3.below hg.below).cell; (first | (go_simp; rfl) | go_simp)
  (try simp only [Act.put, List.setIfInBounds_toArray, List.set_cons_zero, List.set_cons_succ])
  refine ls_ev (by rfl) (by rfl) (by rfl) (fun H w2 hg hp => ?_) ?_
  · refine gives_call (f := 56) ?_; apply Exists.intro; refine ⟨?_, ?_⟩
    · (first | (go_simp; rfl) | go_simp)
    · refine (rneg_any h' l' _ k').mono ?_
      rintro e w3 ⟨rfl, hb⟩
      exact ⟨_, rfl, H, Grow.of_below hg.ag hb, rfl⟩
  refine ls_nil (fun H w2 hg hr hd => ?_)
  have e2 : vals 2 = .agg #[.int .i64 (hiW (-(V h' l'))), .int .u64 (loW (-(V h' l')))] := hr 2 (by simp)
  simp only [e2, Act.put, List.setIfInBounds_toArray, List.set_cons_zero, List.set_cons_succ, List.drop_succ_cons, List.drop_zero]
  have m4 := f4.below hg.below
  have hb2 := below_then f1 hg.below
  clear hr hd hg f1 f2 f3 f4 e2
  have lm := m4.lt
  go_wp2_with fail
  refine (radd_any _ _ _ _ _ k (ok2 _)).mono ?_
  rintro e w5 ⟨rfl, hb6⟩
  have m5 := m4.below hb6
  have hb7 := below_then hb2 hb6
  have e1 : hiW (V h l + V (hiW (-V h' l')) (loW (-V h' l'))) = hiW (V h l - V h' l') := hiW_congr (by rw [V_W]; omega)
  have e2 : loW (V h l + V (hiW (-V h' l')) (loW (-V h' l'))) = loW (V h l - V h' l') := loW_congr (by rw [V_W]; omega)
  rw [e1, e2]
  clear hb6 m4 hb2 e1 e2
  have c6 := m5.cell; have z6 := m5.frozen
  go_wp2
  simp [bodyPost, results, Try.results48, go_sem, c6]
  (repeat (first | with_reducible exact Below.refl _ _ | with_reducible assumption | (with_reducible refine below_set ?_ ?_; focus ((try dsimp only); first | with_reducible assumption | omega)) | (with_reducible refine below_alloc ?_ ?_; focus (first | omega | (simp; done) | (simp; omega))) | with_reducible refine below_drewN ?_ _ | with_reducible refine Below.drew ?_))
end Go.Proofs.Ytebnbajjenpldaa
