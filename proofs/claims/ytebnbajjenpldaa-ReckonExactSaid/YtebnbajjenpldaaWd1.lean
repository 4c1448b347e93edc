/- The references' functions on numbers of two words: what each returns. -/
import Derived.Test.YtebnbajjenpldaaRows
import Derived.Test.YtebnbajjenpldaaGr
import Derived.Test.YtebnbajjenpldaaWa
import Derived.WalkKit
import Derived.WalkLawsBesides
import Derived.Laws.ResultCell
import Derived.BigQuiet
import Derived.Deep.QuietTactic
import Derived.Lib.Hide
namespace Go.Proofs.Ytebnbajjenpldaa
open Go.RowKit
def dg (l u : Int) : Array Value := #[.int .u64 (l % 65536), .int .u64 (l / 65536 % 65536), .int .u64 (l / 65536 / 65536 % 65536), .int .u64 (l / 65536 / 65536 / 65536 % 65536),
  .int .u64 (u % 65536), .int .u64 (u / 65536 % 65536), .int .u64 (u / 65536 / 65536 % 65536), .int .u64 (u / 65536 / 65536 / 65536 % 65536)]
set_option maxRecDepth 100000 in
theorem digits_any (h l u : Int) (w : World) (h0 : 0 ≤ l) (h1 : l < 18446744073709551616) (hu : IntKind.u64.wrap h = u) (u0 : 0 ≤ u) (u1 : u < 18446744073709551616) :
    Calls Try.prog 72 #[.agg #[.int .i64 h, .int .u64 l]] w fun e w' => e = .returned (.agg (dg l u)) ∧ Below w.heap.size w w' := by
  go_enter Try.func72, Try.ntmps72
  go_wp2
  go_quiet (fail)
  go_wp2
  refine wp_loop_rounds 5 ?_
  iterate 5
    rw [rounds_succ]
    go_wp2
    try show Code.rounds _ _ _ _ _ _
  simp [bodyPost, results, Try.results72, go_sem]
  refine ⟨rfl, ?_⟩
  (repeat (first | with_reducible exact Below.refl _ _ | with_reducible assumption | (with_reducible refine below_set ?_ ?_; focus ((try dsimp only); first | with_reducible assumption | omega)) | (with_reducible refine below_alloc ?_ ?_; focus (first | omega | (simp; done) | (simp; omega))) | with_reducible refine below_drewN ?_ _ | with_reducible refine Below.drew ?_))
/-- Eight digits of two words. -/
def Dg (h l : Int) (w : World) (e : Ending) (w' : World) : Prop := ∃ x0 x1 x2 x3 x4 x5 x6 x7 : Int,
  e = .returned (.agg #[.int .u64 x0, .int .u64 x1, .int .u64 x2, .int .u64 x3, .int .u64 x4, .int .u64 x5, .int .u64 x6, .int .u64 x7]) ∧
  (0 ≤ x0 ∧ x0 < 65536) ∧ (0 ≤ x1 ∧ x1 < 65536) ∧ (0 ≤ x2 ∧ x2 < 65536) ∧ (0 ≤ x3 ∧ x3 < 65536) ∧ (0 ≤ x4 ∧ x4 < 65536) ∧ (0 ≤ x5 ∧ x5 < 65536) ∧ (0 ≤ x6 ∧ x6 < 65536) ∧ (0 ≤ x7 ∧ x7 < 65536) ∧
  Hid (dv x0 x1 x2 x3 = l) ∧ Hid (dv x4 x5 x6 x7 = h % 18446744073709551616) ∧ Below w.heap.size w w'
theorem digits_dg (h l : Int) (w : World) (k : Ok2 h l) :
    Calls Try.prog 72 #[.agg #[.int .i64 h, .int .u64 l]] w (Dg h l w) := by
  unfold Ok2 at k
  exact (digits_any h l (h % 18446744073709551616) w (by omega) (by omega) (by rw [IntKind.wrap_u64]) (by omega) (by omega)).mono fun e w' ⟨he, hb⟩ => ⟨_, _, _, _, _, _, _, _, he, by omega, by omega, by omega, by omega, by omega, by omega, by omega, by omega,
    dv_digits l (by omega) (by omega), dv_digits _ (by omega) (by omega), hb⟩
set_option maxRecDepth 100000 in
theorem wide_any (x0 x1 x2 x3 x4 x5 x6 x7 : Int) (w : World) (a0 : Dig x0) (a1 : Dig x1) (a2 : Dig x2) (a3 : Dig x3) (a4 : Dig x4) (a5 : Dig x5) (a6 : Dig x6) (a7 : Dig x7) :
    Calls Try.prog 75 #[.agg #[.int .u64 x0, .int .u64 x1, .int .u64 x2, .int .u64 x3, .int .u64 x4, .int .u64 x5, .int .u64 x6, .int .u64 x7]] w fun e w' =>
     e = .returned (.agg #[.int .i64 (wrap64 (dv x4 x5 x6 x7)), .int .u64 (dv x0 x1 x2 x3)]) ∧ Below w.heap.size w w' := by
  unfold Dig at *
  obtain ⟨a0, b0⟩ := a0; obtain ⟨a1, b1⟩ := a1; obtain ⟨a2, b2⟩ := a2; obtain ⟨a3, b3⟩ := a3; obtain ⟨a4, b4⟩ := a4; obtain ⟨a5, b5⟩ := a5; obtain ⟨a6, b6⟩ := a6; obtain ⟨a7, b7⟩ := a7
  go_enter Try.func75, Try.ntmps75
  go_wp2
  refine wp_loop_rounds 5 ?_
  iterate 5
    rw [rounds_succ]
    go_wp2
    try (go_quiet (fail); go_wp2)
    try (go_quiet (fail); go_wp2)
    try show Code.rounds _ _ _ _ _ _
  simp [bodyPost, results, Try.results75, go_sem]
  refine ⟨⟨rfl, rfl⟩, ?_⟩
  (repeat (first | with_reducible exact Below.refl _ _ | with_reducible assumption | (with_reducible refine below_set ?_ ?_; focus ((try dsimp only); first | with_reducible assumption | omega)) | (with_reducible refine below_alloc ?_ ?_; focus (first | omega | (simp; done) | (simp; omega))) | with_reducible refine below_drewN ?_ _ | with_reducible refine Below.drew ?_))
def D8 (h l : Int) (v : Value) : Prop := ∃ x0 x1 x2 x3 x4 x5 x6 x7 : Int, v = .agg #[.int .u64 x0, .int .u64 x1, .int .u64 x2, .int .u64 x3, .int .u64 x4, .int .u64 x5, .int .u64 x6, .int .u64 x7] ∧
  (0 ≤ x0 ∧ x0 < 65536) ∧ (0 ≤ x1 ∧ x1 < 65536) ∧ (0 ≤ x2 ∧ x2 < 65536) ∧ (0 ≤ x3 ∧ x3 < 65536) ∧ (0 ≤ x4 ∧ x4 < 65536) ∧ (0 ≤ x5 ∧ x5 < 65536) ∧ (0 ≤ x6 ∧ x6 < 65536) ∧ (0 ≤ x7 ∧ x7 < 65536) ∧
  Hid (dv x0 x1 x2 x3 = l) ∧ Hid (dv x4 x5 x6 x7 = h % 18446744073709551616)
/-- The sum, digit by digit, is the sum. -/
theorem sum_digits {h l h' l' x0 x1 x2 x3 x4 x5 x6 x7 y0 y1 y2 y3 y4 y5 y6 y7 : Int} (hx0 : Dig x0) (hx1 : Dig x1) (hx2 : Dig x2) (hx3 : Dig x3) (hx4 : Dig x4) (hx5 : Dig x5) (hx6 : Dig x6) (hx7 : Dig x7)
    (hy0 : Dig y0) (hy1 : Dig y1) (hy2 : Dig y2) (hy3 : Dig y3) (hy4 : Dig y4) (hy5 : Dig y5) (hy6 : Dig y6) (hy7 : Dig y7)
    (r1 : Hid (dv x0 x1 x2 x3 = l)) (r2 : Hid (dv x4 x5 x6 x7 = h % 18446744073709551616)) (r3 : Hid (dv y0 y1 y2 y3 = l')) (r4 : Hid (dv y4 y5 y6 y7 = h' % 18446744073709551616)) (_k : Ok2 h l) (_k' : Ok2 h' l') :
    ∀ c1 c2 c3 c4 c5 c6 c7 : Int, c1 = (x0 + y0) / 65536 → c2 = (x1 + y1 + c1) / 65536 → c3 = (x2 + y2 + c2) / 65536 → c4 = (x3 + y3 + c3) / 65536 → c5 = (x4 + y4 + c4) / 65536 → c6 = (x5 + y5 + c5) / 65536 → c7 = (x6 + y6 + c6) / 65536 →
      wrap64 (dv ((x4 + y4 + c4) % 65536) ((x5 + y5 + c5) % 65536) ((x6 + y6 + c6) % 65536) ((x7 + y7 + c7) % 65536)) = hiW (V h l + V h' l') ∧ dv ((x0 + y0) % 65536) ((x1 + y1 + c1) % 65536) ((x2 + y2 + c2) % 65536) ((x3 + y3 + c3) % 65536) = loW (V h l + V h' l') := by
  intro c1 c2 c3 c4 c5 c6 c7 e1 e2 e3 e4 e5 e6 e7
  have s1 := carry4 x0 x1 x2 x3 y0 y1 y2 y3 0 hx0 hx1 hx2 hx3 hy0 hy1 hy2 hy3 (by omega) c1 c2 c3 c4 (by simpa using e1) e2 e3 e4
  have s2 := carry4 x4 x5 x6 x7 y4 y5 y6 y7 c4 hx4 hx5 hx6 hx7 hy4 hy5 hy6 hy7 ⟨s1.2.2.1, s1.2.2.2⟩ c5 c6 c7 _ e5 e6 e7 rfl
  simp only [Int.add_zero] at s1
  obtain ⟨t1, t2, _, _⟩ := s1
  obtain ⟨u1, _, _, _⟩ := s2
  rw [t1, u1, r1.out, r2.out, r3.out, r4.out]
  rw [r1.out, r3.out] at t2
  clear e1 e2 e3 e4 e5 e6 e7 t1 u1
  unfold hiW loW V
  rw [wrap64_def, wrap64_def]
  constructor <;> omega
set_option maxRecDepth 100000 in
set_option maxHeartbeats 1000000 in
theorem radd_any (h l h' l' : Int) (w : World) (k : Ok2 h l) (k' : Ok2 h' l') :
    Calls Try.prog 73 #[.agg #[.int .i64 h, .int .u64 l], .agg #[.int .i64 h', .int .u64 l']] w fun e w' => e = .returned (.agg #[.int .i64 (hiW (V h l + V h' l')), .int .u64 (loW (V h l + V h' l'))]) ∧ Below w.heap.size w w' := by
  go_enter Try.func73, Try.ntmps73
  go_wp2_with fail
  refine abs_world (F := fun w1 => Below w.heap.size w w1 ∧ Blk E w1 w.heap.size w.heap.size #[.int .i64 h, .int .u64 l] 31 ∧ Blk E w1 w.heap.size (w.heap.size + 1) #[.int .i64 h', .int .u64 l'] 31 ∧ Blk E w1 w.heap.size (w.heap.size + 1 + 1) #[.int .i64 0, .int .u64 0] 31) ?_ ?_
  · refine ⟨?_, ?_, ?_, ?_⟩
    (repeat (first | with_reducible exact Below.refl _ _ | with_reducible assumption | (with_reducible refine below_set ?_ ?_; focus ((try dsimp only); first | with_reducible assumption | omega)) | (with_reducible refine below_alloc ?_ ?_; focus (first | omega | (simp; done) | (simp; omega))) | with_reducible refine below_drewN ?_ _ | with_reducible refine Below.drew ?_))
    all_goals (apply Blk.cast; (repeat (first | with_reducible assumption | (with_reducible apply Blk.mk_new; (focus (first | exact agE _ | assumption)); (focus (first | rfl | (simp; done))); (focus omega)) | with_reducible apply Blk.alloc | with_reducible apply Blk.drewN | with_reducible apply Blk.drew | with_reducible apply Blk.set | (with_reducible apply Blk.far'; focus (first | with_reducible assumption | (apply Ne.symm; with_reducible assumption) | omega)))); (try (first | (simp; done) | rfl)))
  rintro w1 ⟨f1, f2, f3, f4⟩
  refine ls_take (H0 := E) 6 (fun e => match e with | 1 => .is (D8 h l) | 3 => .is (D8 h' l') | 4 => .var w1.heap.size #[.int .u64 0, .int .u64 0, .int .u64 0, .int .u64 0, .int .u64 0, .int .u64 0, .int .u64 0, .int .u64 0] 79 | 5 => .var w1.heap.size #[.int .u64 0, .int .u64 0, .int .u64 0, .int .u64 0, .int .u64 0, .int .u64 0, .int .u64 0, .int .u64 0] 79 | _ => .tt) [[],[],[],[],[],[]] [1,3,4,5] [4,5] [[],[0],[],[0,1,2],[],[],[0,1,2,3,4,5],[0,1,2,3,4,5,6]] (agE _) (by kernel_rfl) (by kernel_rfl) (by kernel_rfl) (by rfl) (by rfl) (by kernel_rfl) ?_
  intro vals
  refine lsq (by rfl) (by rfl) ?_; apply Exists.intro; refine ⟨fun H w2 hg hp => ?_, ?_⟩
  · have g0 := (f2.below hg.below).cell; have g1 := (f3.below hg.below).cell; (first | (go_simp; rfl) | go_simp)
  (try simp only [Act.put, List.setIfInBounds_toArray, List.set_cons_zero, List.set_cons_succ])
  refine ls_ev (by rfl) (by rfl) (by rfl) (fun H w2 hg hp => ?_) ?_
  · refine gives_call (f := 72) ?_; apply Exists.intro; refine ⟨?_, ?_⟩
    · (first | (go_simp; rfl) | go_simp)
    · refine (digits_dg h l _ k).mono ?_
      rintro e w3 ⟨x0, x1, x2, x3, x4, x5, x6, x7, rfl, p0, p1, p2, p3, p4, p5, p6, p7, r1, r2, hb⟩
      exact ⟨_, rfl, H, Grow.of_below hg.ag hb, x0, x1, x2, x3, x4, x5, x6, x7, rfl, p0, p1, p2, p3, p4, p5, p6, p7, r1, r2⟩
  (try simp only [Act.put, List.setIfInBounds_toArray, List.set_cons_zero, List.set_cons_succ])
  refine lsq (by rfl) (by rfl) ?_; apply Exists.intro; refine ⟨fun H w2 hg hp => ?_, ?_⟩
  · have g0 := (f2.below hg.below).cell; have g1 := (f3.below hg.below).cell; (first | (go_simp; rfl) | go_simp)
  (try simp only [Act.put, List.setIfInBounds_toArray, List.set_cons_zero, List.set_cons_succ])
  refine ls_ev (by rfl) (by rfl) (by rfl) (fun H w2 hg hp => ?_) ?_
  · refine gives_call (f := 72) ?_; apply Exists.intro; refine ⟨?_, ?_⟩
    · (first | (go_simp; rfl) | go_simp)
    · refine (digits_dg h' l' _ k').mono ?_
      rintro e w3 ⟨x0, x1, x2, x3, x4, x5, x6, x7, rfl, p0, p1, p2, p3, p4, p5, p6, p7, r1, r2, hb⟩
      exact ⟨_, rfl, H, Grow.of_below hg.ag hb, x0, x1, x2, x3, x4, x5, x6, x7, rfl, p0, p1, p2, p3, p4, p5, p6, p7, r1, r2⟩
  (try simp only [Act.put, List.setIfInBounds_toArray, List.set_cons_zero, List.set_cons_succ])
  refine ls_alloc (by rfl) (by rfl) (fun w => ?_) (fun H w b hb => ⟨b, rfl, hb⟩) ?_
  · go_simp
  (try simp only [Act.put, List.setIfInBounds_toArray, List.set_cons_zero, List.set_cons_succ])
  refine ls_alloc (by rfl) (by rfl) (fun w => ?_) (fun H w b hb => ⟨b, rfl, hb⟩) ?_
  · go_simp
  refine ls_nil (fun H w2 hg hr hd => ?_)
  obtain ⟨x0, x1, x2, x3, x4, x5, x6, x7, e1, ⟨p0, q0⟩, ⟨p1, q1⟩, ⟨p2, q2⟩, ⟨p3, q3⟩, ⟨p4, q4⟩, ⟨p5, q5⟩, ⟨p6, q6⟩, ⟨p7, q7⟩, r1, r2⟩ := hr 1 (by simp)
  obtain ⟨y0, y1, y2, y3, y4, y5, y6, y7, e3, ⟨s0, t0⟩, ⟨s1, t1⟩, ⟨s2, t2⟩, ⟨s3, t3⟩, ⟨s4, t4⟩, ⟨s5, t5⟩, ⟨s6, t6⟩, ⟨s7, t7⟩, r3, r4⟩ := hr 3 (by simp)
  obtain ⟨b4, e4, k4⟩ := hr 4 (by simp)
  have k4 := k4.toE
  have l4 := k4.ge
  obtain ⟨b5, e5, k5⟩ := hr 5 (by simp)
  have k5 := k5.toE
  have l5 := k5.ge
  have n4_5 : b4 ≠ b5 := fun h => hd 4 (by simp) 5 (by simp) (by simp) (by simp) (by simp) b4 e4 (by rw [h]; exact e5)
  simp only [e1, e3, e4, e5, Act.put, List.setIfInBounds_toArray, List.set_cons_zero, List.set_cons_succ, List.drop_succ_cons, List.drop_zero]
  have hb2 := f1.trans (hg.below.mono f1.size)
  have lf := f1.size
  have lf4 := f4.lt
  have lb4 : w.heap.size ≤ b4 := by omega
  have lb5 : w.heap.size ≤ b5 := by omega
  have nb4 : b4 ≠ w.heap.size + 1 + 1 := by omega
  have nb5 : b5 ≠ w.heap.size + 1 + 1 := by omega
  have c5 := k4.cell
  have z5 := k4.frozen
  have c6 := k5.cell
  have z6 := k5.frozen
  have m4 := f4.below hg.below
  have c4 := m4.cell
  have z4 := m4.frozen
  have hfin := sum_digits ⟨p0, q0⟩ ⟨p1, q1⟩ ⟨p2, q2⟩ ⟨p3, q3⟩ ⟨p4, q4⟩ ⟨p5, q5⟩ ⟨p6, q6⟩ ⟨p7, q7⟩ ⟨s0, t0⟩ ⟨s1, t1⟩ ⟨s2, t2⟩ ⟨s3, t3⟩ ⟨s4, t4⟩ ⟨s5, t5⟩ ⟨s6, t6⟩ ⟨s7, t7⟩ r1 r2 r3 r4 k k' _ _ _ _ _ _ _ rfl rfl rfl rfl rfl rfl rfl
  have HF := Lib.hid hfin
  clear hfin hr hd hg f2 f3 f4 f1 e1 e3 e4 e5 r1 r2 r3 r4 k k'
  have k4 := Blk.ge_of k4 (Nat.le_trans lf l4)
  have k5 := Blk.ge_of k5 (Nat.le_trans lf l5)
  go_wp2
  refine abs_world (F := fun w3 => Below w.heap.size w w3 ∧ Blk E w3 w.heap.size b4 #[.int .u64 x0, .int .u64 x1, .int .u64 x2, .int .u64 x3, .int .u64 x4, .int .u64 x5, .int .u64 x6, .int .u64 x7] 79 ∧
     Blk E w3 w.heap.size b5 #[.int .u64 y0, .int .u64 y1, .int .u64 y2, .int .u64 y3, .int .u64 y4, .int .u64 y5, .int .u64 y6, .int .u64 y7] 79 ∧ Blk E w3 w.heap.size (w.heap.size + 1 + 1) #[.int .i64 0, .int .u64 0] 31) ?_ ?_
  · refine ⟨?_, ?_, ?_, ?_⟩
    (repeat (first | with_reducible exact Below.refl _ _ | with_reducible assumption | (with_reducible refine below_set ?_ ?_; focus ((try dsimp only); first | with_reducible assumption | omega)) | (with_reducible refine below_alloc ?_ ?_; focus (first | omega | (simp; done) | (simp; omega))) | with_reducible refine below_drewN ?_ _ | with_reducible refine Below.drew ?_))
    (apply Blk.cast; (repeat (first | with_reducible assumption | (with_reducible apply Blk.mk_new; (focus (first | exact agE _ | assumption)); (focus (first | rfl | (simp; done))); (focus omega)) | with_reducible apply Blk.alloc | with_reducible apply Blk.drewN | with_reducible apply Blk.drew | with_reducible apply Blk.set | (with_reducible apply Blk.far'; focus (first | with_reducible assumption | (apply Ne.symm; with_reducible assumption) | omega)))); (try (first | (simp; done) | rfl)))
    (apply Blk.cast; (repeat (first | with_reducible assumption | (with_reducible apply Blk.mk_new; (focus (first | exact agE _ | assumption)); (focus (first | rfl | (simp; done))); (focus omega)) | with_reducible apply Blk.alloc | with_reducible apply Blk.drewN | with_reducible apply Blk.drew | with_reducible apply Blk.set | (with_reducible apply Blk.far'; focus (first | with_reducible assumption | (apply Ne.symm; with_reducible assumption) | omega)))); (try (first | (simp; done) | rfl)))
    (apply Blk.cast; (repeat (first | with_reducible assumption | (with_reducible apply Blk.mk_new; (focus (first | exact agE _ | assumption)); (focus (first | rfl | (simp; done))); (focus omega)) | with_reducible apply Blk.alloc | with_reducible apply Blk.drewN | with_reducible apply Blk.drew | with_reducible apply Blk.set | (with_reducible apply Blk.far'; focus (first | with_reducible assumption | (apply Ne.symm; with_reducible assumption) | omega)))); (try (first | (simp; done) | rfl)))
  clear k4 k5 hb2 m4 c5 z5 c6 z6 c4 z4
  rintro w3 ⟨hb3, k4, k5, m4⟩
  have c4 := k4.cell; have z4 := k4.frozen; have c5 := k5.cell; have z5 := k5.frozen; have c6 := m4.cell; have z6 := m4.frozen
  have HK4 := Lib.hid k4; have HK5 := Lib.hid k5; have HM4 := Lib.hid m4; have HB3 := Lib.hid hb3; clear k4 k5 m4 hb3
  refine wp_loop_rounds 9 ?_
  iterate 9
    rw [rounds_succ]
    go_wp2_with fail
    try (go_quiet (fail); go_wp2_with fail)
    try show Code.rounds _ _ _ _ _ _
  refine (wide_any _ _ _ _ _ _ _ _ _ ?_ ?_ ?_ ?_ ?_ ?_ ?_ ?_).mono ?_
  iterate 8 (unfold Dig; omega)
  rintro e w4 ⟨rfl, hb4⟩
  rw [HF.out.1, HF.out.2]
  have k4 := HK4.out; have k5 := HK5.out; have m4 := HM4.out; have hb3 := HB3.out
  have m5 := Blk.below (H := E) (n := w.heap.size) (b := w.heap.size + 1 + 1) (c := #[.int .i64 0, .int .u64 0]) (T := 31) (by (apply Blk.cast; (repeat (first | with_reducible assumption | (with_reducible apply Blk.mk_new; (focus (first | exact agE _ | assumption)); (focus (first | rfl | (simp; done))); (focus omega)) | with_reducible apply Blk.alloc | with_reducible apply Blk.drewN | with_reducible apply Blk.drew | with_reducible apply Blk.set | (with_reducible apply Blk.far'; focus (first | with_reducible assumption | (apply Ne.symm; with_reducible assumption) | omega)))); (try (first | (simp; done) | rfl)))) hb4
  have hb5 := below_then (a := w) (by (repeat (first | with_reducible exact Below.refl _ _ | with_reducible assumption | (with_reducible refine below_set ?_ ?_; focus ((try dsimp only); first | with_reducible assumption | omega)) | (with_reducible refine below_alloc ?_ ?_; focus (first | omega | (simp; done) | (simp; omega))) | with_reducible refine below_drewN ?_ _ | with_reducible refine Below.drew ?_))) hb4
  clear hb4 k4 k5 m4 hb3 c4 z4 c5 z5 c6 z6
  have c6 := m5.cell; have z6 := m5.frozen
  go_wp2
  simp [bodyPost, results, Try.results73, go_sem, c6]
  (repeat (first | with_reducible exact Below.refl _ _ | with_reducible assumption | (with_reducible refine below_set ?_ ?_; focus ((try dsimp only); first | with_reducible assumption | omega)) | (with_reducible refine below_alloc ?_ ?_; focus (first | omega | (simp; done) | (simp; omega))) | with_reducible refine below_drewN ?_ _ | with_reducible refine Below.drew ?_))
end Go.Proofs.Ytebnbajjenpldaa
