/- The reference's product, by doubling. -/
import Derived.Test.YtebnbajjenpldaaWd6
namespace Go.Proofs.Ytebnbajjenpldaa
open Go.RowKit Go.Shelf
theorem hiW_add (x y : Int) : hiW (V (hiW x) (loW x) + V (hiW y) (loW y)) = hiW (x + y) := hiW_congr (by rw [V_W, V_W]; omega)
theorem loW_add (x y : Int) : loW (V (hiW x) (loW x) + V (hiW y) (loW y)) = loW (x + y) := loW_congr (by rw [V_W, V_W]; omega)
theorem hiW_neg (x : Int) : hiW (-V (hiW x) (loW x)) = hiW (-x) := hiW_congr (by rw [V_W]; omega)
theorem loW_neg (x : Int) : loW (-V (hiW x) (loW x)) = loW (-x) := loW_congr (by rw [V_W]; omega)
theorem dbl_odd {n x w p : Int} (h : w + n * x = p) (h1 : n % 2 = 1) : w + x + n / 2 * (x + x) = p := by
  have e : n = 2 * (n / 2) + 1 := by omega
  generalize n / 2 = m at *
  subst e
  rw [← h, Int.add_mul, Int.mul_add, Int.mul_comm 2 m, Int.mul_assoc, Int.two_mul, Int.mul_add]
  omega
theorem dbl_even {n x w p : Int} (h : w + n * x = p) (h1 : n % 2 ≠ 1) : w + n / 2 * (x + x) = p := by
  have e : n = 2 * (n / 2) := by omega
  generalize n / 2 = m at *
  subst e
  rw [← h, Int.mul_add, Int.mul_comm 2 m, Int.mul_assoc, Int.two_mul, Int.mul_add]
def RMul (w : World) (a b : Int) (b4 b5 b6 : Nat) (n : Value) (wr : World) : Prop := ∃ m x y : Int, n = .int .u64 m ∧ 0 ≤ m ∧ m < 18446744073709551616 ∧ Hid (x + m * y = a * (b.natAbs : Int)) ∧ Below w.heap.size w wr ∧
  Blk E wr w.heap.size b4 #[.int .i64 0, .int .u64 0] 31 ∧ Blk E wr w.heap.size b5 #[.int .i64 (hiW x), .int .u64 (loW x)] 31 ∧ Blk E wr w.heap.size b6 #[.int .i64 (hiW y), .int .u64 (loW y)] 31
set_option maxRecDepth 100000 in
set_option maxHeartbeats 1000000 in
theorem rmul_any (a b : Int) (w : World) (ka : I64 a) (kb : I64 b) :
    Calls Try.prog 54 #[.int .i64 a, .int .i64 b] w fun e w' => e = .returned (.agg #[.int .i64 (hiW (a * b)), .int .u64 (loW (a * b))]) ∧ Below w.heap.size w w' := by
  have kb' := kb
  unfold I64 at kb'
  obtain ⟨kb1, kb2⟩ := kb'
  have z1 : hiW 0 = 0 := by unfold hiW; rw [wrap64_def]; rfl
  have z2 : loW 0 = 0 := by rfl
  have n1 : loW b = (b.natAbs : Int) ∨ b < 0 := by unfold loW; omega
  have n2 : loW (-b) = (b.natAbs : Int) ∨ 0 ≤ b := by unfold loW; omega
  have f1 : a * (b.natAbs : Int) = a * b ∨ b < 0 := by rcases Int.lt_or_le b 0 with h | h; exact .inr h; exact .inl (by congr 1; omega)
  have f2 : -(a * (b.natAbs : Int)) = a * b ∨ 0 ≤ b := by rcases Int.lt_or_le b 0 with h | h; exact .inl (by rw [← Int.mul_neg]; congr 1; omega); exact .inr h
  have KA := Lib.hid ka; have KB := Lib.hid kb; have N1 := Lib.hid n1; have N2 := Lib.hid n2; have F1 := Lib.hid f1; have F2 := Lib.hid f2
  have Z1 := Lib.hid z1; have Z2 := Lib.hid z2
  clear ka kb n1 n2 f1 f2 z1 z2
  by_cases hb0 : b < 0
  all_goals
    go_enter Try.func54, Try.ntmps54
    go_wp2_with fail
    refine (rof_any a _ KA.out).mono ?_
    rintro e w1 ⟨rfl, hb⟩
    have m1 := Blk.below (H := E) (n := w.heap.size) (b := w.heap.size) (c := #[.int .i64 0, .int .u64 0]) (T := 31) (by (apply Blk.cast; (repeat (first | with_reducible assumption | (with_reducible apply Blk.mk_new; (focus (first | exact agE _ | assumption)); (focus (first | rfl | (simp; done))); (focus omega)) | with_reducible apply Blk.alloc | with_reducible apply Blk.drewN | with_reducible apply Blk.drew | with_reducible apply Blk.set | (with_reducible apply Blk.far'; focus (first | with_reducible assumption | (apply Ne.symm; with_reducible assumption) | omega)))); (try (first | (simp; done) | rfl)))) hb
    have hb1 := below_then (a := w) (by (repeat (first | with_reducible exact Below.refl _ _ | with_reducible assumption | (with_reducible refine below_set ?_ ?_; focus ((try dsimp only); first | with_reducible assumption | omega)) | (with_reducible refine below_alloc ?_ ?_; focus (first | omega | (simp; done) | (simp; omega))) | with_reducible refine below_drewN ?_ _ | with_reducible refine Below.drew ?_))) hb
    clear hb
    have l1 := m1.lt
    go_wp2_with fail
    refine (rof_any b _ KB.out).mono ?_
    rintro e w2 ⟨rfl, hb⟩
    obtain ⟨b5, hb5⟩ : ∃ b5, w1.heap.size = b5 := ⟨_, rfl⟩
    rw [hb5] at l1
    have m2 := Blk.below (H := E) (n := w.heap.size) (b := w.heap.size) (c := #[.int .i64 0, .int .u64 0]) (T := 31) (by (apply Blk.cast; (repeat (first | with_reducible assumption | (with_reducible apply Blk.mk_new; (focus (first | exact agE _ | assumption)); (focus (first | rfl | (simp; done))); (focus omega)) | with_reducible apply Blk.alloc | with_reducible apply Blk.drewN | with_reducible apply Blk.drew | with_reducible apply Blk.set | (with_reducible apply Blk.far'; focus (first | with_reducible assumption | (apply Ne.symm; with_reducible assumption) | omega)))); (try (first | (simp; done) | rfl)))) hb
    have m5 := Blk.below (H := E) (n := w.heap.size) (b := w1.heap.size) (c := #[.int .i64 0, .int .u64 0]) (T := 31) (by (apply Blk.cast; (repeat (first | with_reducible assumption | (with_reducible apply Blk.mk_new; (focus (first | exact agE _ | assumption)); (focus (first | rfl | (simp; done))); (focus omega)) | with_reducible apply Blk.alloc | with_reducible apply Blk.drewN | with_reducible apply Blk.drew | with_reducible apply Blk.set | (with_reducible apply Blk.far'; focus (first | with_reducible assumption | (apply Ne.symm; with_reducible assumption) | omega)))); (try (first | (simp; done) | rfl)))) hb
    have m6 := Blk.below (H := E) (n := w.heap.size) (b := w1.heap.size + 1) (c := #[.int .i64 (hiW a), .int .u64 (loW a)]) (T := 31) (by (apply Blk.cast; (repeat (first | with_reducible assumption | (with_reducible apply Blk.mk_new; (focus (first | exact agE _ | assumption)); (focus (first | rfl | (simp; done))); (focus omega)) | with_reducible apply Blk.alloc | with_reducible apply Blk.drewN | with_reducible apply Blk.drew | with_reducible apply Blk.set | (with_reducible apply Blk.far'; focus (first | with_reducible assumption | (apply Ne.symm; with_reducible assumption) | omega)))); (try (first | (simp; done) | rfl)))) hb
    have hb2 := below_then (a := w) (by (repeat (first | with_reducible exact Below.refl _ _ | with_reducible assumption | (with_reducible refine below_set ?_ ?_; focus ((try dsimp only); first | with_reducible assumption | omega)) | (with_reducible refine below_alloc ?_ ?_; focus (first | omega | (simp; done) | (simp; omega))) | with_reducible refine below_drewN ?_ _ | with_reducible refine Below.drew ?_))) hb
    clear hb m1 hb1
    have l6 := m6.lt
    rw [hb5] at m5 m6 l6
    have e5 : w.heap.size ≠ b5 := by omega
    have e6 : w.heap.size ≠ b5 + 1 := by omega
    have l7 := m2.lt
  · have g5 := m5.ge
    have e7 : w2.heap.size ≠ b5 := by omega
    have e8 : w2.heap.size ≠ b5 + 1 := by omega
    have e9 : w2.heap.size ≠ w.heap.size := by omega
    go_wp2_with fail
    refine (rneg_any _ _ _ (ok2 b)).mono ?_
    rintro e w3 ⟨rfl, hb⟩
    rw [hiW_neg, loW_neg, N2.out.resolve_right (by omega)]
    have m4 := Blk.below (H := E) (n := w.heap.size) (b := w.heap.size) (c := #[.int .i64 0, .int .u64 0]) (T := 31) (by (apply Blk.cast; (repeat (first | with_reducible assumption | (with_reducible apply Blk.mk_new; (focus (first | exact agE _ | assumption)); (focus (first | rfl | (simp; done))); (focus omega)) | with_reducible apply Blk.alloc | with_reducible apply Blk.drewN | with_reducible apply Blk.drew | with_reducible apply Blk.set | (with_reducible apply Blk.far'; focus (first | with_reducible assumption | (apply Ne.symm; with_reducible assumption) | omega)))); (try (first | (simp; done) | rfl)))) hb
    have m7 := Blk.below (H := E) (n := w.heap.size) (b := b5) (c := #[.int .i64 0, .int .u64 0]) (T := 31) (by (apply Blk.cast; (repeat (first | with_reducible assumption | (with_reducible apply Blk.mk_new; (focus (first | exact agE _ | assumption)); (focus (first | rfl | (simp; done))); (focus omega)) | with_reducible apply Blk.alloc | with_reducible apply Blk.drewN | with_reducible apply Blk.drew | with_reducible apply Blk.set | (with_reducible apply Blk.far'; focus (first | with_reducible assumption | (apply Ne.symm; with_reducible assumption) | omega)))); (try (first | (simp; done) | rfl)))) hb
    have m8 := Blk.below (H := E) (n := w.heap.size) (b := b5 + 1) (c := #[.int .i64 (hiW a), .int .u64 (loW a)]) (T := 31) (by (apply Blk.cast; (repeat (first | with_reducible assumption | (with_reducible apply Blk.mk_new; (focus (first | exact agE _ | assumption)); (focus (first | rfl | (simp; done))); (focus omega)) | with_reducible apply Blk.alloc | with_reducible apply Blk.drewN | with_reducible apply Blk.drew | with_reducible apply Blk.set | (with_reducible apply Blk.far'; focus (first | with_reducible assumption | (apply Ne.symm; with_reducible assumption) | omega)))); (try (first | (simp; done) | rfl)))) hb
    have m9 := Blk.below (H := E) (n := w.heap.size) (b := w2.heap.size) (c := #[.int .i64 (hiW b), .int .u64 (loW b)]) (T := 31) (by (apply Blk.cast; (repeat (first | with_reducible assumption | (with_reducible apply Blk.mk_new; (focus (first | exact agE _ | assumption)); (focus (first | rfl | (simp; done))); (focus omega)) | with_reducible apply Blk.alloc | with_reducible apply Blk.drewN | with_reducible apply Blk.drew | with_reducible apply Blk.set | (with_reducible apply Blk.far'; focus (first | with_reducible assumption | (apply Ne.symm; with_reducible assumption) | omega)))); (try (first | (simp; done) | rfl)))) hb
    have hb3 := below_then (a := w) (by (repeat (first | with_reducible exact Below.refl _ _ | with_reducible assumption | (with_reducible refine below_set ?_ ?_; focus ((try dsimp only); first | with_reducible assumption | omega)) | (with_reducible refine below_alloc ?_ ?_; focus (first | omega | (simp; done) | (simp; omega))) | with_reducible refine below_drewN ?_ _ | with_reducible refine Below.drew ?_))) hb
    have c9 := m9.cell; have z9 := m9.frozen
    clear hb m2 m5 m6 hb2
    have H4 := Lib.hid m4; have H7 := Lib.hid m7; have H8 := Lib.hid m8; have HB3 := Lib.hid hb3
    clear m4 m7 m8 m9 hb3
    go_wp2
    refine abs_world (F := fun wl => Below w.heap.size w wl ∧ Blk E wl w.heap.size w.heap.size #[.int .i64 0, .int .u64 0] 31 ∧ Blk E wl w.heap.size b5 #[.int .i64 0, .int .u64 0] 31 ∧ Blk E wl w.heap.size (b5 + 1) #[.int .i64 (hiW a), .int .u64 (loW a)] 31) ?_ ?_
    · have m4 := H4.out; have m7 := H7.out; have m8 := H8.out; have hb3 := HB3.out
      exact ⟨by (repeat (first | with_reducible exact Below.refl _ _ | with_reducible assumption | (with_reducible refine below_set ?_ ?_; focus ((try dsimp only); first | with_reducible assumption | omega)) | (with_reducible refine below_alloc ?_ ?_; focus (first | omega | (simp; done) | (simp; omega))) | with_reducible refine below_drewN ?_ _ | with_reducible refine Below.drew ?_)), by (apply Blk.cast; (repeat (first | with_reducible assumption | (with_reducible apply Blk.mk_new; (focus (first | exact agE _ | assumption)); (focus (first | rfl | (simp; done))); (focus omega)) | with_reducible apply Blk.alloc | with_reducible apply Blk.drewN | with_reducible apply Blk.drew | with_reducible apply Blk.set | (with_reducible apply Blk.far'; focus (first | with_reducible assumption | (apply Ne.symm; with_reducible assumption) | omega)))); (try (first | (simp; done) | rfl))), by (apply Blk.cast; (repeat (first | with_reducible assumption | (with_reducible apply Blk.mk_new; (focus (first | exact agE _ | assumption)); (focus (first | rfl | (simp; done))); (focus omega)) | with_reducible apply Blk.alloc | with_reducible apply Blk.drewN | with_reducible apply Blk.drew | with_reducible apply Blk.set | (with_reducible apply Blk.far'; focus (first | with_reducible assumption | (apply Ne.symm; with_reducible assumption) | omega)))); (try (first | (simp; done) | rfl))), by (apply Blk.cast; (repeat (first | with_reducible assumption | (with_reducible apply Blk.mk_new; (focus (first | exact agE _ | assumption)); (focus (first | rfl | (simp; done))); (focus omega)) | with_reducible apply Blk.alloc | with_reducible apply Blk.drewN | with_reducible apply Blk.drew | with_reducible apply Blk.set | (with_reducible apply Blk.far'; focus (first | with_reducible assumption | (apply Ne.symm; with_reducible assumption) | omega)))); (try (first | (simp; done) | rfl)))⟩
    rintro wl ⟨hbl, m4, m7, m8⟩
    have M4 := Lib.hid m4; have M7 := Lib.hid m7; have M8 := Lib.hid m8
    clear m4 m7 m8 c9 z9 H4 H7 H8 HB3 e7 e8 e9 l7 l1
    have HBL : Hid (Below w.heap.size w wl) := hbl
    go_loopw [8] (fun n wr => RMul w a b w.heap.size b5 (b5 + 1) n wr) (fun n _ => (intOf n).toNat)
    case atStart => exact ⟨(b.natAbs : Int), 0, a, rfl, by omega, by omega, by unfold Hid; rw [Int.zero_add, Int.mul_comm], HBL.out, M4.out, by rw [Z1.out, Z2.out]; exact M7.out, M8.out⟩
    case round =>
      obtain ⟨m, x, y, rfl, g0, g1, HX, hbr, q4, q5, q6⟩ := hrel
      have HQ4 := Lib.hid q4; have HBR := Lib.hid hbr
      have lq5 := q5.lt; have lq6 := q6.lt; have ge5 := q5.ge
      clear M4 M7 M8 HBL
      by_cases hm : 0 < m
      · by_cases ho : m % 2 = 1
        · have ho' : (m % 2 == 1) = true := by simpa using ho
          have c5 := q5.cell; have z5 := q5.frozen; have c6 := q6.cell; have z6 := q6.frozen
          have HQ5 := Lib.hid q5; have HQ6 := Lib.hid q6; clear q4 q5 q6 hbr
          have HO := Lib.hid ho; clear ho
          go_wp2_with fail
          refine (radd_any _ _ _ _ _ (ok2 x) (ok2 y)).mono ?_
          rintro e w5 ⟨rfl, hb⟩
          rw [hiW_add, loW_add]
          have k4 := HQ4.out.below hb
          have k5 := HQ5.out.below hb
          have k6 := HQ6.out.below hb
          have kb := below_then HBR.out hb
          clear hb c5 z5 c6 z6
          have c5 := k5.cell; have z5 := k5.frozen; have c6 := k6.cell; have z6 := k6.frozen
          have HQ4 := Lib.hid k4; have HQ5 := Lib.hid k5; have HQ6 := Lib.hid k6; have HBR := Lib.hid kb; clear k4 k5 k6 kb
          go_wp2_with fail
          refine (radd_any _ _ _ _ _ (ok2 y) (ok2 y)).mono ?_
          rintro e w6 ⟨rfl, hb⟩
          rw [hiW_add, loW_add]
          have k4 := HQ4.out; have k5 := HQ5.out; have k6 := HQ6.out; have kb := HBR.out
          have j4 := Blk.below (H := E) (n := w.heap.size) (b := w.heap.size) (c := #[.int .i64 0, .int .u64 0]) (T := 31) (by (apply Blk.cast; (repeat (first | with_reducible assumption | (with_reducible apply Blk.mk_new; (focus (first | exact agE _ | assumption)); (focus (first | rfl | (simp; done))); (focus omega)) | with_reducible apply Blk.alloc | with_reducible apply Blk.drewN | with_reducible apply Blk.drew | with_reducible apply Blk.set | (with_reducible apply Blk.far'; focus (first | with_reducible assumption | (apply Ne.symm; with_reducible assumption) | omega)))); (try (first | (simp; done) | rfl)))) hb
          have j5 := Blk.below (H := E) (n := w.heap.size) (b := b5) (c := #[.int .i64 (hiW (x + y)), .int .u64 (loW (x + y))]) (T := 31) (by (apply Blk.cast; (repeat (first | with_reducible assumption | (with_reducible apply Blk.mk_new; (focus (first | exact agE _ | assumption)); (focus (first | rfl | (simp; done))); (focus omega)) | with_reducible apply Blk.alloc | with_reducible apply Blk.drewN | with_reducible apply Blk.drew | with_reducible apply Blk.set | (with_reducible apply Blk.far'; focus (first | with_reducible assumption | (apply Ne.symm; with_reducible assumption) | omega)))); (try (first | (simp; done) | rfl)))) hb
          have j6 := Blk.below (H := E) (n := w.heap.size) (b := b5 + 1) (c := #[.int .i64 (hiW y), .int .u64 (loW y)]) (T := 31) (by (apply Blk.cast; (repeat (first | with_reducible assumption | (with_reducible apply Blk.mk_new; (focus (first | exact agE _ | assumption)); (focus (first | rfl | (simp; done))); (focus omega)) | with_reducible apply Blk.alloc | with_reducible apply Blk.drewN | with_reducible apply Blk.drew | with_reducible apply Blk.set | (with_reducible apply Blk.far'; focus (first | with_reducible assumption | (apply Ne.symm; with_reducible assumption) | omega)))); (try (first | (simp; done) | rfl)))) hb
          have jb := below_then (a := w) (by (repeat (first | with_reducible exact Below.refl _ _ | with_reducible assumption | (with_reducible refine below_set ?_ ?_; focus ((try dsimp only); first | with_reducible assumption | omega)) | (with_reducible refine below_alloc ?_ ?_; focus (first | omega | (simp; done) | (simp; omega))) | with_reducible refine below_drewN ?_ _ | with_reducible refine Below.drew ?_))) hb
          clear hb c5 z5 c6 z6 k4 k5 k6 kb HQ4 HQ5 HQ6 HBR
          have c6 := j6.cell; have z6 := j6.frozen
          have HQ4 := Lib.hid j4; have HQ5 := Lib.hid j5; have HQ6 := Lib.hid j6; have HBR := Lib.hid jb; clear j4 j5 j6 jb
          go_wp2
          go_roundw
          case rel =>
            have k4 := HQ4.out; have k5 := HQ5.out; have k6 := HQ6.out; have kb := HBR.out
            exact ⟨m / 2, x + y, y + y, rfl, by omega, by omega, dbl_odd HX.out HO.out, by (repeat (first | with_reducible exact Below.refl _ _ | with_reducible assumption | (with_reducible refine below_set ?_ ?_; focus ((try dsimp only); first | with_reducible assumption | omega)) | (with_reducible refine below_alloc ?_ ?_; focus (first | omega | (simp; done) | (simp; omega))) | with_reducible refine below_drewN ?_ _ | with_reducible refine Below.drew ?_)), by (apply Blk.cast; (repeat (first | with_reducible assumption | (with_reducible apply Blk.mk_new; (focus (first | exact agE _ | assumption)); (focus (first | rfl | (simp; done))); (focus omega)) | with_reducible apply Blk.alloc | with_reducible apply Blk.drewN | with_reducible apply Blk.drew | with_reducible apply Blk.set | (with_reducible apply Blk.far'; focus (first | with_reducible assumption | (apply Ne.symm; with_reducible assumption) | omega)))); (try (first | (simp; done) | rfl))), by (apply Blk.cast; (repeat (first | with_reducible assumption | (with_reducible apply Blk.mk_new; (focus (first | exact agE _ | assumption)); (focus (first | rfl | (simp; done))); (focus omega)) | with_reducible apply Blk.alloc | with_reducible apply Blk.drewN | with_reducible apply Blk.drew | with_reducible apply Blk.set | (with_reducible apply Blk.far'; focus (first | with_reducible assumption | (apply Ne.symm; with_reducible assumption) | omega)))); (try (first | (simp; done) | rfl))), by (apply Blk.cast; (repeat (first | with_reducible assumption | (with_reducible apply Blk.mk_new; (focus (first | exact agE _ | assumption)); (focus (first | rfl | (simp; done))); (focus omega)) | with_reducible apply Blk.alloc | with_reducible apply Blk.drewN | with_reducible apply Blk.drew | with_reducible apply Blk.set | (with_reducible apply Blk.far'; focus (first | with_reducible assumption | (apply Ne.symm; with_reducible assumption) | omega)))); (try (first | (simp; done) | rfl)))⟩
          case measure => simp [intOf]; omega
        · have ho' : (m % 2 == 1) = false := by simpa using ho
          have c5 := q5.cell; have z5 := q5.frozen; have c6 := q6.cell; have z6 := q6.frozen
          have HQ5 := Lib.hid q5; have HQ6 := Lib.hid q6; clear q4 q5 q6 hbr
          have HO := Lib.hid ho; clear ho
          go_wp2_with fail
          refine (radd_any _ _ _ _ _ (ok2 y) (ok2 y)).mono ?_
          rintro e w6 ⟨rfl, hb⟩
          rw [hiW_add, loW_add]
          have j4 := HQ4.out.below hb
          have j5 := HQ5.out.below hb
          have j6 := HQ6.out.below hb
          have jb := below_then HBR.out hb
          clear hb c5 z5 c6 z6 HQ4 HQ5 HQ6 HBR
          have c6 := j6.cell; have z6 := j6.frozen
          have HQ4 := Lib.hid j4; have HQ5 := Lib.hid j5; have HQ6 := Lib.hid j6; have HBR := Lib.hid jb; clear j4 j5 j6 jb
          go_wp2
          go_roundw
          case rel =>
            have k4 := HQ4.out; have k5 := HQ5.out; have k6 := HQ6.out; have kb := HBR.out
            exact ⟨m / 2, x, y + y, rfl, by omega, by omega, dbl_even HX.out HO.out, by (repeat (first | with_reducible exact Below.refl _ _ | with_reducible assumption | (with_reducible refine below_set ?_ ?_; focus ((try dsimp only); first | with_reducible assumption | omega)) | (with_reducible refine below_alloc ?_ ?_; focus (first | omega | (simp; done) | (simp; omega))) | with_reducible refine below_drewN ?_ _ | with_reducible refine Below.drew ?_)), by (apply Blk.cast; (repeat (first | with_reducible assumption | (with_reducible apply Blk.mk_new; (focus (first | exact agE _ | assumption)); (focus (first | rfl | (simp; done))); (focus omega)) | with_reducible apply Blk.alloc | with_reducible apply Blk.drewN | with_reducible apply Blk.drew | with_reducible apply Blk.set | (with_reducible apply Blk.far'; focus (first | with_reducible assumption | (apply Ne.symm; with_reducible assumption) | omega)))); (try (first | (simp; done) | rfl))), by (apply Blk.cast; (repeat (first | with_reducible assumption | (with_reducible apply Blk.mk_new; (focus (first | exact agE _ | assumption)); (focus (first | rfl | (simp; done))); (focus omega)) | with_reducible apply Blk.alloc | with_reducible apply Blk.drewN | with_reducible apply Blk.drew | with_reducible apply Blk.set | (with_reducible apply Blk.far'; focus (first | with_reducible assumption | (apply Ne.symm; with_reducible assumption) | omega)))); (try (first | (simp; done) | rfl))), by (apply Blk.cast; (repeat (first | with_reducible assumption | (with_reducible apply Blk.mk_new; (focus (first | exact agE _ | assumption)); (focus (first | rfl | (simp; done))); (focus omega)) | with_reducible apply Blk.alloc | with_reducible apply Blk.drewN | with_reducible apply Blk.drew | with_reducible apply Blk.set | (with_reducible apply Blk.far'; focus (first | with_reducible assumption | (apply Ne.symm; with_reducible assumption) | omega)))); (try (first | (simp; done) | rfl)))⟩
          case measure => simp [intOf]; omega
      · obtain rfl : m = 0 := by omega
        have hx : x = a * (b.natAbs : Int) := by have := HX.out; rw [Int.zero_mul, Int.add_zero] at this; exact this
        subst hx
        have c5 := q5.cell; have c4 := q4.cell; have z4 := q4.frozen
        clear q5 q6 hbr HX
        go_wp2_with fail
        refine (rneg_any _ _ _ (ok2 _)).mono ?_
        rintro e w7 ⟨rfl, hb⟩
        rw [hiW_neg, loW_neg, F2.out.resolve_right (by omega)]
        have k4 := HQ4.out.below hb
        have kb := below_then HBR.out hb
        clear hb c5 c4 z4 q4
        have c4 := k4.cell; have z4 := k4.frozen
        go_wp2
        simp [bodyPost, results, Try.results54, go_sem, c4]
        (repeat (first | with_reducible exact Below.refl _ _ | with_reducible assumption | (with_reducible refine below_set ?_ ?_; focus ((try dsimp only); first | with_reducible assumption | omega)) | (with_reducible refine below_alloc ?_ ?_; focus (first | omega | (simp; done) | (simp; omega))) | with_reducible refine below_drewN ?_ _ | with_reducible refine Below.drew ?_))
  · have g5 := m5.ge
    have e7 : w2.heap.size ≠ b5 := by omega
    have e8 : w2.heap.size ≠ b5 + 1 := by omega
    have e9 : w2.heap.size ≠ w.heap.size := by omega
    have hn1 := N1.out.resolve_right (by omega)
    have H4 := Lib.hid m2; have H7 := Lib.hid m5; have H8 := Lib.hid m6; have HB3 := Lib.hid hb2
    clear m2 m5 m6 hb2
    go_wp2
    refine abs_world (F := fun wl => Below w.heap.size w wl ∧ Blk E wl w.heap.size w.heap.size #[.int .i64 0, .int .u64 0] 31 ∧ Blk E wl w.heap.size b5 #[.int .i64 0, .int .u64 0] 31 ∧ Blk E wl w.heap.size (b5 + 1) #[.int .i64 (hiW a), .int .u64 (loW a)] 31) ?_ ?_
    · have m4 := H4.out; have m7 := H7.out; have m8 := H8.out; have hb3 := HB3.out; have sz := hb3.size
      exact ⟨by (repeat (first | with_reducible exact Below.refl _ _ | with_reducible assumption | (with_reducible refine below_set ?_ ?_; focus ((try dsimp only); first | with_reducible assumption | omega)) | (with_reducible refine below_alloc ?_ ?_; focus (first | omega | (simp; done) | (simp; omega))) | with_reducible refine below_drewN ?_ _ | with_reducible refine Below.drew ?_)), by (apply Blk.cast; (repeat (first | with_reducible assumption | (with_reducible apply Blk.mk_new; (focus (first | exact agE _ | assumption)); (focus (first | rfl | (simp; done))); (focus omega)) | with_reducible apply Blk.alloc | with_reducible apply Blk.drewN | with_reducible apply Blk.drew | with_reducible apply Blk.set | (with_reducible apply Blk.far'; focus (first | with_reducible assumption | (apply Ne.symm; with_reducible assumption) | omega)))); (try (first | (simp; done) | rfl))), by (apply Blk.cast; (repeat (first | with_reducible assumption | (with_reducible apply Blk.mk_new; (focus (first | exact agE _ | assumption)); (focus (first | rfl | (simp; done))); (focus omega)) | with_reducible apply Blk.alloc | with_reducible apply Blk.drewN | with_reducible apply Blk.drew | with_reducible apply Blk.set | (with_reducible apply Blk.far'; focus (first | with_reducible assumption | (apply Ne.symm; with_reducible assumption) | omega)))); (try (first | (simp; done) | rfl))), by (apply Blk.cast; (repeat (first | with_reducible assumption | (with_reducible apply Blk.mk_new; (focus (first | exact agE _ | assumption)); (focus (first | rfl | (simp; done))); (focus omega)) | with_reducible apply Blk.alloc | with_reducible apply Blk.drewN | with_reducible apply Blk.drew | with_reducible apply Blk.set | (with_reducible apply Blk.far'; focus (first | with_reducible assumption | (apply Ne.symm; with_reducible assumption) | omega)))); (try (first | (simp; done) | rfl)))⟩
    rintro wl ⟨hbl, m4, m7, m8⟩
    have M4 := Lib.hid m4; have M7 := Lib.hid m7; have M8 := Lib.hid m8
    clear m4 m7 m8 H4 H7 H8 HB3 e7 e8 e9 l7 l1 hn1
    have HBL : Hid (Below w.heap.size w wl) := hbl
    go_loopw [8] (fun n wr => RMul w a b w.heap.size b5 (b5 + 1) n wr) (fun n _ => (intOf n).toNat)
    case atStart => exact ⟨(b.natAbs : Int), 0, a, rfl, by omega, by omega, by unfold Hid; rw [Int.zero_add, Int.mul_comm], HBL.out, M4.out, by rw [Z1.out, Z2.out]; exact M7.out, M8.out⟩
    case round =>
      obtain ⟨m, x, y, rfl, g0, g1, HX, hbr, q4, q5, q6⟩ := hrel
      have HQ4 := Lib.hid q4; have HBR := Lib.hid hbr
      have lq5 := q5.lt; have lq6 := q6.lt; have ge5 := q5.ge
      clear M4 M7 M8 HBL
      by_cases hm : 0 < m
      · by_cases ho : m % 2 = 1
        · have ho' : (m % 2 == 1) = true := by simpa using ho
          have c5 := q5.cell; have z5 := q5.frozen; have c6 := q6.cell; have z6 := q6.frozen
          have HQ5 := Lib.hid q5; have HQ6 := Lib.hid q6; clear q4 q5 q6 hbr
          have HO := Lib.hid ho; clear ho
          go_wp2_with fail
          refine (radd_any _ _ _ _ _ (ok2 x) (ok2 y)).mono ?_
          rintro e w5 ⟨rfl, hb⟩
          rw [hiW_add, loW_add]
          have k4 := HQ4.out.below hb
          have k5 := HQ5.out.below hb
          have k6 := HQ6.out.below hb
          have kb := below_then HBR.out hb
          clear hb c5 z5 c6 z6
          have c5 := k5.cell; have z5 := k5.frozen; have c6 := k6.cell; have z6 := k6.frozen
          have HQ4 := Lib.hid k4; have HQ5 := Lib.hid k5; have HQ6 := Lib.hid k6; have HBR := Lib.hid kb; clear k4 k5 k6 kb
          go_wp2_with fail
          refine (radd_any _ _ _ _ _ (ok2 y) (ok2 y)).mono ?_
          rintro e w6 ⟨rfl, hb⟩
          rw [hiW_add, loW_add]
          have k4 := HQ4.out; have k5 := HQ5.out; have k6 := HQ6.out; have kb := HBR.out
          have j4 := Blk.below (H := E) (n := w.heap.size) (b := w.heap.size) (c := #[.int .i64 0, .int .u64 0]) (T := 31) (by (apply Blk.cast; (repeat (first | with_reducible assumption | (with_reducible apply Blk.mk_new; (focus (first | exact agE _ | assumption)); (focus (first | rfl | (simp; done))); (focus omega)) | with_reducible apply Blk.alloc | with_reducible apply Blk.drewN | with_reducible apply Blk.drew | with_reducible apply Blk.set | (with_reducible apply Blk.far'; focus (first | with_reducible assumption | (apply Ne.symm; with_reducible assumption) | omega)))); (try (first | (simp; done) | rfl)))) hb
          have j5 := Blk.below (H := E) (n := w.heap.size) (b := b5) (c := #[.int .i64 (hiW (x + y)), .int .u64 (loW (x + y))]) (T := 31) (by (apply Blk.cast; (repeat (first | with_reducible assumption | (with_reducible apply Blk.mk_new; (focus (first | exact agE _ | assumption)); (focus (first | rfl | (simp; done))); (focus omega)) | with_reducible apply Blk.alloc | with_reducible apply Blk.drewN | with_reducible apply Blk.drew | with_reducible apply Blk.set | (with_reducible apply Blk.far'; focus (first | with_reducible assumption | (apply Ne.symm; with_reducible assumption) | omega)))); (try (first | (simp; done) | rfl)))) hb
          have j6 := Blk.below (H := E) (n := w.heap.size) (b := b5 + 1) (c := #[.int .i64 (hiW y), .int .u64 (loW y)]) (T := 31) (by (apply Blk.cast; (repeat (first | with_reducible assumption | (with_reducible apply Blk.mk_new; (focus (first | exact agE _ | assumption)); (focus (first | rfl | (simp; done))); (focus omega)) | with_reducible apply Blk.alloc | with_reducible apply Blk.drewN | with_reducible apply Blk.drew | with_reducible apply Blk.set | (with_reducible apply Blk.far'; focus (first | with_reducible assumption | (apply Ne.symm; with_reducible assumption) | omega)))); (try (first | (simp; done) | rfl)))) hb
          have jb := below_then (a := w) (by (repeat (first | with_reducible exact Below.refl _ _ | with_reducible assumption | (with_reducible refine below_set ?_ ?_; focus ((try dsimp only); first | with_reducible assumption | omega)) | (with_reducible refine below_alloc ?_ ?_; focus (first | omega | (simp; done) | (simp; omega))) | with_reducible refine below_drewN ?_ _ | with_reducible refine Below.drew ?_))) hb
          clear hb c5 z5 c6 z6 k4 k5 k6 kb HQ4 HQ5 HQ6 HBR
          have c6 := j6.cell; have z6 := j6.frozen
          have HQ4 := Lib.hid j4; have HQ5 := Lib.hid j5; have HQ6 := Lib.hid j6; have HBR := Lib.hid jb; clear j4 j5 j6 jb
          go_wp2
          go_roundw
          case rel =>
            have k4 := HQ4.out; have k5 := HQ5.out; have k6 := HQ6.out; have kb := HBR.out
            exact ⟨m / 2, x + y, y + y, rfl, by omega, by omega, dbl_odd HX.out HO.out, by (repeat (first | with_reducible exact Below.refl _ _ | with_reducible assumption | (with_reducible refine below_set ?_ ?_; focus ((try dsimp only); first | with_reducible assumption | omega)) | (with_reducible refine below_alloc ?_ ?_; focus (first | omega | (simp; done) | (simp; omega))) | with_reducible refine below_drewN ?_ _ | with_reducible refine Below.drew ?_)), by (apply Blk.cast; (repeat (first | with_reducible assumption | (with_reducible apply Blk.mk_new; (focus (first | exact agE _ | assumption)); (focus (first | rfl | (simp; done))); (focus omega)) | with_reducible apply Blk.alloc | with_reducible apply Blk.drewN | with_reducible apply Blk.drew | with_reducible apply Blk.set | (with_reducible apply Blk.far'; focus (first | with_reducible assumption | (apply Ne.symm; with_reducible assumption) | omega)))); (try (first | (simp; done) | rfl))), by (apply Blk.cast; (repeat (first | with_reducible assumption | (with_reducible apply Blk.mk_new; (focus (first | exact agE _ | assumption)); (focus (first | rfl | (simp; done))); (focus omega)) | with_reducible apply Blk.alloc | with_reducible apply Blk.drewN | with_reducible apply Blk.drew | with_reducible apply Blk.set | (with_reducible apply Blk.far'; focus (first | with_reducible assumption | (apply Ne.symm; with_reducible assumption) | omega)))); (try (first | (simp; done) | rfl))), by (apply Blk.cast; (repeat (first | with_reducible assumption | (with_reducible apply Blk.mk_new; (focus (first | exact agE _ | assumption)); (focus (first | rfl | (simp; done))); (focus omega)) | with_reducible apply Blk.alloc | with_reducible apply Blk.drewN | with_reducible apply Blk.drew | with_reducible apply Blk.set | (with_reducible apply Blk.far'; focus (first | with_reducible assumption | (apply Ne.symm; with_reducible assumption) | omega)))); (try (first | (simp; done) | rfl)))⟩
          case measure => simp [intOf]; omega
        · have ho' : (m % 2 == 1) = false := by simpa using ho
          have c5 := q5.cell; have z5 := q5.frozen; have c6 := q6.cell; have z6 := q6.frozen
          have HQ5 := Lib.hid q5; have HQ6 := Lib.hid q6; clear q4 q5 q6 hbr
          have HO := Lib.hid ho; clear ho
          go_wp2_with fail
          refine (radd_any _ _ _ _ _ (ok2 y) (ok2 y)).mono ?_
          rintro e w6 ⟨rfl, hb⟩
          rw [hiW_add, loW_add]
          have j4 := HQ4.out.below hb
          have j5 := HQ5.out.below hb
          have j6 := HQ6.out.below hb
          have jb := below_then HBR.out hb
          clear hb c5 z5 c6 z6 HQ4 HQ5 HQ6 HBR
          have c6 := j6.cell; have z6 := j6.frozen
          have HQ4 := Lib.hid j4; have HQ5 := Lib.hid j5; have HQ6 := Lib.hid j6; have HBR := Lib.hid jb; clear j4 j5 j6 jb
          go_wp2
          go_roundw
          case rel =>
            have k4 := HQ4.out; have k5 := HQ5.out; have k6 := HQ6.out; have kb := HBR.out
            exact ⟨m / 2, x, y + y, rfl, by omega, by omega, dbl_even HX.out HO.out, by (repeat (first | with_reducible exact Below.refl _ _ | with_reducible assumption | (with_reducible refine below_set ?_ ?_; focus ((try dsimp only); first | with_reducible assumption | omega)) | (with_reducible refine below_alloc ?_ ?_; focus (first | omega | (simp; done) | (simp; omega))) | with_reducible refine below_drewN ?_ _ | with_reducible refine Below.drew ?_)), by (apply Blk.cast; (repeat (first | with_reducible assumption | (with_reducible apply Blk.mk_new; (focus (first | exact agE _ | assumption)); (focus (first | rfl | (simp; done))); (focus omega)) | with_reducible apply Blk.alloc | with_reducible apply Blk.drewN | with_reducible apply Blk.drew | with_reducible apply Blk.set | (with_reducible apply Blk.far'; focus (first | with_reducible assumption | (apply Ne.symm; with_reducible assumption) | omega)))); (try (first | (simp; done) | rfl))), by (apply Blk.cast; (repeat (first | with_reducible assumption | (with_reducible apply Blk.mk_new; (focus (first | exact agE _ | assumption)); (focus (first | rfl | (simp; done))); (focus omega)) | with_reducible apply Blk.alloc | with_reducible apply Blk.drewN | with_reducible apply Blk.drew | with_reducible apply Blk.set | (with_reducible apply Blk.far'; focus (first | with_reducible assumption | (apply Ne.symm; with_reducible assumption) | omega)))); (try (first | (simp; done) | rfl))), by (apply Blk.cast; (repeat (first | with_reducible assumption | (with_reducible apply Blk.mk_new; (focus (first | exact agE _ | assumption)); (focus (first | rfl | (simp; done))); (focus omega)) | with_reducible apply Blk.alloc | with_reducible apply Blk.drewN | with_reducible apply Blk.drew | with_reducible apply Blk.set | (with_reducible apply Blk.far'; focus (first | with_reducible assumption | (apply Ne.symm; with_reducible assumption) | omega)))); (try (first | (simp; done) | rfl)))⟩
          case measure => simp [intOf]; omega
      · obtain rfl : m = 0 := by omega
        have hx : x = a * (b.natAbs : Int) := by have := HX.out; rw [Int.zero_mul, Int.add_zero] at this; exact this
        subst hx
        have c5 := q5.cell; have c4 := q4.cell; have z4 := q4.frozen
        clear q5 q6 hbr HX
        have g := F1.out.resolve_right (by omega)
        have HG := Lib.hid g; clear g
        have kb := HBR.out
        go_wp2
        rw [← HG.out]
        simp [bodyPost, results, Try.results54, go_sem, c4]
        (repeat (first | with_reducible exact Below.refl _ _ | with_reducible assumption | (with_reducible refine below_set ?_ ?_; focus ((try dsimp only); first | with_reducible assumption | omega)) | (with_reducible refine below_alloc ?_ ?_; focus (first | omega | (simp; done) | (simp; omega))) | with_reducible refine below_drewN ?_ _ | with_reducible refine Below.drew ?_))
end Go.Proofs.Ytebnbajjenpldaa
