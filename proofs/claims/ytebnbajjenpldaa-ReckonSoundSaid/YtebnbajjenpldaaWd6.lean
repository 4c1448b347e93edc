/- Products. -/
import Derived.Test.YtebnbajjenpldaaWd5
namespace Go.Proofs.Ytebnbajjenpldaa
open Go.RowKit Go.Shelf
def mhi (a b : Int) : Int := ((a.natAbs * b.natAbs / 18446744073709551616 : Nat) : Int)
def mlo (a b : Int) : Int := ((a.natAbs * b.natAbs % 18446744073709551616 : Nat) : Int)
theorem mul64 (a b : Int) (w : World) (ka : I64 a) (kb : I64 b) : Calls Try.prog 77 #[.int .u64 (a.natAbs : Int), .int .u64 (b.natAbs : Int)] w fun e w' => e = .returned (.tuple #[.int .u64 (mhi a b), .int .u64 (mlo a b)]) ∧ w = w' := by
  unfold I64 at ka kb
  exact (Try.bits_Mul64 a.natAbs b.natAbs (by omega) (by omega) w).mono fun e w' ⟨he, hw⟩ => ⟨he, hw.symm⟩
theorem natAbs_le {a : Int} (k : I64 a) : a.natAbs ≤ 9223372036854775808 := by unfold I64 at k; omega
theorem mfacts (a b : Int) (ka : I64 a) (kb : I64 b) : Ok2 (mhi a b) (mlo a b) ∧ V (mhi a b) (mlo a b) = ((a.natAbs * b.natAbs : Nat) : Int) := by
  have h1 : a.natAbs * b.natAbs ≤ 9223372036854775808 * 9223372036854775808 := Nat.mul_le_mul (natAbs_le ka) (natAbs_le kb)
  unfold mhi mlo Ok2 V
  generalize a.natAbs * b.natAbs = p at *
  omega
theorem mul_same {a b : Int} (h : a < 0 ↔ b < 0) : ((a.natAbs * b.natAbs : Nat) : Int) = a * b := by
  rw [← Int.natAbs_mul]
  have : 0 ≤ a * b := by
    by_cases ha : a < 0
    · exact Int.mul_nonneg_of_nonpos_of_nonpos (by omega) (by have := h.1 ha; omega)
    · exact Int.mul_nonneg (by omega) (by rcases Int.lt_or_le b 0 with hb | hb; exact absurd (h.2 hb) ha; exact hb)
  omega
theorem mul_diff {a b : Int} (h : ¬ (a < 0 ↔ b < 0)) : ((a.natAbs * b.natAbs : Nat) : Int) = -(a * b) := by
  rw [← Int.natAbs_mul]
  have : a * b ≤ 0 := by
    by_cases ha : a < 0
    · exact Int.mul_nonpos_of_nonpos_of_nonneg (by omega) (by rcases Int.lt_or_le b 0 with hb | hb; exact absurd ⟨fun _ => hb, fun _ => ha⟩ h; exact hb)
    · exact Int.mul_nonpos_of_nonneg_of_nonpos (by omega) (by rcases Int.lt_or_le b 0 with hb | hb; omega; exact absurd ⟨fun x => absurd x ha, fun x => by omega⟩ h)
  omega
set_option maxRecDepth 100000 in
theorem wmul_any (a b : Int) (w : World) (ka : I64 a) (kb : I64 b) :
    Calls Try.prog 60 #[.int .i64 a, .int .i64 b] w fun e w' => e = .returned (.agg #[.int .i64 (hiW (a * b)), .int .u64 (loW (a * b))]) ∧ Below w.heap.size w w' := by
  obtain ⟨kp, hp⟩ := mfacts a b ka kb
  have hh : wrap64 (mhi a b) = mhi a b := wrap64_id ⟨kp.1, kp.2.1⟩
  by_cases hs : (!(decide (a < 0) == decide (b < 0))) = true
  · have hne : ¬ (a < 0 ↔ b < 0) := by
      intro h
      have h2 : decide (a < 0) = decide (b < 0) := decide_eq_decide.2 h
      rw [h2] at hs; simp at hs
    have hp2 : -V (mhi a b) (mlo a b) = a * b := by rw [hp, mul_diff hne]; omega
    have HP := Lib.hid hp2; have KP := Lib.hid kp; have KA := Lib.hid ka; have KB := Lib.hid kb
    clear hp hp2 kp hne ka kb
    go_enter Try.func60, Try.ntmps60
    go_wp2_with fail
    refine (wsize_any a _ KA.out).mono ?_
    rintro e w2 ⟨rfl, hb⟩
    have m2 := Blk.below (H := E) (n := w.heap.size) (b := w.heap.size) (c := #[.int .i64 0, .int .u64 0]) (T := 31) (by (apply Blk.cast; (repeat (first | with_reducible assumption | (with_reducible apply Blk.mk_new; (focus (first | exact agE _ | assumption)); (focus (first | rfl | (simp; done))); (focus omega)) | with_reducible apply Blk.alloc | with_reducible apply Blk.drewN | with_reducible apply Blk.drew | with_reducible apply Blk.set | (with_reducible apply Blk.far'; focus (first | with_reducible assumption | (apply Ne.symm; with_reducible assumption) | omega)))); (try (first | (simp; done) | rfl)))) hb
    have hb2 := below_then (a := w) (by (repeat (first | with_reducible exact Below.refl _ _ | with_reducible assumption | (with_reducible refine below_set ?_ ?_; focus ((try dsimp only); first | with_reducible assumption | omega)) | (with_reducible refine below_alloc ?_ ?_; focus (first | omega | (simp; done) | (simp; omega))) | with_reducible refine below_drewN ?_ _ | with_reducible refine Below.drew ?_))) hb
    clear hb
    go_wp2_with fail
    refine (wsize_any b _ KB.out).mono ?_
    rintro e w3 ⟨rfl, hb⟩
    have m3 := m2.below hb
    have hb3 := below_then hb2 hb
    clear hb m2 hb2
    go_wp2_with fail
    refine (mul64 a b _ KA.out KB.out).mono ?_
    rintro e w4 ⟨rfl, rfl⟩
    have lm := m3.lt
    go_wp2_with fail
    refine (wneg_any _ _ _ KP.out).mono ?_
    rintro e w4 ⟨rfl, hb⟩
    have m4 := Blk.below (H := E) (n := w.heap.size) (b := w.heap.size) (c := #[.int .i64 0, .int .u64 0]) (T := 31) (by (apply Blk.cast; (repeat (first | with_reducible assumption | (with_reducible apply Blk.mk_new; (focus (first | exact agE _ | assumption)); (focus (first | rfl | (simp; done))); (focus omega)) | with_reducible apply Blk.alloc | with_reducible apply Blk.drewN | with_reducible apply Blk.drew | with_reducible apply Blk.set | (with_reducible apply Blk.far'; focus (first | with_reducible assumption | (apply Ne.symm; with_reducible assumption) | omega)))); (try (first | (simp; done) | rfl)))) hb
    have hb4 := below_then (a := w) (by (repeat (first | with_reducible exact Below.refl _ _ | with_reducible assumption | (with_reducible refine below_set ?_ ?_; focus ((try dsimp only); first | with_reducible assumption | omega)) | (with_reducible refine below_alloc ?_ ?_; focus (first | omega | (simp; done) | (simp; omega))) | with_reducible refine below_drewN ?_ _ | with_reducible refine Below.drew ?_))) hb
    rw [HP.out]
    clear hb m3 hb3
    have c6 := m4.cell; have z6 := m4.frozen
    go_wp2
    simp [bodyPost, results, Try.results60, go_sem, c6]
    (repeat (first | with_reducible exact Below.refl _ _ | with_reducible assumption | (with_reducible refine below_set ?_ ?_; focus ((try dsimp only); first | with_reducible assumption | omega)) | (with_reducible refine below_alloc ?_ ?_; focus (first | omega | (simp; done) | (simp; omega))) | with_reducible refine below_drewN ?_ _ | with_reducible refine Below.drew ?_))
  · have hs : (!(decide (a < 0) == decide (b < 0))) = false := by simpa using hs
    have hne : (a < 0 ↔ b < 0) := by
      have : (decide (a < 0)) = decide (b < 0) := by simpa using hs
      exact decide_eq_decide.1 this
    have hp2 : V (mhi a b) (mlo a b) = a * b := by rw [hp, mul_same hne]
    have e1 : mhi a b = hiW (a * b) := by rw [← hp2, hiW_V kp]
    have e2 : mlo a b = loW (a * b) := by rw [← hp2, loW_V kp]
    have HE1 := Lib.hid e1; have HE2 := Lib.hid e2
    have KA := Lib.hid ka; have KB := Lib.hid kb
    clear hp hp2 kp hne ka kb e1 e2
    go_enter Try.func60, Try.ntmps60
    go_wp2_with fail
    refine (wsize_any a _ KA.out).mono ?_
    rintro e w2 ⟨rfl, hb⟩
    have m2 := Blk.below (H := E) (n := w.heap.size) (b := w.heap.size) (c := #[.int .i64 0, .int .u64 0]) (T := 31) (by (apply Blk.cast; (repeat (first | with_reducible assumption | (with_reducible apply Blk.mk_new; (focus (first | exact agE _ | assumption)); (focus (first | rfl | (simp; done))); (focus omega)) | with_reducible apply Blk.alloc | with_reducible apply Blk.drewN | with_reducible apply Blk.drew | with_reducible apply Blk.set | (with_reducible apply Blk.far'; focus (first | with_reducible assumption | (apply Ne.symm; with_reducible assumption) | omega)))); (try (first | (simp; done) | rfl)))) hb
    have hb2 := below_then (a := w) (by (repeat (first | with_reducible exact Below.refl _ _ | with_reducible assumption | (with_reducible refine below_set ?_ ?_; focus ((try dsimp only); first | with_reducible assumption | omega)) | (with_reducible refine below_alloc ?_ ?_; focus (first | omega | (simp; done) | (simp; omega))) | with_reducible refine below_drewN ?_ _ | with_reducible refine Below.drew ?_))) hb
    clear hb
    go_wp2_with fail
    refine (wsize_any b _ KB.out).mono ?_
    rintro e w3 ⟨rfl, hb⟩
    have m3 := m2.below hb
    have hb3 := below_then hb2 hb
    clear hb m2 hb2
    go_wp2_with fail
    refine (mul64 a b _ KA.out KB.out).mono ?_
    rintro e w4 ⟨rfl, rfl⟩
    have lm := m3.lt
    have c6 := m3.cell; have z6 := m3.frozen
    go_wp2
    simp [bodyPost, results, Try.results60, go_sem, c6, lm]
    refine ⟨⟨HE1.out, HE2.out⟩, ?_⟩
    (repeat (first | with_reducible exact Below.refl _ _ | with_reducible assumption | (with_reducible refine below_set ?_ ?_; focus ((try dsimp only); first | with_reducible assumption | omega)) | (with_reducible refine below_alloc ?_ ?_; focus (first | omega | (simp; done) | (simp; omega))) | with_reducible refine below_drewN ?_ _ | with_reducible refine Below.drew ?_))
end Go.Proofs.Ytebnbajjenpldaa
