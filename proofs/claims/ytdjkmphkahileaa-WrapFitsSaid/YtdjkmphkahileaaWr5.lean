/- Layer 2: the document's Do. -/
import Derived.Test.YtdjkmphkahileaaWr4
namespace Go.Proofs.Ytdjkmphkahileaa
open Go.RowKit Go.Shelf
theorem rquot (a b : Int) (w : World) (ka : I64 a) (kb : I64 b) (hz : b ≠ 0) : Calls Try.prog 25 #[.int .i64 a, .int .i64 b] w fun e w' => e = .returned (.int .i64 (wrap64 (a.tdiv b))) ∧ Below w.heap.size w w' := by
  have hz' : ¬ (b.natAbs : Int) = 0 := by omega
  cases hs : (!(decide (a < 0) == decide (b < 0)))
  · have h := rquot_same a b _ w ka kb hz' hs (quot_m a b ka hz) (quot_ok a b ka)
    rw [tdiv_same a b hs] at h
    exact h
  · have h := rquot_diff a b _ w ka kb hz' hs (quot_m a b ka hz) (quot_ok a b ka)
    have e1 : V 0 ((a.natAbs / b.natAbs : Nat) : Int) = ((a.natAbs / b.natAbs : Nat) : Int) := by unfold V; omega
    rw [e1, tdiv_diff a b hs, wrap64_loW] at h
    exact h
theorem rdo_add (a b : Int) (w : World) (ka : I64 a) (kb : I64 b) : Calls Try.prog 8 #[.int .i64 10, .int .i64 a, .int .i64 b] w fun e w' => e = .returned (.tuple #[.int .i64 (wrap64 (a + b)), .int .i64 0]) ∧ Below w.heap.size w w' := by
  have HL := Lib.hid (wrap64_loW (a + b))
  go_enter Try.func8, Try.ntmps8
  go_wp2_with fail
  refine (rexact_add a b _ ka kb).mono ?_
  rintro e w1 ⟨rfl, hb1⟩
  go_wp2_with fail
  refine (rlow_any _ _ _ (ok2 _)).mono ?_
  rintro e w2 ⟨rfl, hb2⟩
  rw [HL.out]
  have hs := hb1.size
  have b2 := below_then (a := w) (by (repeat (first | with_reducible exact Below.refl _ _ | with_reducible assumption | (with_reducible refine below_set ?_ ?_; focus ((try dsimp only); first | with_reducible assumption | omega)) | (with_reducible refine below_alloc ?_ ?_; focus (first | omega | (simp; done) | (simp; omega))) | with_reducible refine below_drewN ?_ _ | with_reducible refine Below.drew ?_))) hb2
  go_wp2
  go_ret2
  exact ⟨rfl, b2⟩
theorem rdo_sub (a b : Int) (w : World) (ka : I64 a) (kb : I64 b) : Calls Try.prog 8 #[.int .i64 11, .int .i64 a, .int .i64 b] w fun e w' => e = .returned (.tuple #[.int .i64 (wrap64 (a - b)), .int .i64 0]) ∧ Below w.heap.size w w' := by
  have HL := Lib.hid (wrap64_loW (a - b))
  go_enter Try.func8, Try.ntmps8
  go_wp2_with fail
  refine (rexact_sub a b _ ka kb).mono ?_
  rintro e w1 ⟨rfl, hb1⟩
  go_wp2_with fail
  refine (rlow_any _ _ _ (ok2 _)).mono ?_
  rintro e w2 ⟨rfl, hb2⟩
  rw [HL.out]
  have hs := hb1.size
  have b2 := below_then (a := w) (by (repeat (first | with_reducible exact Below.refl _ _ | with_reducible assumption | (with_reducible refine below_set ?_ ?_; focus ((try dsimp only); first | with_reducible assumption | omega)) | (with_reducible refine below_alloc ?_ ?_; focus (first | omega | (simp; done) | (simp; omega))) | with_reducible refine below_drewN ?_ _ | with_reducible refine Below.drew ?_))) hb2
  go_wp2
  go_ret2
  exact ⟨rfl, b2⟩
theorem rdo_mul (a b : Int) (w : World) (ka : I64 a) (kb : I64 b) : Calls Try.prog 8 #[.int .i64 7, .int .i64 a, .int .i64 b] w fun e w' => e = .returned (.tuple #[.int .i64 (wrap64 (a * b)), .int .i64 0]) ∧ Below w.heap.size w w' := by
  have HL := Lib.hid (wrap64_loW (a * b))
  go_enter Try.func8, Try.ntmps8
  go_wp2_with fail
  refine (rexact_mul a b _ ka kb).mono ?_
  rintro e w1 ⟨rfl, hb1⟩
  go_wp2_with fail
  refine (rlow_any _ _ _ (ok2 _)).mono ?_
  rintro e w2 ⟨rfl, hb2⟩
  rw [HL.out]
  have hs := hb1.size
  have b2 := below_then (a := w) (by (repeat (first | with_reducible exact Below.refl _ _ | with_reducible assumption | (with_reducible refine below_set ?_ ?_; focus ((try dsimp only); first | with_reducible assumption | omega)) | (with_reducible refine below_alloc ?_ ?_; focus (first | omega | (simp; done) | (simp; omega))) | with_reducible refine below_drewN ?_ _ | with_reducible refine Below.drew ?_))) hb2
  go_wp2
  go_ret2
  exact ⟨rfl, b2⟩
theorem rdo_zero8 (a : Int) (w : World) : Calls Try.prog 8 #[.int .i64 8, .int .i64 a, .int .i64 0] w fun e w' => e = .returned (.tuple #[.int .i64 0, .int .i64 10]) ∧ Below w.heap.size w w' := by
  go_enter Try.func8, Try.ntmps8
  go_wp2_with fail
  refine (rexact_no 8 a 0 _ rfl rfl rfl).mono ?_
  rintro e w1 ⟨rfl, hb1⟩
  have hs := hb1.size
  go_wp2
  go_ret2
  exact ⟨rfl, by (repeat (first | with_reducible exact Below.refl _ _ | with_reducible assumption | (with_reducible refine below_set ?_ ?_; focus ((try dsimp only); first | with_reducible assumption | omega)) | (with_reducible refine below_alloc ?_ ?_; focus (first | omega | (simp; done) | (simp; omega))) | with_reducible refine below_drewN ?_ _ | with_reducible refine Below.drew ?_))⟩
theorem rdo_zero9 (a : Int) (w : World) : Calls Try.prog 8 #[.int .i64 9, .int .i64 a, .int .i64 0] w fun e w' => e = .returned (.tuple #[.int .i64 0, .int .i64 10]) ∧ Below w.heap.size w w' := by
  go_enter Try.func8, Try.ntmps8
  go_wp2_with fail
  refine (rexact_no 9 a 0 _ rfl rfl rfl).mono ?_
  rintro e w1 ⟨rfl, hb1⟩
  have hs := hb1.size
  go_wp2
  go_ret2
  exact ⟨rfl, by (repeat (first | with_reducible exact Below.refl _ _ | with_reducible assumption | (with_reducible refine below_set ?_ ?_; focus ((try dsimp only); first | with_reducible assumption | omega)) | (with_reducible refine below_alloc ?_ ?_; focus (first | omega | (simp; done) | (simp; omega))) | with_reducible refine below_drewN ?_ _ | with_reducible refine Below.drew ?_))⟩
end Go.Proofs.Ytdjkmphkahileaa
