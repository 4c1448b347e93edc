/- Layer 2: one operand. -/
import Derived.Test.YtdjkmphkahileaaWr8
namespace Go.Proofs.Ytdjkmphkahileaa
open Go.RowKit Go.Shelf
theorem wone_5 (a : Int) (w : World) (ka : I64 a) : Calls Try.prog 13 #[.int .i64 5, .int .i64 a] w fun e w' => e = .returned (.tuple #[.int .i64 (wrap64 (-a)), .int .i64 0]) ∧ Below w.heap.size w w' := by
  have HL := Lib.hid (wrap64_loW (-a))
  go_enter Try.func13, Try.ntmps13
  go_wp2_with fail
  refine (wof_any a _ ka).mono ?_
  rintro e w1 ⟨rfl, hb1⟩
  have hs1 := hb1.size
  go_wp2_with fail
  refine (wneg_any _ _ _ (ok2 a)).mono ?_
  rintro e w2 ⟨rfl, hb2⟩
  have b2 := below_then (a := w) (by (repeat (first | with_reducible exact Below.refl _ _ | with_reducible assumption | (with_reducible refine below_set ?_ ?_; focus ((try dsimp only); first | with_reducible assumption | omega)) | (with_reducible refine below_alloc ?_ ?_; focus (first | omega | (simp; done) | (simp; omega))) | with_reducible refine below_drewN ?_ _ | with_reducible refine Below.drew ?_))) hb2
  have hs2 := b2.size
  rw [hiW_neg, loW_neg]
  go_wp2_with fail
  refine (wlow_any _ _ _ (ok2 _)).mono ?_
  rintro e w3 ⟨rfl, hb3⟩
  have b3 := below_then (a := w) (by (repeat (first | with_reducible exact Below.refl _ _ | with_reducible assumption | (with_reducible refine below_set ?_ ?_; focus ((try dsimp only); first | with_reducible assumption | omega)) | (with_reducible refine below_alloc ?_ ?_; focus (first | omega | (simp; done) | (simp; omega))) | with_reducible refine below_drewN ?_ _ | with_reducible refine Below.drew ?_))) hb3
  rw [HL.out]
  go_wp2
  go_ret2
  exact ⟨rfl, b3⟩
theorem wone_6 (a : Int) (x : Bool) (w : World) (hx : (a == 0) = x) : Calls Try.prog 13 #[.int .i64 6, .int .i64 a] w fun e w' => e = .returned (.tuple #[.int .i64 (if x then 1 else 0), .int .i64 0]) ∧ Below w.heap.size w w' := by
  go_enter Try.func13, Try.ntmps13
  go_wp2_with fail
  try rw [hx]
  refine (wone x _).mono ?_
  rintro e w1 ⟨rfl, hb1⟩
  have b1 := below_then (a := w) (by (repeat (first | with_reducible exact Below.refl _ _ | with_reducible assumption | (with_reducible refine below_set ?_ ?_; focus ((try dsimp only); first | with_reducible assumption | omega)) | (with_reducible refine below_alloc ?_ ?_; focus (first | omega | (simp; done) | (simp; omega))) | with_reducible refine below_drewN ?_ _ | with_reducible refine Below.drew ?_))) hb1
  cases x <;>
  · go_wp2
    go_ret2
    exact ⟨rfl, b1⟩
theorem wone_none (op a : Int) (w : World) (h5 : (op == 5) = false) (h6 : (op == 6) = false) : Calls Try.prog 13 #[.int .i64 op, .int .i64 a] w fun e w' => e = .returned (.tuple #[.int .i64 0, .int .i64 2]) ∧ Below w.heap.size w w' := by
  go_enter Try.func13, Try.ntmps13
  go_wp2
  go_ret2
  exact ⟨rfl, by (repeat (first | with_reducible exact Below.refl _ _ | with_reducible assumption | (with_reducible refine below_set ?_ ?_; focus ((try dsimp only); first | with_reducible assumption | omega)) | (with_reducible refine below_alloc ?_ ?_; focus (first | omega | (simp; done) | (simp; omega))) | with_reducible refine below_drewN ?_ _ | with_reducible refine Below.drew ?_))⟩
theorem rone_5 (a : Int) (w : World) (ka : I64 a) : Calls Try.prog 14 #[.int .i64 5, .int .i64 a] w fun e w' => e = .returned (.tuple #[.int .i64 (wrap64 (-a)), .int .i64 0]) ∧ Below w.heap.size w w' := by
  have HL := Lib.hid (wrap64_loW (-a))
  go_enter Try.func14, Try.ntmps14
  go_wp2_with fail
  refine (rof_any a _ ka).mono ?_
  rintro e w1 ⟨rfl, hb1⟩
  have hs1 := hb1.size
  go_wp2_with fail
  refine (rneg_any _ _ _ (ok2 a)).mono ?_
  rintro e w2 ⟨rfl, hb2⟩
  have b2 := below_then (a := w) (by (repeat (first | with_reducible exact Below.refl _ _ | with_reducible assumption | (with_reducible refine below_set ?_ ?_; focus ((try dsimp only); first | with_reducible assumption | omega)) | (with_reducible refine below_alloc ?_ ?_; focus (first | omega | (simp; done) | (simp; omega))) | with_reducible refine below_drewN ?_ _ | with_reducible refine Below.drew ?_))) hb2
  have hs2 := b2.size
  rw [hiW_neg, loW_neg]
  go_wp2_with fail
  refine (rlow_any _ _ _ (ok2 _)).mono ?_
  rintro e w3 ⟨rfl, hb3⟩
  have b3 := below_then (a := w) (by (repeat (first | with_reducible exact Below.refl _ _ | with_reducible assumption | (with_reducible refine below_set ?_ ?_; focus ((try dsimp only); first | with_reducible assumption | omega)) | (with_reducible refine below_alloc ?_ ?_; focus (first | omega | (simp; done) | (simp; omega))) | with_reducible refine below_drewN ?_ _ | with_reducible refine Below.drew ?_))) hb3
  rw [HL.out]
  go_wp2
  go_ret2
  exact ⟨rfl, b3⟩
theorem rone_6 (a : Int) (x : Bool) (w : World) (hx : (a == 0) = x) : Calls Try.prog 14 #[.int .i64 6, .int .i64 a] w fun e w' => e = .returned (.tuple #[.int .i64 (if x then 1 else 0), .int .i64 0]) ∧ Below w.heap.size w w' := by
  go_enter Try.func14, Try.ntmps14
  go_wp2_with fail
  try rw [hx]
  refine (rone x _).mono ?_
  rintro e w1 ⟨rfl, hb1⟩
  have b1 := below_then (a := w) (by (repeat (first | with_reducible exact Below.refl _ _ | with_reducible assumption | (with_reducible refine below_set ?_ ?_; focus ((try dsimp only); first | with_reducible assumption | omega)) | (with_reducible refine below_alloc ?_ ?_; focus (first | omega | (simp; done) | (simp; omega))) | with_reducible refine below_drewN ?_ _ | with_reducible refine Below.drew ?_))) hb1
  cases x <;>
  · go_wp2
    go_ret2
    exact ⟨rfl, b1⟩
theorem rone_none (op a : Int) (w : World) (h5 : (op == 5) = false) (h6 : (op == 6) = false) : Calls Try.prog 14 #[.int .i64 op, .int .i64 a] w fun e w' => e = .returned (.tuple #[.int .i64 0, .int .i64 2]) ∧ Below w.heap.size w w' := by
  go_enter Try.func14, Try.ntmps14
  go_wp2
  go_ret2
  exact ⟨rfl, by (repeat (first | with_reducible exact Below.refl _ _ | with_reducible assumption | (with_reducible refine below_set ?_ ?_; focus ((try dsimp only); first | with_reducible assumption | omega)) | (with_reducible refine below_alloc ?_ ?_; focus (first | omega | (simp; done) | (simp; omega))) | with_reducible refine below_drewN ?_ _ | with_reducible refine Below.drew ?_))⟩
end Go.Proofs.Ytdjkmphkahileaa
