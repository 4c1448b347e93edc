/- Layer 2: the document's Do: comparisons. -/
import Derived.Test.YtdjkmphkahileaaWr6
namespace Go.Proofs.Ytdjkmphkahileaa
open Go.RowKit Go.Shelf
theorem rdo_12 (a b c : Int) (x : Bool) (w : World) (ka : I64 a) (kb : I64 b) (hc : cmpI (V (hiW (a - b)) (loW (a - b))) (V 0 0) = c) (hx : decide (c < 0) = x) : Calls Try.prog 8 #[.int .i64 12, .int .i64 a, .int .i64 b] w fun e w' => e = .returned (.tuple #[.int .i64 (if x then 1 else 0), .int .i64 0]) ∧ Below w.heap.size w w' := by
  go_enter Try.func8, Try.ntmps8
  go_wp2_with fail
  refine (rexact_no 12 a b _ rfl rfl rfl).mono ?_
  rintro e w1 ⟨rfl, hb1⟩
  have hs1 := hb1.size
  go_wp2_with fail
  refine (rof_any a _ ka).mono ?_
  rintro e w2 ⟨rfl, hb2⟩
  have b2 := below_then (a := w) (by (repeat (first | with_reducible exact Below.refl _ _ | with_reducible assumption | (with_reducible refine below_set ?_ ?_; focus ((try dsimp only); first | with_reducible assumption | omega)) | (with_reducible refine below_alloc ?_ ?_; focus (first | omega | (simp; done) | (simp; omega))) | with_reducible refine below_drewN ?_ _ | with_reducible refine Below.drew ?_))) hb2
  clear hb1 hb2
  have hs2 := b2.size
  go_wp2_with fail
  refine (rof_any b _ kb).mono ?_
  rintro e w3 ⟨rfl, hb3⟩
  have b3 := below_then (a := w) (by (repeat (first | with_reducible exact Below.refl _ _ | with_reducible assumption | (with_reducible refine below_set ?_ ?_; focus ((try dsimp only); first | with_reducible assumption | omega)) | (with_reducible refine below_alloc ?_ ?_; focus (first | omega | (simp; done) | (simp; omega))) | with_reducible refine below_drewN ?_ _ | with_reducible refine Below.drew ?_))) hb3
  clear hb3 b2
  have hs3 := b3.size
  go_wp2_with fail
  refine (rsub_any _ _ _ _ _ (ok2 a) (ok2 b)).mono ?_
  rintro e w4 ⟨rfl, hb4⟩
  have b4 := below_then (a := w) (by (repeat (first | with_reducible exact Below.refl _ _ | with_reducible assumption | (with_reducible refine below_set ?_ ?_; focus ((try dsimp only); first | with_reducible assumption | omega)) | (with_reducible refine below_alloc ?_ ?_; focus (first | omega | (simp; done) | (simp; omega))) | with_reducible refine below_drewN ?_ _ | with_reducible refine Below.drew ?_))) hb4
  clear hb4 b3
  have hs4 := b4.size
  rw [hiW_sub, loW_sub]
  go_wp2_with fail
  refine (rcmp_any _ _ _ _ _ (ok2 (a - b)) (by unfold Ok2; decide)).mono ?_
  rintro e w5 ⟨rfl, hb5⟩
  rw [hc]
  have b5 := below_then (a := w) (by (repeat (first | with_reducible exact Below.refl _ _ | with_reducible assumption | (with_reducible refine below_set ?_ ?_; focus ((try dsimp only); first | with_reducible assumption | omega)) | (with_reducible refine below_alloc ?_ ?_; focus (first | omega | (simp; done) | (simp; omega))) | with_reducible refine below_drewN ?_ _ | with_reducible refine Below.drew ?_))) hb5
  clear hb5 b4
  have hs5 := b5.size
  go_wp2_with fail
  try rw [hx]
  refine (rone x _).mono ?_
  rintro e w6 ⟨rfl, hb6⟩
  have b6 := below_then (a := w) (by (repeat (first | with_reducible exact Below.refl _ _ | with_reducible assumption | (with_reducible refine below_set ?_ ?_; focus ((try dsimp only); first | with_reducible assumption | omega)) | (with_reducible refine below_alloc ?_ ?_; focus (first | omega | (simp; done) | (simp; omega))) | with_reducible refine below_drewN ?_ _ | with_reducible refine Below.drew ?_))) hb6
  clear hb6 b5
  cases x <;>
  · go_wp2
    go_ret2
    exact ⟨rfl, b6⟩
theorem rdo_13 (a b c : Int) (x : Bool) (w : World) (ka : I64 a) (kb : I64 b) (hc : cmpI (V (hiW (a - b)) (loW (a - b))) (V 0 0) = c) (hx : decide (c ≤ 0) = x) : Calls Try.prog 8 #[.int .i64 13, .int .i64 a, .int .i64 b] w fun e w' => e = .returned (.tuple #[.int .i64 (if x then 1 else 0), .int .i64 0]) ∧ Below w.heap.size w w' := by
  go_enter Try.func8, Try.ntmps8
  go_wp2_with fail
  refine (rexact_no 13 a b _ rfl rfl rfl).mono ?_
  rintro e w1 ⟨rfl, hb1⟩
  have hs1 := hb1.size
  go_wp2_with fail
  refine (rof_any a _ ka).mono ?_
  rintro e w2 ⟨rfl, hb2⟩
  have b2 := below_then (a := w) (by (repeat (first | with_reducible exact Below.refl _ _ | with_reducible assumption | (with_reducible refine below_set ?_ ?_; focus ((try dsimp only); first | with_reducible assumption | omega)) | (with_reducible refine below_alloc ?_ ?_; focus (first | omega | (simp; done) | (simp; omega))) | with_reducible refine below_drewN ?_ _ | with_reducible refine Below.drew ?_))) hb2
  clear hb1 hb2
  have hs2 := b2.size
  go_wp2_with fail
  refine (rof_any b _ kb).mono ?_
  rintro e w3 ⟨rfl, hb3⟩
  have b3 := below_then (a := w) (by (repeat (first | with_reducible exact Below.refl _ _ | with_reducible assumption | (with_reducible refine below_set ?_ ?_; focus ((try dsimp only); first | with_reducible assumption | omega)) | (with_reducible refine below_alloc ?_ ?_; focus (first | omega | (simp; done) | (simp; omega))) | with_reducible refine below_drewN ?_ _ | with_reducible refine Below.drew ?_))) hb3
  clear hb3 b2
  have hs3 := b3.size
  go_wp2_with fail
  refine (rsub_any _ _ _ _ _ (ok2 a) (ok2 b)).mono ?_
  rintro e w4 ⟨rfl, hb4⟩
  have b4 := below_then (a := w) (by (repeat (first | with_reducible exact Below.refl _ _ | with_reducible assumption | (with_reducible refine below_set ?_ ?_; focus ((try dsimp only); first | with_reducible assumption | omega)) | (with_reducible refine below_alloc ?_ ?_; focus (first | omega | (simp; done) | (simp; omega))) | with_reducible refine below_drewN ?_ _ | with_reducible refine Below.drew ?_))) hb4
  clear hb4 b3
  have hs4 := b4.size
  rw [hiW_sub, loW_sub]
  go_wp2_with fail
  refine (rcmp_any _ _ _ _ _ (ok2 (a - b)) (by unfold Ok2; decide)).mono ?_
  rintro e w5 ⟨rfl, hb5⟩
  rw [hc]
  have b5 := below_then (a := w) (by (repeat (first | with_reducible exact Below.refl _ _ | with_reducible assumption | (with_reducible refine below_set ?_ ?_; focus ((try dsimp only); first | with_reducible assumption | omega)) | (with_reducible refine below_alloc ?_ ?_; focus (first | omega | (simp; done) | (simp; omega))) | with_reducible refine below_drewN ?_ _ | with_reducible refine Below.drew ?_))) hb5
  clear hb5 b4
  have hs5 := b5.size
  go_wp2_with fail
  try rw [hx]
  refine (rone x _).mono ?_
  rintro e w6 ⟨rfl, hb6⟩
  have b6 := below_then (a := w) (by (repeat (first | with_reducible exact Below.refl _ _ | with_reducible assumption | (with_reducible refine below_set ?_ ?_; focus ((try dsimp only); first | with_reducible assumption | omega)) | (with_reducible refine below_alloc ?_ ?_; focus (first | omega | (simp; done) | (simp; omega))) | with_reducible refine below_drewN ?_ _ | with_reducible refine Below.drew ?_))) hb6
  clear hb6 b5
  cases x <;>
  · go_wp2
    go_ret2
    exact ⟨rfl, b6⟩
theorem rdo_14 (a b c : Int) (x : Bool) (w : World) (ka : I64 a) (kb : I64 b) (hc : cmpI (V (hiW (a - b)) (loW (a - b))) (V 0 0) = c) (hx : (c == 0) = x) : Calls Try.prog 8 #[.int .i64 14, .int .i64 a, .int .i64 b] w fun e w' => e = .returned (.tuple #[.int .i64 (if x then 1 else 0), .int .i64 0]) ∧ Below w.heap.size w w' := by
  go_enter Try.func8, Try.ntmps8
  go_wp2_with fail
  refine (rexact_no 14 a b _ rfl rfl rfl).mono ?_
  rintro e w1 ⟨rfl, hb1⟩
  have hs1 := hb1.size
  go_wp2_with fail
  refine (rof_any a _ ka).mono ?_
  rintro e w2 ⟨rfl, hb2⟩
  have b2 := below_then (a := w) (by (repeat (first | with_reducible exact Below.refl _ _ | with_reducible assumption | (with_reducible refine below_set ?_ ?_; focus ((try dsimp only); first | with_reducible assumption | omega)) | (with_reducible refine below_alloc ?_ ?_; focus (first | omega | (simp; done) | (simp; omega))) | with_reducible refine below_drewN ?_ _ | with_reducible refine Below.drew ?_))) hb2
  clear hb1 hb2
  have hs2 := b2.size
  go_wp2_with fail
  refine (rof_any b _ kb).mono ?_
  rintro e w3 ⟨rfl, hb3⟩
  have b3 := below_then (a := w) (by (repeat (first | with_reducible exact Below.refl _ _ | with_reducible assumption | (with_reducible refine below_set ?_ ?_; focus ((try dsimp only); first | with_reducible assumption | omega)) | (with_reducible refine below_alloc ?_ ?_; focus (first | omega | (simp; done) | (simp; omega))) | with_reducible refine below_drewN ?_ _ | with_reducible refine Below.drew ?_))) hb3
  clear hb3 b2
  have hs3 := b3.size
  go_wp2_with fail
  refine (rsub_any _ _ _ _ _ (ok2 a) (ok2 b)).mono ?_
  rintro e w4 ⟨rfl, hb4⟩
  have b4 := below_then (a := w) (by (repeat (first | with_reducible exact Below.refl _ _ | with_reducible assumption | (with_reducible refine below_set ?_ ?_; focus ((try dsimp only); first | with_reducible assumption | omega)) | (with_reducible refine below_alloc ?_ ?_; focus (first | omega | (simp; done) | (simp; omega))) | with_reducible refine below_drewN ?_ _ | with_reducible refine Below.drew ?_))) hb4
  clear hb4 b3
  have hs4 := b4.size
  rw [hiW_sub, loW_sub]
  go_wp2_with fail
  refine (rcmp_any _ _ _ _ _ (ok2 (a - b)) (by unfold Ok2; decide)).mono ?_
  rintro e w5 ⟨rfl, hb5⟩
  rw [hc]
  have b5 := below_then (a := w) (by (repeat (first | with_reducible exact Below.refl _ _ | with_reducible assumption | (with_reducible refine below_set ?_ ?_; focus ((try dsimp only); first | with_reducible assumption | omega)) | (with_reducible refine below_alloc ?_ ?_; focus (first | omega | (simp; done) | (simp; omega))) | with_reducible refine below_drewN ?_ _ | with_reducible refine Below.drew ?_))) hb5
  clear hb5 b4
  have hs5 := b5.size
  go_wp2_with fail
  try rw [hx]
  refine (rone x _).mono ?_
  rintro e w6 ⟨rfl, hb6⟩
  have b6 := below_then (a := w) (by (repeat (first | with_reducible exact Below.refl _ _ | with_reducible assumption | (with_reducible refine below_set ?_ ?_; focus ((try dsimp only); first | with_reducible assumption | omega)) | (with_reducible refine below_alloc ?_ ?_; focus (first | omega | (simp; done) | (simp; omega))) | with_reducible refine below_drewN ?_ _ | with_reducible refine Below.drew ?_))) hb6
  clear hb6 b5
  cases x <;>
  · go_wp2
    go_ret2
    exact ⟨rfl, b6⟩
theorem rdo_15 (a b c : Int) (x : Bool) (w : World) (ka : I64 a) (kb : I64 b) (hc : cmpI (V (hiW (a - b)) (loW (a - b))) (V 0 0) = c) (hx : (c != 0) = x) : Calls Try.prog 8 #[.int .i64 15, .int .i64 a, .int .i64 b] w fun e w' => e = .returned (.tuple #[.int .i64 (if x then 1 else 0), .int .i64 0]) ∧ Below w.heap.size w w' := by
  go_enter Try.func8, Try.ntmps8
  go_wp2_with fail
  refine (rexact_no 15 a b _ rfl rfl rfl).mono ?_
  rintro e w1 ⟨rfl, hb1⟩
  have hs1 := hb1.size
  go_wp2_with fail
  refine (rof_any a _ ka).mono ?_
  rintro e w2 ⟨rfl, hb2⟩
  have b2 := below_then (a := w) (by (repeat (first | with_reducible exact Below.refl _ _ | with_reducible assumption | (with_reducible refine below_set ?_ ?_; focus ((try dsimp only); first | with_reducible assumption | omega)) | (with_reducible refine below_alloc ?_ ?_; focus (first | omega | (simp; done) | (simp; omega))) | with_reducible refine below_drewN ?_ _ | with_reducible refine Below.drew ?_))) hb2
  clear hb1 hb2
  have hs2 := b2.size
  go_wp2_with fail
  refine (rof_any b _ kb).mono ?_
  rintro e w3 ⟨rfl, hb3⟩
  have b3 := below_then (a := w) (by (repeat (first | with_reducible exact Below.refl _ _ | with_reducible assumption | (with_reducible refine below_set ?_ ?_; focus ((try dsimp only); first | with_reducible assumption | omega)) | (with_reducible refine below_alloc ?_ ?_; focus (first | omega | (simp; done) | (simp; omega))) | with_reducible refine below_drewN ?_ _ | with_reducible refine Below.drew ?_))) hb3
  clear hb3 b2
  have hs3 := b3.size
  go_wp2_with fail
  refine (rsub_any _ _ _ _ _ (ok2 a) (ok2 b)).mono ?_
  rintro e w4 ⟨rfl, hb4⟩
  have b4 := below_then (a := w) (by (repeat (first | with_reducible exact Below.refl _ _ | with_reducible assumption | (with_reducible refine below_set ?_ ?_; focus ((try dsimp only); first | with_reducible assumption | omega)) | (with_reducible refine below_alloc ?_ ?_; focus (first | omega | (simp; done) | (simp; omega))) | with_reducible refine below_drewN ?_ _ | with_reducible refine Below.drew ?_))) hb4
  clear hb4 b3
  have hs4 := b4.size
  rw [hiW_sub, loW_sub]
  go_wp2_with fail
  refine (rcmp_any _ _ _ _ _ (ok2 (a - b)) (by unfold Ok2; decide)).mono ?_
  rintro e w5 ⟨rfl, hb5⟩
  rw [hc]
  have b5 := below_then (a := w) (by (repeat (first | with_reducible exact Below.refl _ _ | with_reducible assumption | (with_reducible refine below_set ?_ ?_; focus ((try dsimp only); first | with_reducible assumption | omega)) | (with_reducible refine below_alloc ?_ ?_; focus (first | omega | (simp; done) | (simp; omega))) | with_reducible refine below_drewN ?_ _ | with_reducible refine Below.drew ?_))) hb5
  clear hb5 b4
  have hs5 := b5.size
  go_wp2_with fail
  try rw [hx]
  refine (rone x _).mono ?_
  rintro e w6 ⟨rfl, hb6⟩
  have b6 := below_then (a := w) (by (repeat (first | with_reducible exact Below.refl _ _ | with_reducible assumption | (with_reducible refine below_set ?_ ?_; focus ((try dsimp only); first | with_reducible assumption | omega)) | (with_reducible refine below_alloc ?_ ?_; focus (first | omega | (simp; done) | (simp; omega))) | with_reducible refine below_drewN ?_ _ | with_reducible refine Below.drew ?_))) hb6
  clear hb6 b5
  cases x <;>
  · go_wp2
    go_ret2
    exact ⟨rfl, b6⟩
end Go.Proofs.Ytdjkmphkahileaa
