/- Layer 2: the document's Do: and, or, nothing. -/
import Derived.Test.YtdjkmphkahileaaWr7
namespace Go.Proofs.Ytdjkmphkahileaa
open Go.RowKit Go.Shelf
theorem rdo_16 (a b : Int) (x y : Bool) (w : World) (ka : I64 a) (kb : I64 b) (hx : (a != 0) = x) (hy : (b != 0) = y) : Calls Try.prog 8 #[.int .i64 16, .int .i64 a, .int .i64 b] w fun e w' => e = .returned (.tuple #[.int .i64 (if (x && y) then 1 else 0), .int .i64 0]) ∧ Below w.heap.size w w' := by
  go_enter Try.func8, Try.ntmps8
  go_wp2_with fail
  refine (rexact_no 16 a b _ rfl rfl rfl).mono ?_
  rintro e w1 ⟨rfl, hb1⟩
  have hs1 := hb1.size
  go_wp2_with fail
  refine (rof_any a _ ka).mono ?_
  rintro e w2 ⟨rfl, hb2⟩
  have b2 := below_then (a := w) (by (repeat (first | with_reducible exact Below.refl _ _ | with_reducible assumption | (with_reducible refine below_set ?_ ?_; focus ((try dsimp only); first | with_reducible assumption | omega)) | (with_reducible refine below_alloc ?_ ?_; focus (first | omega | (simp; done) | (simp; omega))) | with_reducible refine below_drewN ?_ _ | with_reducible refine Below.drew ?_))) hb2
  clear hb1 hb2
  have hs2 := b2.size
  go_wp2_with fail
  refine (rof_any b _ kb).mono ?_
  rintro e w3 ⟨rfl, hb3⟩
  have b3 := below_then (a := w) (by (repeat (first | with_reducible exact Below.refl _ _ | with_reducible assumption | (with_reducible refine below_set ?_ ?_; focus ((try dsimp only); first | with_reducible assumption | omega)) | (with_reducible refine below_alloc ?_ ?_; focus (first | omega | (simp; done) | (simp; omega))) | with_reducible refine below_drewN ?_ _ | with_reducible refine Below.drew ?_))) hb3
  clear hb3 b2
  have hs3 := b3.size
  go_wp2_with fail
  refine (rsub_any _ _ _ _ _ (ok2 a) (ok2 b)).mono ?_
  rintro e w4 ⟨rfl, hb4⟩
  have b4 := below_then (a := w) (by (repeat (first | with_reducible exact Below.refl _ _ | with_reducible assumption | (with_reducible refine below_set ?_ ?_; focus ((try dsimp only); first | with_reducible assumption | omega)) | (with_reducible refine below_alloc ?_ ?_; focus (first | omega | (simp; done) | (simp; omega))) | with_reducible refine below_drewN ?_ _ | with_reducible refine Below.drew ?_))) hb4
  clear hb4 b3
  have hs4 := b4.size
  rw [hiW_sub, loW_sub]
  go_wp2_with fail
  refine (rcmp_any _ _ _ _ _ (ok2 (a - b)) (by unfold Ok2; decide)).mono ?_
  rintro e w5 ⟨rfl, hb5⟩
  have b5 := below_then (a := w) (by (repeat (first | with_reducible exact Below.refl _ _ | with_reducible assumption | (with_reducible refine below_set ?_ ?_; focus ((try dsimp only); first | with_reducible assumption | omega)) | (with_reducible refine below_alloc ?_ ?_; focus (first | omega | (simp; done) | (simp; omega))) | with_reducible refine below_drewN ?_ _ | with_reducible refine Below.drew ?_))) hb5
  clear hb5 b4
  have hs5 := b5.size
  cases x <;> cases y
  all_goals
    go_wp2_with fail
    refine (rone _ _).mono ?_
    rintro e w6 ⟨rfl, hb6⟩
    have b6 := below_then (a := w) (by (repeat (first | with_reducible exact Below.refl _ _ | with_reducible assumption | (with_reducible refine below_set ?_ ?_; focus ((try dsimp only); first | with_reducible assumption | omega)) | (with_reducible refine below_alloc ?_ ?_; focus (first | omega | (simp; done) | (simp; omega))) | with_reducible refine below_drewN ?_ _ | with_reducible refine Below.drew ?_))) hb6
    clear hb6 b5
    go_wp2
    go_ret2
    exact ⟨rfl, b6⟩
theorem rdo_17 (a b : Int) (x y : Bool) (w : World) (ka : I64 a) (kb : I64 b) (hx : (a != 0) = x) (hy : (b != 0) = y) : Calls Try.prog 8 #[.int .i64 17, .int .i64 a, .int .i64 b] w fun e w' => e = .returned (.tuple #[.int .i64 (if (x || y) then 1 else 0), .int .i64 0]) ∧ Below w.heap.size w w' := by
  go_enter Try.func8, Try.ntmps8
  go_wp2_with fail
  refine (rexact_no 17 a b _ rfl rfl rfl).mono ?_
  rintro e w1 ⟨rfl, hb1⟩
  have hs1 := hb1.size
  go_wp2_with fail
  refine (rof_any a _ ka).mono ?_
  rintro e w2 ⟨rfl, hb2⟩
  have b2 := below_then (a := w) (by (repeat (first | with_reducible exact Below.refl _ _ | with_reducible assumption | (with_reducible refine below_set ?_ ?_; focus ((try dsimp only); first | with_reducible assumption | omega)) | (with_reducible refine below_alloc ?_ ?_; focus (first | omega | (simp; done) | (simp; omega))) | with_reducible refine below_drewN ?_ _ | with_reducible refine Below.drew ?_))) hb2
  clear hb1 hb2
  have hs2 := b2.size
  go_wp2_with fail
  refine (rof_any b _ kb).mono ?_
  rintro e w3 ⟨rfl, hb3⟩
  have b3 := below_then (a := w) (by (repeat (first | with_reducible exact Below.refl _ _ | with_reducible assumption | (with_reducible refine below_set ?_ ?_; focus ((try dsimp only); first | with_reducible assumption | omega)) | (with_reducible refine below_alloc ?_ ?_; focus (first | omega | (simp; done) | (simp; omega))) | with_reducible refine below_drewN ?_ _ | with_reducible refine Below.drew ?_))) hb3
  clear hb3 b2
  have hs3 := b3.size
  go_wp2_with fail
  refine (rsub_any _ _ _ _ _ (ok2 a) (ok2 b)).mono ?_
  rintro e w4 ⟨rfl, hb4⟩
  have b4 := below_then (a := w) (by (repeat (first | with_reducible exact Below.refl _ _ | with_reducible assumption | (with_reducible refine below_set ?_ ?_; focus ((try dsimp only); first | with_reducible assumption | omega)) | (with_reducible refine below_alloc ?_ ?_; focus (first | omega | (simp; done) | (simp; omega))) | with_reducible refine below_drewN ?_ _ | with_reducible refine Below.drew ?_))) hb4
  clear hb4 b3
  have hs4 := b4.size
  rw [hiW_sub, loW_sub]
  go_wp2_with fail
  refine (rcmp_any _ _ _ _ _ (ok2 (a - b)) (by unfold Ok2; decide)).mono ?_
  rintro e w5 ⟨rfl, hb5⟩
  have b5 := below_then (a := w) (by (repeat (first | with_reducible exact Below.refl _ _ | with_reducible assumption | (with_reducible refine below_set ?_ ?_; focus ((try dsimp only); first | with_reducible assumption | omega)) | (with_reducible refine below_alloc ?_ ?_; focus (first | omega | (simp; done) | (simp; omega))) | with_reducible refine below_drewN ?_ _ | with_reducible refine Below.drew ?_))) hb5
  clear hb5 b4
  have hs5 := b5.size
  cases x <;> cases y
  all_goals
    go_wp2_with fail
    refine (rone _ _).mono ?_
    rintro e w6 ⟨rfl, hb6⟩
    have b6 := below_then (a := w) (by (repeat (first | with_reducible exact Below.refl _ _ | with_reducible assumption | (with_reducible refine below_set ?_ ?_; focus ((try dsimp only); first | with_reducible assumption | omega)) | (with_reducible refine below_alloc ?_ ?_; focus (first | omega | (simp; done) | (simp; omega))) | with_reducible refine below_drewN ?_ _ | with_reducible refine Below.drew ?_))) hb6
    clear hb6 b5
    go_wp2
    go_ret2
    exact ⟨rfl, b6⟩
theorem rdo_none (op a b : Int) (w : World) (ka : I64 a) (kb : I64 b) (h7 : (op == 7) = false) (h8 : (op == 8) = false) (h9 : (op == 9) = false) (h10 : (op == 10) = false) (h11 : (op == 11) = false) (h12 : (op == 12) = false) (h13 : (op == 13) = false) (h14 : (op == 14) = false) (h15 : (op == 15) = false) (h16 : (op == 16) = false) (h17 : (op == 17) = false) : Calls Try.prog 8 #[.int .i64 op, .int .i64 a, .int .i64 b] w fun e w' => e = .returned (.tuple #[.int .i64 0, .int .i64 2]) ∧ Below w.heap.size w w' := by
  go_enter Try.func8, Try.ntmps8
  go_wp2_with fail
  refine (rexact_no op a b _ h10 h11 h7).mono ?_
  rintro e w1 ⟨rfl, hb1⟩
  have hs1 := hb1.size
  go_wp2_with fail
  refine (rof_any a _ ka).mono ?_
  rintro e w2 ⟨rfl, hb2⟩
  have b2 := below_then (a := w) (by (repeat (first | with_reducible exact Below.refl _ _ | with_reducible assumption | (with_reducible refine below_set ?_ ?_; focus ((try dsimp only); first | with_reducible assumption | omega)) | (with_reducible refine below_alloc ?_ ?_; focus (first | omega | (simp; done) | (simp; omega))) | with_reducible refine below_drewN ?_ _ | with_reducible refine Below.drew ?_))) hb2
  clear hb1 hb2
  have hs2 := b2.size
  go_wp2_with fail
  refine (rof_any b _ kb).mono ?_
  rintro e w3 ⟨rfl, hb3⟩
  have b3 := below_then (a := w) (by (repeat (first | with_reducible exact Below.refl _ _ | with_reducible assumption | (with_reducible refine below_set ?_ ?_; focus ((try dsimp only); first | with_reducible assumption | omega)) | (with_reducible refine below_alloc ?_ ?_; focus (first | omega | (simp; done) | (simp; omega))) | with_reducible refine below_drewN ?_ _ | with_reducible refine Below.drew ?_))) hb3
  clear hb3 b2
  have hs3 := b3.size
  go_wp2_with fail
  refine (rsub_any _ _ _ _ _ (ok2 a) (ok2 b)).mono ?_
  rintro e w4 ⟨rfl, hb4⟩
  have b4 := below_then (a := w) (by (repeat (first | with_reducible exact Below.refl _ _ | with_reducible assumption | (with_reducible refine below_set ?_ ?_; focus ((try dsimp only); first | with_reducible assumption | omega)) | (with_reducible refine below_alloc ?_ ?_; focus (first | omega | (simp; done) | (simp; omega))) | with_reducible refine below_drewN ?_ _ | with_reducible refine Below.drew ?_))) hb4
  clear hb4 b3
  have hs4 := b4.size
  rw [hiW_sub, loW_sub]
  go_wp2_with fail
  refine (rcmp_any _ _ _ _ _ (ok2 (a - b)) (by unfold Ok2; decide)).mono ?_
  rintro e w5 ⟨rfl, hb5⟩
  have b5 := below_then (a := w) (by (repeat (first | with_reducible exact Below.refl _ _ | with_reducible assumption | (with_reducible refine below_set ?_ ?_; focus ((try dsimp only); first | with_reducible assumption | omega)) | (with_reducible refine below_alloc ?_ ?_; focus (first | omega | (simp; done) | (simp; omega))) | with_reducible refine below_drewN ?_ _ | with_reducible refine Below.drew ?_))) hb5
  clear hb5 b4
  have hs5 := b5.size
  go_wp2
  go_ret2
  exact ⟨rfl, b5⟩
end Go.Proofs.Ytdjkmphkahileaa
