/- Layer 2: the document's Do, further. -/
import Derived.Test.YtdjkmphkahileaaWr5
namespace Go.Proofs.Ytdjkmphkahileaa
open Go.RowKit Go.Shelf
theorem rdo_div (a b : Int) (w : World) (ka : I64 a) (kb : I64 b) (hz : b ≠ 0) (hz1 : (b == 0) = false) : Calls Try.prog 8 #[.int .i64 8, .int .i64 a, .int .i64 b] w fun e w' => e = .returned (.tuple #[.int .i64 (wrap64 (a.tdiv b)), .int .i64 0]) ∧ Below w.heap.size w w' := by
  go_enter Try.func8, Try.ntmps8
  go_wp2_with fail
  refine (rexact_no 8 a b _ rfl rfl rfl).mono ?_
  rintro e w1 ⟨rfl, hb1⟩
  have hs1 := hb1.size
  go_wp2_with fail
  refine (rof_any a _ ka).mono ?_
  rintro e w2 ⟨rfl, hb2⟩
  have b2 := below_then (a := w) (by (repeat (first | with_reducible exact Below.refl _ _ | with_reducible assumption | (with_reducible refine below_set ?_ ?_; focus ((try dsimp only); first | with_reducible assumption | omega)) | (with_reducible refine below_alloc ?_ ?_; focus (first | omega | (simp; done) | (simp; omega))) | with_reducible refine below_drewN ?_ _ | with_reducible refine Below.drew ?_))) hb2
  clear hb1 hb2
  have hs2 := b2.size
  go_wp2_with fail
  refine (rof_any b _ kb).mono ?_
  rintro e w3 ⟨rfl, hb3⟩
  have b3 := below_then (a := w) (by (repeat (first | with_reducible exact Below.refl _ _ | with_reducible assumption | (with_reducible refine below_set ?_ ?_; focus ((try dsimp only); first | with_reducible assumption | omega)) | (with_reducible refine below_alloc ?_ ?_; focus (first | omega | (simp; done) | (simp; omega))) | with_reducible refine below_drewN ?_ _ | with_reducible refine Below.drew ?_))) hb3
  clear hb3 b2
  have hs3 := b3.size
  go_wp2_with fail
  refine (rsub_any _ _ _ _ _ (ok2 a) (ok2 b)).mono ?_
  rintro e w4 ⟨rfl, hb4⟩
  have b4 := below_then (a := w) (by (repeat (first | with_reducible exact Below.refl _ _ | with_reducible assumption | (with_reducible refine below_set ?_ ?_; focus ((try dsimp only); first | with_reducible assumption | omega)) | (with_reducible refine below_alloc ?_ ?_; focus (first | omega | (simp; done) | (simp; omega))) | with_reducible refine below_drewN ?_ _ | with_reducible refine Below.drew ?_))) hb4
  clear hb4 b3
  have hs4 := b4.size
  rw [hiW_sub, loW_sub]
  go_wp2_with fail
  refine (rcmp_any _ _ _ _ _ (ok2 (a - b)) (by unfold Ok2; decide)).mono ?_
  rintro e w5 ⟨rfl, hb5⟩
  have b5 := below_then (a := w) (by (repeat (first | with_reducible exact Below.refl _ _ | with_reducible assumption | (with_reducible refine below_set ?_ ?_; focus ((try dsimp only); first | with_reducible assumption | omega)) | (with_reducible refine below_alloc ?_ ?_; focus (first | omega | (simp; done) | (simp; omega))) | with_reducible refine below_drewN ?_ _ | with_reducible refine Below.drew ?_))) hb5
  clear hb5 b4
  have hs5 := b5.size
  go_wp2_with fail
  refine (rquot a b _ ka kb hz).mono ?_
  rintro e w6 ⟨rfl, hb6⟩
  have b6 := below_then (a := w) (by (repeat (first | with_reducible exact Below.refl _ _ | with_reducible assumption | (with_reducible refine below_set ?_ ?_; focus ((try dsimp only); first | with_reducible assumption | omega)) | (with_reducible refine below_alloc ?_ ?_; focus (first | omega | (simp; done) | (simp; omega))) | with_reducible refine below_drewN ?_ _ | with_reducible refine Below.drew ?_))) hb6
  go_wp2
  go_ret2
  exact ⟨rfl, b6⟩
theorem rdo_rem (a b : Int) (w : World) (ka : I64 a) (kb : I64 b) (hz : b ≠ 0) (hz1 : (b == 0) = false) : Calls Try.prog 8 #[.int .i64 9, .int .i64 a, .int .i64 b] w fun e w' => e = .returned (.tuple #[.int .i64 (wrap64 (a - wrap64 (a.tdiv b) * b)), .int .i64 0]) ∧ Below w.heap.size w w' := by
  have kq : I64 (wrap64 (a.tdiv b)) := wrap64_range _
  go_enter Try.func8, Try.ntmps8
  go_wp2_with fail
  refine (rexact_no 9 a b _ rfl rfl rfl).mono ?_
  rintro e w1 ⟨rfl, hb1⟩
  have hs1 := hb1.size
  go_wp2_with fail
  refine (rof_any a _ ka).mono ?_
  rintro e w2 ⟨rfl, hb2⟩
  have b2 := below_then (a := w) (by (repeat (first | with_reducible exact Below.refl _ _ | with_reducible assumption | (with_reducible refine below_set ?_ ?_; focus ((try dsimp only); first | with_reducible assumption | omega)) | (with_reducible refine below_alloc ?_ ?_; focus (first | omega | (simp; done) | (simp; omega))) | with_reducible refine below_drewN ?_ _ | with_reducible refine Below.drew ?_))) hb2
  clear hb1 hb2
  have hs2 := b2.size
  go_wp2_with fail
  refine (rof_any b _ kb).mono ?_
  rintro e w3 ⟨rfl, hb3⟩
  have b3 := below_then (a := w) (by (repeat (first | with_reducible exact Below.refl _ _ | with_reducible assumption | (with_reducible refine below_set ?_ ?_; focus ((try dsimp only); first | with_reducible assumption | omega)) | (with_reducible refine below_alloc ?_ ?_; focus (first | omega | (simp; done) | (simp; omega))) | with_reducible refine below_drewN ?_ _ | with_reducible refine Below.drew ?_))) hb3
  clear hb3 b2
  have hs3 := b3.size
  go_wp2_with fail
  refine (rsub_any _ _ _ _ _ (ok2 a) (ok2 b)).mono ?_
  rintro e w4 ⟨rfl, hb4⟩
  have b4 := below_then (a := w) (by (repeat (first | with_reducible exact Below.refl _ _ | with_reducible assumption | (with_reducible refine below_set ?_ ?_; focus ((try dsimp only); first | with_reducible assumption | omega)) | (with_reducible refine below_alloc ?_ ?_; focus (first | omega | (simp; done) | (simp; omega))) | with_reducible refine below_drewN ?_ _ | with_reducible refine Below.drew ?_))) hb4
  clear hb4 b3
  have hs4 := b4.size
  rw [hiW_sub, loW_sub]
  go_wp2_with fail
  refine (rcmp_any _ _ _ _ _ (ok2 (a - b)) (by unfold Ok2; decide)).mono ?_
  rintro e w5 ⟨rfl, hb5⟩
  have b5 := below_then (a := w) (by (repeat (first | with_reducible exact Below.refl _ _ | with_reducible assumption | (with_reducible refine below_set ?_ ?_; focus ((try dsimp only); first | with_reducible assumption | omega)) | (with_reducible refine below_alloc ?_ ?_; focus (first | omega | (simp; done) | (simp; omega))) | with_reducible refine below_drewN ?_ _ | with_reducible refine Below.drew ?_))) hb5
  clear hb5 b4
  have hs5 := b5.size
  go_wp2_with fail
  refine (rof_any a _ ka).mono ?_
  rintro e w6 ⟨rfl, hb6⟩
  have b6 := below_then (a := w) (by (repeat (first | with_reducible exact Below.refl _ _ | with_reducible assumption | (with_reducible refine below_set ?_ ?_; focus ((try dsimp only); first | with_reducible assumption | omega)) | (with_reducible refine below_alloc ?_ ?_; focus (first | omega | (simp; done) | (simp; omega))) | with_reducible refine below_drewN ?_ _ | with_reducible refine Below.drew ?_))) hb6
  clear hb6 b5
  have hs6 := b6.size
  go_wp2_with fail
  refine (rquot a b _ ka kb hz).mono ?_
  rintro e w7 ⟨rfl, hb7⟩
  have b7 := below_then (a := w) (by (repeat (first | with_reducible exact Below.refl _ _ | with_reducible assumption | (with_reducible refine below_set ?_ ?_; focus ((try dsimp only); first | with_reducible assumption | omega)) | (with_reducible refine below_alloc ?_ ?_; focus (first | omega | (simp; done) | (simp; omega))) | with_reducible refine below_drewN ?_ _ | with_reducible refine Below.drew ?_))) hb7
  clear hb7 b6
  have hs7 := b7.size
  go_wp2_with fail
  refine (rmul_any _ b _ kq kb).mono ?_
  rintro e w8 ⟨rfl, hb8⟩
  have b8 := below_then (a := w) (by (repeat (first | with_reducible exact Below.refl _ _ | with_reducible assumption | (with_reducible refine below_set ?_ ?_; focus ((try dsimp only); first | with_reducible assumption | omega)) | (with_reducible refine below_alloc ?_ ?_; focus (first | omega | (simp; done) | (simp; omega))) | with_reducible refine below_drewN ?_ _ | with_reducible refine Below.drew ?_))) hb8
  clear hb8 b7
  have hs8 := b8.size
  go_wp2_with fail
  refine (rsub_any _ _ _ _ _ (ok2 a) (ok2 _)).mono ?_
  rintro e w9 ⟨rfl, hb9⟩
  have b9 := below_then (a := w) (by (repeat (first | with_reducible exact Below.refl _ _ | with_reducible assumption | (with_reducible refine below_set ?_ ?_; focus ((try dsimp only); first | with_reducible assumption | omega)) | (with_reducible refine below_alloc ?_ ?_; focus (first | omega | (simp; done) | (simp; omega))) | with_reducible refine below_drewN ?_ _ | with_reducible refine Below.drew ?_))) hb9
  clear hb9 b8
  have hs9 := b9.size
  rw [hiW_sub, loW_sub]
  go_wp2_with fail
  refine (rlow_any _ _ _ (ok2 _)).mono ?_
  rintro e w10 ⟨rfl, hb10⟩
  have b10 := below_then (a := w) (by (repeat (first | with_reducible exact Below.refl _ _ | with_reducible assumption | (with_reducible refine below_set ?_ ?_; focus ((try dsimp only); first | with_reducible assumption | omega)) | (with_reducible refine below_alloc ?_ ?_; focus (first | omega | (simp; done) | (simp; omega))) | with_reducible refine below_drewN ?_ _ | with_reducible refine Below.drew ?_))) hb10
  rw [wrap64_loW]
  go_wp2
  go_ret2
  exact ⟨rfl, b10⟩
end Go.Proofs.Ytdjkmphkahileaa
