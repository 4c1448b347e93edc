/- Layer 2: the laws' walks. -/
import Derived.Test.YtdjkmphkahileaaWr11
namespace Go.Proofs.Ytdjkmphkahileaa
open Go.RowKit Go.Shelf
theorem wrapLives (w : World) : Calls Try.prog 9 #[] w fun e w' => e = .returned (.bool true) ∧ Below w.heap.size w w' := by
  have Z := Lib.hid (show wrap64 (9223372036854775807 + 1) = -9223372036854775808 by rw [wrap64_def]; rfl)
  go_enter Try.func9, Try.ntmps9
  go_wp2_with fail
  refine (wdo_add 9223372036854775807 1 _ (by unfold I64; omega) (by unfold I64; omega)).mono ?_
  rintro e w1 ⟨rfl, hb1⟩
  rw [Z.out]
  have hs1 := hb1.size
  go_wp2_with fail
  refine (wdo_9 (-7) 2 (-1) 0 _ fun w => parts_rem (-7) 2 w (by decide) rfl).mono ?_
  rintro e w2 ⟨rfl, hb2⟩
  have b2 := below_then (a := w) (by (repeat (first | with_reducible exact Below.refl _ _ | with_reducible assumption | (with_reducible refine below_set ?_ ?_; focus ((try dsimp only); first | with_reducible assumption | omega)) | (with_reducible refine below_alloc ?_ ?_; focus (first | omega | (simp; done) | (simp; omega))) | with_reducible refine below_drewN ?_ _ | with_reducible refine Below.drew ?_))) hb2
  go_wp2
  go_ret
  exact ⟨rfl, b2⟩
theorem does_any (op a b : Int) (w : World) (ka : I64 a) (kb : I64 b) : Calls Try.prog 3 #[.int .i64 op, .int .i64 a, .int .i64 b] w fun e w' => e = .returned (.bool true) ∧ Below w.heap.size w w' := by
  go_enter Try.func3, Try.ntmps3
  go_wp2_with fail
  refine (wdo op a b _ ka kb).mono ?_
  rintro e w1 ⟨rfl, hb1⟩
  have hs1 := hb1.size
  go_wp2_with fail
  refine (rdo op a b _ ka kb).mono ?_
  rintro e w2 ⟨rfl, hb2⟩
  have b2 := below_then (a := w) (by (repeat (first | with_reducible exact Below.refl _ _ | with_reducible assumption | (with_reducible refine below_set ?_ ?_; focus ((try dsimp only); first | with_reducible assumption | omega)) | (with_reducible refine below_alloc ?_ ?_; focus (first | omega | (simp; done) | (simp; omega))) | with_reducible refine below_drewN ?_ _ | with_reducible refine Below.drew ?_))) hb2
  have hs2 := b2.size
  go_wp2_with fail
  refine (wrapLives _).mono ?_
  rintro e w3 ⟨rfl, hb3⟩
  have b3 := below_then (a := w) (by (repeat (first | with_reducible exact Below.refl _ _ | with_reducible assumption | (with_reducible refine below_set ?_ ?_; focus ((try dsimp only); first | with_reducible assumption | omega)) | (with_reducible refine below_alloc ?_ ?_; focus (first | omega | (simp; done) | (simp; omega))) | with_reducible refine below_drewN ?_ _ | with_reducible refine Below.drew ?_))) hb3
  go_wp2
  go_ret
  exact ⟨rfl, b3⟩
end Go.Proofs.Ytdjkmphkahileaa
