/- Layer 2, further: quotients and rests, comparisons. -/
import Derived.Test.YtdjkmphkahileaaWr1
import Derived.Test.YtdjkmphkahileaaWr2
namespace Go.Proofs.Ytdjkmphkahileaa
open Go.RowKit Go.Shelf
theorem wdo_8 (a b r s : Int) (w : World) (hp : ∀ w, Calls Try.prog 20 #[.int .i64 8, .int .i64 a, .int .i64 b] w fun e w' => e = .returned (.tuple #[.int .i64 r, .int .i64 s]) ∧ Below w.heap.size w w') : Calls Try.prog 7 #[.int .i64 8, .int .i64 a, .int .i64 b] w fun e w' => e = .returned (.tuple #[.int .i64 r, .int .i64 s]) ∧ Below w.heap.size w w' := by
  go_enter Try.func7, Try.ntmps7
  go_wp2_with fail
  refine (wexact_no 8 a b _ rfl rfl rfl).mono ?_
  rintro e w1 ⟨rfl, hb1⟩
  go_wp2_with fail
  refine (hp _).mono ?_
  rintro e w2 ⟨rfl, hb2⟩
  have hs := hb1.size
  have b2 := below_then (a := w) (by (repeat (first | with_reducible exact Below.refl _ _ | with_reducible assumption | (with_reducible refine below_set ?_ ?_; focus ((try dsimp only); first | with_reducible assumption | omega)) | (with_reducible refine below_alloc ?_ ?_; focus (first | omega | (simp; done) | (simp; omega))) | with_reducible refine below_drewN ?_ _ | with_reducible refine Below.drew ?_))) hb2
  go_wp2
  go_ret2
  exact ⟨rfl, b2⟩
theorem wdo_9 (a b r s : Int) (w : World) (hp : ∀ w, Calls Try.prog 20 #[.int .i64 9, .int .i64 a, .int .i64 b] w fun e w' => e = .returned (.tuple #[.int .i64 r, .int .i64 s]) ∧ Below w.heap.size w w') : Calls Try.prog 7 #[.int .i64 9, .int .i64 a, .int .i64 b] w fun e w' => e = .returned (.tuple #[.int .i64 r, .int .i64 s]) ∧ Below w.heap.size w w' := by
  go_enter Try.func7, Try.ntmps7
  go_wp2_with fail
  refine (wexact_no 9 a b _ rfl rfl rfl).mono ?_
  rintro e w1 ⟨rfl, hb1⟩
  go_wp2_with fail
  refine (hp _).mono ?_
  rintro e w2 ⟨rfl, hb2⟩
  have hs := hb1.size
  have b2 := below_then (a := w) (by (repeat (first | with_reducible exact Below.refl _ _ | with_reducible assumption | (with_reducible refine below_set ?_ ?_; focus ((try dsimp only); first | with_reducible assumption | omega)) | (with_reducible refine below_alloc ?_ ?_; focus (first | omega | (simp; done) | (simp; omega))) | with_reducible refine below_drewN ?_ _ | with_reducible refine Below.drew ?_))) hb2
  go_wp2
  go_ret2
  exact ⟨rfl, b2⟩
theorem wdo_hold (op a b : Int) (x : Bool) (w : World) (h1 : (op == 10) = false) (h2 : (op == 11) = false) (h3 : (op == 7) = false) (h4 : (op == 8) = false) (h5 : (op == 9) = false) (hp : ∀ w, Calls Try.prog 21 #[.int .i64 op, .int .i64 a, .int .i64 b] w fun e w' => e = .returned (.tuple #[.bool x, .bool true]) ∧ Below w.heap.size w w') : Calls Try.prog 7 #[.int .i64 op, .int .i64 a, .int .i64 b] w fun e w' => e = .returned (.tuple #[.int .i64 (if x then 1 else 0), .int .i64 0]) ∧ Below w.heap.size w w' := by
  cases x <;>
  · go_enter Try.func7, Try.ntmps7
    go_wp2_with fail
    refine (wexact_no op a b _ h1 h2 h3).mono ?_
    rintro e w1 ⟨rfl, hb1⟩
    go_wp2_with fail
    refine (hp _).mono ?_
    rintro e w2 ⟨rfl, hb2⟩
    have hs := hb1.size
    have b2 := below_then (a := w) (by (repeat (first | with_reducible exact Below.refl _ _ | with_reducible assumption | (with_reducible refine below_set ?_ ?_; focus ((try dsimp only); first | with_reducible assumption | omega)) | (with_reducible refine below_alloc ?_ ?_; focus (first | omega | (simp; done) | (simp; omega))) | with_reducible refine below_drewN ?_ _ | with_reducible refine Below.drew ?_))) hb2
    go_wp2_with fail
    refine (wone _ _).mono ?_
    rintro e w3 ⟨rfl, hb3⟩
    have hs2 := b2.size
    have b3 := below_then (a := w) b2 hb3
    go_wp2
    go_ret2
    exact ⟨rfl, b3⟩
theorem wdo_none (op a b : Int) (w : World) (h1 : (op == 10) = false) (h2 : (op == 11) = false) (h3 : (op == 7) = false) (h4 : (op == 8) = false) (h5 : (op == 9) = false) (hp : ∀ w, Calls Try.prog 21 #[.int .i64 op, .int .i64 a, .int .i64 b] w fun e w' => e = .returned (.tuple #[.bool false, .bool false]) ∧ Below w.heap.size w w') : Calls Try.prog 7 #[.int .i64 op, .int .i64 a, .int .i64 b] w fun e w' => e = .returned (.tuple #[.int .i64 0, .int .i64 2]) ∧ Below w.heap.size w w' := by
  go_enter Try.func7, Try.ntmps7
  go_wp2_with fail
  refine (wexact_no op a b _ h1 h2 h3).mono ?_
  rintro e w1 ⟨rfl, hb1⟩
  go_wp2_with fail
  refine (hp _).mono ?_
  rintro e w2 ⟨rfl, hb2⟩
  have hs := hb1.size
  have b2 := below_then (a := w) (by (repeat (first | with_reducible exact Below.refl _ _ | with_reducible assumption | (with_reducible refine below_set ?_ ?_; focus ((try dsimp only); first | with_reducible assumption | omega)) | (with_reducible refine below_alloc ?_ ?_; focus (first | omega | (simp; done) | (simp; omega))) | with_reducible refine below_drewN ?_ _ | with_reducible refine Below.drew ?_))) hb2
  go_wp2
  go_ret2
  exact ⟨rfl, b2⟩
end Go.Proofs.Ytdjkmphkahileaa
