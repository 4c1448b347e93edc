/- Layer 2: the law on one operand. -/
import Derived.Test.YtdjkmphkahileaaWl5
namespace Go.Proofs.Ytdjkmphkahileaa
open Go.RowKit Go.Shelf
def oneI (op a : Int) : Int × Int := if op = 5 then (wrap64 (-a), 0) else if op = 6 then ((if (a == 0) then 1 else 0), 0) else (0, 2)
theorem wone_any (op a : Int) (w : World) (ka : I64 a) : Calls Try.prog 13 #[.int .i64 op, .int .i64 a] w fun e w' => e = .returned (.tuple #[.int .i64 (oneI op a).1, .int .i64 (oneI op a).2]) ∧ Below w.heap.size w w' := by
  by_cases h5 : op = 5
  · subst h5; exact wone_5 a w ka
  by_cases h6 : op = 6
  · subst h6; exact wone_6 a _ w rfl
  have e : oneI op a = (0, 2) := by simp [oneI, *]
  rw [e]; exact wone_none op a w (by simp [*]) (by simp [*])
theorem rone_any (op a : Int) (w : World) (ka : I64 a) : Calls Try.prog 14 #[.int .i64 op, .int .i64 a] w fun e w' => e = .returned (.tuple #[.int .i64 (oneI op a).1, .int .i64 (oneI op a).2]) ∧ Below w.heap.size w w' := by
  by_cases h5 : op = 5
  · subst h5; exact rone_5 a w ka
  by_cases h6 : op = 6
  · subst h6; exact rone_6 a _ w rfl
  have e : oneI op a = (0, 2) := by simp [oneI, *]
  rw [e]; exact rone_none op a w (by simp [*]) (by simp [*])
theorem ones_any (op a : Int) (w : World) (ka : I64 a) : Calls Try.prog 5 #[.int .i64 op, .int .i64 a] w fun e w' => e = .returned (.bool true) ∧ Below w.heap.size w w' := by
  go_enter Try.func5, Try.ntmps5
  go_wp2_with fail
  refine (wone_any op a _ ka).mono ?_
  rintro e w1 ⟨rfl, hb1⟩
  have hs1 := hb1.size
  go_wp2_with fail
  refine (rone_any op a _ ka).mono ?_
  rintro e w2 ⟨rfl, hb2⟩
  have b2 := below_then (a := w) (by (repeat (first | with_reducible exact Below.refl _ _ | with_reducible assumption | (with_reducible refine below_set ?_ ?_; focus ((try dsimp only); first | with_reducible assumption | omega)) | (with_reducible refine below_alloc ?_ ?_; focus (first | omega | (simp; done) | (simp; omega))) | with_reducible refine below_drewN ?_ _ | with_reducible refine Below.drew ?_))) hb2
  have hs2 := b2.size
  go_wp2_with fail
  refine (wrapLives _).mono ?_
  rintro e w3 ⟨rfl, hb3⟩
  have b3 := below_then (a := w) (by (repeat (first | with_reducible exact Below.refl _ _ | with_reducible assumption | (with_reducible refine below_set ?_ ?_; focus ((try dsimp only); first | with_reducible assumption | omega)) | (with_reducible refine below_alloc ?_ ?_; focus (first | omega | (simp; done) | (simp; omega))) | with_reducible refine below_drewN ?_ _ | with_reducible refine Below.drew ?_))) hb3
  go_wp2
  go_ret
  exact ⟨rfl, b3⟩
end Go.Proofs.Ytdjkmphkahileaa
