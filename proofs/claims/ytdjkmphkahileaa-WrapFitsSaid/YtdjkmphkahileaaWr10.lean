/- Layer 2: Do of both, as one. -/
import Derived.Test.YtdjkmphkahileaaWr9
namespace Go.Proofs.Ytdjkmphkahileaa
open Go.RowKit Go.Shelf
def b2i (x : Bool) : Int := if x then 1 else 0
def doI (op a b : Int) : Int × Int :=
  if op = 10 then (wrap64 (a + b), 0) else if op = 11 then (wrap64 (a - b), 0) else if op = 7 then (wrap64 (a * b), 0)
  else if op = 8 then (if b = 0 then (0, 10) else (wrap64 (a.tdiv b), 0))
  else if op = 9 then (if b = 0 then (0, 10) else (a.tmod b, 0))
  else if op = 12 then (b2i (decide (a < b)), 0) else if op = 13 then (b2i (decide (a ≤ b)), 0)
  else if op = 14 then (b2i (a == b), 0) else if op = 15 then (b2i (!(a == b)), 0)
  else if op = 16 then (b2i ((a != 0) && (b != 0)), 0) else if op = 17 then (b2i ((a != 0) || (b != 0)), 0)
  else (0, 2)
theorem wdo (op a b : Int) (w : World) (ka : I64 a) (kb : I64 b) : Calls Try.prog 7 #[.int .i64 op, .int .i64 a, .int .i64 b] w fun e w' => e = .returned (.tuple #[.int .i64 (doI op a b).1, .int .i64 (doI op a b).2]) ∧ Below w.heap.size w w' := by
  by_cases h10 : op = 10
  · subst h10; exact wdo_add a b w ka kb
  by_cases h11 : op = 11
  · subst h11; exact wdo_sub a b w ka kb
  by_cases h7 : op = 7
  · subst h7; exact wdo_mul a b w ka kb
  by_cases h12 : op = 12
  · subst h12; exact wdo_hold 12 a b _ w rfl rfl rfl rfl rfl (holds_lt a b)
  by_cases h13 : op = 13
  · subst h13; exact wdo_hold 13 a b _ w rfl rfl rfl rfl rfl (holds_le a b)
  by_cases h14 : op = 14
  · subst h14; exact wdo_hold 14 a b _ w rfl rfl rfl rfl rfl (holds_eq a b)
  by_cases h15 : op = 15
  · subst h15; exact wdo_hold 15 a b _ w rfl rfl rfl rfl rfl (holds_ne a b)
  by_cases h16 : op = 16
  · subst h16; exact wdo_hold 16 a b _ w rfl rfl rfl rfl rfl (holds_and a b _ _ rfl rfl)
  by_cases h17 : op = 17
  · subst h17; exact wdo_hold 17 a b _ w rfl rfl rfl rfl rfl (holds_or a b _ _ rfl rfl)
  by_cases h8 : op = 8
  · subst h8
    by_cases hz : b = 0
    · subst hz; exact wdo_8 a 0 0 10 w (parts_zero 8 a)
    have e : doI 8 a b = (wrap64 (a.tdiv b), 0) := by simp [doI, hz]
    rw [e]
    by_cases h1 : b = -1
    · subst h1; rw [Int.tdiv_neg, Int.tdiv_one]; exact wdo_8 a (-1) _ 0 w (parts_div1 a)
    exact wdo_8 a b _ 0 w fun w => parts_div a b w hz (by simp [h1])
  by_cases h9 : op = 9
  · subst h9
    by_cases hz : b = 0
    · subst hz; exact wdo_9 a 0 0 10 w (parts_zero 9 a)
    have e : doI 9 a b = (a.tmod b, 0) := by simp [doI, hz]
    rw [e]
    by_cases h1 : b = -1
    · subst h1; rw [Int.tmod_neg, Int.tmod_one]; exact wdo_9 a (-1) _ 0 w (parts_rem1 a)
    exact wdo_9 a b _ 0 w fun w => parts_rem a b w hz (by simp [h1])
  have e : doI op a b = (0, 2) := by simp [doI, *]
  rw [e]
  exact wdo_none op a b w (by simp [*]) (by simp [*]) (by simp [*]) (by simp [*]) (by simp [*]) fun w => holds_none op a b w (by simp [*]) (by simp [*]) (by simp [*]) (by simp [*]) (by simp [*]) (by simp [*])
end Go.Proofs.Ytdjkmphkahileaa
