/- Layer 2: the document's Do, as one. -/
import Derived.Test.YtdjkmphkahileaaWr10
namespace Go.Proofs.Ytdjkmphkahileaa
open Go.RowKit Go.Shelf
theorem sub_sign (a b : Int) (ka : I64 a) (kb : I64 b) : V (hiW (a - b)) (loW (a - b)) = a - b := by
  unfold I64 at ka kb
  exact V_W_id (by omega) (by omega)
theorem rem_eq (a b : Int) (ka : I64 a) (kb : I64 b) (hz : b ≠ 0) : wrap64 (a - wrap64 (a.tdiv b) * b) = a.tmod b := by
  have h := Int.mul_tdiv_add_tmod a b
  have h1 : (a - wrap64 (a.tdiv b) * b) % 18446744073709551616 = a.tmod b % 18446744073709551616 := by
    have e : wrap64 (a.tdiv b) = a.tdiv b + 18446744073709551616 * (-((a.tdiv b + 9223372036854775808) / 18446744073709551616)) := by rw [wrap64_def]; omega
    rw [e, Int.add_mul, Int.mul_comm (a.tdiv b) b, Int.mul_assoc]
    omega
  have l1 : (a.tmod b).natAbs ≤ a.natAbs := by rw [Int.natAbs_tmod]; exact Nat.mod_le _ _
  have l2 : (a.tmod b).natAbs < b.natAbs := by rw [Int.natAbs_tmod]; exact Nat.mod_lt _ (by omega)
  unfold I64 at ka kb
  rw [wrap64_def]
  omega
theorem rdo (op a b : Int) (w : World) (ka : I64 a) (kb : I64 b) : Calls Try.prog 8 #[.int .i64 op, .int .i64 a, .int .i64 b] w fun e w' => e = .returned (.tuple #[.int .i64 (doI op a b).1, .int .i64 (doI op a b).2]) ∧ Below w.heap.size w w' := by
  by_cases h10 : op = 10
  · subst h10; exact rdo_add a b w ka kb
  by_cases h11 : op = 11
  · subst h11; exact rdo_sub a b w ka kb
  by_cases h7 : op = 7
  · subst h7; exact rdo_mul a b w ka kb
  have hc : cmpI (V (hiW (a - b)) (loW (a - b))) (V 0 0) = cmpI (a - b) 0 := by rw [sub_sign a b ka kb]; rfl
  by_cases h12 : op = 12
  · subst h12; exact rdo_12 a b _ _ w ka kb hc (by unfold cmpI; by_cases h : a < b <;> simp [h] <;> split <;> (try split) <;> omega)
  by_cases h13 : op = 13
  · subst h13; exact rdo_13 a b _ _ w ka kb hc (by unfold cmpI; by_cases h : a ≤ b <;> simp [h] <;> split <;> (try split) <;> omega)
  by_cases h16 : op = 16
  · subst h16; exact rdo_16 a b _ _ w ka kb rfl rfl
  by_cases h17 : op = 17
  · subst h17; exact rdo_17 a b _ _ w ka kb rfl rfl
  by_cases h14 : op = 14
  · subst h14; exact rdo_14 a b _ _ w ka kb hc (by unfold cmpI; by_cases h : a = b <;> simp [h] <;> split <;> (try split) <;> (try simp) <;> omega)
  by_cases h15 : op = 15
  · subst h15; exact rdo_15 a b _ _ w ka kb hc (by unfold cmpI; by_cases h : a = b <;> simp [h] <;> split <;> (try split) <;> (try simp) <;> omega)
  by_cases h8 : op = 8
  · subst h8
    by_cases hz : b = 0
    · subst hz; exact rdo_zero8 a w
    have e : doI 8 a b = (wrap64 (a.tdiv b), 0) := by simp [doI, hz]
    rw [e]; exact rdo_div a b w ka kb hz (by simp [hz])
  by_cases h9 : op = 9
  · subst h9
    by_cases hz : b = 0
    · subst hz; exact rdo_zero9 a w
    have e : doI 9 a b = (a.tmod b, 0) := by simp [doI, hz]
    rw [e, ← rem_eq a b ka kb hz]; exact rdo_rem a b w ka kb hz (by simp [hz])
  have e : doI op a b = (0, 2) := by simp [doI, *]
  rw [e]
  exact rdo_none op a b w ka kb (by simp [*]) (by simp [*]) (by simp [*]) (by simp [*]) (by simp [*]) (by simp [*]) (by simp [*]) (by simp [*]) (by simp [*]) (by simp [*]) (by simp [*])
end Go.Proofs.Ytdjkmphkahileaa
