/- Expressions: the document's sameness. -/
import Derived.Test.YtpeimfcmhedjmaaE0
namespace Go.Proofs.Ytpeimfcmhedjmaa.Ab
open Go
set_option linter.all false
theorem rexps_g (p : Bool) : ∀ (n : Nat) (l m : List TApiExpr), dpEs l + 1 ≤ n → szEs l ≤ 1048576 → r11_Exps_g n l m p = some (eqEs p l m)
  | 0, l, m, h, _ => by omega
  | n + 1, l, m, h, hb => by
    show r11_Exps_b (r11_Exps_g n) l m p = _
    unfold r11_Exps_b
    have hl := szEs_len l
    rw [eqEs_eq]
    refine pairs _ l m (fun a x q a' y q' e e' hp => ?_) ?_
    · have hx := pre_mem e
      have hd := dpE_mem hx
      have hz := szE_mem hx
      have hdx := dpE_eq x
      have hsx := szE_eq x
      rw [lt_pre e, cond_true]
      simp only [idx_pre2 e rfl, idx_pre2 e' hp, Option.bind_some]
      rw [inc_pre e (by omega), rexps_g p n _ _ (by omega) (by omega), eqE_eq]
      simp only [Option.bind_some, bne]
      cases x.gOp == y.gOp <;> cases x.gN == y.gN <;> cases decide (x.gName = y.gName) <;> cases p <;> cases x.gAt == y.gAt <;> cases eqEs _ x.gKids y.gKids <;> rfl
    · rw [lt_end, cond_false]
theorem rexps_eq {l m : List TApiExpr} {p : Bool} (hb : szEs l ≤ 1048576) : r11_Exps l m p = some (eqEs p l m) := r11_Exps_of l m p (dpEs l + 1) (rexps_g p _ l m (Nat.le_refl _) hb)
end Go.Proofs.Ytpeimfcmhedjmaa.Ab
