/- Statements and functions: sameness. -/
import Derived.Test.YtpeimfcmhedjmaaSm
import Derived.Test.YtpeimfcmhedjmaaE1
namespace Go.Proofs.Ytpeimfcmhedjmaa.Ab
open Go
set_option linter.all false
theorem same_b {g0 g1} {e f : TApiExpr} (h : g0 e.gKids f.gKids = some (eqEs false e.gKids f.gKids)) : tree_Same_b g0 g1 e f = some (eqE false e f) := by
  unfold tree_Same_b
  rw [h, eqE_eq]
  cases e.gOp == f.gOp <;> cases e.gN == f.gN <;> cases decide (e.gName = f.gName) <;> rfl
theorem same_g : ∀ (n : Nat), (∀ l m, 2 * dpEs l + 1 ≤ n → szEs l ≤ 1048576 → (slices_EqualFunc_api_Expr_api_Expr_api_Expr_api_Expr_g n).1 l m = some (eqEs false l m)) ∧ (∀ e f, 2 * dpE e ≤ n → szE e ≤ 1048576 → (slices_EqualFunc_api_Expr_api_Expr_api_Expr_api_Expr_g n).2 e f = some (eqE false e f))
  | 0 => ⟨fun l m h => by omega, fun e f h _ => by rw [dpE_eq] at h; omega⟩
  | n + 1 => by
    obtain ⟨h2, h1⟩ := same_g n
    refine ⟨fun l m h hb => ?_, fun e f h hb => ?_⟩
    · show slices_EqualFunc_api_Expr_api_Expr_api_Expr_api_Expr_b (slices_EqualFunc_api_Expr_api_Expr_api_Expr_api_Expr_g n).1 (slices_EqualFunc_api_Expr_api_Expr_api_Expr_api_Expr_g n).2 l m = _
      unfold slices_EqualFunc_api_Expr_api_Expr_api_Expr_api_Expr_b
      have hl := szEs_len l
      rw [eqEs_eq]
      refine pairs _ l m (fun p x q p' y q' e e' hp => ?_) ?_
      · have hx := pre_mem e
        have hd := dpE_mem hx
        have hz := szE_mem hx
        rw [lt_pre e, cond_true, idx_pre2 e rfl, Option.bind_some, idx_pre2 e' hp, Option.bind_some, h1 x y (by omega) (by omega), Option.bind_some, inc_pre e (by omega)]
        cases eqE false x y <;> rfl
      · rw [lt_end, cond_false]
    · have he := dpE_eq e
      have hs := szE_eq e
      exact same_b (g1 := (slices_EqualFunc_api_Expr_api_Expr_api_Expr_api_Expr_g n).2) (h2 _ _ (by omega) (by omega))
theorem eqf_eq {l m : List TApiExpr} (hb : szEs l ≤ 1048576) : slices_EqualFunc_api_Expr_api_Expr_api_Expr_api_Expr l m = some (eqEs false l m) := slices_EqualFunc_api_Expr_api_Expr_api_Expr_api_Expr_of l m (2 * dpEs l + 1) ((same_g _).1 l m (Nat.le_refl _) hb)
/-! ### Statements -/
mutual
def eqS (p : Bool) : TApiStmt → TApiStmt → Bool
  | ⟨a, b, c, es, ks, ls, d⟩, f => a == f.gOp && (decide (b = f.gName) && (decide (c = f.gFunc) && ((!p || d == f.gAt) && (eqEs p es f.gExps && (eqSs p ks f.gKids && eqSs p ls f.gElse)))))
def eqSs (p : Bool) : List TApiStmt → List TApiStmt → Bool
  | [], m => m.isEmpty
  | e :: l, m => match m with
    | [] => false
    | f :: m => eqS p e f && eqSs p l m
end
theorem eqS_eq (p : Bool) (e f : TApiStmt) : eqS p e f = (e.gOp == f.gOp && (decide (e.gName = f.gName) && (decide (e.gFunc = f.gFunc) && ((!p || e.gAt == f.gAt) && (eqEs p e.gExps f.gExps && (eqSs p e.gKids f.gKids && eqSs p e.gElse f.gElse)))))) := by cases e; simp only [eqS]
theorem eqSs_eq (p : Bool) : ∀ l m, eqSs p l m = all2 (eqS p) l m
  | [], [] => by simp [eqSs, all2]
  | [], _ :: _ => by simp [eqSs, all2]
  | _ :: _, [] => by simp [eqSs, all2]
  | x :: l, y :: m => by simp only [eqSs, all2, eqSs_eq p l m]
mutual
theorem eqS_refl (p : Bool) : ∀ e, eqS p e e = true
  | ⟨a, b, c, es, ks, ls, d⟩ => by
    rw [eqS_eq]
    simp [eqEs_refl p es, eqSs_refl p ks, eqSs_refl p ls]
theorem eqSs_refl (p : Bool) : ∀ l, eqSs p l l = true
  | [] => by simp [eqSs]
  | e :: l => by simp only [eqSs, eqS_refl p e, eqSs_refl p l, Bool.and_self]
end
theorem sameS_g : ∀ (n : Nat), (∀ l m, 3 * hSs l ≤ n → szSs l ≤ 1048576 → (tree_SameAll_g n).1 l m = some (eqSs false l m)) ∧ (∀ l m, 3 * hSs l ≤ n + 1 → szSs l ≤ 1048576 → (tree_SameAll_g n).2.1 l m = some (eqSs false l m)) ∧ (∀ s t, 3 * hS s ≤ n + 2 → szS s ≤ 1048576 → (tree_SameAll_g n).2.2 s t = some (eqS false s t))
  | 0 => by
    refine ⟨fun l m h _ => ?_, fun l m h _ => ?_, fun s t h _ => ?_⟩
    · have := hSs_pos l; omega
    · have := hSs_pos l; omega
    · have := hSs_pos s.gKids; rw [hS_eq] at h; omega
  | n + 1 => by
    obtain ⟨h1, h2, h3⟩ := sameS_g n
    refine ⟨fun l m h hb => ?_, fun l m h hb => ?_, fun s t h hb => ?_⟩
    · show tree_SameAll_b (tree_SameAll_g n).1 (tree_SameAll_g n).2.1 (tree_SameAll_g n).2.2 l m = _
      unfold tree_SameAll_b
      rw [h2 l m (by omega) hb]; rfl
    · show slices_EqualFunc_api_Stmt_api_Stmt_api_Stmt_api_Stmt_b (tree_SameAll_g n).1 (tree_SameAll_g n).2.1 (tree_SameAll_g n).2.2 l m = _
      unfold slices_EqualFunc_api_Stmt_api_Stmt_api_Stmt_api_Stmt_b
      have hl := szSs_len l
      rw [eqSs_eq]
      refine pairs _ l m (fun p x q p' y q' e e' hp => ?_) ?_
      · have hx := pre_mem e
        have hd := hS_mem hx
        have hz := szS_mem hx
        rw [lt_pre e, cond_true, idx_pre2 e rfl, Option.bind_some, idx_pre2 e' hp, Option.bind_some, h3 x y (by omega) (by omega), Option.bind_some, inc_pre e (by omega)]
        cases eqS false x y <;> rfl
      · rw [lt_end, cond_false]
    · show tree_sameStmt_b (tree_SameAll_g n).1 (tree_SameAll_g n).2.1 (tree_SameAll_g n).2.2 s t = _
      unfold tree_sameStmt_b
      have hh := hS_eq s
      have hz := szS_eq s
      rw [eqf_eq (by omega), h1 _ _ (by omega) (by omega), h1 _ _ (by omega) (by omega), eqS_eq]
      simp only [Option.bind_some, bne]
      cases s.gOp == t.gOp <;> cases decide (s.gName = t.gName) <;> cases decide (s.gFunc = t.gFunc) <;> cases eqEs false s.gExps t.gExps <;> cases eqSs false s.gKids t.gKids <;> cases eqSs false s.gElse t.gElse <;> rfl
theorem sameS_eq {l m : List TApiStmt} (hb : szSs l ≤ 1048576) : tree_SameAll l m = some (eqSs false l m) := tree_SameAll_of l m (3 * hSs l) ((sameS_g _).1 l m (Nat.le_refl _) hb)
theorem rsameS_g (p : Bool) : ∀ (n : Nat) (l m : List TApiStmt), hSs l ≤ n → szSs l ≤ 1048576 → r11_SameAll_g n l m p = some (eqSs p l m)
  | 0, l, m, h, _ => by have := hSs_pos l; omega
  | n + 1, l, m, h, hb => by
    show r11_SameAll_b (r11_SameAll_g n) l m p = _
    unfold r11_SameAll_b
    have hl := szSs_len l
    rw [eqSs_eq]
    refine pairs _ l m (fun a x q a' y q' e e' hp => ?_) ?_
    · have hx := pre_mem e
      have hd := hS_mem hx
      have hz := szS_mem hx
      have hdx := hS_eq x
      have hsx := szS_eq x
      rw [lt_pre e, cond_true]
      simp only [idx_pre2 e rfl, idx_pre2 e' hp, Option.bind_some]
      rw [inc_pre e (by omega), rexps_eq (by omega), rsameS_g p n _ _ (by omega) (by omega), rsameS_g p n _ _ (by omega) (by omega), eqS_eq]
      simp only [Option.bind_some, bne]
      cases x.gOp == y.gOp <;> cases decide (x.gName = y.gName) <;> cases decide (x.gFunc = y.gFunc) <;> cases p <;> cases x.gAt == y.gAt <;> cases eqEs _ x.gExps y.gExps <;> cases eqSs _ x.gKids y.gKids <;> cases eqSs _ x.gElse y.gElse <;> rfl
    · rw [lt_end, cond_false]
theorem rsameS_eq {l m : List TApiStmt} {p : Bool} (hb : szSs l ≤ 1048576) : r11_SameAll l m p = some (eqSs p l m) := r11_SameAll_of l m p (hSs l) (rsameS_g p _ l m (Nat.le_refl _) hb)
/-! ### Functions -/
def eqVar (a b : TApiVar) : Bool := decide (a.gName = b.gName) && (a.gPtr == b.gPtr && true)
theorem vars_eq {l m : List TApiVar} (hb : l.length ≤ 1048576) : r11_vars l m = some (all2 eqVar l m) := by
  unfold r11_vars
  refine pairs _ l m (fun p x q p' y q' e e' hp => ?_) ?_
  · rw [lt_pre e, cond_true, idx_pre2 e rfl, Option.bind_some, idx_pre2 e' hp, Option.bind_some, inc_pre e (by omega)]
    show (bif !eqVar x y then _ else _) = _
    cases eqVar x y <;> rfl
  · rw [lt_end, cond_false]
theorem equalV_eq {l m : List TApiVar} (hb : l.length ≤ 1048576) : slices_Equal_api_Var_api_Var l m = some (all2 eqVar l m) := vars_eq hb
theorem eqVar_refl (v : TApiVar) : eqVar v v = true := by simp [eqVar]
def eqF (a b : TApiFunc) : Bool := decide (a.gName = b.gName) && (all2 eqVar a.gParams b.gParams && (all2 eqVar a.gLocals b.gLocals && eqSs false a.gBody b.gBody))
theorem sameF_eq {a b : TApiFunc} (h1 : a.gParams.length ≤ 1048576) (h2 : a.gLocals.length ≤ 1048576) (h3 : szSs a.gBody ≤ 1048576) : tree_SameFunc a b = some (eqF a b) := by
  unfold tree_SameFunc eqF
  rw [equalV_eq h1, equalV_eq h2, sameS_eq h3]
  simp only [Option.bind_some]
  cases decide (a.gName = b.gName) <;> cases all2 eqVar a.gParams b.gParams <;> cases all2 eqVar a.gLocals b.gLocals <;> cases eqSs false a.gBody b.gBody <;> rfl
theorem rsameF_eq {a b : TApiFunc} (h1 : a.gParams.length ≤ 1048576) (h2 : a.gLocals.length ≤ 1048576) (h3 : szSs a.gBody ≤ 1048576) : r11_SameFunc a b false = some (eqF a b) := by
  unfold r11_SameFunc eqF
  rw [vars_eq h1, vars_eq h2, rsameS_eq h3]
  simp only [Option.bind_some]
  cases decide (a.gName = b.gName) <;> cases all2 eqVar a.gParams b.gParams <;> cases all2 eqVar a.gLocals b.gLocals <;> cases eqSs false a.gBody b.gBody <;> rfl
theorem eqF_refl (a : TApiFunc) : eqF a a = true := by
  unfold eqF
  rw [all2_refl fun x _ => eqVar_refl x, all2_refl fun x _ => eqVar_refl x, eqSs_refl]; simp
end Go.Proofs.Ytpeimfcmhedjmaa.Ab
