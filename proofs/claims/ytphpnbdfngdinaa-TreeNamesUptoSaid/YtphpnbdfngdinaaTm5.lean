/- Trees' sameness; bare trees. -/
import Derived.Test.YtphpnbdfngdinaaTm4
namespace Go.Proofs.Ytphpnbdfngdinaa.Ab
open Go
set_option linter.all false
/-! ### Two lists, place by place -/
def all2 {β γ : Type} (t : β → γ → Bool) : List β → List γ → Bool
  | [], [] => true
  | x :: l, y :: m => t x y && all2 t l m
  | _, _ => false
theorem all2_len {β γ : Type} {t : β → γ → Bool} : ∀ {l : List β} {m : List γ}, l.length ≠ m.length → all2 t l m = false
  | [], [], h => absurd rfl h
  | [], _ :: _, _ => rfl
  | _ :: _, [], _ => rfl
  | x :: l, y :: m, h => by
    show (t x y && all2 t l m) = false
    rw [all2_len (by simpa using h), Bool.and_false]
theorem loop_all2 {β γ : Type} (t : β → γ → Bool) {l : List β} {m : List γ} (hl : l.length = m.length) {f : Int → Option (Step Int (Unit ⊕ Bool))}
    (h1 : ∀ p x q p' y q', l = p ++ x :: q → m = p' ++ y :: q' → p.length = p'.length → f (p.length : Int) = some (bif t x y then .next ((p.length + 1 : Nat) : Int) else .done (.inr false)))
    (h2 : f (l.length : Int) = some (.done (.inl ()))) : loopM f (0 : Int) = some (bif all2 t l m then .inl () else .inr false) := by
  have key : ∀ (q p : List β) (q' p' : List γ), l = p ++ q → m = p' ++ q' → p.length = p'.length → loopM f (p.length : Int) = some (bif all2 t q q' then .inl () else .inr false) := by
    intro q
    induction q with
    | nil =>
      intro p q' p' e e' hp
      have : q' = [] := by
        subst e e'
        simp only [List.append_nil, List.length_append] at hl
        exact List.eq_nil_of_length_eq_zero (by omega)
      subst this
      rw [List.append_nil] at e; subst e
      rw [loopM_done h2]; rfl
    | cons x q ih =>
      intro p q' p' e e' hp
      cases q' with
      | nil =>
        subst e e'
        simp only [List.append_nil, List.length_append, List.length_cons] at hl
        omega
      | cons y q' =>
        have h := h1 p x q p' y q' e e' hp
        show _ = some (bif (t x y && all2 t q q') then _ else _)
        cases ht : t x y
        · rw [ht, cond_false] at h
          rw [loopM_done h, Bool.false_and]; rfl
        · rw [ht, cond_true] at h
          rw [loopM_next h, Bool.true_and]
          have := ih (p ++ [x]) q' (p' ++ [y]) (by simp [e]) (by simp [e']) (by simp [hp])
          simpa using this
  exact key l [] m [] rfl rfl rfl
theorem pairs {β γ : Type} (t : β → γ → Bool) (l : List β) (m : List γ) {f : Int → Option (Step Int (Unit ⊕ Bool))}
    (h1 : ∀ p x q p' y q', l = p ++ x :: q → m = p' ++ y :: q' → p.length = p'.length → f (p.length : Int) = some (bif t x y then .next ((p.length + 1 : Nat) : Int) else .done (.inr false)))
    (h2 : f (l.length : Int) = some (.done (.inl ()))) :
    (bif ((l.length : Int) != (m.length : Int)) then some false else (Option.bind (α := (Unit) ⊕ (Bool)) (loopM f (0 : Int)) (Sum.elim (fun _ => some true) (fun r => some r)))) = some (all2 t l m) := by
  by_cases hl : l.length = m.length
  · rw [show ((l.length : Int) != (m.length : Int)) = false by simp [hl], cond_false, loop_all2 t hl h1 h2, Option.bind_some]
    cases all2 t l m <;> rfl
  · rw [show ((l.length : Int) != (m.length : Int)) = true by simpa using fun h => hl (by omega), cond_true, all2_len hl]
theorem idx_pre2 {β : Type} {m p : List β} {x : β} {q : List β} {n : Nat} (h : m = p ++ x :: q) (hn : n = p.length) : idx m (n : Int) = some x := by
  subst h hn; exact idx_pre _ _ _
theorem all2_refl {β : Type} {t : β → β → Bool} : ∀ {l : List β}, (∀ x ∈ l, t x x = true) → all2 t l l = true
  | [], _ => rfl
  | x :: l, h => by
    show (t x x && all2 t l l) = true
    rw [h x (by simp), all2_refl fun y hy => h y (List.mem_cons_of_mem _ hy)]; rfl
/-! ### Expressions -/
mutual
def eqE (p : Bool) : TApiExpr → TApiExpr → Bool
  | ⟨a, b, c, ks, d⟩, f => a == f.gOp && (b == f.gN && (decide (c = f.gName) && ((!p || d == f.gAt) && eqEs p ks f.gKids)))
def eqEs (p : Bool) : List TApiExpr → List TApiExpr → Bool
  | [], m => m.isEmpty
  | e :: l, m => match m with
    | [] => false
    | f :: m => eqE p e f && eqEs p l m
end
theorem eqE_eq (p : Bool) (e f : TApiExpr) : eqE p e f = (e.gOp == f.gOp && (e.gN == f.gN && (decide (e.gName = f.gName) && ((!p || e.gAt == f.gAt) && eqEs p e.gKids f.gKids)))) := by cases e; simp only [eqE]
theorem eqEs_eq (p : Bool) : ∀ l m, eqEs p l m = all2 (eqE p) l m
  | [], [] => by simp [eqEs, all2]
  | [], _ :: _ => by simp [eqEs, all2]
  | _ :: _, [] => by simp [eqEs, all2]
  | x :: l, y :: m => by simp only [eqEs, all2, eqEs_eq p l m]
mutual
theorem eqE_refl (p : Bool) : ∀ e, eqE p e e = true
  | ⟨a, b, c, ks, d⟩ => by
    rw [eqE_eq]
    simp [eqEs_refl p ks]
theorem eqEs_refl (p : Bool) : ∀ l, eqEs p l l = true
  | [] => by simp [eqEs]
  | e :: l => by simp only [eqEs, eqE_refl p e, eqEs_refl p l, Bool.and_self]
end
theorem same_b {g0 g1} {e f : TApiExpr} (h : g1 e.gKids f.gKids = some (eqEs false e.gKids f.gKids)) : tree_Same_b g0 g1 e f = some (eqE false e f) := by
  unfold tree_Same_b
  rw [h, eqE_eq]
  cases e.gOp == f.gOp <;> cases e.gN == f.gN <;> cases decide (e.gName = f.gName) <;> rfl
theorem same_g : ∀ (n : Nat), (∀ e f, 2 * dpE e ≤ n → szE e ≤ 1048576 → (tree_Same_g n).1 e f = some (eqE false e f)) ∧ (∀ l m, 2 * dpEs l + 1 ≤ n → szEs l ≤ 1048576 → (tree_Same_g n).2 l m = some (eqEs false l m))
  | 0 => ⟨fun e f h _ => by rw [dpE_eq] at h; omega, fun l m h => by omega⟩
  | n + 1 => by
    obtain ⟨h1, h2⟩ := same_g n
    refine ⟨fun e f h hb => ?_, fun l m h hb => ?_⟩
    · have he := dpE_eq e
      have hs := szE_eq e
      exact same_b (g0 := (tree_Same_g n).1) (h2 _ _ (by omega) (by omega))
    · show slices_EqualFunc_api_Expr_api_Expr_api_Expr_api_Expr_b (tree_Same_g n).1 (tree_Same_g n).2 l m = _
      unfold slices_EqualFunc_api_Expr_api_Expr_api_Expr_api_Expr_b
      have hl := szEs_len l
      rw [eqEs_eq]
      refine pairs _ l m (fun p x q p' y q' e e' hp => ?_) ?_
      · have hx := pre_mem e
        have hd := dpE_mem hx
        have hz := szE_mem hx
        rw [lt_pre e, cond_true, idx_pre2 e rfl, Option.bind_some, idx_pre2 e' hp, Option.bind_some, h1 x y (by omega) (by omega), Option.bind_some, inc_pre e (by omega)]
        cases eqE false x y <;> rfl
      · rw [lt_end, cond_false]
theorem same_eq {e f : TApiExpr} (hb : szE e ≤ 1048576) : tree_Same e f = some (eqE false e f) := tree_Same_of e f (2 * dpE e) ((same_g _).1 e f (Nat.le_refl _) hb)
theorem eqf_eq {l m : List TApiExpr} (hb : szEs l ≤ 1048576) : slices_EqualFunc_api_Expr_api_Expr_api_Expr_api_Expr l m = some (eqEs false l m) := slices_EqualFunc_api_Expr_api_Expr_api_Expr_api_Expr_of l m (2 * dpEs l + 1) ((same_g _).2 l m (Nat.le_refl _) hb)
theorem rexps_g (p : Bool) : ∀ (n : Nat) (l m : List TApiExpr), dpEs l + 1 ≤ n → szEs l ≤ 1048576 → r11_Exps_g n l m p = some (eqEs p l m)
  | 0, l, m, h, _ => by omega
  | n + 1, l, m, h, hb => by
    show r11_Exps_b (r11_Exps_g n) l m p = _
    unfold r11_Exps_b
    have hl := szEs_len l
    rw [eqEs_eq]
    refine pairs _ l m (fun a x q a' y q' e e' hp => ?_) ?_
    · have hx := pre_mem e
      have hd := dpE_mem hx
      have hz := szE_mem hx
      have hdx := dpE_eq x
      have hsx := szE_eq x
      rw [lt_pre e, cond_true]
      simp only [idx_pre2 e rfl, idx_pre2 e' hp, Option.bind_some]
      rw [inc_pre e (by omega), rexps_g p n _ _ (by omega) (by omega), eqE_eq]
      simp only [Option.bind_some, bne]
      cases x.gOp == y.gOp <;> cases x.gN == y.gN <;> cases decide (x.gName = y.gName) <;> cases p <;> cases x.gAt == y.gAt <;> cases eqEs _ x.gKids y.gKids <;> rfl
    · rw [lt_end, cond_false]
theorem rexps_eq {l m : List TApiExpr} {p : Bool} (hb : szEs l ≤ 1048576) : r11_Exps l m p = some (eqEs p l m) := r11_Exps_of l m p (dpEs l + 1) (rexps_g p _ l m (Nat.le_refl _) hb)
theorem rsame_eq {e f : TApiExpr} (hb : szE e ≤ 1048576) : r11_Same e f = some (eqE false e f) := by
  unfold r11_Same
  rw [rexps_eq (by simp [szEs]; omega), Option.bind_some]
  simp [eqEs]
/-! ### Statements -/
mutual
def eqS (p : Bool) : TApiStmt → TApiStmt → Bool
  | ⟨a, b, c, es, ks, ls, d⟩, f => a == f.gOp && (decide (b = f.gName) && (decide (c = f.gFunc) && ((!p || d == f.gAt) && (eqEs p es f.gExps && (eqSs p ks f.gKids && eqSs p ls f.gElse)))))
def eqSs (p : Bool) : List TApiStmt → List TApiStmt → Bool
  | [], m => m.isEmpty
  | e :: l, m => match m with
    | [] => false
    | f :: m => eqS p e f && eqSs p l m
end
theorem eqS_eq (p : Bool) (e f : TApiStmt) : eqS p e f = (e.gOp == f.gOp && (decide (e.gName = f.gName) && (decide (e.gFunc = f.gFunc) && ((!p || e.gAt == f.gAt) && (eqEs p e.gExps f.gExps && (eqSs p e.gKids f.gKids && eqSs p e.gElse f.gElse)))))) := by cases e; simp only [eqS]
theorem eqSs_eq (p : Bool) : ∀ l m, eqSs p l m = all2 (eqS p) l m
  | [], [] => by simp [eqSs, all2]
  | [], _ :: _ => by simp [eqSs, all2]
  | _ :: _, [] => by simp [eqSs, all2]
  | x :: l, y :: m => by simp only [eqSs, all2, eqSs_eq p l m]
mutual
theorem eqS_refl (p : Bool) : ∀ e, eqS p e e = true
  | ⟨a, b, c, es, ks, ls, d⟩ => by
    rw [eqS_eq]
    simp [eqEs_refl p es, eqSs_refl p ks, eqSs_refl p ls]
theorem eqSs_refl (p : Bool) : ∀ l, eqSs p l l = true
  | [] => by simp [eqSs]
  | e :: l => by simp only [eqSs, eqS_refl p e, eqSs_refl p l, Bool.and_self]
end
theorem sameS_g : ∀ (n : Nat), (∀ l m, 3 * hSs l ≤ n → szSs l ≤ 1048576 → (tree_SameAll_g n).1 l m = some (eqSs false l m)) ∧ (∀ l m, 3 * hSs l ≤ n + 1 → szSs l ≤ 1048576 → (tree_SameAll_g n).2.1 l m = some (eqSs false l m)) ∧ (∀ s t, 3 * hS s ≤ n + 2 → szS s ≤ 1048576 → (tree_SameAll_g n).2.2 s t = some (eqS false s t))
  | 0 => by
    refine ⟨fun l m h _ => ?_, fun l m h _ => ?_, fun s t h _ => ?_⟩
    · have := hSs_pos l; omega
    · have := hSs_pos l; omega
    · have := hSs_pos s.gKids; rw [hS_eq] at h; omega
  | n + 1 => by
    obtain ⟨h1, h2, h3⟩ := sameS_g n
    refine ⟨fun l m h hb => ?_, fun l m h hb => ?_, fun s t h hb => ?_⟩
    · show tree_SameAll_b (tree_SameAll_g n).1 (tree_SameAll_g n).2.1 (tree_SameAll_g n).2.2 l m = _
      unfold tree_SameAll_b
      rw [h2 l m (by omega) hb]; rfl
    · show slices_EqualFunc_api_Stmt_api_Stmt_api_Stmt_api_Stmt_b (tree_SameAll_g n).1 (tree_SameAll_g n).2.1 (tree_SameAll_g n).2.2 l m = _
      unfold slices_EqualFunc_api_Stmt_api_Stmt_api_Stmt_api_Stmt_b
      have hl := szSs_len l
      rw [eqSs_eq]
      refine pairs _ l m (fun p x q p' y q' e e' hp => ?_) ?_
      · have hx := pre_mem e
        have hd := hS_mem hx
        have hz := szS_mem hx
        rw [lt_pre e, cond_true, idx_pre2 e rfl, Option.bind_some, idx_pre2 e' hp, Option.bind_some, h3 x y (by omega) (by omega), Option.bind_some, inc_pre e (by omega)]
        cases eqS false x y <;> rfl
      · rw [lt_end, cond_false]
    · show tree_sameStmt_b (tree_SameAll_g n).1 (tree_SameAll_g n).2.1 (tree_SameAll_g n).2.2 s t = _
      unfold tree_sameStmt_b
      have hh := hS_eq s
      have hz := szS_eq s
      rw [eqf_eq (by omega), h1 _ _ (by omega) (by omega), h1 _ _ (by omega) (by omega), eqS_eq]
      simp only [Option.bind_some, bne]
      cases s.gOp == t.gOp <;> cases decide (s.gName = t.gName) <;> cases decide (s.gFunc = t.gFunc) <;> cases eqEs false s.gExps t.gExps <;> cases eqSs false s.gKids t.gKids <;> cases eqSs false s.gElse t.gElse <;> rfl
theorem sameS_eq {l m : List TApiStmt} (hb : szSs l ≤ 1048576) : tree_SameAll l m = some (eqSs false l m) := tree_SameAll_of l m (3 * hSs l) ((sameS_g _).1 l m (Nat.le_refl _) hb)
theorem rsameS_g (p : Bool) : ∀ (n : Nat) (l m : List TApiStmt), hSs l ≤ n → szSs l ≤ 1048576 → r11_SameAll_g n l m p = some (eqSs p l m)
  | 0, l, m, h, _ => by have := hSs_pos l; omega
  | n + 1, l, m, h, hb => by
    show r11_SameAll_b (r11_SameAll_g n) l m p = _
    unfold r11_SameAll_b
    have hl := szSs_len l
    rw [eqSs_eq]
    refine pairs _ l m (fun a x q a' y q' e e' hp => ?_) ?_
    · have hx := pre_mem e
      have hd := hS_mem hx
      have hz := szS_mem hx
      have hdx := hS_eq x
      have hsx := szS_eq x
      rw [lt_pre e, cond_true]
      simp only [idx_pre2 e rfl, idx_pre2 e' hp, Option.bind_some]
      rw [inc_pre e (by omega), rexps_eq (by omega), rsameS_g p n _ _ (by omega) (by omega), rsameS_g p n _ _ (by omega) (by omega), eqS_eq]
      simp only [Option.bind_some, bne]
      cases x.gOp == y.gOp <;> cases decide (x.gName = y.gName) <;> cases decide (x.gFunc = y.gFunc) <;> cases p <;> cases x.gAt == y.gAt <;> cases eqEs _ x.gExps y.gExps <;> cases eqSs _ x.gKids y.gKids <;> cases eqSs _ x.gElse y.gElse <;> rfl
    · rw [lt_end, cond_false]
theorem rsameS_eq {l m : List TApiStmt} {p : Bool} (hb : szSs l ≤ 1048576) : r11_SameAll l m p = some (eqSs p l m) := r11_SameAll_of l m p (hSs l) (rsameS_g p _ l m (Nat.le_refl _) hb)
/-! ### Functions -/
def eqVar (a b : TApiVar) : Bool := decide (a.gName = b.gName) && (a.gPtr == b.gPtr && true)
theorem vars_eq {l m : List TApiVar} (hb : l.length ≤ 1048576) : r11_vars l m = some (all2 eqVar l m) := by
  unfold r11_vars
  refine pairs _ l m (fun p x q p' y q' e e' hp => ?_) ?_
  · rw [lt_pre e, cond_true, idx_pre2 e rfl, Option.bind_some, idx_pre2 e' hp, Option.bind_some, inc_pre e (by omega)]
    show (bif !eqVar x y then _ else _) = _
    cases eqVar x y <;> rfl
  · rw [lt_end, cond_false]
theorem equalV_eq {l m : List TApiVar} (hb : l.length ≤ 1048576) : slices_Equal_api_Var_api_Var l m = some (all2 eqVar l m) := vars_eq hb
theorem eqVar_refl (v : TApiVar) : eqVar v v = true := by simp [eqVar]
def eqF (a b : TApiFunc) : Bool := decide (a.gName = b.gName) && (all2 eqVar a.gParams b.gParams && (all2 eqVar a.gLocals b.gLocals && eqSs false a.gBody b.gBody))
theorem sameF_eq {a b : TApiFunc} (h1 : a.gParams.length ≤ 1048576) (h2 : a.gLocals.length ≤ 1048576) (h3 : szSs a.gBody ≤ 1048576) : tree_SameFunc a b = some (eqF a b) := by
  unfold tree_SameFunc eqF
  rw [equalV_eq h1, equalV_eq h2, sameS_eq h3]
  simp only [Option.bind_some]
  cases decide (a.gName = b.gName) <;> cases all2 eqVar a.gParams b.gParams <;> cases all2 eqVar a.gLocals b.gLocals <;> cases eqSs false a.gBody b.gBody <;> rfl
theorem rsameF_eq {a b : TApiFunc} (h1 : a.gParams.length ≤ 1048576) (h2 : a.gLocals.length ≤ 1048576) (h3 : szSs a.gBody ≤ 1048576) : r11_SameFunc a b false = some (eqF a b) := by
  unfold r11_SameFunc eqF
  rw [vars_eq h1, vars_eq h2, rsameS_eq h3]
  simp only [Option.bind_some]
  cases decide (a.gName = b.gName) <;> cases all2 eqVar a.gParams b.gParams <;> cases all2 eqVar a.gLocals b.gLocals <;> cases eqSs false a.gBody b.gBody <;> rfl
theorem eqF_refl (a : TApiFunc) : eqF a a = true := by
  unfold eqF
  rw [all2_refl fun x _ => eqVar_refl x, all2_refl fun x _ => eqVar_refl x, eqSs_refl]; simp
theorem same_law {a b : TApiFunc} {e : T2ApiExpr} (h1 : a.gParams.length ≤ 1048576) (h2 : a.gLocals.length ≤ 1048576) (h3 : szSs a.gBody ≤ 1048576) (h4 : szE e.g0 ≤ 1048576) : l11_TreeSame a b e = some true := by
  unfold l11_TreeSame
  rw [same_eq h4, Option.bind_some, rsame_eq h4, Option.bind_some, beq_self_eq_true, cond_true, sameS_eq h3, Option.bind_some, rsameS_eq h3, Option.bind_some, beq_self_eq_true, cond_true, sameF_eq h1 h2 h3, Option.bind_some, rsameF_eq h1 h2 h3, Option.bind_some, beq_self_eq_true, cond_true, sameF_eq h1 h2 h3, Option.bind_some, eqF_refl, cond_true, lives11]
  rfl
/-! ### Bare trees -/
mutual
def brE : TApiExpr → TApiExpr
  | ⟨a, b, c, ks, _⟩ => ⟨a, b, c, brEs ks, 0⟩
def brEs : List TApiExpr → List TApiExpr
  | [] => []
  | e :: l => brE e :: brEs l
end
mutual
def brS : TApiStmt → TApiStmt
  | ⟨a, b, c, es, ks, ls, _⟩ => ⟨a, b, c, brEs es, brSs ks, brSs ls, 0⟩
def brSs : List TApiStmt → List TApiStmt
  | [] => []
  | e :: l => brS e :: brSs l
end
theorem brE_eq (e : TApiExpr) : brE e = ⟨e.gOp, e.gN, e.gName, brEs e.gKids, 0⟩ := by cases e; simp only [brE]
theorem brS_eq (s : TApiStmt) : brS s = ⟨s.gOp, s.gName, s.gFunc, brEs s.gExps, brSs s.gKids, brSs s.gElse, 0⟩ := by cases s; simp only [brS]
theorem brEs_append : ∀ l m, brEs (l ++ m) = brEs l ++ brEs m
  | [], m => by simp [brEs]
  | e :: l, m => by simp only [List.cons_append, brEs, brEs_append l m]
theorem brSs_append : ∀ l m, brSs (l ++ m) = brSs l ++ brSs m
  | [], m => by simp [brSs]
  | e :: l, m => by simp only [List.cons_append, brSs, brSs_append l m]
theorem brEs_len : ∀ l, (brEs l).length = l.length
  | [] => by simp [brEs]
  | e :: l => by simp only [brEs, List.length_cons, brEs_len l]
theorem brSs_len : ∀ l, (brSs l).length = l.length
  | [] => by simp [brSs]
  | e :: l => by simp only [brSs, List.length_cons, brSs_len l]
theorem barE_g : ∀ (n : Nat) (l : List TApiExpr), dpEs l + 1 ≤ n → szEs l ≤ 1048576 → tree_bare_g n l = some (brEs l)
  | 0, l, h, _ => by omega
  | n + 1, l, h, hb => by
    show tree_bare_b (tree_bare_g n) l = _
    unfold tree_bare_b
    have hl := szEs_len l
    refine loop_list l (fun pre => brEs pre) (fun a n => (a, (n : Nat))) (fun a => a) (by simp [brEs]) (fun pre x post hp => ?_) ?_ ?_
    · have hx := pre_mem hp
      have hd := dpE_mem hx
      have hdx := dpE_eq x
      have hz := szE_mem hx
      have hzx := szE_eq x
      have hlp := congrArg List.length hp
      simp only [List.length_append, List.length_cons] at hlp
      simp only [lt_pre hp, cond_true]
      rw [inc_pre hp (by omega), idx_pre2 hp rfl, Option.bind_some, barE_g n _ (by omega) (by omega), Option.bind_some, app_len (by omega) (by simp [brEs_len]; omega), Option.bind_some, brEs_append]
      simp only [brEs, brE_eq]
    · simp only [lt_end, cond_false]
    · rfl
theorem barE_eq {l : List TApiExpr} (hb : szEs l ≤ 1048576) : tree_bare l = some (brEs l) := tree_bare_of l (dpEs l + 1) (barE_g _ l (Nat.le_refl _) hb)
theorem barS_g : ∀ (n : Nat) (l : List TApiStmt), hSs l ≤ n → szSs l ≤ 1048576 → tree_Bare_g n l = some (brSs l)
  | 0, l, h, _ => by have := hSs_pos l; omega
  | n + 1, l, h, hb => by
    show tree_Bare_b (tree_Bare_g n) l = _
    unfold tree_Bare_b
    have hl := szSs_len l
    refine loop_list l (fun pre => brSs pre) (fun a n => (a, (n : Nat))) (fun a => a) (by simp [brSs]) (fun pre x post hp => ?_) ?_ ?_
    · have hx := pre_mem hp
      have hk := fuel h hx
      have hz := szS_mem hx
      have hzx := szS_eq x
      have hlp := congrArg List.length hp
      simp only [List.length_append, List.length_cons] at hlp
      simp only [lt_pre hp, cond_true]
      rw [inc_pre hp (by omega), idx_pre2 hp rfl, Option.bind_some, barE_eq (by omega), Option.bind_some, barS_g n _ hk.1 (by omega), Option.bind_some, barS_g n _ hk.2 (by omega), Option.bind_some, app_len (by omega) (by simp [brSs_len]; omega), Option.bind_some, brSs_append]
      simp only [brSs, brS_eq]
    · simp only [lt_end, cond_false]
    · rfl
theorem barS_eq {l : List TApiStmt} (hb : szSs l ≤ 1048576) : tree_Bare l = some (brSs l) := tree_Bare_of l (hSs l) (barS_g _ l (Nat.le_refl _) hb)
mutual
theorem br_eqE : ∀ e, eqE false (brE e) e = true
  | ⟨a, b, c, ks, d⟩ => by
    rw [eqE_eq]
    simp [brE, br_eqEs ks]
theorem br_eqEs : ∀ l, eqEs false (brEs l) l = true
  | [] => by simp [eqEs, brEs]
  | e :: l => by simp only [brEs, eqEs, br_eqE e, br_eqEs l, Bool.and_self]
end
mutual
theorem br_eqS : ∀ e, eqS false (brS e) e = true
  | ⟨a, b, c, es, ks, ls, d⟩ => by
    rw [eqS_eq]
    simp [brS, br_eqEs es, br_eqSs ks, br_eqSs ls]
theorem br_eqSs : ∀ l, eqSs false (brSs l) l = true
  | [] => by simp [eqSs, brSs]
  | e :: l => by simp only [brSs, eqSs, br_eqS e, br_eqSs l, Bool.and_self]
end
mutual
theorem br_szE : ∀ e, szE (brE e) = szE e
  | ⟨a, b, c, ks, d⟩ => by simp only [brE, szE, br_szEs ks]
theorem br_szEs : ∀ l, szEs (brEs l) = szEs l
  | [] => by simp [brEs]
  | e :: l => by simp only [brEs, szEs, br_szE e, br_szEs l]
end
mutual
theorem br_dpE : ∀ e, dpE (brE e) = dpE e
  | ⟨a, b, c, ks, d⟩ => by simp only [brE, dpE, br_dpEs ks]
theorem br_dpEs : ∀ l, dpEs (brEs l) = dpEs l
  | [] => by simp [brEs]
  | e :: l => by simp only [brEs, dpEs, br_dpE e, br_dpEs l]
end
mutual
theorem br_szS : ∀ e, szS (brS e) = szS e
  | ⟨a, b, c, es, ks, ls, d⟩ => by simp only [brS, szS, br_szEs es, br_szSs ks, br_szSs ls]
theorem br_szSs : ∀ l, szSs (brSs l) = szSs l
  | [] => by simp [brSs]
  | e :: l => by simp only [brSs, szSs, br_szS e, br_szSs l]
end
mutual
theorem br_dpS : ∀ e, dpS (brS e) = dpS e
  | ⟨a, b, c, es, ks, ls, d⟩ => by simp only [brS, dpS, br_dpEs es, br_dpSs ks, br_dpSs ls]
theorem br_dpSs : ∀ l, dpSs (brSs l) = dpSs l
  | [] => by simp [brSs]
  | e :: l => by simp only [brSs, dpSs, br_dpS e, br_dpSs l]
end
mutual
theorem br_allE : ∀ e, ∀ x ∈ allE (brE e), x.gAt = 0
  | ⟨a, b, c, ks, d⟩ => by
    intro x hx
    simp only [brE, allE, List.mem_cons] at hx
    rcases hx with rfl | hx
    · rfl
    · exact br_allEs ks x hx
theorem br_allEs : ∀ l, ∀ x ∈ allEs (brEs l), x.gAt = 0
  | [] => by simp [brEs, allEs]
  | e :: l => by
    intro x hx
    simp only [brEs, allEs, List.mem_append] at hx
    rcases hx with hx | hx
    · exact br_allE e x hx
    · exact br_allEs l x hx
end
mutual
theorem br_flS : ∀ s, ∀ x ∈ flS (brS s), x.gAt = 0 ∧ ∃ l, x.gExps = brEs l
  | ⟨a, b, c, es, ks, ls, d⟩ => by
    intro x hx
    simp only [brS, flS, List.mem_cons, List.mem_append] at hx
    rcases hx with rfl | hx | hx
    · exact ⟨rfl, es, rfl⟩
    · exact br_flSs ks x hx
    · exact br_flSs ls x hx
theorem br_flSs : ∀ l, ∀ x ∈ flSs (brSs l), x.gAt = 0 ∧ ∃ l, x.gExps = brEs l
  | [] => by simp [brSs, flSs]
  | e :: l => by
    intro x hx
    simp only [brSs, flSs, List.mem_append] at hx
    rcases hx with hx | hx
    · exact br_flS e x hx
    · exact br_flSs l x hx
end
theorem br_exOf (l : List TApiStmt) : ∀ x ∈ exOf (flSs (brSs l)), x.gAt = 0 := by
  intro x hx
  obtain ⟨s, hs, hx⟩ := List.mem_flatMap.1 hx
  obtain ⟨_, m, hm⟩ := br_flSs l s hs
  rw [hm] at hx
  exact br_allEs m x hx
/-- A loop that looks at each of a list. -/
theorem loop_all {β : Type} {l : List β} {f : Int → Option (Step Int (Unit ⊕ Bool))} (h1 : ∀ p x q, l = p ++ x :: q → f (p.length : Int) = some (.next ((p.length + 1 : Nat) : Int))) (h2 : f (l.length : Int) = some (.done (.inl ()))) : loopM f (0 : Int) = some (.inl ()) :=
  loop_pre l (fun _ => ()) (fun _ n => (n : Int)) (fun _ => .inl ()) (fun p x q h => h1 p x q h) h2
theorem nought_eq {l : List TApiStmt} (hb : szSs l ≤ 1048576) : l11_nought (brSs l) = some true := by
  unfold l11_nought
  have hb' : szSs (brSs l) ≤ 1048576 := by rw [br_szSs]; exact hb
  have hf := szSs_fl (brSs l)
  rw [stmts_eq hb', Option.bind_some, exprs_eq hb', Option.bind_some]
  rw [loop_all (l := flSs (brSs l)) (fun p x q h => ?_) ?_]
  · simp only [Option.bind_some, Sum.elim_inl]
    rw [loop_all (l := exOf (flSs (brSs l))) (fun p x q h => ?_) ?_]
    · rfl
    · rw [lt_end, cond_false]
    · rw [lt_pre h, cond_true, idx_pre2 h rfl, Option.bind_some, br_exOf l x (pre_mem h), inc_pre h (by omega)]; rfl
  · rw [lt_end, cond_false]
  · rw [lt_pre h, cond_true, idx_pre2 h rfl, Option.bind_some, (br_flSs l x (pre_mem h)).1, inc_pre h (by omega)]; rfl
theorem bare_law {l : List TApiStmt} (hb : szSs l ≤ 1048576) : l11_TreeBare l = some true := by
  unfold l11_TreeBare
  have hb' : szSs (brSs l) ≤ 1048576 := by rw [br_szSs]; exact hb
  rw [barS_eq hb, Option.bind_some, rsameS_eq hb', Option.bind_some, br_eqSs, cond_true, nought_eq hb, Option.bind_some, cond_true, sameS_eq hb', Option.bind_some, br_eqSs, cond_true, sizes_eq hb', Option.bind_some, sizes_eq hb, Option.bind_some, br_szSs, beq_self_eq_true, cond_true, deeps_eq hb', Option.bind_some, deeps_eq hb, Option.bind_some, br_dpSs, beq_self_eq_true, cond_true, lives11]
  rfl
end Go.Proofs.Ytphpnbdfngdinaa.Ab
