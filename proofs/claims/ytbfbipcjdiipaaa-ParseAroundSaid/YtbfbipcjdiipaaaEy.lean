/- Expressions: how great and how deep; sameness. -/
import Derived.Test.YtbfbipcjdiipaaaPt
import Derived.Test.YtbfbipcjdiipaaaBc
import Derived.Test.YtbfbipcjdiipaaaBd
namespace Go.Proofs.Ytbfbipcjdiipaaa.Ab
open Go
set_option linter.all false
/-! ### Expressions -/
mutual
def szE : TApiExpr → Nat
  | ⟨_, _, _, ks, _⟩ => 1 + szEs ks
def szEs : List TApiExpr → Nat
  | [] => 0
  | e :: l => szE e + szEs l
end
mutual
def dpE : TApiExpr → Nat
  | ⟨_, _, _, ks, _⟩ => 1 + dpEs ks
def dpEs : List TApiExpr → Nat
  | [] => 0
  | e :: l => max (dpE e) (dpEs l)
end
theorem szE_eq (e : TApiExpr) : szE e = 1 + szEs e.gKids := by cases e; simp only [szE]
theorem dpE_eq (e : TApiExpr) : dpE e = 1 + dpEs e.gKids := by cases e; simp only [dpE]
theorem szEs_append : ∀ l m, szEs (l ++ m) = szEs l + szEs m
  | [], m => by simp [szEs]
  | e :: l, m => by simp only [List.cons_append, szEs, szEs_append l m]; omega
theorem dpEs_append : ∀ l m, dpEs (l ++ m) = max (dpEs l) (dpEs m)
  | [], m => by simp [dpEs]
  | e :: l, m => by simp only [List.cons_append, dpEs, dpEs_append l m]; omega
theorem dpE_mem : ∀ {l : List TApiExpr} {e : TApiExpr}, e ∈ l → dpE e ≤ dpEs l
  | x :: l, e, h => by
    simp only [dpEs]
    rcases List.mem_cons.1 h with rfl | h
    · omega
    · have := dpE_mem h; omega
theorem szE_mem : ∀ {l : List TApiExpr} {e : TApiExpr}, e ∈ l → szE e ≤ szEs l
  | x :: l, e, h => by
    simp only [szEs]
    rcases List.mem_cons.1 h with rfl | h
    · omega
    · have := szE_mem h; omega
/-- How great an expression is. -/
def wE (e : TApiExpr) : Nat := wt (eTApiExpr e)
def wEs (l : List TApiExpr) : Nat := wts (l.map eTApiExpr)
theorem wE_eq (e : TApiExpr) : wE e = e.gName.size + wEs e.gKids + 5 := by
  unfold wE wEs
  rw [eTApiExpr_eq]
  simp only [wt, wts, wtv]; omega
theorem wEs_cons (e : TApiExpr) (l : List TApiExpr) : wEs (e :: l) = wE e + wEs l := by unfold wEs wE; simp only [List.map_cons, wts]
mutual
theorem szE_le : ∀ e, szE e ≤ wE e
  | ⟨a, b, c, ks, d⟩ => by
    have := szEs_le ks
    rw [wE_eq]
    simp only [szE]; omega
theorem szEs_le : ∀ l, szEs l ≤ wEs l
  | [] => by simp [szEs]
  | e :: l => by
    have h1 := szE_le e
    have h2 := szEs_le l
    rw [wEs_cons]
    simp only [szEs]; omega
end
mutual
theorem dpE_le : ∀ e, dpE e ≤ szE e
  | ⟨a, b, c, ks, d⟩ => by
    have := dpEs_le ks
    simp only [szE, dpE]; omega
theorem dpEs_le : ∀ l, dpEs l ≤ szEs l
  | [] => by simp [szEs, dpEs]
  | e :: l => by
    have h1 := dpE_le e
    have h2 := dpEs_le l
    simp only [szEs, dpEs]; omega
end
theorem szEs_len : ∀ l, l.length ≤ szEs l
  | [] => by simp
  | e :: l => by
    have := szEs_len l
    have h := szE_eq e
    simp only [szEs, List.length_cons]; omega
theorem kids_mem {e k : TApiExpr} (h : k ∈ e.gKids) : dpE k < dpE e ∧ szE k < szE e := by
  have h1 := dpE_mem h
  have h2 := szE_mem h
  rw [dpE_eq e, szE_eq e]; omega
theorem szEs_pre {l pre : List TApiExpr} {x : TApiExpr} {post : List TApiExpr} (h : l = pre ++ x :: post) : szEs pre + szE x ≤ szEs l := by
  subst h; rw [szEs_append]; simp only [szEs]; omega
theorem deep_g : ∀ (n : Nat) (e : TApiExpr), dpE e ≤ n → szE e ≤ 1048576 → tree_Deep_g n e = some (dpE e : Int)
  | 0, e, h, _ => by rw [dpE_eq] at h; omega
  | n + 1, e, h, hb => by
    show tree_Deep_b (tree_Deep_g n) e = _
    unfold tree_Deep_b
    have hs := szE_eq e
    have hd := dpE_eq e
    have hde := dpE_le e
    have hl := szEs_len e.gKids
    refine loop_list e.gKids (fun pre => dpEs pre) (fun a n => ((a : Nat), (n : Nat))) (fun a => (a : Int)) (by simp [szEs, dpEs]) (fun pre x post hp => ?_) ?_ ?_
    · have hk := kids_mem (pre_mem hp)
      simp only [lt_pre hp, cond_true]
      rw [inc_pre hp (by omega)]
      rw [show idx e.gKids (pre.length : Int) = some x by rw [hp]; exact idx_pre _ _ _, Option.bind_some, deep_g n x (by omega) (by omega), Option.bind_some]
      rw [dpEs_append]
      simp only [dpEs]
      congr 3; omega
    · simp only [lt_end, cond_false]
    · rw [hd, wrap_id (by omega) (by omega)]; congr 1; omega
theorem deep_eq {e : TApiExpr} (hb : szE e ≤ 1048576) : tree_Deep e = some (dpE e : Int) := tree_Deep_of e (dpE e) (deep_g _ e (Nat.le_refl _) hb)
theorem rdeep_g : ∀ (n : Nat) (e : TApiExpr), dpE e ≤ n → szE e ≤ 1048576 → r11_Deep_g n e = some (dpE e : Int)
  | 0, e, h, _ => by rw [dpE_eq] at h; omega
  | n + 1, e, h, hb => by
    show r11_Deep_b (r11_Deep_g n) e = _
    unfold r11_Deep_b
    have hs := szE_eq e
    have hd := dpE_eq e
    have hde := dpE_le e
    have hl := szEs_len e.gKids
    refine loop_list e.gKids (fun pre => dpEs pre) (fun a n => ((a : Nat), (n : Nat))) (fun a => (a : Int)) (by simp [szEs, dpEs]) (fun pre x post hp => ?_) ?_ ?_
    · have hk := kids_mem (pre_mem hp)
      simp only [lt_pre hp, cond_true]
      rw [inc_pre hp (by omega)]
      rw [show idx e.gKids (pre.length : Int) = some x by rw [hp]; exact idx_pre _ _ _, Option.bind_some, rdeep_g n x (by omega) (by omega), Option.bind_some]
      rw [dpEs_append]
      simp only [dpEs]
      congr 3; omega
    · simp only [lt_end, cond_false]
    · rw [hd, wrap_id (by omega) (by omega)]; congr 1
theorem rdeep_eq {e : TApiExpr} (hb : szE e ≤ 1048576) : r11_Deep e = some (dpE e : Int) := r11_Deep_of e (dpE e) (rdeep_g _ e (Nat.le_refl _) hb)
mutual
def eqE (p : Bool) : TApiExpr → TApiExpr → Bool
  | ⟨a, b, c, ks, d⟩, f => a == f.gOp && (b == f.gN && (decide (c = f.gName) && ((!p || d == f.gAt) && eqEs p ks f.gKids)))
def eqEs (p : Bool) : List TApiExpr → List TApiExpr → Bool
  | [], m => m.isEmpty
  | e :: l, m => match m with
    | [] => false
    | f :: m => eqE p e f && eqEs p l m
end
theorem eqE_eq (p : Bool) (e f : TApiExpr) : eqE p e f = (e.gOp == f.gOp && (e.gN == f.gN && (decide (e.gName = f.gName) && ((!p || e.gAt == f.gAt) && eqEs p e.gKids f.gKids)))) := by cases e; simp only [eqE]
theorem eqEs_eq (p : Bool) : ∀ l m, eqEs p l m = all2 (eqE p) l m
  | [], [] => by simp [eqEs, all2]
  | [], _ :: _ => by simp [eqEs, all2]
  | _ :: _, [] => by simp [eqEs, all2]
  | x :: l, y :: m => by simp only [eqEs, all2, eqEs_eq p l m]
mutual
theorem eqE_refl (p : Bool) : ∀ e, eqE p e e = true
  | ⟨a, b, c, ks, d⟩ => by
    rw [eqE_eq]
    simp [eqEs_refl p ks]
theorem eqEs_refl (p : Bool) : ∀ l, eqEs p l l = true
  | [] => by simp [eqEs]
  | e :: l => by simp only [eqEs, eqE_refl p e, eqEs_refl p l, Bool.and_self]
end
theorem rexps_g (p : Bool) : ∀ (n : Nat) (l m : List TApiExpr), dpEs l + 1 ≤ n → szEs l ≤ 1048576 → r11_Exps_g n l m p = some (eqEs p l m)
  | 0, l, m, h, _ => by omega
  | n + 1, l, m, h, hb => by
    show r11_Exps_b (r11_Exps_g n) l m p = _
    unfold r11_Exps_b
    have hl := szEs_len l
    rw [eqEs_eq]
    refine pairs _ l m (fun a x q a' y q' e e' hp => ?_) ?_
    · have hx := pre_mem e
      have hd := dpE_mem hx
      have hz := szE_mem hx
      have hdx := dpE_eq x
      have hsx := szE_eq x
      rw [lt_pre e, cond_true]
      simp only [idx_pre2 e rfl, idx_pre2 e' hp, Option.bind_some]
      rw [inc_pre e (by omega), rexps_g p n _ _ (by omega) (by omega), eqE_eq]
      simp only [Option.bind_some, bne]
      cases x.gOp == y.gOp <;> cases x.gN == y.gN <;> cases decide (x.gName = y.gName) <;> cases p <;> cases x.gAt == y.gAt <;> cases eqEs _ x.gKids y.gKids <;> rfl
    · rw [lt_end, cond_false]
theorem rexps_eq {l m : List TApiExpr} {p : Bool} (hb : szEs l ≤ 1048576) : r11_Exps l m p = some (eqEs p l m) := r11_Exps_of l m p (dpEs l + 1) (rexps_g p _ l m (Nat.le_refl _) hb)
end Go.Proofs.Ytbfbipcjdiipaaa.Ab
