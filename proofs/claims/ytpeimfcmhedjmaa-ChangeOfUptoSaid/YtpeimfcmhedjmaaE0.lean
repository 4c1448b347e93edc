/- Expressions: how great and how deep; sameness, plainly. -/
import Derived.Test.YtpeimfcmhedjmaaPt
import Derived.Test.YtpeimfcmhedjmaaBc
import Derived.Test.YtpeimfcmhedjmaaBd
namespace Go.Proofs.Ytpeimfcmhedjmaa.Ab
open Go
set_option linter.all false
/-! ### Expressions -/
mutual
def szE : TApiExpr → Nat
  | ⟨_, _, _, ks, _⟩ => 1 + szEs ks
def szEs : List TApiExpr → Nat
  | [] => 0
  | e :: l => szE e + szEs l
end
mutual
def dpE : TApiExpr → Nat
  | ⟨_, _, _, ks, _⟩ => 1 + dpEs ks
def dpEs : List TApiExpr → Nat
  | [] => 0
  | e :: l => max (dpE e) (dpEs l)
end
theorem szE_eq (e : TApiExpr) : szE e = 1 + szEs e.gKids := by cases e; simp only [szE]
theorem dpE_eq (e : TApiExpr) : dpE e = 1 + dpEs e.gKids := by cases e; simp only [dpE]
theorem szEs_append : ∀ l m, szEs (l ++ m) = szEs l + szEs m
  | [], m => by simp [szEs]
  | e :: l, m => by simp only [List.cons_append, szEs, szEs_append l m]; omega
theorem dpEs_append : ∀ l m, dpEs (l ++ m) = max (dpEs l) (dpEs m)
  | [], m => by simp [dpEs]
  | e :: l, m => by simp only [List.cons_append, dpEs, dpEs_append l m]; omega
theorem dpE_mem : ∀ {l : List TApiExpr} {e : TApiExpr}, e ∈ l → dpE e ≤ dpEs l
  | x :: l, e, h => by
    simp only [dpEs]
    rcases List.mem_cons.1 h with rfl | h
    · omega
    · have := dpE_mem h; omega
theorem szE_mem : ∀ {l : List TApiExpr} {e : TApiExpr}, e ∈ l → szE e ≤ szEs l
  | x :: l, e, h => by
    simp only [szEs]
    rcases List.mem_cons.1 h with rfl | h
    · omega
    · have := szE_mem h; omega
/-- How great an expression is. -/
def wE (e : TApiExpr) : Nat := wt (eTApiExpr e)
def wEs (l : List TApiExpr) : Nat := wts (l.map eTApiExpr)
theorem wE_eq (e : TApiExpr) : wE e = e.gName.size + wEs e.gKids + 5 := by
  unfold wE wEs
  rw [eTApiExpr_eq]
  simp only [wt, wts, wtv]; omega
theorem wEs_cons (e : TApiExpr) (l : List TApiExpr) : wEs (e :: l) = wE e + wEs l := by unfold wEs wE; simp only [List.map_cons, wts]
mutual
theorem szE_le : ∀ e, szE e ≤ wE e
  | ⟨a, b, c, ks, d⟩ => by
    have := szEs_le ks
    rw [wE_eq]
    simp only [szE]; omega
theorem szEs_le : ∀ l, szEs l ≤ wEs l
  | [] => by simp [szEs]
  | e :: l => by
    have h1 := szE_le e
    have h2 := szEs_le l
    rw [wEs_cons]
    simp only [szEs]; omega
end
mutual
theorem dpE_le : ∀ e, dpE e ≤ szE e
  | ⟨a, b, c, ks, d⟩ => by
    have := dpEs_le ks
    simp only [szE, dpE]; omega
theorem dpEs_le : ∀ l, dpEs l ≤ szEs l
  | [] => by simp [szEs, dpEs]
  | e :: l => by
    have h1 := dpE_le e
    have h2 := dpEs_le l
    simp only [szEs, dpEs]; omega
end
theorem szEs_len : ∀ l, l.length ≤ szEs l
  | [] => by simp
  | e :: l => by
    have := szEs_len l
    have h := szE_eq e
    simp only [szEs, List.length_cons]; omega
theorem kids_mem {e k : TApiExpr} (h : k ∈ e.gKids) : dpE k < dpE e ∧ szE k < szE e := by
  have h1 := dpE_mem h
  have h2 := szE_mem h
  rw [dpE_eq e, szE_eq e]; omega
theorem szEs_pre {l pre : List TApiExpr} {x : TApiExpr} {post : List TApiExpr} (h : l = pre ++ x :: post) : szEs pre + szE x ≤ szEs l := by
  subst h; rw [szEs_append]; simp only [szEs]; omega
mutual
def eqE (p : Bool) : TApiExpr → TApiExpr → Bool
  | ⟨a, b, c, ks, d⟩, f => a == f.gOp && (b == f.gN && (decide (c = f.gName) && ((!p || d == f.gAt) && eqEs p ks f.gKids)))
def eqEs (p : Bool) : List TApiExpr → List TApiExpr → Bool
  | [], m => m.isEmpty
  | e :: l, m => match m with
    | [] => false
    | f :: m => eqE p e f && eqEs p l m
end
theorem eqE_eq (p : Bool) (e f : TApiExpr) : eqE p e f = (e.gOp == f.gOp && (e.gN == f.gN && (decide (e.gName = f.gName) && ((!p || e.gAt == f.gAt) && eqEs p e.gKids f.gKids)))) := by cases e; simp only [eqE]
theorem eqEs_eq (p : Bool) : ∀ l m, eqEs p l m = all2 (eqE p) l m
  | [], [] => by simp [eqEs, all2]
  | [], _ :: _ => by simp [eqEs, all2]
  | _ :: _, [] => by simp [eqEs, all2]
  | x :: l, y :: m => by simp only [eqEs, all2, eqEs_eq p l m]
mutual
theorem eqE_refl (p : Bool) : ∀ e, eqE p e e = true
  | ⟨a, b, c, ks, d⟩ => by
    rw [eqE_eq]
    simp [eqEs_refl p ks]
theorem eqEs_refl (p : Bool) : ∀ l, eqEs p l l = true
  | [] => by simp [eqEs]
  | e :: l => by simp only [eqEs, eqE_refl p e, eqEs_refl p l, Bool.and_self]
end
end Go.Proofs.Ytpeimfcmhedjmaa.Ab
