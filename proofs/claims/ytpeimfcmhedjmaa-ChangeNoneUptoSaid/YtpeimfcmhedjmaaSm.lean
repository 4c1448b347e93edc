/- Statements: how great and how deep. -/
import Derived.Test.YtpeimfcmhedjmaaE0
namespace Go.Proofs.Ytpeimfcmhedjmaa.Ab
open Go
set_option linter.all false
mutual
def allE : TApiExpr → List TApiExpr
  | ⟨a, b, c, ks, d⟩ => ⟨a, b, c, ks, d⟩ :: allEs ks
def allEs : List TApiExpr → List TApiExpr
  | [] => []
  | e :: l => allE e ++ allEs l
end
theorem allE_eq (e : TApiExpr) : allE e = e :: allEs e.gKids := by cases e; simp only [allE]
theorem allEs_append : ∀ l m, allEs (l ++ m) = allEs l ++ allEs m
  | [], m => by simp [allEs]
  | e :: l, m => by simp only [List.cons_append, allEs, allEs_append l m, List.append_assoc]
mutual
theorem allE_len : ∀ e, (allE e).length = szE e
  | ⟨_, _, _, ks, _⟩ => by simp only [allE, szE, List.length_cons, allEs_len ks]; omega
theorem allEs_len : ∀ l, (allEs l).length = szEs l
  | [] => rfl
  | e :: l => by simp only [allEs, szEs, List.length_append, allE_len e, allEs_len l]
end
mutual
def flS : TApiStmt → List TApiStmt
  | ⟨a, b, c, es, ks, ls, d⟩ => ⟨a, b, c, es, ks, ls, d⟩ :: (flSs ks ++ flSs ls)
def flSs : List TApiStmt → List TApiStmt
  | [] => []
  | s :: l => flS s ++ flSs l
end
mutual
def szS : TApiStmt → Nat
  | ⟨_, _, _, es, ks, ls, _⟩ => 1 + szSs ks + szSs ls + szEs es
def szSs : List TApiStmt → Nat
  | [] => 0
  | s :: l => szS s + szSs l
end
mutual
def dpS : TApiStmt → Nat
  | ⟨_, _, _, es, ks, ls, _⟩ => 1 + max (max (dpSs ks) (dpSs ls)) (dpEs es)
def dpSs : List TApiStmt → Nat
  | [] => 0
  | s :: l => max (dpS s) (dpSs l)
end
mutual
def hS : TApiStmt → Nat
  | ⟨_, _, _, _, ks, ls, _⟩ => 1 + max (hSs ks) (hSs ls)
def hSs : List TApiStmt → Nat
  | [] => 1
  | s :: l => max (hS s) (hSs l)
end
def exOf (l : List TApiStmt) : List TApiExpr := l.flatMap fun s => allEs s.gExps
theorem flS_eq (s : TApiStmt) : flS s = s :: (flSs s.gKids ++ flSs s.gElse) := by cases s; simp only [flS]
theorem szS_eq (s : TApiStmt) : szS s = 1 + szSs s.gKids + szSs s.gElse + szEs s.gExps := by cases s; simp only [szS]
theorem dpS_eq (s : TApiStmt) : dpS s = 1 + max (max (dpSs s.gKids) (dpSs s.gElse)) (dpEs s.gExps) := by cases s; simp only [dpS]
theorem hS_eq (s : TApiStmt) : hS s = 1 + max (hSs s.gKids) (hSs s.gElse) := by cases s; simp only [hS]
theorem flSs_append : ∀ l m, flSs (l ++ m) = flSs l ++ flSs m
  | [], m => by simp [flSs]
  | e :: l, m => by simp only [List.cons_append, flSs, flSs_append l m, List.append_assoc]
theorem szSs_append : ∀ l m, szSs (l ++ m) = szSs l + szSs m
  | [], m => by simp [szSs]
  | e :: l, m => by simp only [List.cons_append, szSs, szSs_append l m]; omega
theorem dpSs_append : ∀ l m, dpSs (l ++ m) = max (dpSs l) (dpSs m)
  | [], m => by simp [dpSs]
  | e :: l, m => by simp only [List.cons_append, dpSs, dpSs_append l m]; omega
theorem exOf_append (l m : List TApiStmt) : exOf (l ++ m) = exOf l ++ exOf m := by simp [exOf]
theorem hS_mem : ∀ {l : List TApiStmt} {s : TApiStmt}, s ∈ l → hS s ≤ hSs l
  | x :: l, e, h => by
    simp only [hSs]
    rcases List.mem_cons.1 h with rfl | h
    · omega
    · have := hS_mem h; omega
theorem szS_mem : ∀ {l : List TApiStmt} {s : TApiStmt}, s ∈ l → szS s ≤ szSs l
  | x :: l, e, h => by
    simp only [szSs]
    rcases List.mem_cons.1 h with rfl | h
    · omega
    · have := szS_mem h; omega
theorem hSs_pos : ∀ l, 1 ≤ hSs l
  | [] => by simp [hSs]
  | s :: l => by have := hSs_pos l; simp only [hSs]; omega
mutual
theorem szS_fl : ∀ s, szS s = (flS s).length + (exOf (flS s)).length
  | ⟨a, b, c, es, ks, ls, d⟩ => by
    have h1 := szSs_fl ks
    have h2 := szSs_fl ls
    simp only [szS, flS, List.length_cons, List.length_append, exOf, List.flatMap_cons, List.flatMap_append, allEs_len] at h1 h2 ⊢
    omega
theorem szSs_fl : ∀ l, szSs l = (flSs l).length + (exOf (flSs l)).length
  | [] => rfl
  | s :: l => by
    have h1 := szS_fl s
    have h2 := szSs_fl l
    simp only [szSs, flSs, List.length_append, exOf_append]; omega
end
theorem szSs_len : ∀ l, l.length ≤ szSs l
  | [] => by simp
  | e :: l => by
    have := szSs_len l
    have h := szS_eq e
    simp only [szSs, List.length_cons]; omega
theorem szSs_pre {l pre : List TApiStmt} {x : TApiStmt} {post : List TApiStmt} (h : l = pre ++ x :: post) : szSs pre + szS x ≤ szSs l := by
  subst h; rw [szSs_append]; simp only [szSs]; omega
mutual
theorem dpS_le : ∀ s, dpS s ≤ szS s
  | ⟨a, b, c, es, ks, ls, d⟩ => by
    have h1 := dpSs_le ks
    have h2 := dpSs_le ls
    have h3 := dpEs_le es
    simp only [szS, dpS]; omega
theorem dpSs_le : ∀ l, dpSs l ≤ szSs l
  | [] => by simp [szSs, dpSs]
  | s :: l => by
    have h1 := dpS_le s
    have h2 := dpSs_le l
    simp only [szSs, dpSs]; omega
end
def wS (s : TApiStmt) : Nat := wt (eTApiStmt s)
def wSs (l : List TApiStmt) : Nat := wts (l.map eTApiStmt)
theorem wS_eq (s : TApiStmt) : wS s = s.gName.size + s.gFunc.size + wEs s.gExps + wSs s.gKids + wSs s.gElse + 7 := by
  unfold wS wSs wEs
  rw [eTApiStmt_eq]
  simp only [wt, wts, wtv]; omega
theorem wSs_cons (s : TApiStmt) (l : List TApiStmt) : wSs (s :: l) = wS s + wSs l := by unfold wSs wS; simp only [List.map_cons, wts]
mutual
theorem szS_le : ∀ s, szS s ≤ wS s
  | ⟨a, b, c, es, ks, ls, d⟩ => by
    have h1 := szSs_le ks
    have h2 := szSs_le ls
    have h3 := szEs_le es
    rw [wS_eq]
    simp only [szS]; omega
theorem szSs_le : ∀ l, szSs l ≤ wSs l
  | [] => by simp [szSs]
  | s :: l => by
    have h1 := szS_le s
    have h2 := szSs_le l
    rw [wSs_cons]
    simp only [szSs]; omega
end
theorem fuel {l : List TApiStmt} {n : Nat} {x : TApiStmt} (h : hSs l ≤ n + 1) (hx : x ∈ l) : hSs x.gKids ≤ n ∧ hSs x.gElse ≤ n := by
  have h1 := hS_mem hx
  have h2 := hS_eq x
  omega
end Go.Proofs.Ytpeimfcmhedjmaa.Ab
