/- Statements' measures; the law of measures. -/
import Derived.Test.YtphpnbdfngdinaaTm1
namespace Go.Proofs.Ytphpnbdfngdinaa.Ab
open Go
set_option linter.all false
mutual
def flS : TApiStmt → List TApiStmt
  | ⟨a, b, c, es, ks, ls, d⟩ => ⟨a, b, c, es, ks, ls, d⟩ :: (flSs ks ++ flSs ls)
def flSs : List TApiStmt → List TApiStmt
  | [] => []
  | s :: l => flS s ++ flSs l
end
mutual
def szS : TApiStmt → Nat
  | ⟨_, _, _, es, ks, ls, _⟩ => 1 + szSs ks + szSs ls + szEs es
def szSs : List TApiStmt → Nat
  | [] => 0
  | s :: l => szS s + szSs l
end
mutual
def dpS : TApiStmt → Nat
  | ⟨_, _, _, es, ks, ls, _⟩ => 1 + max (max (dpSs ks) (dpSs ls)) (dpEs es)
def dpSs : List TApiStmt → Nat
  | [] => 0
  | s :: l => max (dpS s) (dpSs l)
end
mutual
def hS : TApiStmt → Nat
  | ⟨_, _, _, _, ks, ls, _⟩ => 1 + max (hSs ks) (hSs ls)
def hSs : List TApiStmt → Nat
  | [] => 1
  | s :: l => max (hS s) (hSs l)
end
def exOf (l : List TApiStmt) : List TApiExpr := l.flatMap fun s => allEs s.gExps
theorem flS_eq (s : TApiStmt) : flS s = s :: (flSs s.gKids ++ flSs s.gElse) := by cases s; simp only [flS]
theorem szS_eq (s : TApiStmt) : szS s = 1 + szSs s.gKids + szSs s.gElse + szEs s.gExps := by cases s; simp only [szS]
theorem dpS_eq (s : TApiStmt) : dpS s = 1 + max (max (dpSs s.gKids) (dpSs s.gElse)) (dpEs s.gExps) := by cases s; simp only [dpS]
theorem hS_eq (s : TApiStmt) : hS s = 1 + max (hSs s.gKids) (hSs s.gElse) := by cases s; simp only [hS]
theorem flSs_append : ∀ l m, flSs (l ++ m) = flSs l ++ flSs m
  | [], m => by simp [flSs]
  | e :: l, m => by simp only [List.cons_append, flSs, flSs_append l m, List.append_assoc]
theorem szSs_append : ∀ l m, szSs (l ++ m) = szSs l + szSs m
  | [], m => by simp [szSs]
  | e :: l, m => by simp only [List.cons_append, szSs, szSs_append l m]; omega
theorem dpSs_append : ∀ l m, dpSs (l ++ m) = max (dpSs l) (dpSs m)
  | [], m => by simp [dpSs]
  | e :: l, m => by simp only [List.cons_append, dpSs, dpSs_append l m]; omega
theorem exOf_append (l m : List TApiStmt) : exOf (l ++ m) = exOf l ++ exOf m := by simp [exOf]
theorem hS_mem : ∀ {l : List TApiStmt} {s : TApiStmt}, s ∈ l → hS s ≤ hSs l
  | x :: l, e, h => by
    simp only [hSs]
    rcases List.mem_cons.1 h with rfl | h
    · omega
    · have := hS_mem h; omega
theorem szS_mem : ∀ {l : List TApiStmt} {s : TApiStmt}, s ∈ l → szS s ≤ szSs l
  | x :: l, e, h => by
    simp only [szSs]
    rcases List.mem_cons.1 h with rfl | h
    · omega
    · have := szS_mem h; omega
theorem hSs_pos : ∀ l, 1 ≤ hSs l
  | [] => by simp [hSs]
  | s :: l => by have := hSs_pos l; simp only [hSs]; omega
mutual
theorem szS_fl : ∀ s, szS s = (flS s).length + (exOf (flS s)).length
  | ⟨a, b, c, es, ks, ls, d⟩ => by
    have h1 := szSs_fl ks
    have h2 := szSs_fl ls
    simp only [szS, flS, List.length_cons, List.length_append, exOf, List.flatMap_cons, List.flatMap_append, allEs_len] at h1 h2 ⊢
    omega
theorem szSs_fl : ∀ l, szSs l = (flSs l).length + (exOf (flSs l)).length
  | [] => rfl
  | s :: l => by
    have h1 := szS_fl s
    have h2 := szSs_fl l
    simp only [szSs, flSs, List.length_append, exOf_append]; omega
end
theorem szSs_len : ∀ l, l.length ≤ szSs l
  | [] => by simp
  | e :: l => by
    have := szSs_len l
    have h := szS_eq e
    simp only [szSs, List.length_cons]; omega
theorem szSs_pre {l pre : List TApiStmt} {x : TApiStmt} {post : List TApiStmt} (h : l = pre ++ x :: post) : szSs pre + szS x ≤ szSs l := by
  subst h; rw [szSs_append]; simp only [szSs]; omega
mutual
theorem dpS_le : ∀ s, dpS s ≤ szS s
  | ⟨a, b, c, es, ks, ls, d⟩ => by
    have h1 := dpSs_le ks
    have h2 := dpSs_le ls
    have h3 := dpEs_le es
    simp only [szS, dpS]; omega
theorem dpSs_le : ∀ l, dpSs l ≤ szSs l
  | [] => by simp [szSs, dpSs]
  | s :: l => by
    have h1 := dpS_le s
    have h2 := dpSs_le l
    simp only [szSs, dpSs]; omega
end
def wS (s : TApiStmt) : Nat := wt (eTApiStmt s)
def wSs (l : List TApiStmt) : Nat := wts (l.map eTApiStmt)
theorem wS_eq (s : TApiStmt) : wS s = s.gName.size + s.gFunc.size + wEs s.gExps + wSs s.gKids + wSs s.gElse + 7 := by
  unfold wS wSs wEs
  rw [eTApiStmt_eq]
  simp only [wt, wts, wtv]; omega
theorem wSs_cons (s : TApiStmt) (l : List TApiStmt) : wSs (s :: l) = wS s + wSs l := by unfold wSs wS; simp only [List.map_cons, wts]
mutual
theorem szS_le : ∀ s, szS s ≤ wS s
  | ⟨a, b, c, es, ks, ls, d⟩ => by
    have h1 := szSs_le ks
    have h2 := szSs_le ls
    have h3 := szEs_le es
    rw [wS_eq]
    simp only [szS]; omega
theorem szSs_le : ∀ l, szSs l ≤ wSs l
  | [] => by simp [szSs]
  | s :: l => by
    have h1 := szS_le s
    have h2 := szSs_le l
    rw [wSs_cons]
    simp only [szSs]; omega
end
theorem fuel {l : List TApiStmt} {n : Nat} {x : TApiStmt} (h : hSs l ≤ n + 1) (hx : x ∈ l) : hSs x.gKids ≤ n ∧ hSs x.gElse ≤ n := by
  have h1 := hS_mem hx
  have h2 := hS_eq x
  omega
theorem stmts_g : ∀ (n : Nat) (l : List TApiStmt), hSs l ≤ n → szSs l ≤ 1048576 → r11_Stmts_g n l = some (flSs l)
  | 0, l, h, _ => by have := hSs_pos l; omega
  | n + 1, l, h, hb => by
    show r11_Stmts_b (r11_Stmts_g n) l = _
    unfold r11_Stmts_b
    have hl := szSs_len l
    refine loop_list l (fun pre => flSs pre) (fun a n => (a, (n : Nat))) (fun a => a) (by simp [flSs]) (fun pre x post hp => ?_) ?_ ?_
    · have hx := pre_mem hp
      have hk := fuel h hx
      have hsp := szSs_pre hp
      have hsx := szS_eq x
      have f1 := szSs_fl pre
      have f2 := szSs_fl x.gKids
      have f3 := szSs_fl x.gElse
      simp only [lt_pre hp, cond_true]
      rw [inc_pre hp (by omega)]
      rw [show idx l (pre.length : Int) = some x by rw [hp]; exact idx_pre _ _ _, Option.bind_some, app_len (by omega) (by simp; omega), Option.bind_some, Option.bind_some, stmts_g n _ hk.1 (by omega), Option.bind_some, app_len (by omega) (by simp; omega), Option.bind_some, Option.bind_some, stmts_g n _ hk.2 (by omega), Option.bind_some, app_len (by omega) (by simp; omega), Option.bind_some]
      rw [flSs_append]
      simp only [flSs, List.append_nil, flS_eq x, List.append_assoc, List.cons_append, List.nil_append]
    · simp only [lt_end, cond_false]
    · rfl
theorem stmts_eq {l : List TApiStmt} (hb : szSs l ≤ 1048576) : r11_Stmts l = some (flSs l) := r11_Stmts_of l (hSs l) (stmts_g _ l (Nat.le_refl _) hb)
theorem exOf_mem {l : List TApiStmt} {s : TApiStmt} (h : s ∈ l) : szEs s.gExps ≤ (exOf l).length := by
  induction l with
  | nil => cases h
  | cons x l ih =>
    simp only [exOf, List.flatMap_cons, List.length_append, allEs_len] at ih ⊢
    rcases List.mem_cons.1 h with rfl | h
    · omega
    · have := ih h; omega
theorem exOf_pre {l pre : List TApiStmt} {x : TApiStmt} {post : List TApiStmt} (h : l = pre ++ x :: post) : (exOf pre).length + szEs x.gExps ≤ (exOf l).length := by
  subst h; simp only [exOf, List.flatMap_append, List.flatMap_cons, List.length_append, allEs_len]; omega
theorem exprs_eq {l : List TApiStmt} (hb : szSs l ≤ 1048576) : r11_Exprs l = some (exOf (flSs l)) := by
  unfold r11_Exprs
  rw [stmts_eq hb, Option.bind_some]
  have hf := szSs_fl l
  generalize flSs l = m at hf ⊢
  refine loop_list m (fun pre => exOf pre) (fun a n => (a, (n : Nat))) (fun a => a) (by simp [exOf]) (fun pre x post hp => ?_) ?_ ?_
  · have hx := pre_mem hp
    have hp2 := exOf_pre hp
    have hl := szEs_len x.gExps
    simp only [lt_pre hp, cond_true]
    rw [inc_pre hp (by omega)]
    have hi : idx m (pre.length : Int) = some x := by rw [hp]; exact idx_pre _ _ _
    rw [hi]
    refine loop_list x.gExps (fun q => exOf pre ++ allEs q) (fun a n => (a, (n : Nat))) (fun a => a) (by simp [allEs]) (fun q y post2 hq => ?_) ?_ ?_
    · have hy := szEs_pre hq
      simp only [Option.bind_some, lt_pre hq, cond_true]
      rw [inc_pre hq (by omega)]
      rw [show idx x.gExps (q.length : Int) = some y by rw [hq]; exact idx_pre _ _ _, Option.bind_some, rall_eq (by omega), Option.bind_some, app_len (by omega) (by simp [allEs_len, allE_len]; omega), Option.bind_some]
      rw [allEs_append]
      simp only [allEs, List.append_nil, List.append_assoc]
    · simp only [Option.bind_some, lt_end, cond_false]
    · simp only [exOf_append]; simp [exOf]
  · simp only [lt_end, cond_false]
  · rfl
theorem sizes_g : ∀ (n : Nat) (l : List TApiStmt), hSs l ≤ n → szSs l ≤ 1048576 → tree_Sizes_g n l = some (szSs l : Int)
  | 0, l, h, _ => by have := hSs_pos l; omega
  | n + 1, l, h, hb => by
    show tree_Sizes_b (tree_Sizes_g n) l = _
    unfold tree_Sizes_b
    have hl := szSs_len l
    refine loop_list l (fun pre => szSs pre) (fun a n => ((a : Nat), (n : Nat))) (fun a => (a : Int)) (by simp [szSs]) (fun pre x post hp => ?_) ?_ ?_
    · have hx := pre_mem hp
      have hk := fuel h hx
      have hsp := szSs_pre hp
      have hsx := szS_eq x
      have hel := szEs_len x.gExps
      simp only [lt_pre hp, cond_true]
      rw [inc_pre hp (by omega)]
      rw [show idx l (pre.length : Int) = some x by rw [hp]; exact idx_pre _ _ _, Option.bind_some, sizes_g n _ hk.1 (by omega), Option.bind_some, sizes_g n _ hk.2 (by omega), Option.bind_some]
      refine loop_list x.gExps (fun q => szSs pre + 1 + szSs x.gKids + szSs x.gElse + szEs q) (fun a n => ((a : Nat), (n : Nat))) (fun a => (a : Int)) ?_ (fun q y post2 hq => ?_) ?_ ?_
      · simp only [szEs]
        rw [wrap_id (n := 1 + (szSs x.gKids : Int)) (by omega) (by omega), wrap_id (n := 1 + (szSs x.gKids : Int) + szSs x.gElse) (by omega) (by omega), wrap_id (by omega) (by omega)]
        congr 1; omega
      · have hy := szEs_pre hq
        simp only [lt_pre hq, cond_true]
        rw [inc_pre hq (by omega)]
        rw [show idx x.gExps (q.length : Int) = some y by rw [hq]; exact idx_pre _ _ _, Option.bind_some, size_eq (by omega), Option.bind_some, wrap_id (by omega) (by omega), szEs_append]
        simp only [szEs]
        congr 3; omega
      · simp only [lt_end, cond_false]
      · rw [szSs_append]; simp only [szSs]; congr 3; omega
    · simp only [lt_end, cond_false]
    · rfl
theorem sizes_eq {l : List TApiStmt} (hb : szSs l ≤ 1048576) : tree_Sizes l = some (szSs l : Int) := tree_Sizes_of l (hSs l) (sizes_g _ l (Nat.le_refl _) hb)
theorem dpE_le2 {l : List TApiExpr} {e : TApiExpr} (h : e ∈ l) (hb : szEs l ≤ 1048576) : szE e ≤ 1048576 ∧ dpE e ≤ 1048576 := by
  have h1 := szE_mem h
  have h2 := dpE_le e
  omega
theorem deeps_g : ∀ (n : Nat) (l : List TApiStmt), hSs l ≤ n → szSs l ≤ 1048576 → tree_Deeps_g n l = some (dpSs l : Int)
  | 0, l, h, _ => by have := hSs_pos l; omega
  | n + 1, l, h, hb => by
    show tree_Deeps_b (tree_Deeps_g n) l = _
    unfold tree_Deeps_b
    have hl := szSs_len l
    refine loop_list l (fun pre => dpSs pre) (fun a n => ((a : Nat), (n : Nat))) (fun a => (a : Int)) (by simp [dpSs]) (fun pre x post hp => ?_) ?_ ?_
    · have hx := pre_mem hp
      have hk := fuel h hx
      have hsp := szSs_pre hp
      have hsx := szS_eq x
      have hel := szEs_len x.gExps
      have hdx := dpS_eq x
      have hdl := dpS_le x
      simp only [lt_pre hp, cond_true]
      rw [inc_pre hp (by omega)]
      rw [show idx l (pre.length : Int) = some x by rw [hp]; exact idx_pre _ _ _, Option.bind_some, deeps_g n _ hk.1 (by omega), Option.bind_some, deeps_g n _ hk.2 (by omega), Option.bind_some]
      refine loop_list x.gExps (fun q => max (max (dpSs x.gKids) (dpSs x.gElse)) (dpEs q)) (fun a n => ((a : Nat), (n : Nat))) (fun a => (a : Int)) ?_ (fun q y post2 hq => ?_) ?_ ?_
      · simp only [dpEs]; congr 1; omega
      · have hy := dpE_le2 (pre_mem hq) (by omega)
        simp only [lt_pre hq, cond_true]
        rw [inc_pre hq (by omega)]
        rw [show idx x.gExps (q.length : Int) = some y by rw [hq]; exact idx_pre _ _ _, Option.bind_some, deep_eq hy.1, Option.bind_some, dpEs_append]
        simp only [dpEs]
        congr 3; omega
      · simp only [lt_end, cond_false]
      · rw [wrap_id (by omega) (by omega), dpSs_append]; simp only [dpSs]; congr 3; omega
    · simp only [lt_end, cond_false]
    · rfl
theorem deeps_eq {l : List TApiStmt} (hb : szSs l ≤ 1048576) : tree_Deeps l = some (dpSs l : Int) := tree_Deeps_of l (hSs l) (deeps_g _ l (Nat.le_refl _) hb)
theorem rdeeps_g : ∀ (n : Nat) (l : List TApiStmt), hSs l ≤ n → szSs l ≤ 1048576 → r11_Deeps_g n l = some (dpSs l : Int)
  | 0, l, h, _ => by have := hSs_pos l; omega
  | n + 1, l, h, hb => by
    show r11_Deeps_b (r11_Deeps_g n) l = _
    unfold r11_Deeps_b
    have hl := szSs_len l
    refine loop_list l (fun pre => dpSs pre) (fun a n => ((a : Nat), (n : Nat))) (fun a => (a : Int)) (by simp [dpSs]) (fun pre x post hp => ?_) ?_ ?_
    · have hx := pre_mem hp
      have hk := fuel h hx
      have hsp := szSs_pre hp
      have hsx := szS_eq x
      have hel := szEs_len x.gExps
      have hdx := dpS_eq x
      have hdl := dpS_le x
      simp only [lt_pre hp, cond_true]
      rw [inc_pre hp (by omega)]
      have hi : idx l (pre.length : Int) = some x := by rw [hp]; exact idx_pre _ _ _
      rw [hi, Option.bind_some, rdeeps_g n _ hk.1 (by omega), Option.bind_some, Option.bind_some, rdeeps_g n _ hk.2 (by omega), Option.bind_some]
      refine loop_list x.gExps (fun q => max (dpSs pre) (1 + max (max (dpSs x.gKids) (dpSs x.gElse)) (dpEs q))) (fun a n => ((a : Nat), (n : Nat))) (fun a => (a : Int)) ?_ (fun q y post2 hq => ?_) ?_ ?_
      · simp only [dpEs]
        rw [wrap_id (by omega) (by omega), wrap_id (by omega) (by omega)]
        congr 1; omega
      · have hy := dpE_le2 (pre_mem hq) (by omega)
        simp only [Option.bind_some, lt_pre hq, cond_true]
        rw [inc_pre hq (by omega)]
        rw [show idx x.gExps (q.length : Int) = some y by rw [hq]; exact idx_pre _ _ _, Option.bind_some, rdeep_eq hy.1, Option.bind_some, dpEs_append, wrap_id (by omega) (by omega)]
        simp only [dpEs]
        congr 3; omega
      · simp only [Option.bind_some, lt_end, cond_false]
      · rw [dpSs_append]; simp only [dpSs]; congr 3; omega
    · simp only [lt_end, cond_false]
    · rfl
theorem rdeeps_eq {l : List TApiStmt} (hb : szSs l ≤ 1048576) : r11_Deeps l = some (dpSs l : Int) := r11_Deeps_of l (hSs l) (rdeeps_g _ l (Nat.le_refl _) hb)
end Go.Proofs.Ytphpnbdfngdinaa.Ab
