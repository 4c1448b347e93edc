/- Numbers in trees; the law of measures. -/
import Derived.Test.YtphpnbdfngdinaaTm2
import Derived.Test.YtphpnbdfngdinaaTm3
namespace Go.Proofs.Ytphpnbdfngdinaa.Ab
open Go
set_option linter.all false
def nmE (e : TApiExpr) : List Int := if e.gOp = 1 then [e.gN] else []
def nmsOf (l : List TApiExpr) : List Int := l.flatMap nmE
theorem nmsOf_append (l m : List TApiExpr) : nmsOf (l ++ m) = nmsOf l ++ nmsOf m := by simp [nmsOf]
theorem nmsOf_len : ∀ l, (nmsOf l).length ≤ l.length
  | [] => by simp [nmsOf]
  | e :: l => by
    have := nmsOf_len l
    have h : (nmE e).length ≤ 1 := by unfold nmE; split <;> simp
    simp only [nmsOf, List.flatMap_cons, List.length_append, List.length_cons] at this ⊢
    omega
theorem nums2_eq (e : TApiExpr) (m : TTreeBagInt) (h : m.gL.length ≤ 1048576) : tree_Nums_2_r e m = some ⟨m.gL ++ nmE e⟩ := by
  unfold tree_Nums_2_r tree_bag_int_add_r nmE
  by_cases h1 : e.gOp = 1
  · rw [beq_iff_eq.2 h1, if_pos h1, cond_true, app_len (by omega) (by simp; omega)]; rfl
  · rw [beq_eq_false_iff_ne.2 h1, if_neg h1, cond_false, List.append_nil]
theorem walkE_g : ∀ (n : Nat) (e : TApiExpr) (m : TTreeBagInt), dpE e ≤ n → szE e ≤ 1048576 → m.gL.length + szE e ≤ 1048576 → tree_walk_1_r2_g n e m = some ⟨m.gL ++ nmsOf (allE e)⟩
  | 0, e, m, h, _, _ => by rw [dpE_eq] at h; omega
  | n + 1, e, m, h, hb, hm => by
    show tree_walk_1_r2_b (tree_walk_1_r2_g n) e m = _
    unfold tree_walk_1_r2_b
    have hs := szE_eq e
    have hl := szEs_len e.gKids
    rw [nums2_eq e m (by omega), Option.bind_some]
    have hn : (nmE e).length ≤ 1 := by unfold nmE; split <;> simp
    refine loop_list e.gKids (fun pre => m.gL ++ nmE e ++ nmsOf (allEs pre)) (fun a n => ((n : Nat), a)) (fun a => a) (by simp [allEs, nmsOf]) (fun pre x post hp => ?_) ?_ ?_
    · have hk := kids_mem (pre_mem hp)
      have hsp := szEs_pre hp
      have hln := nmsOf_len (allEs pre)
      rw [allEs_len] at hln
      simp only [lt_pre hp, cond_true]
      rw [inc_pre hp (by omega)]
      rw [show idx e.gKids (pre.length : Int) = some x by rw [hp]; exact idx_pre _ _ _, Option.bind_some, walkE_g n x _ (by omega) (by omega) (by simp; omega), Option.bind_some]
      rw [allEs_append, nmsOf_append]
      simp only [allEs, List.append_nil, List.append_assoc]
    · simp only [lt_end, cond_false]
    · rw [allE_eq]; simp [nmsOf]
theorem walkE_eq {e : TApiExpr} {m : TTreeBagInt} (hb : szE e ≤ 1048576) (hm : m.gL.length + szE e ≤ 1048576) : tree_walk_1_r2 e m = some ⟨m.gL ++ nmsOf (allE e)⟩ := tree_walk_1_r2_of e m (dpE e) (walkE_g _ e m (Nat.le_refl _) hb hm)
theorem exOf_fl (s : TApiStmt) : exOf (flS s) = allEs s.gExps ++ exOf (flSs s.gKids) ++ exOf (flSs s.gElse) := by
  rw [flS_eq]; simp [exOf]
theorem walkS_g : ∀ (n : Nat) (l : List TApiStmt) (m : TTreeBagInt), hSs l ≤ n → szSs l ≤ 1048576 → m.gL.length + szSs l ≤ 1048576 → tree_walk_r3_g n l m = some ⟨m.gL ++ nmsOf (exOf (flSs l))⟩
  | 0, l, m, h, _, _ => by have := hSs_pos l; omega
  | n + 1, l, m, h, hb, hm => by
    show tree_walk_r3_b (tree_walk_r3_g n) l m = _
    unfold tree_walk_r3_b
    have hl := szSs_len l
    refine loop_list l (fun pre => m.gL ++ nmsOf (exOf (flSs pre))) (fun a n => ((n : Nat), a)) (fun a => a) (by simp [flSs, exOf, nmsOf]) (fun pre x post hp => ?_) ?_ ?_
    · have hx := pre_mem hp
      have hk := fuel h hx
      have hsp := szSs_pre hp
      have hsx := szS_eq x
      have hel := szEs_len x.gExps
      have l1 := nmsOf_len (exOf (flSs pre))
      have f1 := szSs_fl pre
      have l2 := nmsOf_len (exOf (flSs x.gKids))
      have f2 := szSs_fl x.gKids
      have l3 := nmsOf_len (allEs x.gExps)
      rw [allEs_len] at l3
      simp only [lt_pre hp, cond_true]
      rw [inc_pre hp (by omega)]
      rw [show idx l (pre.length : Int) = some x by rw [hp]; exact idx_pre _ _ _, Option.bind_some, show tree_Nums_1 x = some () from rfl, Option.bind_some]
      refine loop_list x.gExps (fun q => m.gL ++ nmsOf (exOf (flSs pre)) ++ nmsOf (allEs q)) (fun a n => ((n : Nat), a)) (fun a => a) (by simp [allEs, nmsOf]) (fun q y post2 hq => ?_) ?_ ?_
      · have hy := szEs_pre hq
        have l4 := nmsOf_len (allEs q)
        rw [allEs_len] at l4
        simp only [lt_pre hq, cond_true]
        rw [inc_pre hq (by omega)]
        rw [show idx x.gExps (q.length : Int) = some y by rw [hq]; exact idx_pre _ _ _, Option.bind_some, walkE_eq (by omega) (by simp; omega), Option.bind_some]
        rw [allEs_append, nmsOf_append]
        simp only [allEs, List.append_nil, List.append_assoc]
      · simp only [lt_end, cond_false]
      · rw [walkS_g n _ _ hk.1 (by omega) (by simp; omega), Option.bind_some, walkS_g n _ _ hk.2 (by omega) (by simp; omega), Option.bind_some]
        rw [flSs_append, exOf_append, nmsOf_append]
        simp only [flSs, List.append_nil, exOf_fl, nmsOf_append, List.append_assoc]
    · simp only [lt_end, cond_false]
    · rfl
theorem walkS_eq {l : List TApiStmt} {m : TTreeBagInt} (hb : szSs l ≤ 1048576) (hm : m.gL.length + szSs l ≤ 1048576) : tree_walk_r3 l m = some ⟨m.gL ++ nmsOf (exOf (flSs l))⟩ := tree_walk_r3_of l m (hSs l) (walkS_g _ l m (Nat.le_refl _) hb hm)
theorem sortI_len (l : List Int) : (sortI l).length = l.length := List.length_mergeSort _
theorem nums_eq {l : List TApiStmt} (hb : szSs l ≤ 1048576) : tree_Nums l = some (compactI (sortI (nmsOf (exOf (flSs l))))) := by
  unfold tree_Nums
  rw [walkS_eq hb (by simp; exact hb), Option.bind_some]
  have h1 := nmsOf_len (exOf (flSs l))
  have h2 := szSs_fl l
  unfold tree_bag_int_all
  rw [need_bind (by simp [len62I]; omega), need_bind (by simp [len62I, sortI_len]; omega)]
  rfl
theorem lives11 : l11_lives = some true := by
  unfold l11_lives
  rw [size_eq (by decide), Option.bind_some, show szE _ = 5 from rfl, show (((5 : Nat) : Int) == (5 : Int)) = true from rfl, cond_true, deep_eq (by decide), Option.bind_some, show dpE _ = 3 from rfl, show (((3 : Nat) : Int) == (3 : Int)) = true from rfl, cond_true, nums_eq (by decide), Option.bind_some]
  rw [compactI_of (l := [1, 2]) (by simp [Rise]) (by
    intro x
    show x ∈ [1, 2] ↔ x ∈ ([1, 2] : List Int)
    exact Iff.rfl)]
  rfl
theorem measures {e : TApiExpr} {l : List TApiStmt} (h : wE e + wSs l ≤ 1048576) : l11_TreeMeasures e l = some true := by
  have h1 := szE_le e
  have h2 := szSs_le l
  have h3 := szSs_fl l
  unfold l11_TreeMeasures
  rw [size_eq (by omega), Option.bind_some, rall_eq (by omega), Option.bind_some, allE_len, beq_self_eq_true, cond_true, deep_eq (by omega), Option.bind_some, rdeep_eq (by omega), Option.bind_some, beq_self_eq_true, cond_true, sizes_eq (by omega), Option.bind_some, stmts_eq (by omega), Option.bind_some, exprs_eq (by omega), Option.bind_some, wrap_id (by omega) (by omega)]
  rw [show ((szSs l : Int) == ((flSs l).length : Int) + ((exOf (flSs l)).length : Int)) = true by rw [beq_iff_eq]; omega, cond_true, deeps_eq (by omega), Option.bind_some, rdeeps_eq (by omega), Option.bind_some, beq_self_eq_true, cond_true, lives11]
  rfl
end Go.Proofs.Ytphpnbdfngdinaa.Ab
