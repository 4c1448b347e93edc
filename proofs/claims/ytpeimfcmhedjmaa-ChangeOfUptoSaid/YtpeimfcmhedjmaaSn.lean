/- Names of statements; a name put in its place. -/
import Derived.Test.YtpeimfcmhedjmaaSz
import Derived.Test.YtpeimfcmhedjmaaIn1
namespace Go.Proofs.Ytpeimfcmhedjmaa.Ab
open Go
set_option linter.all false
def one1 (b : ByteArray) : List ByteArray := if b = ByteArray.mk #[] then [] else [b]
theorem one1_len (b : ByteArray) : (one1 b).length ≤ 1 := by unfold one1; split <;> simp
def fm {β : Type} (f : β → List ByteArray) (l : List β) : List ByteArray := l.flatMap f
theorem fm_len {β : Type} {f : β → List ByteArray} (h : ∀ x, (f x).length ≤ 1) : ∀ l : List β, (fm f l).length ≤ l.length
  | [] => by simp [fm]
  | x :: l => by
    have h1 := h x
    have h2 := fm_len h l
    simp only [fm, List.flatMap_cons, List.length_append, List.length_cons] at h2 ⊢
    omega
theorem fm_snoc {β : Type} (f : β → List ByteArray) (l : List β) (x : β) : fm f (l ++ [x]) = fm f l ++ f x := by simp [fm]
def nmS (c : Bool) (s : TApiStmt) : List ByteArray := one1 (bif c then s.gFunc else s.gName)
def nmX (c : Bool) (e : TApiExpr) : List ByteArray := bif c then [] else one1 e.gName
theorem nmS_len (c : Bool) (s : TApiStmt) : (nmS c s).length ≤ 1 := one1_len _
theorem nmX_len (c : Bool) (e : TApiExpr) : (nmX c e).length ≤ 1 := by
  unfold nmX; cases c
  · exact one1_len _
  · simp
def namesOf (c : Bool) (l : List TApiStmt) : List ByteArray := fm (nmS c) (flSs l) ++ fm (nmX c) (exOf (flSs l))
theorem fm_pre {β : Type} {f : β → List ByteArray} (h : ∀ x, (f x).length ≤ 1) {l p : List β} {x : β} {q : List β} (e : l = p ++ x :: q) : (fm f p).length + 1 ≤ l.length := by
  have := fm_len h p
  subst e; simp; omega
theorem add_eq {m : TTreeBagString} {b : ByteArray} (h : m.gL.length ≤ 1048576) : tree_bag_string_add_r m b = some ⟨m.gL ++ [b]⟩ := by
  unfold tree_bag_string_add_r
  rw [app_len (by omega) (by simp; omega)]; rfl
theorem names1_eq {m : TTreeBagString} {b : ByteArray} (h : m.gL.length ≤ 1048576) : tree_Names_1_r b m = some ⟨m.gL ++ one1 b⟩ := by
  unfold tree_Names_1_r one1
  by_cases h1 : b = ByteArray.mk #[]
  · rw [decide_eq_true h1, if_pos h1, List.append_nil]; rfl
  · rw [decide_eq_false h1, if_neg h1, Bool.not_false, cond_true, add_eq h]; rfl
theorem names2_eq {m : TTreeBagString} {s : TApiStmt} (h : m.gL.length ≤ 1048576) : tree_Names_2_r s m = some ⟨m.gL ++ nmS false s⟩ := by
  unfold tree_Names_2_r; rw [names1_eq h]; rfl
theorem names3_eq {m : TTreeBagString} {s : TApiExpr} (h : m.gL.length ≤ 1048576) : tree_Names_3_r s m = some ⟨m.gL ++ nmX false s⟩ := by
  unfold tree_Names_3_r; rw [names1_eq h]; rfl
theorem walkX_g : ∀ (n : Nat) (e : TApiExpr) (m : TTreeBagString), dpE e ≤ n → szE e ≤ 1048576 → m.gL.length + szE e ≤ 1048576 → tree_walk_1_r_g n e m = some ⟨m.gL ++ fm (nmX false) (allE e)⟩
  | 0, e, m, h, _, _ => by rw [dpE_eq] at h; omega
  | n + 1, e, m, h, hb, hm => by
    show tree_walk_1_r_b (tree_walk_1_r_g n) e m = _
    unfold tree_walk_1_r_b
    have hs := szE_eq e
    have hl := szEs_len e.gKids
    rw [names3_eq (by omega), Option.bind_some]
    have hn := nmX_len false e
    refine loop_list e.gKids (fun pre => m.gL ++ nmX false e ++ fm (nmX false) (allEs pre)) (fun a n => ((n : Nat), a)) (fun a => a) (by simp [allEs, fm]) (fun pre x post hp => ?_) ?_ ?_
    · have hk := kids_mem (pre_mem hp)
      have hsp := szEs_pre hp
      have hln := fm_len (nmX_len false) (allEs pre)
      rw [allEs_len] at hln
      simp only [lt_pre hp, cond_true]
      rw [inc_pre hp (by omega)]
      rw [idx_pre2 hp rfl, Option.bind_some, walkX_g n x _ (by omega) (by omega) (by simp; omega), Option.bind_some]
      rw [allEs_append]
      simp only [allEs, List.append_nil, List.append_assoc, fm, List.flatMap_append]
    · simp only [lt_end, cond_false]
    · rw [allE_eq]; simp [fm]
theorem walkX_eq {e : TApiExpr} {m : TTreeBagString} (hb : szE e ≤ 1048576) (hm : m.gL.length + szE e ≤ 1048576) : tree_walk_1_r e m = some ⟨m.gL ++ fm (nmX false) (allE e)⟩ := tree_walk_1_r_of e m (dpE e) (walkX_g _ e m (Nat.le_refl _) hb hm)
/-- What is collected of a statement. -/
def colS (c : Bool) (s : TApiStmt) : List ByteArray := nmS c s ++ fm (nmX c) (allEs s.gExps)
theorem colS_len (c : Bool) (l : List TApiStmt) : (fm (colS c) l).length ≤ l.length + (exOf l).length := by
  induction l with
  | nil => simp [fm]
  | cons s l ih =>
    have h1 := nmS_len c s
    have h2 := fm_len (nmX_len c) (allEs s.gExps)
    simp only [fm, exOf, List.flatMap_cons, List.length_append, List.length_cons, colS] at ih h2 ⊢
    omega
theorem colS_fl (c : Bool) (l : List TApiStmt) : (fm (colS c) (flSs l)).length ≤ szSs l := by
  have := colS_len c (flSs l)
  have h := szSs_fl l
  omega
theorem fm_app {β : Type} (f : β → List ByteArray) (l m : List β) : fm f (l ++ m) = fm f l ++ fm f m := by simp [fm]
theorem fm_one (c : Bool) (x : TApiStmt) : fm (colS c) (flS x) = nmS c x ++ (fm (nmX c) (allEs x.gExps) ++ (fm (colS c) (flSs x.gKids) ++ fm (colS c) (flSs x.gElse))) := by
  rw [flS_eq]; simp [fm, colS]
theorem walkN_g : ∀ (n : Nat) (l : List TApiStmt) (m : TTreeBagString), hSs l ≤ n → szSs l ≤ 1048576 → m.gL.length + szSs l ≤ 1048576 → tree_walk_r_g n l m = some ⟨m.gL ++ fm (colS false) (flSs l)⟩
  | 0, l, m, h, _, _ => by have := hSs_pos l; omega
  | n + 1, l, m, h, hb, hm => by
    show tree_walk_r_b (tree_walk_r_g n) l m = _
    unfold tree_walk_r_b
    have hl := szSs_len l
    refine loop_list l (fun pre => m.gL ++ fm (colS false) (flSs pre)) (fun a n => ((n : Nat), a)) (fun a => a) (by simp [flSs, fm]) (fun pre x post hp => ?_) ?_ ?_
    · have hx := pre_mem hp
      have hk := fuel h hx
      have hsp := szSs_pre hp
      have hsx := szS_eq x
      have hel := szEs_len x.gExps
      have l1 := colS_fl false pre
      have l2 := colS_fl false x.gKids
      have l3 := fm_len (nmX_len false) (allEs x.gExps)
      have l5 := nmS_len false x
      rw [allEs_len] at l3
      simp only [lt_pre hp, cond_true]
      rw [inc_pre hp (by omega)]
      rw [idx_pre2 hp rfl, Option.bind_some, names2_eq (by simp; omega), Option.bind_some]
      refine loop_list x.gExps (fun q => m.gL ++ fm (colS false) (flSs pre) ++ nmS false x ++ fm (nmX false) (allEs q)) (fun a n => ((n : Nat), a)) (fun a => a) (by simp [allEs, fm]) (fun q y post2 hq => ?_) ?_ ?_
      · have hy := szEs_pre hq
        have l4 := fm_len (nmX_len false) (allEs q)
        rw [allEs_len] at l4
        simp only [lt_pre hq, cond_true]
        rw [inc_pre hq (by omega)]
        rw [idx_pre2 hq rfl, Option.bind_some, walkX_eq (by omega) (by simp; omega), Option.bind_some]
        rw [allEs_append, fm_app]
        simp only [allEs, List.append_nil, List.append_assoc]
      · simp only [lt_end, cond_false]
      · rw [walkN_g n _ _ hk.1 (by omega) (by simp; omega), Option.bind_some, walkN_g n _ _ hk.2 (by omega) (by simp; omega), Option.bind_some]
        rw [flSs_append, fm_app]
        simp only [flSs, List.append_nil, fm_one, List.append_assoc]
    · simp only [lt_end, cond_false]
    · rfl
theorem walkN_eq {l : List TApiStmt} {m : TTreeBagString} (hb : szSs l ≤ 1048576) (hm : m.gL.length + szSs l ≤ 1048576) : tree_walk_r l m = some ⟨m.gL ++ fm (colS false) (flSs l)⟩ := tree_walk_r_of l m (hSs l) (walkN_g _ l m (Nat.le_refl _) hb hm)
theorem col_mem (c : Bool) (l : List TApiStmt) (x : ByteArray) : x ∈ fm (colS c) l ↔ x ∈ fm (nmS c) l ++ fm (nmX c) (exOf l) := by
  simp only [fm, colS, exOf, List.mem_append, List.mem_flatMap]
  constructor
  · rintro ⟨s, hs, h | ⟨e, he, h⟩⟩
    · exact .inl ⟨s, hs, h⟩
    · exact .inr ⟨e, ⟨s, hs, he⟩, h⟩
  · rintro (⟨s, hs, h⟩ | ⟨e, ⟨s, hs, he⟩, h⟩)
    · exact ⟨s, hs, .inl h⟩
    · exact ⟨s, hs, .inr ⟨e, he, h⟩⟩
theorem sortB_len (l : List ByteArray) : (sortB l).length = l.length := by
  unfold sortB; rw [List.length_map, List.length_mergeSort, List.length_map]
theorem col_all {c : Bool} {l : List TApiStmt} (hb : szSs l ≤ 1048576) : tree_bag_string_all_r ⟨fm (colS c) (flSs l)⟩ = some (insA ltB (namesOf c l), ⟨[]⟩) := by
  have h1 := colS_fl c l
  unfold tree_bag_string_all_r
  rw [need_bind (by simp [len62B]; omega), need_bind (by simp [len62B, sortB_len]; omega)]
  have h2 := insB_all (namesOf c l)
  rw [compactB_of h2.1 fun x => (h2.2.1 x).trans (col_mem c (flSs l) x).symm]
theorem names_eq {l : List TApiStmt} (hb : szSs l ≤ 1048576) : tree_Names_r l = some (insA ltB (namesOf false l)) := by
  unfold tree_Names_r
  rw [walkN_eq hb (by simpa using hb), Option.bind_some]
  simp only [List.nil_append]
  rw [col_all hb]; rfl
theorem texts_refl {l : List ByteArray} (hb : l.length ≤ 1048576) : r11_Texts l l = some true := by
  unfold r11_Texts
  rw [pairs (fun a b => decide (a = b)) l l (fun p x q p' y q' e e' hp => ?_) ?_, all2_refl fun x _ => by simp]
  · rw [lt_end, cond_false]
  · obtain rfl : x = y := Option.some.inj ((idx_pre2 e rfl).symm.trans (idx_pre2 e' hp))
    rw [lt_pre e, cond_true, idx_pre2 e rfl, Option.bind_some, Option.bind_some, inc_pre e (by omega)]; simp
theorem namesOf_len (c : Bool) (l : List TApiStmt) : (namesOf c l).length ≤ szSs l := by
  have h1 := fm_len (nmS_len c) (flSs l)
  have h2 := fm_len (nmX_len c) (exOf (flSs l))
  have h3 := szSs_fl l
  unfold namesOf
  rw [List.length_append]; omega
theorem put_eq {l : List ByteArray} {w : ByteArray} (hb : l.length ≤ 4000000) : r07_Put l w = some (insT ltB w l) := by
  unfold r07_Put
  refine loop_list l (fun pre => pre.foldl (insS ltB w) ([], false)) (fun a n => (a.1, a.2, (n : Int))) (fun a => a) (by simp) (fun pre x post hp => ?_) ?_ ?_
  · have hlp := congrArg List.length hp
    simp only [List.length_append, List.length_cons] at hlp
    have hz := insS_len ltB w pre ([], false)
    rw [List.foldl_append, List.foldl_cons, List.foldl_nil]
    generalize pre.foldl (insS ltB w) ([], false) = s at hz ⊢
    obtain ⟨acc, put⟩ := s
    simp only [List.length_nil] at hz
    simp only [lt_pre hp, cond_true, idx_pre2 hp rfl, Option.bind_some]
    rw [inc_pre hp (by omega)]
    have hq : (w.toList == x.toList) = decide (w = x) := by
      rw [ByteArray.toList_eq, ByteArray.toList_eq, Bool.eq_iff_iff, beq_iff_eq, decide_eq_true_iff]
      exact ⟨fun h => lsOf_inj h, fun h => by rw [h]⟩
    rw [hq]
    cases put
    · simp only [Bool.not_false, cond_true]
      cases h1 : ltB w x
      · by_cases h2 : w = x
        · subst h2
          simp only [decide_true, Bool.or_true, cond_true, cond_false, Option.bind_some]
          rw [app_len (by omega) (by simp; omega), Option.bind_some]
          simp [insS, ltB_irr]
        · simp only [decide_eq_false h2, Bool.or_false, cond_false, Option.bind_some]
          rw [app_len (by omega) (by simp; omega), Option.bind_some]
          simp [insS, h1, h2]
      · simp only [Bool.true_or, cond_true]
        rw [app_len (by omega) (by simp; omega), Option.bind_some, Option.bind_some, Option.bind_some]
        simp only []
        rw [app_len (by omega) (by simp; omega), Option.bind_some]
        simp [insS, h1]
    · simp only [Bool.not_true, cond_false]
      rw [app_len (by omega) (by simp; omega), Option.bind_some]
      simp [insS]
  · simp only [lt_end, cond_false]
  · have hz := insS_len ltB w l ([], false)
    have h := insS_no ltB ltB_irr w l []
    generalize l.foldl (insS ltB w) ([], false) = s at hz h ⊢
    obtain ⟨acc, put⟩ := s
    simp only [List.length_nil] at hz
    cases put
    · simp only [Bool.not_false, cond_true]
      rw [app_len (by omega) (by simp; omega), Option.bind_some]
      simpa using h
    · simp only [Bool.not_true, cond_false]
      simpa using h
end Go.Proofs.Ytpeimfcmhedjmaa.Ab
