/- Names in trees: the law of names. -/
import Derived.Test.YtphpnbdfngdinaaTm4
import Derived.Test.YtphpnbdfngdinaaTm5
namespace Go.Proofs.Ytphpnbdfngdinaa.Ab
open Go
set_option linter.all false
/-! ### Insertion into a rising list -/
section
variable {α : Type} [DecidableEq α] (lt : α → α → Bool)
def insT (w : α) : List α → List α
  | [] => [w]
  | x :: l => if w = x then x :: l else if lt w x = true then w :: x :: l else x :: insT w l
theorem insT_mem (w : α) : ∀ l x, x ∈ insT lt w l ↔ x = w ∨ x ∈ l
  | [], x => by simp [insT]
  | y :: l, x => by
    unfold insT
    split
    · rename_i h; subst h; simp
    · split
      · simp
      · rw [List.mem_cons, insT_mem w l x, List.mem_cons]
        constructor
        · rintro (h | h | h)
          · exact .inr (.inl h)
          · exact .inl h
          · exact .inr (.inr h)
        · rintro (h | h | h)
          · exact .inr (.inl h)
          · exact .inl h
          · exact .inr (.inr h)
theorem insT_len (w : α) : ∀ l, (insT lt w l).length ≤ l.length + 1
  | [] => by simp [insT]
  | y :: l => by
    have := insT_len w l
    unfold insT
    split
    · simp
    · split
      · simp
      · simp only [List.length_cons]; omega
variable {R : α → α → Prop} (hlt : ∀ a b, lt a b = true ↔ (R a b ∧ a ≠ b)) (to : ∀ a b, R a b ∨ R b a) (tr : ∀ a b c, R a b → R b c → R a c) (an : ∀ a b, R a b → R b a → a = b)
include hlt to tr an in
theorem insT_rise (w : α) : ∀ l, Rise R l → Rise R (insT lt w l)
  | [], _ => by simp [insT, Rise]
  | y :: l, h => by
    unfold Rise at h
    rw [List.pairwise_cons] at h
    unfold insT
    split
    · exact List.pairwise_cons.2 h
    · rename_i hne
      split
      · rename_i hl
        have hr := (hlt w y).1 hl
        refine List.pairwise_cons.2 ⟨fun z hz => ?_, List.pairwise_cons.2 h⟩
        rcases List.mem_cons.1 hz with rfl | hz
        · exact hr
        · have h2 := h.1 z hz
          refine ⟨tr _ _ _ hr.1 h2.1, fun e => ?_⟩
          subst e
          exact hne (an _ _ hr.1 h2.1)
      · rename_i hl
        refine List.pairwise_cons.2 ⟨fun z hz => ?_, insT_rise w l h.2⟩
        rcases (insT_mem lt w l z).1 hz with rfl | hz
        · refine ⟨?_, fun e => hne e.symm⟩
          rcases to z y with k | k
          · exact absurd ((hlt z y).2 ⟨k, hne⟩) hl
          · exact k
        · exact h.1 z hz
def insA (ws : List α) : List α := ws.foldl (fun acc w => insT lt w acc) []
theorem insA_snoc (ws : List α) (w : α) : insA lt (ws ++ [w]) = insT lt w (insA lt ws) := by simp [insA]
include hlt to tr an in
theorem insA_all (ws : List α) : Rise R (insA lt ws) ∧ (∀ x, x ∈ insA lt ws ↔ x ∈ ws) ∧ (insA lt ws).length ≤ ws.length := by
  have key : ∀ (ws acc : List α), Rise R acc → Rise R (ws.foldl (fun acc w => insT lt w acc) acc) ∧ (∀ x, x ∈ ws.foldl (fun acc w => insT lt w acc) acc ↔ x ∈ acc ∨ x ∈ ws) ∧ (ws.foldl (fun acc w => insT lt w acc) acc).length ≤ acc.length + ws.length := by
    intro ws
    induction ws with
    | nil => intro acc h; exact ⟨h, by simp, by simp⟩
    | cons w ws ih =>
      intro acc h
      obtain ⟨h1, h2, h3⟩ := ih (insT lt w acc) (insT_rise lt hlt to tr an w acc h)
      have hl := insT_len lt w acc
      refine ⟨h1, fun x => ?_, by simp only [List.foldl_cons, List.length_cons]; omega⟩
      rw [List.foldl_cons, h2 x, insT_mem, List.mem_cons]
      constructor
      · rintro ((h | h) | h)
        · exact .inr (.inl h)
        · exact .inl h
        · exact .inr (.inr h)
      · rintro (h | h | h)
        · exact .inl (.inr h)
        · exact .inl (.inl h)
        · exact .inr h
  obtain ⟨h1, h2, h3⟩ := key ws [] (by simp [Rise])
  exact ⟨h1, fun x => (h2 x).trans (by simp), by simpa [insA] using h3⟩
/-- What the loop holds behind the first of a list: what is laid out, and whether the new one1 is among it. -/
def insS (w : α) (s : List α × Bool) (x : α) : List α × Bool :=
  ((if (!s.2 && (decide (w = x) || lt w x)) = true then (if lt w x = true then s.1 ++ [w, x] else s.1 ++ [x]) else s.1 ++ [x]), s.2 || (decide (w = x) || lt w x))
theorem insS_yes (w : α) : ∀ (l acc : List α), l.foldl (insS lt w) (acc, true) = (acc ++ l, true)
  | [], acc => by simp
  | x :: l, acc => by
    rw [List.foldl_cons, show insS lt w (acc, true) x = (acc ++ [x], true) by simp [insS], insS_yes w l]; simp
variable (ir : ∀ a, lt a a = false)
include ir in
theorem insS_no (w : α) : ∀ (l acc : List α), (if (l.foldl (insS lt w) (acc, false)).2 = true then (l.foldl (insS lt w) (acc, false)).1 else (l.foldl (insS lt w) (acc, false)).1 ++ [w]) = acc ++ insT lt w l
  | [], acc => by simp [insT]
  | x :: l, acc => by
    rw [List.foldl_cons]
    by_cases h1 : w = x
    · subst h1
      rw [show insS lt w (acc, false) w = (acc ++ [w], true) by simp [insS, ir], insS_yes]
      simp [insT]
    · by_cases h2 : lt w x = true
      · rw [show insS lt w (acc, false) x = (acc ++ [w, x], true) by simp [insS, h2], insS_yes]
        simp [insT, h1, h2]
      · rw [show insS lt w (acc, false) x = (acc ++ [x], false) by simp [insS, h1, h2], insS_no w l]
        simp [insT, h1, h2]
theorem insS_len (w : α) : ∀ (l : List α) (s : List α × Bool), (l.foldl (insS lt w) s).1.length ≤ s.1.length + 2 * l.length
  | [], s => by simp
  | x :: l, s => by
    have := insS_len w l (insS lt w s x)
    have h : (insS lt w s x).1.length ≤ s.1.length + 2 := by
      unfold insS; dsimp only; split
      · split <;> simp
      · simp
    rw [List.foldl_cons, List.length_cons]; omega
end
theorem ltB_iff (a b : ByteArray) : ltB a b = true ↔ (leS a b ∧ a ≠ b) := by
  unfold ltB leS
  rw [ByteArray.toList_eq, ByteArray.toList_eq, bytesLess_eq, decide_eq_true_iff]
  show lsOf a < lsOf b ↔ _
  constructor
  · intro h
    exact ⟨List.le_of_lt h, fun e => by subst e; exact List.lt_irrefl _ h⟩
  · rintro ⟨h, k⟩
    by_cases q : lsOf a < lsOf b
    · exact q
    · exact absurd (lsOf_inj (List.le_antisymm h (List.not_lt.1 q))) k
theorem ltB_irr (a : ByteArray) : ltB a a = false := by
  cases h : ltB a a
  · rfl
  · exact absurd rfl ((ltB_iff a a).1 h).2
theorem insB_all (ws : List ByteArray) : Rise leS (insA ltB ws) ∧ (∀ x, x ∈ insA ltB ws ↔ x ∈ ws) ∧ (insA ltB ws).length ≤ ws.length :=
  insA_all ltB ltB_iff (fun a b => List.le_total _ _) (fun a b c => List.le_trans) (fun a b h k => lsOf_inj (List.le_antisymm h k)) ws
def ltI (a b : Int) : Bool := decide (a < b)
theorem insI_all (ws : List Int) : Rise (· ≤ ·) (insA ltI ws) ∧ (∀ x, x ∈ insA ltI ws ↔ x ∈ ws) ∧ (insA ltI ws).length ≤ ws.length :=
  insA_all ltI (fun a b => by unfold ltI; rw [decide_eq_true_iff]; omega) (fun a b => Int.le_total a b) (fun a b c => Int.le_trans) (fun a b h k => by omega) ws
theorem put_eq {l : List ByteArray} {w : ByteArray} (hb : l.length ≤ 1048576) : r11_put l w = some (insT ltB w l) := by
  unfold r11_put
  refine loop_list l (fun pre => pre.foldl (insS ltB w) ([], false)) (fun a n => (a.1, a.2, (n : Int))) (fun a => a) (by simp) (fun pre x post hp => ?_) ?_ ?_
  · have hlp := congrArg List.length hp
    simp only [List.length_append, List.length_cons] at hlp
    have hz := insS_len ltB w pre ([], false)
    rw [List.foldl_append, List.foldl_cons, List.foldl_nil]
    generalize pre.foldl (insS ltB w) ([], false) = s at hz ⊢
    obtain ⟨acc, put⟩ := s
    simp only [List.length_nil] at hz
    simp only [lt_pre hp, cond_true, idx_pre2 hp rfl, Option.bind_some]
    rw [inc_pre hp (by omega)]
    cases put
    · cases h1 : ltB w x
      · simp only [Bool.not_false, cond_true, cond_false, Option.bind_some]
        rw [app_len (by omega) (by simp; omega)]
        by_cases h2 : w = x
        · subst h2; simp [insS, ltB_irr]
        · simp [insS, h1, h2]
      · simp only [Bool.not_false, cond_true, cond_false, Option.bind_some]
        rw [app_len (by omega) (by simp; omega), Option.bind_some, Option.bind_some]
        simp only []
        by_cases h2 : w = x
        · subst h2; rw [ltB_irr] at h1; cases h1
        · rw [decide_eq_false h2, cond_false, Option.bind_some, app_len (by omega) (by simp; omega), Option.bind_some]
          simp [insS, h1, h2]
    · simp only [Bool.not_true, cond_false]
      rw [app_len (by omega) (by simp; omega)]
      by_cases h2 : w = x
      · simp [insS, h2]
      · simp [insS, h2]
  · simp only [lt_end, cond_false]
  · have hz := insS_len ltB w l ([], false)
    have h := insS_no ltB ltB_irr w l []
    generalize l.foldl (insS ltB w) ([], false) = s at hz h ⊢
    obtain ⟨acc, put⟩ := s
    simp only [List.length_nil] at hz
    cases put
    · simp only [Bool.not_false, cond_true]
      rw [app_len (by omega) (by simp; omega), Option.bind_some]
      simpa using h
    · simp only [Bool.not_true, cond_false]
      simpa using h
/-! ### The document's names -/
def one1 (b : ByteArray) : List ByteArray := if b = ByteArray.mk #[] then [] else [b]
theorem one1_len (b : ByteArray) : (one1 b).length ≤ 1 := by unfold one1; split <;> simp
def fm {β : Type} (f : β → List ByteArray) (l : List β) : List ByteArray := l.flatMap f
theorem fm_len {β : Type} {f : β → List ByteArray} (h : ∀ x, (f x).length ≤ 1) : ∀ l : List β, (fm f l).length ≤ l.length
  | [] => by simp [fm]
  | x :: l => by
    have h1 := h x
    have h2 := fm_len h l
    simp only [fm, List.flatMap_cons, List.length_append, List.length_cons] at h2 ⊢
    omega
theorem fm_snoc {β : Type} (f : β → List ByteArray) (l : List β) (x : β) : fm f (l ++ [x]) = fm f l ++ f x := by simp [fm]
def nmS (c : Bool) (s : TApiStmt) : List ByteArray := one1 (bif c then s.gFunc else s.gName)
def nmX (c : Bool) (e : TApiExpr) : List ByteArray := bif c then [] else one1 e.gName
theorem nmS_len (c : Bool) (s : TApiStmt) : (nmS c s).length ≤ 1 := one1_len _
theorem nmX_len (c : Bool) (e : TApiExpr) : (nmX c e).length ≤ 1 := by
  unfold nmX; cases c
  · exact one1_len _
  · simp
def namesOf (c : Bool) (l : List TApiStmt) : List ByteArray := fm (nmS c) (flSs l) ++ fm (nmX c) (exOf (flSs l))
theorem fm_pre {β : Type} {f : β → List ByteArray} (h : ∀ x, (f x).length ≤ 1) {l p : List β} {x : β} {q : List β} (e : l = p ++ x :: q) : (fm f p).length + 1 ≤ l.length := by
  have := fm_len h p
  subst e; simp; omega
theorem rnames_eq {l : List TApiStmt} {c : Bool} (hb : szSs l ≤ 1048576) : r11_Names l c = some (insA ltB (namesOf c l)) := by
  unfold r11_Names
  rw [stmts_eq hb, Option.bind_some]
  have hf := szSs_fl l
  refine loop_list (flSs l) (fun pre => insA ltB (fm (nmS c) pre)) (fun a n => (a, (n : Nat))) (fun a => a) (by simp [fm, insA]) (fun p x q hp => ?_) ?_ ?_
  · have hl := fm_pre (nmS_len c) hp
    have hi := (insB_all (fm (nmS c) p)).2.2
    simp only [lt_pre hp, cond_true, idx_pre2 hp rfl, Option.bind_some]
    rw [inc_pre hp (by omega), show (bif c then some x.gFunc else some x.gName) = some (bif c then x.gFunc else x.gName) by cases c <;> rfl, Option.bind_some, fm_snoc]
    rw [show nmS c x = one1 (bif c then x.gFunc else x.gName) from rfl]
    unfold one1
    by_cases h : (bif c then x.gFunc else x.gName) = ByteArray.mk #[]
    · rw [decide_eq_true h, if_pos h, List.append_nil]; rfl
    · rw [decide_eq_false h, if_neg h, insA_snoc, Bool.not_false, cond_true, put_eq (by omega)]; rfl
  · simp only [lt_end, cond_false]
  · rw [exprs_eq hb, Option.bind_some]
    cases c
    · refine loop_list (exOf (flSs l)) (fun pre => insA ltB (fm (nmS false) (flSs l) ++ fm (nmX false) pre)) (fun a n => (a, (n : Nat))) (fun a => a) (by simp [fm]) (fun p x q hp => ?_) ?_ ?_
      · have hl := fm_pre (nmX_len false) hp
        have hl2 := fm_len (nmS_len false) (flSs l)
        have hi := (insB_all (fm (nmS false) (flSs l) ++ fm (nmX false) p)).2.2
        rw [List.length_append] at hi
        simp only [lt_pre hp, cond_true, idx_pre2 hp rfl, Option.bind_some]
        rw [inc_pre hp (by omega), fm_snoc]
        simp only [Bool.not_false, cond_true, Option.bind_some]
        rw [show nmX false x = one1 x.gName from rfl]
        unfold one1
        by_cases h : x.gName = ByteArray.mk #[]
        · rw [decide_eq_true h, if_pos h, List.append_nil]; rfl
        · rw [decide_eq_false h, if_neg h, ← List.append_assoc, insA_snoc, Bool.not_false, cond_true, put_eq (by omega)]; rfl
      · simp only [lt_end, cond_false]; rfl
      · rfl
    · have : fm (nmX true) (exOf (flSs l)) = [] := by simp [fm, nmX]
      unfold namesOf
      rw [this, List.append_nil]
      by_cases hz : (exOf (flSs l)).length = 0
      · rw [loopM_done (t := insA ltB (fm (nmS true) (flSs l))) (by simp [hz]), Option.bind_some]
      · rw [loopM_done (t := insA ltB (fm (nmS true) (flSs l))) (by
          rw [show decide ((0 : Int) < ((exOf (flSs l)).length : Int)) = true by rw [decide_eq_true_iff]; omega]; rfl), Option.bind_some]
/-! ### The program's -/
theorem add_eq {m : TTreeBagString} {b : ByteArray} (h : m.gL.length ≤ 1048576) : tree_bag_string_add_r m b = some ⟨m.gL ++ [b]⟩ := by
  unfold tree_bag_string_add_r
  rw [app_len (by omega) (by simp; omega)]; rfl
theorem names1_eq {m : TTreeBagString} {b : ByteArray} (h : m.gL.length ≤ 1048576) : tree_Names_1_r b m = some ⟨m.gL ++ one1 b⟩ := by
  unfold tree_Names_1_r one1
  by_cases h1 : b = ByteArray.mk #[]
  · rw [decide_eq_true h1, if_pos h1, List.append_nil]; rfl
  · rw [decide_eq_false h1, if_neg h1, Bool.not_false, cond_true, add_eq h]; rfl
theorem names2_eq {m : TTreeBagString} {s : TApiStmt} (h : m.gL.length ≤ 1048576) : tree_Names_2_r s m = some ⟨m.gL ++ nmS false s⟩ := by
  unfold tree_Names_2_r; rw [names1_eq h]; rfl
theorem names3_eq {m : TTreeBagString} {s : TApiExpr} (h : m.gL.length ≤ 1048576) : tree_Names_3_r s m = some ⟨m.gL ++ nmX false s⟩ := by
  unfold tree_Names_3_r; rw [names1_eq h]; rfl
theorem calls1_eq {m : TTreeBagString} {s : TApiStmt} (h : m.gL.length ≤ 1048576) : tree_Calls_1_r s m = some ⟨m.gL ++ nmS true s⟩ := by
  unfold tree_Calls_1_r
  show _ = some (⟨m.gL ++ one1 s.gFunc⟩ : TTreeBagString)
  unfold one1
  by_cases h1 : s.gFunc = ByteArray.mk #[]
  · rw [decide_eq_true h1, if_pos h1, List.append_nil]; rfl
  · rw [decide_eq_false h1, if_neg h1, Bool.not_false, cond_true, add_eq h]; rfl
theorem walkX_g : ∀ (n : Nat) (e : TApiExpr) (m : TTreeBagString), dpE e ≤ n → szE e ≤ 1048576 → m.gL.length + szE e ≤ 1048576 → tree_walk_1_r_g n e m = some ⟨m.gL ++ fm (nmX false) (allE e)⟩
  | 0, e, m, h, _, _ => by rw [dpE_eq] at h; omega
  | n + 1, e, m, h, hb, hm => by
    show tree_walk_1_r_b (tree_walk_1_r_g n) e m = _
    unfold tree_walk_1_r_b
    have hs := szE_eq e
    have hl := szEs_len e.gKids
    rw [names3_eq (by omega), Option.bind_some]
    have hn := nmX_len false e
    refine loop_list e.gKids (fun pre => m.gL ++ nmX false e ++ fm (nmX false) (allEs pre)) (fun a n => ((n : Nat), a)) (fun a => a) (by simp [allEs, fm]) (fun pre x post hp => ?_) ?_ ?_
    · have hk := kids_mem (pre_mem hp)
      have hsp := szEs_pre hp
      have hln := fm_len (nmX_len false) (allEs pre)
      rw [allEs_len] at hln
      simp only [lt_pre hp, cond_true]
      rw [inc_pre hp (by omega)]
      rw [idx_pre2 hp rfl, Option.bind_some, walkX_g n x _ (by omega) (by omega) (by simp; omega), Option.bind_some]
      rw [allEs_append]
      simp only [allEs, List.append_nil, List.append_assoc, fm, List.flatMap_append]
    · simp only [lt_end, cond_false]
    · rw [allE_eq]; simp [fm]
theorem walkX_eq {e : TApiExpr} {m : TTreeBagString} (hb : szE e ≤ 1048576) (hm : m.gL.length + szE e ≤ 1048576) : tree_walk_1_r e m = some ⟨m.gL ++ fm (nmX false) (allE e)⟩ := tree_walk_1_r_of e m (dpE e) (walkX_g _ e m (Nat.le_refl _) hb hm)
/-- What is collected of a statement. -/
def colS (c : Bool) (s : TApiStmt) : List ByteArray := nmS c s ++ fm (nmX c) (allEs s.gExps)
theorem colS_len (c : Bool) (l : List TApiStmt) : (fm (colS c) l).length ≤ l.length + (exOf l).length := by
  induction l with
  | nil => simp [fm]
  | cons s l ih =>
    have h1 := nmS_len c s
    have h2 := fm_len (nmX_len c) (allEs s.gExps)
    simp only [fm, exOf, List.flatMap_cons, List.length_append, List.length_cons, colS] at ih h2 ⊢
    omega
theorem colS_fl (c : Bool) (l : List TApiStmt) : (fm (colS c) (flSs l)).length ≤ szSs l := by
  have := colS_len c (flSs l)
  have h := szSs_fl l
  omega
theorem fm_app {β : Type} (f : β → List ByteArray) (l m : List β) : fm f (l ++ m) = fm f l ++ fm f m := by simp [fm]
theorem fm_one (c : Bool) (x : TApiStmt) : fm (colS c) (flS x) = nmS c x ++ (fm (nmX c) (allEs x.gExps) ++ (fm (colS c) (flSs x.gKids) ++ fm (colS c) (flSs x.gElse))) := by
  rw [flS_eq]; simp [fm, colS]
theorem walkN_g : ∀ (n : Nat) (l : List TApiStmt) (m : TTreeBagString), hSs l ≤ n → szSs l ≤ 1048576 → m.gL.length + szSs l ≤ 1048576 → tree_walk_r_g n l m = some ⟨m.gL ++ fm (colS false) (flSs l)⟩
  | 0, l, m, h, _, _ => by have := hSs_pos l; omega
  | n + 1, l, m, h, hb, hm => by
    show tree_walk_r_b (tree_walk_r_g n) l m = _
    unfold tree_walk_r_b
    have hl := szSs_len l
    refine loop_list l (fun pre => m.gL ++ fm (colS false) (flSs pre)) (fun a n => ((n : Nat), a)) (fun a => a) (by simp [flSs, fm]) (fun pre x post hp => ?_) ?_ ?_
    · have hx := pre_mem hp
      have hk := fuel h hx
      have hsp := szSs_pre hp
      have hsx := szS_eq x
      have hel := szEs_len x.gExps
      have l1 := colS_fl false pre
      have l2 := colS_fl false x.gKids
      have l3 := fm_len (nmX_len false) (allEs x.gExps)
      have l5 := nmS_len false x
      rw [allEs_len] at l3
      simp only [lt_pre hp, cond_true]
      rw [inc_pre hp (by omega)]
      rw [idx_pre2 hp rfl, Option.bind_some, names2_eq (by simp; omega), Option.bind_some]
      refine loop_list x.gExps (fun q => m.gL ++ fm (colS false) (flSs pre) ++ nmS false x ++ fm (nmX false) (allEs q)) (fun a n => ((n : Nat), a)) (fun a => a) (by simp [allEs, fm]) (fun q y post2 hq => ?_) ?_ ?_
      · have hy := szEs_pre hq
        have l4 := fm_len (nmX_len false) (allEs q)
        rw [allEs_len] at l4
        simp only [lt_pre hq, cond_true]
        rw [inc_pre hq (by omega)]
        rw [idx_pre2 hq rfl, Option.bind_some, walkX_eq (by omega) (by simp; omega), Option.bind_some]
        rw [allEs_append, fm_app]
        simp only [allEs, List.append_nil, List.append_assoc]
      · simp only [lt_end, cond_false]
      · rw [walkN_g n _ _ hk.1 (by omega) (by simp; omega), Option.bind_some, walkN_g n _ _ hk.2 (by omega) (by simp; omega), Option.bind_some]
        rw [flSs_append, fm_app]
        simp only [flSs, List.append_nil, fm_one, List.append_assoc]
    · simp only [lt_end, cond_false]
    · rfl
theorem walkN_eq {l : List TApiStmt} {m : TTreeBagString} (hb : szSs l ≤ 1048576) (hm : m.gL.length + szSs l ≤ 1048576) : tree_walk_r l m = some ⟨m.gL ++ fm (colS false) (flSs l)⟩ := tree_walk_r_of l m (hSs l) (walkN_g _ l m (Nat.le_refl _) hb hm)
theorem walk0_g : ∀ (n : Nat) (e : TApiExpr), dpE e ≤ n → szE e ≤ 1048576 → tree_walk_12_g n e = some ()
  | 0, e, h, _ => by rw [dpE_eq] at h; omega
  | n + 1, e, h, hb => by
    show tree_walk_12_b (tree_walk_12_g n) e = _
    unfold tree_walk_12_b
    have hs := szE_eq e
    have hl := szEs_len e.gKids
    rw [show tree_Calls_2 e = some () from rfl, Option.bind_some]
    refine loop_list e.gKids (fun pre => ()) (fun a n => (n : Int)) (fun a => a) rfl (fun pre x post hp => ?_) ?_ ?_
    · have hk := kids_mem (pre_mem hp)
      simp only [lt_pre hp, cond_true]
      rw [inc_pre hp (by omega), idx_pre2 hp rfl, Option.bind_some, walk0_g n x (by omega) (by omega)]; rfl
    · simp only [lt_end, cond_false]
    · rfl
theorem walk0_eq {e : TApiExpr} (hb : szE e ≤ 1048576) : tree_walk_12 e = some () := tree_walk_12_of e (dpE e) (walk0_g _ e (Nat.le_refl _) hb)
theorem walkC_g : ∀ (n : Nat) (l : List TApiStmt) (m : TTreeBagString), hSs l ≤ n → szSs l ≤ 1048576 → m.gL.length + szSs l ≤ 1048576 → tree_walk_r2_g n l m = some ⟨m.gL ++ fm (colS true) (flSs l)⟩
  | 0, l, m, h, _, _ => by have := hSs_pos l; omega
  | n + 1, l, m, h, hb, hm => by
    show tree_walk_r2_b (tree_walk_r2_g n) l m = _
    unfold tree_walk_r2_b
    have hl := szSs_len l
    refine loop_list l (fun pre => m.gL ++ fm (colS true) (flSs pre)) (fun a n => ((n : Nat), a)) (fun a => a) (by simp [flSs, fm]) (fun pre x post hp => ?_) ?_ ?_
    · have hx := pre_mem hp
      have hk := fuel h hx
      have hsp := szSs_pre hp
      have hsx := szS_eq x
      have hel := szEs_len x.gExps
      have l1 := colS_fl true pre
      have l2 := colS_fl true x.gKids
      have l5 := nmS_len true x
      simp only [lt_pre hp, cond_true]
      rw [inc_pre hp (by omega)]
      rw [idx_pre2 hp rfl, Option.bind_some, calls1_eq (by simp; omega), Option.bind_some]
      have h0 : fm (nmX true) (allEs x.gExps) = [] := by simp [fm, nmX]
      refine loop_list x.gExps (fun q => ()) (fun a n => (n : Int)) (fun a => a) rfl (fun q y post2 hq => ?_) ?_ ?_
      · have hy := szEs_pre hq
        simp only [lt_pre hq, cond_true]
        rw [inc_pre hq (by omega)]
        rw [idx_pre2 hq rfl, Option.bind_some, walk0_eq (by omega)]; rfl
      · simp only [lt_end, cond_false]
      · rw [walkC_g n _ _ hk.1 (by omega) (by simp; omega), Option.bind_some, walkC_g n _ _ hk.2 (by omega) (by simp; omega), Option.bind_some]
        rw [flSs_append, fm_app]
        simp only [flSs, List.append_nil, fm_one, List.append_assoc, h0, List.nil_append]
    · simp only [lt_end, cond_false]
    · rfl
theorem walkC_eq {l : List TApiStmt} {m : TTreeBagString} (hb : szSs l ≤ 1048576) (hm : m.gL.length + szSs l ≤ 1048576) : tree_walk_r2 l m = some ⟨m.gL ++ fm (colS true) (flSs l)⟩ := tree_walk_r2_of l m (hSs l) (walkC_g _ l m (Nat.le_refl _) hb hm)
theorem col_mem (c : Bool) (l : List TApiStmt) (x : ByteArray) : x ∈ fm (colS c) l ↔ x ∈ fm (nmS c) l ++ fm (nmX c) (exOf l) := by
  simp only [fm, colS, exOf, List.mem_append, List.mem_flatMap]
  constructor
  · rintro ⟨s, hs, h | ⟨e, he, h⟩⟩
    · exact .inl ⟨s, hs, h⟩
    · exact .inr ⟨e, ⟨s, hs, he⟩, h⟩
  · rintro (⟨s, hs, h⟩ | ⟨e, ⟨s, hs, he⟩, h⟩)
    · exact ⟨s, hs, .inl h⟩
    · exact ⟨s, hs, .inr ⟨e, he, h⟩⟩
theorem sortB_len (l : List ByteArray) : (sortB l).length = l.length := by
  unfold sortB; rw [List.length_map, List.length_mergeSort, List.length_map]
theorem col_all {c : Bool} {l : List TApiStmt} (hb : szSs l ≤ 1048576) : tree_bag_string_all ⟨fm (colS c) (flSs l)⟩ = some (insA ltB (namesOf c l), ⟨[]⟩) := by
  have h1 := colS_fl c l
  unfold tree_bag_string_all
  rw [need_bind (by simp [len62B]; omega), need_bind (by simp [len62B, sortB_len]; omega)]
  have h2 := insB_all (namesOf c l)
  rw [compactB_of h2.1 fun x => (h2.2.1 x).trans (col_mem c (flSs l) x).symm]
theorem names_eq {l : List TApiStmt} (hb : szSs l ≤ 1048576) : tree_Names l = some (insA ltB (namesOf false l)) := by
  unfold tree_Names
  rw [walkN_eq hb (by simpa using hb), Option.bind_some]
  simp only [List.nil_append]
  rw [col_all hb]; rfl
theorem calls_eq {l : List TApiStmt} (hb : szSs l ≤ 1048576) : tree_Calls l = some (insA ltB (namesOf true l)) := by
  unfold tree_Calls
  rw [walkC_eq hb (by simpa using hb), Option.bind_some]
  simp only [List.nil_append]
  rw [col_all hb]; rfl
/-! ### Numbers -/
theorem rnums_eq {l : List TApiStmt} (hb : szSs l ≤ 1048576) : r11_Nums l = some (insA ltI (nmsOf (exOf (flSs l)))) := by
  unfold r11_Nums
  rw [exprs_eq hb, Option.bind_some]
  have hf := szSs_fl l
  generalize exOf (flSs l) = m at hf
  refine loop_list m (fun pre => insA ltI (nmsOf pre)) (fun a n => (a, (n : Nat))) (fun a => a) (by simp [nmsOf, insA]) (fun p x q hp => ?_) ?_ ?_
  · have hlp := congrArg List.length hp
    simp only [List.length_append, List.length_cons] at hlp
    have hl := nmsOf_len p
    have hi := (insI_all (nmsOf p)).2.2
    simp only [lt_pre hp, cond_true, idx_pre2 hp rfl, Option.bind_some]
    rw [inc_pre hp (by omega), nmsOf_append, show nmsOf [x] = nmE x by simp [nmsOf]]
    unfold nmE
    by_cases h : x.gOp = 1
    · rw [show (x.gOp != (1 : Int)) = false by simp [h], cond_false, if_pos h, insA_snoc]
      generalize insA ltI (nmsOf p) = acc0 at hi ⊢
      refine loop_list acc0 (fun pre => pre.foldl (insS ltI x.gN) ([], false)) (fun a n => (a.1, a.2, (n : Int))) (fun a => a) (by simp) (fun pre y post hq => ?_) ?_ ?_
      · have hlq := congrArg List.length hq
        simp only [List.length_append, List.length_cons] at hlq
        have hz := insS_len ltI x.gN pre ([], false)
        rw [List.foldl_append, List.foldl_cons, List.foldl_nil]
        generalize pre.foldl (insS ltI x.gN) ([], false) = s at hz ⊢
        obtain ⟨acc, put⟩ := s
        simp only [List.length_nil] at hz
        simp only [lt_pre hq, cond_true, idx_pre2 hq rfl, Option.bind_some]
        rw [inc_pre hq (by omega)]
        cases put
        · simp only [Bool.not_false, cond_true]
          by_cases h1 : x.gN < y
          · have hle : x.gN ≤ y := by omega
            have hne : ¬ x.gN = y := by omega
            rw [decide_eq_true h1, decide_eq_true hle, cond_true, cond_true, app_len (by omega) (by simp; omega), Option.bind_some, Option.bind_some, Option.bind_some]
            simp only []
            rw [app_len (by omega) (by simp; omega), Option.bind_some]
            simp [insS, ltI, h1]
          · rw [decide_eq_false h1]
            by_cases h2 : x.gN = y
            · have hle : x.gN ≤ y := by omega
              rw [decide_eq_true hle, cond_true, cond_false, Option.bind_some, Option.bind_some]
              simp only []
              rw [app_len (by omega) (by simp; omega), Option.bind_some]
              simp [insS, ltI, h2]
            · have hle : ¬ x.gN ≤ y := by omega
              rw [decide_eq_false hle, cond_false, Option.bind_some]
              simp only []
              rw [app_len (by omega) (by simp; omega), Option.bind_some]
              simp [insS, ltI, h1, h2]
        · simp only [Bool.not_true, cond_false]
          rw [app_len (by omega) (by simp; omega), Option.bind_some]
          simp [insS]
      · simp only [lt_end, cond_false]
      · have hz := insS_len ltI x.gN acc0 ([], false)
        have h := insS_no ltI (fun a => by simp [ltI]) x.gN acc0 []
        generalize acc0.foldl (insS ltI x.gN) ([], false) = s at hz h ⊢
        obtain ⟨acc, put⟩ := s
        simp only [List.length_nil] at hz
        cases put
        · simp only [Bool.not_false, cond_true]
          rw [app_len (by omega) (by simp; omega), Option.bind_some, Option.bind_some]
          simp only [List.nil_append] at h
          rw [← h]; rfl
        · simp only [Bool.not_true, cond_false, Option.bind_some]
          simp only [List.nil_append] at h
          rw [← h]; rfl
    · rw [show (x.gOp != (1 : Int)) = true by simp [h], cond_true, if_neg h, List.append_nil]
  · simp only [lt_end, cond_false]
  · rfl
theorem nums_ins {l : List TApiStmt} (hb : szSs l ≤ 1048576) : tree_Nums l = some (insA ltI (nmsOf (exOf (flSs l)))) := by
  rw [nums_eq hb]
  have h := insI_all (nmsOf (exOf (flSs l)))
  rw [compactI_of h.1 h.2.1]
theorem texts_refl {l : List ByteArray} (hb : l.length ≤ 1048576) : r11_Texts l l = some true := by
  unfold r11_Texts
  rw [pairs (fun a b => decide (a = b)) l l (fun p x q p' y q' e e' hp => ?_) ?_, all2_refl fun x _ => by simp]
  · rw [lt_end, cond_false]
  · obtain rfl : x = y := Option.some.inj ((idx_pre2 e rfl).symm.trans (idx_pre2 e' hp))
    rw [lt_pre e, cond_true, idx_pre2 e rfl, Option.bind_some, Option.bind_some, inc_pre e (by omega)]; simp
theorem ints_refl {l : List Int} (hb : l.length ≤ 1048576) : r11_Ints l l = some true := by
  unfold r11_Ints
  rw [pairs (fun a b => a == b) l l (fun p x q p' y q' e e' hp => ?_) ?_, all2_refl fun x _ => by simp]
  · rw [lt_end, cond_false]
  · obtain rfl : x = y := Option.some.inj ((idx_pre2 e rfl).symm.trans (idx_pre2 e' hp))
    rw [lt_pre e, cond_true, idx_pre2 e rfl, Option.bind_some, Option.bind_some, inc_pre e (by omega)]; simp
theorem namesOf_len (c : Bool) (l : List TApiStmt) : (namesOf c l).length ≤ szSs l := by
  have h1 := fm_len (nmS_len c) (flSs l)
  have h2 := fm_len (nmX_len c) (exOf (flSs l))
  have h3 := szSs_fl l
  unfold namesOf
  rw [List.length_append]; omega
theorem names_law {l : List TApiStmt} (hb : szSs l ≤ 1048576) : l11_TreeNames l = some true := by
  have h1 := (insB_all (namesOf false l)).2.2
  have h2 := namesOf_len false l
  have h3 := (insB_all (namesOf true l)).2.2
  have h4 := namesOf_len true l
  have h5 := (insI_all (nmsOf (exOf (flSs l)))).2.2
  have h6 := nmsOf_len (exOf (flSs l))
  have h7 := szSs_fl l
  unfold l11_TreeNames
  rw [names_eq hb, Option.bind_some, rnames_eq hb, Option.bind_some, texts_refl (by omega), Option.bind_some, cond_true, calls_eq hb, Option.bind_some, rnames_eq hb, Option.bind_some, texts_refl (by omega), Option.bind_some, cond_true, nums_ins hb, Option.bind_some, rnums_eq hb, Option.bind_some, ints_refl (by omega), Option.bind_some, cond_true, lives11]
  rfl
end Go.Proofs.Ytphpnbdfngdinaa.Ab
