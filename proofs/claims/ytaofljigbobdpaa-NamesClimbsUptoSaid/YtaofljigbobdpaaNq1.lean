/- Layer 7: sets of names, plainly; its laws. -/
import Derived.Test.YtaofljigbobdpaaNm1b
import Derived.Test.YtaofljigbobdpaaLi1
namespace Go.Proofs.Ytaofljigbobdpaa.Ab
open Go
set_option linter.all false
/-! ### Lists -/
theorem loop_any {β τ : Type} {l : List β} {f : Int → Option (Step Int (Unit ⊕ τ))} (t : β → Bool) (r : Nat → τ)
    (h1 : ∀ p x q, l = p ++ x :: q → f (p.length : Int) = some (bif t x then .done (.inr (r p.length)) else .next ((p.length + 1 : Nat) : Int)))
    (h2 : f (l.length : Int) = some (.done (.inl ()))) : (l.any t = false ∧ loopM f (0 : Int) = some (.inl ())) ∨ (l.any t = true ∧ ∃ j, j < l.length ∧ loopM f (0 : Int) = some (.inr (r j))) := by
  have key : ∀ (q p : List β), l = p ++ q → (q.any t = false ∧ loopM f (p.length : Int) = some (.inl ())) ∨ (q.any t = true ∧ ∃ j, j < l.length ∧ loopM f (p.length : Int) = some (.inr (r j))) := by
    intro q
    induction q with
    | nil =>
      intro p e
      rw [List.append_nil] at e; subst e
      exact .inl ⟨rfl, loopM_done h2⟩
    | cons x q ih =>
      intro p e
      have h := h1 p x q e
      cases ht : t x
      · rw [ht, cond_false] at h
        have := ih (p ++ [x]) (by simp [e])
        rw [loopM_next h]
        simp only [List.length_append, List.length_cons, List.length_nil, Nat.zero_add, List.any_cons, ht, Bool.false_or] at this ⊢
        exact this
      · rw [ht, cond_true] at h
        refine .inr ⟨by simp [ht], p.length, by subst e; simp, loopM_done h⟩
  exact key l [] rfl
theorem any_list {β τ ρ : Type} {f : Int → Option (Step Int (Unit ⊕ τ))} {k : Unit ⊕ τ → Option ρ} {R : Option ρ} (l : List β) (t : β → Bool) (r : Nat → τ)
    (h1 : ∀ p x q, l = p ++ x :: q → f (p.length : Int) = some (bif t x then .done (.inr (r p.length)) else .next ((p.length + 1 : Nat) : Int)))
    (h2 : f (l.length : Int) = some (.done (.inl ()))) (k0 : l.any t = false → k (.inl ()) = R) (k1 : ∀ j, j < l.length → l.any t = true → k (.inr (r j)) = R) : Option.bind (loopM f (0 : Int)) k = R := by
  rcases loop_any t r h1 h2 with ⟨a, b⟩ | ⟨a, j, hj, b⟩
  · rw [b]; exact k0 a
  · rw [b]; exact k1 j hj a
def hs (l : List ByteArray) (x : ByteArray) : Bool := l.any fun y => decide (y = x)
theorem hs_iff (l : List ByteArray) (x : ByteArray) : hs l x = true ↔ x ∈ l := by unfold hs; simp
theorem any_hs' (l : List ByteArray) (x : ByteArray) : (l.any fun y => decide (x = y)) = hs l x := by
  unfold hs; congr 1; funext y; rw [Bool.eq_iff_iff, decide_eq_true_iff, decide_eq_true_iff]; exact eq_comm
theorem contains_eq {l : List ByteArray} {x : ByteArray} (hb : l.length ≤ 4000000) : slices_Contains_string_string l x = some (hs l x) := by
  unfold slices_Contains_string_string
  unfold slices_Index_string_string
  rw [Option.bind_assoc]
  refine any_list l (fun y => decide (x = y)) (fun j => (j : Int)) (fun p y q e => ?_) (by rw [lt_end, cond_false]) (fun h => ?_) (fun j _ h => ?_)
  · rw [lt_pre e, cond_true, idx_pre2 e rfl, Option.bind_some, inc_pre e (by omega)]
    cases decide (x = y) <;> rfl
  · rw [any_hs'] at h; rw [h]; rfl
  · rw [any_hs'] at h; rw [h]; simp
theorem in_eq {l : List ByteArray} {x : ByteArray} (hb : l.length ≤ 4000000) : r07_In l x = some (hs l x) := by
  unfold r07_In
  refine any_list l (fun y => decide (y = x)) (fun _ => true) (fun p y q e => ?_) (by rw [lt_end, cond_false]) (fun h => ?_) (fun j _ h => ?_)
  · rw [lt_pre e, cond_true, idx_pre2 e rfl, Option.bind_some, inc_pre e (by omega)]
    cases decide (y = x) <;> rfl
  · unfold hs; rw [h]; rfl
  · unfold hs; rw [h]; rfl
def cl (l : List ByteArray) : List ByteArray := insA ltB l
theorem cl_rise (l : List ByteArray) : Rise leS (cl l) := (insB_all l).1
theorem cl_mem (l : List ByteArray) (x : ByteArray) : x ∈ cl l ↔ x ∈ l := (insB_all l).2.1 x
theorem cl_len (l : List ByteArray) : (cl l).length ≤ l.length := (insB_all l).2.2
theorem leS_anti (a b : ByteArray) (h : leS a b) (k : leS b a) : a = b := lsOf_inj (List.le_antisymm h k)
theorem cl_eq {l m : List ByteArray} (h : ∀ x, x ∈ l ↔ x ∈ m) : cl l = cl m :=
  rise_unique leS_anti (cl_rise l) (cl_rise m) fun x => by rw [cl_mem, cl_mem]; exact h x
theorem cl_nil {l : List ByteArray} : (cl l).length = 0 ↔ l = [] := by
  constructor
  · intro h
    have h0 := List.eq_nil_of_length_eq_zero h
    cases l with
    | nil => rfl
    | cons x l =>
      have := (cl_mem (x :: l) x).2 (by simp)
      rw [h0] at this; cases this
  · rintro rfl; rfl
theorem sortB_len (l : List ByteArray) : (sortB l).length = l.length := by
  unfold sortB; rw [List.length_map, List.length_mergeSort, List.length_map]
theorem of_eq {n : Bool} {l : List ByteArray} (hb : l.length ≤ 4000000) : names_Of n l = some ⟨n, cl l⟩ := by
  unfold names_Of slices_Clone_string_string
  have hc : compactB (sortB l) = cl l := compactB_of (cl_rise l) (cl_mem l)
  rw [app_len (by omega) (by simp; omega), List.append_nil, Option.bind_some, need_bind (by simp [len62B]; omega), need_bind (by simp [len62B, sortB_len]; omega), hc]
  have : cutL (cl l) (0 : Int) ((cl l).length : Int) = some (cl l) := by
    have := cutL_nat (xs := cl l) (l := 0) (h := (cl l).length) (by omega) (by omega)
    simpa using this
  rw [this]; rfl
theorem put_eq {l : List ByteArray} {w : ByteArray} (hb : l.length ≤ 4000000) : r07_Put l w = some (insT ltB w l) := by
  unfold r07_Put
  refine loop_list l (fun pre => pre.foldl (insS ltB w) ([], false)) (fun a n => (a.1, a.2, (n : Int))) (fun a => a) (by simp) (fun pre x post hp => ?_) ?_ ?_
  · have hlp := congrArg List.length hp
    simp only [List.length_append, List.length_cons] at hlp
    have hz := insS_len ltB w pre ([], false)
    rw [List.foldl_append, List.foldl_cons, List.foldl_nil]
    generalize pre.foldl (insS ltB w) ([], false) = s at hz ⊢
    obtain ⟨acc, put⟩ := s
    simp only [List.length_nil] at hz
    simp only [lt_pre hp, cond_true, idx_pre2 hp rfl, Option.bind_some]
    rw [inc_pre hp (by omega)]
    have hq : (w.toList == x.toList) = decide (w = x) := by
      rw [ByteArray.toList_eq, ByteArray.toList_eq, Bool.eq_iff_iff, beq_iff_eq, decide_eq_true_iff]
      exact ⟨fun h => lsOf_inj h, fun h => by rw [h]⟩
    rw [hq]
    cases put
    · simp only [Bool.not_false, cond_true]
      cases h1 : ltB w x
      · by_cases h2 : w = x
        · subst h2
          simp only [decide_true, Bool.or_true, cond_true, cond_false, Option.bind_some]
          rw [app_len (by omega) (by simp; omega), Option.bind_some]
          simp [insS, ltB_irr]
        · simp only [decide_eq_false h2, Bool.or_false, cond_false, Option.bind_some]
          rw [app_len (by omega) (by simp; omega), Option.bind_some]
          simp [insS, h1, h2]
      · simp only [Bool.true_or, cond_true]
        rw [app_len (by omega) (by simp; omega), Option.bind_some, Option.bind_some, Option.bind_some]
        simp only []
        rw [app_len (by omega) (by simp; omega), Option.bind_some]
        simp [insS, h1]
    · simp only [Bool.not_true, cond_false]
      rw [app_len (by omega) (by simp; omega), Option.bind_some]
      simp [insS]
  · simp only [lt_end, cond_false]
  · have hz := insS_len ltB w l ([], false)
    have h := insS_no ltB ltB_irr w l []
    generalize l.foldl (insS ltB w) ([], false) = s at hz h ⊢
    obtain ⟨acc, put⟩ := s
    simp only [List.length_nil] at hz
    cases put
    · simp only [Bool.not_false, cond_true]
      rw [app_len (by omega) (by simp; omega), Option.bind_some]
      simpa using h
    · simp only [Bool.not_true, cond_false]
      simpa using h
theorem clean_eq {a : TApiSet} (hb : a.gNames.length ≤ 4000000) : r07_Clean a = some ⟨a.gNull, cl a.gNames⟩ := by
  unfold r07_Clean
  refine loop_list a.gNames (fun pre => cl pre) (fun a n => (a, (n : Nat))) (fun a => a) (by simp [cl, insA]) (fun p x q hp => ?_) ?_ ?_
  · have hlp := congrArg List.length hp
    simp only [List.length_append, List.length_cons] at hlp
    have := cl_len p
    simp only [lt_pre hp, cond_true]
    rw [idx_pre2 hp rfl, Option.bind_some, put_eq (by omega), Option.bind_some, inc_pre hp (by omega), cl, cl, insA_snoc]
  · simp only [lt_end, cond_false]
  · rfl
def b2n (b : Bool) : Nat := bif b then 1 else 0
theorem rlen_eq {a : TApiSet} (hb : a.gNames.length ≤ 4000000) : r07_Len a = some (((cl a.gNames).length + b2n a.gNull : Nat) : Int) := by
  unfold r07_Len
  have := cl_len a.gNames
  rw [clean_eq hb, Option.bind_some]
  cases a.gNull
  · simp [b2n]
  · simp only [cond_true, b2n]; rw [wrap_id (by omega) (by omega)]; simp
theorem nclean_eq {a : TApiSet} (hb : a.gNames.length ≤ 4000000) : names_Clean a = some ⟨a.gNull, cl a.gNames⟩ := by
  unfold names_Clean; rw [of_eq hb]; rfl
theorem nlen_eq {a : TApiSet} (hb : a.gNames.length ≤ 4000000) : names_Len a = some (((cl a.gNames).length + b2n a.gNull : Nat) : Int) := by
  unfold names_Len
  have := cl_len a.gNames
  rw [nclean_eq hb, Option.bind_some]
  cases a.gNull
  · simp [b2n]
  · simp only [cond_true, b2n]; rw [wrap_id (by omega) (by omega)]; simp
theorem flatten_pre {l p : List (List ByteArray)} {x : List ByteArray} {q : List (List ByteArray)} (h : l = p ++ x :: q) : p.flatten.length + x.length ≤ l.flatten.length := by
  subst h; simp
theorem concat_eq {l : List (List ByteArray)} (hl : l.length ≤ 4000000) (hb : l.flatten.length ≤ 4000000) : slices_Concat_string_string l = some l.flatten := by
  unfold slices_Concat_string_string
  refine loop_list l (fun pre => pre.flatten.length) (fun a n => ((a : Int), (n : Int))) (fun a => (a : Int)) (by simp) (fun p x q hp => ?_) ?_ ?_
  · have := flatten_pre hp
    simp only [lt_pre hp, cond_true]
    rw [idx_pre2 hp rfl, Option.bind_some, inc_pre hp (by omega), wrap_id (by omega) (by omega), decide_eq_false (by omega), cond_false]
    simp
  · simp only [lt_end, cond_false]
  · rw [need_bind (by unfold growPre; rw [Bool.and_eq_true, decide_eq_true_iff, decide_eq_true_iff]; omega)]
    refine loop_list l (fun pre => pre.flatten) (fun a n => ((n : Int), a)) (fun a => a) (by simp [growF]) (fun p x q hp => ?_) ?_ ?_
    · have := flatten_pre hp
      simp only [lt_pre hp, cond_true]
      rw [idx_pre2 hp rfl, Option.bind_some, inc_pre hp (by omega), app_len (by omega) (by omega), Option.bind_some]
      simp
    · simp only [lt_end, cond_false]
    · rfl
def jn (a b : TApiSet) : TApiSet := ⟨a.gNull || b.gNull, cl (a.gNames ++ b.gNames)⟩
theorem join_eq {a b : TApiSet} (hb : a.gNames.length + b.gNames.length ≤ 4000000) : names_Join a b = some (jn a b) := by
  unfold names_Join jn
  rw [concat_eq (by simp) (by simpa using hb)]
  simp only [Option.bind_some, List.flatten_cons, List.flatten_nil, List.append_nil]
  rw [of_eq (by simpa using hb), of_eq (by simpa using hb)]
  cases a.gNull <;> rfl
theorem rjoin_eq {a b : TApiSet} (hb : a.gNames.length + b.gNames.length ≤ 4000000) : r07_Join a b = some (jn a b) := by
  unfold r07_Join jn
  rw [app_len (by omega) (by simp; omega), Option.bind_some, app_len (by omega) (by simp; omega), Option.bind_some, List.nil_append]
  rw [clean_eq (by simpa using hb), clean_eq (by simpa using hb)]
  cases a.gNull <;> rfl
def mt (a b : TApiSet) : TApiSet := ⟨a.gNull && b.gNull, cl (a.gNames.filter (hs b.gNames))⟩
theorem meet_eq {a b : TApiSet} (ha : a.gNames.length ≤ 4000000) (hb : b.gNames.length ≤ 4000000) : names_Meet a b = some (mt a b) := by
  unfold names_Meet
  have hf := List.length_filter_le (hs b.gNames) a.gNames
  refine loop_list a.gNames (fun pre => pre.filter (hs b.gNames)) (fun a n => (a, (n : Nat))) (fun a => a) (by simp) (fun p x q hp => ?_) ?_ ?_
  · have hlp := congrArg List.length hp
    simp only [List.length_append, List.length_cons] at hlp
    have := List.length_filter_le (hs b.gNames) p
    simp only [lt_pre hp, cond_true]
    rw [idx_pre2 hp rfl, Option.bind_some, contains_eq hb, Option.bind_some, inc_pre hp (by omega), app_len (by omega) (by simp; omega), List.filter_append]
    cases h : hs b.gNames x <;> simp [h]
  · simp only [lt_end, cond_false]
  · rw [of_eq (by omega), of_eq (by omega)]
    unfold mt
    cases a.gNull <;> rfl
theorem rmeet_eq {a b : TApiSet} (ha : a.gNames.length ≤ 4000000) (hb : b.gNames.length ≤ 4000000) : r07_Meet a b = some (mt a b) := by
  unfold r07_Meet
  have hf := List.length_filter_le (hs b.gNames) a.gNames
  refine loop_list a.gNames (fun pre => pre.filter (hs b.gNames)) (fun a n => (a, (n : Nat))) (fun a => a) (by simp) (fun p x q hp => ?_) ?_ ?_
  · have hlp := congrArg List.length hp
    simp only [List.length_append, List.length_cons] at hlp
    have := List.length_filter_le (hs b.gNames) p
    simp only [lt_pre hp, cond_true, idx_pre2 hp rfl, Option.bind_some]
    rw [in_eq hb, Option.bind_some, inc_pre hp (by omega), app_len (by omega) (by simp; omega), List.filter_append]
    cases h : hs b.gNames x <;> simp [h]
  · simp only [lt_end, cond_false]
  · rw [clean_eq (by simp only []; omega), clean_eq (by simp only []; omega)]
    unfold mt
    cases a.gNull <;> rfl
def lq (a b : TApiSet) : Bool := (!a.gNull || b.gNull) && a.gNames.all (hs b.gNames)
theorem lq_iff (a b : TApiSet) : lq a b = true ↔ (a.gNull = true → b.gNull = true) ∧ ∀ x ∈ a.gNames, x ∈ b.gNames := by
  unfold lq
  cases a.gNull <;> cases b.gNull <;> simp [hs_iff]
theorem all_list {ρ : Type} {f : Int → Option (Step Int (Unit ⊕ Bool))} {k : Unit ⊕ Bool → Option ρ} {R : Option ρ} (l m : List ByteArray)
    (h1 : ∀ p x q, l = p ++ x :: q → f (p.length : Int) = some (bif !hs m x then .done (.inr false) else .next ((p.length + 1 : Nat) : Int)))
    (h2 : f (l.length : Int) = some (.done (.inl ()))) (k0 : l.all (hs m) = true → k (.inl ()) = R) (k1 : l.all (hs m) = false → k (.inr false) = R) : Option.bind (loopM f (0 : Int)) k = R := by
  have e : l.all (hs m) = !l.any (fun x => !hs m x) := by simp [List.all_eq_not_any_not]
  refine any_list l (fun x => !hs m x) (fun _ => false) h1 h2 (fun h => k0 (by rw [e, h]; rfl)) (fun _ _ h => k1 (by rw [e, h]; rfl))
theorem leq_eq {a b : TApiSet} (ha : a.gNames.length ≤ 4000000) (hb : b.gNames.length ≤ 4000000) : names_Leq a b = some (lq a b) := by
  have h : Option.bind (α := (Unit) ⊕ (Bool)) (loopM (fun (s26 : Int) => (bif (decide (s26 < (a.gNames.length : Int))) then ((idx a.gNames s26).bind fun x38 => ((slices_Contains_string_string b.gNames x38).bind fun x39 => (bif (!x39) then some (.done (.inr false)) else some (.next (IntKind.i64.wrap (s26 + (1 : Int))))))) else some (.done (.inl ())))) (0 : Int)) (Sum.elim (fun y25 => some true) (fun r => some r)) = some (a.gNames.all (hs b.gNames)) := by
    refine all_list a.gNames b.gNames (fun p x q e => ?_) (by rw [lt_end, cond_false]) (fun h => by rw [h]; rfl) (fun h => by rw [h]; rfl)
    rw [lt_pre e, cond_true, idx_pre2 e rfl, Option.bind_some, contains_eq hb, Option.bind_some, inc_pre e (by omega)]
    cases hs b.gNames x <;> rfl
  unfold names_Leq lq
  rw [h]
  cases a.gNull <;> cases b.gNull <;> cases a.gNames.all (hs b.gNames) <;> rfl
theorem rleq_eq {a b : TApiSet} (ha : a.gNames.length ≤ 4000000) (hb : b.gNames.length ≤ 4000000) : r07_Leq a b = some (lq a b) := by
  unfold r07_Leq lq
  refine all_list a.gNames b.gNames (fun p x q e => ?_) (by rw [lt_end, cond_false]) (fun h => ?_) (fun h => ?_)
  · rw [lt_pre e, cond_true, idx_pre2 e rfl, Option.bind_some, in_eq hb, Option.bind_some, inc_pre e (by omega)]
    cases hs b.gNames x <;> rfl
  · rw [h]; cases a.gNull <;> cases b.gNull <;> rfl
  · rw [h]; cases a.gNull <;> cases b.gNull <;> rfl
def sm (a b : TApiSet) : Bool := lq a b && lq b a
theorem same_eq {a b : TApiSet} (ha : a.gNames.length ≤ 4000000) (hb : b.gNames.length ≤ 4000000) : names_Same a b = some (sm a b) := by
  unfold names_Same sm
  rw [leq_eq ha hb, leq_eq hb ha]
  cases lq a b <;> cases lq b a <;> rfl
theorem all2_eq : ∀ l m : List ByteArray, all2 (fun x y => decide (x = y)) l m = decide (l = m)
  | [], [] => rfl
  | [], _ :: _ => by simp [all2]
  | _ :: _, [] => by simp [all2]
  | x :: l, y :: m => by
    show (decide (x = y) && all2 _ l m) = _
    rw [all2_eq l m, Bool.eq_iff_iff]; simp
theorem exact_eq {a b : TApiSet} (hb : a.gNames.length ≤ 4000000) : r07_Exact a b = some (a.gNull == b.gNull && decide (a.gNames = b.gNames)) := by
  unfold r07_Exact
  rw [← all2_eq]
  have h := pairs (fun x y => decide (x = y)) a.gNames b.gNames (f := fun (s26 : Int) => (bif (decide (s26 < (a.gNames.length : Int))) then ((idx a.gNames s26).bind fun x38 => ((idx b.gNames s26).bind fun x39 => (bif (!decide (x38 = x39)) then some (.done (.inr false)) else some (.next (IntKind.i64.wrap (s26 + (1 : Int))))))) else some (.done (.inl ())))) (fun p x q p' y q' e e' hp => by
    rw [lt_pre e, cond_true, idx_pre2 e rfl, Option.bind_some, idx_pre2 e' hp, Option.bind_some, inc_pre e (by omega)]
    cases decide (x = y) <;> rfl) (by rw [lt_end, cond_false])
  cases hn : (a.gNull == b.gNull)
  · rfl
  · simp only [Bool.not_true, cond_false, Option.bind_some, Bool.true_and]
    exact h
theorem exact_refl {a : TApiSet} (hb : a.gNames.length ≤ 4000000) : r07_Exact a a = some true := by
  rw [exact_eq hb]; simp
theorem sm_iff (a b : TApiSet) : sm a b = true ↔ a.gNull = b.gNull ∧ ∀ x, x ∈ a.gNames ↔ x ∈ b.gNames := by
  unfold sm
  rw [Bool.and_eq_true, lq_iff, lq_iff]
  constructor
  · rintro ⟨⟨h1, h2⟩, h3, h4⟩
    refine ⟨?_, fun x => ⟨h2 x, h4 x⟩⟩
    cases h : a.gNull <;> cases k : b.gNull <;> simp_all
  · rintro ⟨h1, h2⟩
    exact ⟨⟨fun h => h1 ▸ h, fun x => (h2 x).1⟩, fun h => h1 ▸ h, fun x => (h2 x).2⟩
theorem sm_cl (a b : TApiSet) : (a.gNull == b.gNull && decide (cl a.gNames = cl b.gNames)) = sm a b := by
  rw [Bool.eq_iff_iff, sm_iff, Bool.and_eq_true, beq_iff_eq, decide_eq_true_iff]
  constructor
  · rintro ⟨h1, h2⟩
    exact ⟨h1, fun x => by rw [← cl_mem a.gNames, h2, cl_mem]⟩
  · rintro ⟨h1, h2⟩
    exact ⟨h1, cl_eq h2⟩
theorem jn_len (a b : TApiSet) : (jn a b).gNames.length ≤ a.gNames.length + b.gNames.length := by
  have := cl_len (a.gNames ++ b.gNames)
  rwa [List.length_append] at this
theorem lives07 : l07_lives = some true := by
  unfold l07_lives
  rw [of_eq (by decide), Option.bind_some, join_eq (by decide), Option.bind_some, nlen_eq (by
    have h1 := jn_len (⟨true, [ByteArray.mk #[97]]⟩ : TApiSet) ⟨false, cl [ByteArray.mk #[98]]⟩
    have h2 := cl_len [ByteArray.mk #[98]]
    simp only [List.length_cons, List.length_nil] at h1 h2
    omega), Option.bind_some]
  have h : cl (jn ⟨true, [ByteArray.mk #[97]]⟩ ⟨false, cl [ByteArray.mk #[98]]⟩).gNames = [ByteArray.mk #[97], ByteArray.mk #[98]] := by
    refine rise_unique leS_anti (cl_rise _) ?_ fun x => ?_
    · unfold Rise
      simp only [List.pairwise_cons, List.mem_cons, List.not_mem_nil, or_false, forall_eq, false_imp_iff, implies_true, List.Pairwise.nil, and_true]
      exact ⟨by unfold leS lsOf; decide, by decide⟩
    · rw [cl_mem]; unfold jn; simp only []; rw [cl_mem, List.mem_append, cl_mem]; simp
  rw [h]; rfl
theorem mt_len (a b : TApiSet) : (mt a b).gNames.length ≤ a.gNames.length := Nat.le_trans (cl_len _) (List.length_filter_le _ _)
theorem sets_law {a b : TApiSet} {x : ByteArray} (ha : a.gNames.length ≤ 4000000) (hb : b.gNames.length ≤ 4000000) (hab : a.gNames.length + b.gNames.length ≤ 4000000) : l07_NamesSets a b x = some true := by
  unfold l07_NamesSets
  have hH : names_Has a x = some (bif decide (x = ByteArray.mk #[]) then a.gNull else hs a.gNames x) := by
    unfold names_Has; rw [contains_eq ha]; cases decide (x = ByteArray.mk #[]) <;> rfl
  have hR : r07_Has a x = some (bif decide (x = ByteArray.mk #[]) then a.gNull else hs a.gNames x) := by
    unfold r07_Has; rw [in_eq ha]; cases decide (x = ByteArray.mk #[]) <;> rfl
  have hN : names_None a = some ((((cl a.gNames).length + b2n a.gNull : Nat) : Int) == (0 : Int)) := by
    unfold names_None
    cases a.gNull
    · simp only [Bool.not_false, cond_true, b2n, cond_false, Nat.add_zero]
      congr 1
      rw [Bool.eq_iff_iff, beq_iff_eq, beq_iff_eq]
      have := cl_nil (l := a.gNames)
      constructor
      · intro h
        have : a.gNames = [] := List.eq_nil_of_length_eq_zero (by omega)
        rw [this]; rfl
      · intro h
        rw [this.1 (by omega)]; rfl
    · simp only [Bool.not_true, cond_false, b2n, cond_true]
      congr 1
  have hj := jn_len a b
  have hm := mt_len a b
  have hca := cl_len a.gNames
  rw [hH, Option.bind_some, hR, Option.bind_some, beq_self_eq_true, cond_true, hN, Option.bind_some, rlen_eq (by omega), Option.bind_some, beq_self_eq_true, cond_true, nlen_eq (by omega), Option.bind_some, Option.bind_some, beq_self_eq_true, cond_true, join_eq (by omega), Option.bind_some, rjoin_eq (by omega), Option.bind_some, exact_refl (by omega), Option.bind_some, cond_true, meet_eq ha hb, Option.bind_some, rmeet_eq ha hb, Option.bind_some, exact_refl (by omega), Option.bind_some, cond_true, leq_eq ha hb, Option.bind_some, rleq_eq ha hb, Option.bind_some, beq_self_eq_true, cond_true, same_eq ha hb, Option.bind_some, clean_eq (by omega), Option.bind_some, clean_eq (by omega), Option.bind_some, exact_eq (by simp only []; omega), Option.bind_some]
  simp only []
  rw [sm_cl, beq_self_eq_true, cond_true, nclean_eq (by omega), Option.bind_some, Option.bind_some, exact_refl (by simp only []; omega), Option.bind_some, cond_true, of_eq (by omega), Option.bind_some, Option.bind_some, exact_refl (by simp only []; omega), Option.bind_some, cond_true, lives07]
  rfl
theorem only_law {a b : TApiSet} {n : Bool} (ha : a.gNames.length ≤ 4000000) (hb : b.gNames.length ≤ 4000000) (hab : a.gNames.length + b.gNames.length ≤ 4000000) : l07_NamesOnly a b n = some true := by
  unfold l07_NamesOnly
  have hm := mt_len a b
  have hca := cl_len a.gNames
  have hO : names_Only a = some (bif (a.gNull || ((cl a.gNames).length : Int) != (1 : Int)) then (ByteArray.mk #[], false) else ((cl a.gNames).headD (ByteArray.mk #[]), true)) := by
    unfold names_Only
    rw [nclean_eq (by omega), Option.bind_some]
    cases a.gNull
    · simp only [cond_false, Bool.false_or, Option.bind_some]
      cases h : ((cl a.gNames).length : Int) != (1 : Int)
      · rw [bne_eq_false_iff_eq] at h
        obtain ⟨x, hx⟩ : ∃ x, cl a.gNames = [x] := List.length_eq_one_iff.1 (by omega)
        rw [hx]; rfl
      · rfl
    · rfl
  have hE : names_Equal a b = some (decide ((0 : Int) < (((cl (mt a b).gNames).length + b2n (mt a b).gNull : Nat) : Int)), decide ((0 : Int) < (((cl (mt a b).gNames).length + b2n (mt a b).gNull : Nat) : Int)) && ((((cl a.gNames).length + b2n a.gNull : Nat) : Int) == 1 && (((cl b.gNames).length + b2n b.gNull : Nat) : Int) == 1)) := by
    unfold names_Equal
    rw [meet_eq ha hb, Option.bind_some]
    have hN : names_None (mt a b) = some (!decide ((0 : Int) < (((cl (mt a b).gNames).length + b2n (mt a b).gNull : Nat) : Int))) := by
      unfold names_None
      generalize mt a b = m
      have h0 := cl_nil (l := m.gNames)
      have key : ∀ k : Nat, (k = 0 ↔ m.gNull = false ∧ m.gNames = []) → (bif (!m.gNull) then some ((m.gNames.length : Int) == (0 : Int)) else some false) = some (!decide ((0 : Int) < (k : Int))) := by
        intro k hk
        cases hn : m.gNull
        · simp only [hn, true_and] at hk
          by_cases hl : m.gNames = []
          · rw [hk.2 hl, hl]; rfl
          · have : k ≠ 0 := fun e => hl (hk.1 e)
            rw [decide_eq_true (by omega)]
            have : m.gNames.length ≠ 0 := fun e => hl (List.eq_nil_of_length_eq_zero e)
            simp; exact hl
        · have : k ≠ 0 := fun e => by have := (hk.1 e).1; rw [hn] at this; cases this
          rw [decide_eq_true (by omega)]; rfl
      refine key _ ?_
      rw [← h0]
      cases m.gNull <;> simp [b2n]
    rw [hN, Option.bind_some, nlen_eq (by omega), nlen_eq (by omega), Bool.not_not]
    simp only [Option.bind_some]
    cases decide ((0 : Int) < (((cl (mt a b).gNames).length + b2n (mt a b).gNull : Nat) : Int)) <;> cases ((((cl a.gNames).length + b2n a.gNull : Nat) : Int) == 1) <;> rfl
  have hW : names_Without a n = some ⟨a.gNull && !n, cl a.gNames⟩ := by
    unfold names_Without
    rw [of_eq (by omega), of_eq (by omega)]
    cases a.gNull <;> rfl
  rw [clean_eq (by omega), Option.bind_some, hO, Option.bind_some, hE, rmeet_eq ha hb, hW]
  simp only [Option.bind_some]
  rw [rlen_eq (a := mt a b) (by omega), rlen_eq (a := a) (by omega), rlen_eq (a := b) (by omega)]
  simp only [Option.bind_some]
  have hX : ∀ z : Bool, (Option.bind (bif a.gNull then some (!n) else some false) fun y31 => ((r07_Exact ⟨a.gNull && !n, cl a.gNames⟩ ⟨y31, cl a.gNames⟩).bind fun x34 => if x34 then some z else none)) = some z := by
    intro z
    cases a.gNull <;> cases n <;> simp [exact_refl (a := ⟨false, cl a.gNames⟩) (by simp only []; omega), exact_refl (a := ⟨true, cl a.gNames⟩) (by simp only []; omega)]
  have hxt : r07_Exact ⟨true, cl a.gNames⟩ ⟨true, cl a.gNames⟩ = some true := exact_refl (by simp only []; omega)
  have hxf : r07_Exact ⟨false, cl a.gNames⟩ ⟨false, cl a.gNames⟩ = some true := exact_refl (by simp only []; omega)
  rw [lives07]
  generalize decide ((0 : Int) < (((cl (mt a b).gNames).length + b2n (mt a b).gNull : Nat) : Int)) = both
  cases h1 : ((cl a.gNames).length : Int) != (1 : Int)
  · rw [bne_eq_false_iff_eq] at h1
    obtain ⟨x, hx⟩ : ∃ x, cl a.gNames = [x] := List.length_eq_one_iff.1 (by omega)
    rw [hx] at hxt hxf ⊢
    have hi : idx [x] (0 : Int) = some x := rfl
    cases a.gNull <;> cases n <;> cases both <;> simp [hxt, hxf, b2n, hi]
  · have h1' : (((cl a.gNames).length : Int) == (1 : Int)) = false := by simpa using h1
    cases a.gNull <;> cases n <;> cases both <;> simp [hxt, hxf, h1', b2n] <;> cases ((((cl a.gNames).length : Int) + 1) == 1) <;> simp
end Go.Proofs.Ytaofljigbobdpaa.Ab
