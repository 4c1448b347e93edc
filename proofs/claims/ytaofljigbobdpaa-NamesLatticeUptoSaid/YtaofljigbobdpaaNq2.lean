/- Layer 7: lattices; rows of sets that are joined. -/
import Derived.Test.YtaofljigbobdpaaNq1
namespace Go.Proofs.Ytaofljigbobdpaa.Ab
open Go
set_option linter.all false
theorem jn_mem (a b : TApiSet) (x : ByteArray) : x ∈ (jn a b).gNames ↔ x ∈ a.gNames ∨ x ∈ b.gNames := by
  unfold jn; simp only []; rw [cl_mem, List.mem_append]
theorem mt_mem (a b : TApiSet) (x : ByteArray) : x ∈ (mt a b).gNames ↔ x ∈ a.gNames ∧ x ∈ b.gNames := by
  unfold mt; simp only []; rw [cl_mem, List.mem_filter, hs_iff]
theorem jn_null (a b : TApiSet) : (jn a b).gNull = (a.gNull || b.gNull) := rfl
theorem mt_null (a b : TApiSet) : (mt a b).gNull = (a.gNull && b.gNull) := rfl
theorem lattice_law {a b c : TApiSet} (h : a.gNames.length + b.gNames.length + c.gNames.length ≤ 1048576) : l07_NamesLattice a b c = some true := by
  unfold l07_NamesLattice
  have hj := jn_len a b
  have hm := mt_len a b
  have hjc := jn_len b c
  have hj3 := jn_len a (jn b c)
  have hj4 := jn_len (jn a b) c
  have hm3 := mt_len a (jn b c)
  have hm4 := mt_len a c
  have hj5 := jn_len (mt a b) (mt a c)
  -- together, all that is so
  have l1 : lq a (jn a b) = true := (lq_iff _ _).2 ⟨fun h => by rw [jn_null, h]; rfl, fun x hx => (jn_mem a b x).2 (.inl hx)⟩
  have l2 : lq b (jn a b) = true := (lq_iff _ _).2 ⟨fun h => by rw [jn_null, h, Bool.or_true], fun x hx => (jn_mem a b x).2 (.inr hx)⟩
  have l3 : lq (mt a b) a = true := (lq_iff _ _).2 ⟨fun h => by rw [mt_null, Bool.and_eq_true] at h; exact h.1, fun x hx => ((mt_mem a b x).1 hx).1⟩
  have l4 : lq (mt a b) b = true := (lq_iff _ _).2 ⟨fun h => by rw [mt_null, Bool.and_eq_true] at h; exact h.2, fun x hx => ((mt_mem a b x).1 hx).2⟩
  have l5 : lq a c = true → lq b c = true → lq (jn a b) c = true := fun h k => by
    rw [lq_iff] at h k ⊢
    refine ⟨fun q => ?_, fun x hx => ?_⟩
    · rw [jn_null, Bool.or_eq_true] at q
      rcases q with q | q
      · exact h.1 q
      · exact k.1 q
    · rcases (jn_mem a b x).1 hx with q | q
      · exact h.2 x q
      · exact k.2 x q
  have l6 : lq c a = true → lq c b = true → lq c (mt a b) = true := fun h k => by
    rw [lq_iff] at h k ⊢
    refine ⟨fun q => by rw [mt_null, h.1 q, k.1 q]; rfl, fun x hx => (mt_mem a b x).2 ⟨h.2 x hx, k.2 x hx⟩⟩
  have s1 : sm (jn a (jn b c)) (jn (jn a b) c) = true := by
    rw [sm_iff]
    refine ⟨by simp only [jn_null, Bool.or_assoc], fun x => ?_⟩
    simp only [jn_mem, or_assoc]
  have s2 : sm (mt a (jn b c)) (jn (mt a b) (mt a c)) = true := by
    rw [sm_iff]
    refine ⟨by simp only [jn_null, mt_null, Bool.and_or_distrib_left], fun x => ?_⟩
    simp only [jn_mem, mt_mem, and_or_left]
  rw [join_eq (by omega), Option.bind_some, meet_eq (by omega) (by omega), Option.bind_some]
  rw [leq_eq (a := a) (b := jn a b) (by omega) (by omega), leq_eq (a := b) (b := jn a b) (by omega) (by omega), leq_eq (a := mt a b) (b := a) (by omega) (by omega), leq_eq (a := mt a b) (b := b) (by omega) (by omega), leq_eq (a := a) (b := c) (by omega) (by omega), leq_eq (a := b) (b := c) (by omega) (by omega), leq_eq (a := jn a b) (b := c) (by omega) (by omega), leq_eq (a := c) (b := a) (by omega) (by omega), leq_eq (a := c) (b := b) (by omega) (by omega), leq_eq (a := c) (b := mt a b) (by omega) (by omega)]
  rw [l1, l2, l3, l4]
  have rest : ((names_Join b c).bind fun x70 => ((names_Join a x70).bind fun x71 => ((names_Join (jn a b) c).bind fun x72 => ((names_Same x71 x72).bind fun x73 => (bif x73 then ((names_Join b c).bind fun x75 => ((names_Meet a x75).bind fun x76 => ((names_Meet a c).bind fun x77 => ((names_Join (mt a b) x77).bind fun x78 => ((names_Same x76 x78).bind fun x79 => (bif x79 then (l07_lives.bind fun x81 => some x81) else some false)))))) else some false))))) = some true := by
    rw [join_eq (by omega), Option.bind_some, join_eq (by omega), Option.bind_some, join_eq (by omega), Option.bind_some, same_eq (by omega) (by omega), Option.bind_some, s1, cond_true, Option.bind_some, meet_eq (by omega) (by omega), Option.bind_some, meet_eq (by omega) (by omega), Option.bind_some, join_eq (by omega), Option.bind_some, same_eq (by omega) (by omega), Option.bind_some, s2, cond_true, lives07]
    rfl
  rw [rest]
  generalize lq a c = p1 at l5 ⊢
  generalize lq b c = p2 at l5 ⊢
  generalize lq (jn a b) c = p3 at l5 ⊢
  generalize lq c a = p4 at l6 ⊢
  generalize lq c b = p5 at l6 ⊢
  generalize lq c (mt a b) = p6 at l6 ⊢
  cases p1 <;> cases p2 <;> cases p3 <;> cases p4 <;> cases p5 <;> cases p6 <;> simp_all
/-! ### Rows of sets -/
theorem nodup_le {α : Type} : ∀ {l m : List α}, l.Nodup → (∀ x ∈ l, x ∈ m) → l.length ≤ m.length
  | [], m, _, _ => by simp
  | x :: l, m, h, k => by
    obtain ⟨p, q, rfl⟩ := List.append_of_mem (k x (by simp))
    rw [List.nodup_cons] at h
    have := nodup_le (l := l) (m := p ++ q) h.2 fun y hy => by
      have hm := k y (List.mem_cons_of_mem _ hy)
      rw [List.mem_append, List.mem_cons] at hm
      rw [List.mem_append]
      rcases hm with hm | rfl | hm
      · exact .inl hm
      · exact absurd hy h.1
      · exact .inr hm
    simp only [List.length_append, List.length_cons] at this ⊢
    omega
theorem rise_nodup {l : List ByteArray} (h : Rise leS l) : l.Nodup := by
  unfold Rise at h
  exact h.imp fun h => h.2
def jnAll (l : List TApiSet) : TApiSet := l.foldl jn ⟨false, []⟩
theorem jnAll_snoc (l : List TApiSet) (x : TApiSet) : jnAll (l ++ [x]) = jn (jnAll l) x := by simp [jnAll]
def totN : List TApiSet → Nat
  | [] => 0
  | x :: l => x.gNames.length + totN l
theorem totN_append : ∀ l m, totN (l ++ m) = totN l + totN m
  | [], m => by simp [totN]
  | x :: l, m => by simp only [List.cons_append, totN, totN_append l m]; omega
theorem jnAll_rise (l : List TApiSet) : Rise leS (jnAll l).gNames := by
  rcases List.eq_nil_or_concat l with rfl | ⟨p, x, rfl⟩
  · simp [jnAll, Rise]
  · rw [List.concat_eq_append, jnAll_snoc]; exact cl_rise _
def cnt (s : TApiSet) : Nat := s.gNames.length + b2n s.gNull
theorem cnt_up {s x : TApiSet} (hr : Rise leS s.gNames) : cnt s ≤ cnt (jn s x) ∧ (sm (jn s x) s = false → cnt s + 1 ≤ cnt (jn s x)) := by
  have hn : b2n s.gNull ≤ b2n (jn s x).gNull := by rw [jn_null]; cases s.gNull <;> cases x.gNull <;> decide
  have hl : s.gNames.length ≤ (jn s x).gNames.length := nodup_le (rise_nodup hr) fun y hy => (jn_mem s x y).2 (.inl hy)
  refine ⟨by unfold cnt; omega, fun h => ?_⟩
  by_cases hnn : (jn s x).gNull = s.gNull
  · have : ∃ y, y ∈ x.gNames ∧ y ∉ s.gNames := by
      refine Classical.byContradiction fun hne => ?_
      have : sm (jn s x) s = true := by
        rw [sm_iff]
        refine ⟨hnn, fun y => ⟨fun hy => ?_, fun hy => (jn_mem s x y).2 (.inl hy)⟩⟩
        rcases (jn_mem s x y).1 hy with q | q
        · exact q
        · exact Classical.byContradiction fun hq => hne ⟨y, q, hq⟩
      rw [h] at this; cases this
    obtain ⟨y, h1, h2⟩ := this
    have := nodup_le (l := y :: s.gNames) (m := (jn s x).gNames) (List.nodup_cons.2 ⟨h2, rise_nodup hr⟩) fun z hz => by
      rcases List.mem_cons.1 hz with rfl | hz
      · exact (jn_mem s x z).2 (.inr h1)
      · exact (jn_mem s x z).2 (.inl hz)
    rw [List.length_cons] at this
    unfold cnt; omega
  · have : b2n s.gNull + 1 ≤ b2n (jn s x).gNull := by
      rw [jn_null] at hnn ⊢
      cases hs : s.gNull <;> cases hx : x.gNull <;> simp [hs, hx] at hnn ⊢ <;> decide
    unfold cnt; omega
def chg : List TApiSet → TApiSet → Nat
  | [], _ => 0
  | x :: l, s => (bif sm (jn s x) s then 0 else 1) + chg l (jn s x)
/-- How often it changes ahead of the end. -/
def chgs (l : List TApiSet) : Nat := chg l ⟨false, []⟩
theorem chg_snoc : ∀ (l : List TApiSet) (x s : TApiSet), chg (l ++ [x]) s = chg l s + (bif sm (jn (l.foldl jn s) x) (l.foldl jn s) then 0 else 1)
  | [], x, s => by simp [chg]
  | y :: l, x, s => by
    simp only [List.cons_append, chg, List.foldl_cons, chg_snoc l x (jn s y)]; omega
theorem chgs_snoc (l : List TApiSet) (x : TApiSet) : chgs (l ++ [x]) = chgs l + (bif sm (jn (jnAll l) x) (jnAll l) then 0 else 1) := chg_snoc l x _
theorem jnAll_len : ∀ (l : List TApiSet) (s : TApiSet), (l.foldl jn s).gNames.length ≤ s.gNames.length + totN l
  | [], s => by simp [totN]
  | x :: l, s => by
    have h1 := jnAll_len l (jn s x)
    have h2 := jn_len s x
    simp only [List.foldl_cons, totN]; omega
theorem chg_cnt : ∀ (l : List TApiSet) (s : TApiSet), Rise leS s.gNames → chg l s + cnt s ≤ cnt (l.foldl jn s)
  | [], s, _ => by simp [chg]
  | x :: l, s, h => by
    have h1 := chg_cnt l (jn s x) (cl_rise _)
    have h2 := cnt_up (x := x) h
    simp only [chg, List.foldl_cons]
    cases hq : sm (jn s x) s
    · have := h2.2 hq; simp only [cond_false]; omega
    · simp only [cond_true]; omega
theorem chg_le : ∀ (l : List TApiSet) (s : TApiSet), chg l s ≤ l.length
  | [], s => by simp [chg]
  | x :: l, s => by
    have := chg_le l (jn s x)
    simp only [chg, List.length_cons]
    cases sm (jn s x) s <;> simp <;> omega
theorem totN_pre {l p : List TApiSet} {x : TApiSet} {q : List TApiSet} (h : l = p ++ x :: q) : totN p + x.gNames.length ≤ totN l := by
  subst h; rw [totN_append]; simp only [totN]; omega
theorem climbs_law {l : List TApiSet} (hl : l.length + totN l ≤ 1048576) : l07_NamesClimbs l = some true := by
  unfold l07_NamesClimbs
  have hall := jnAll_len l ⟨false, []⟩
  simp only [List.length_nil, Nat.zero_add] at hall
  refine loop_list l (fun pre => (chgs pre, jnAll pre)) (fun a n => ((a.1 : Int), (n : Int), a.2.gNull, a.2.gNames, a.2.gNull, a.2.gNames)) (fun a => ((a.1 : Int), a.2.gNull, a.2.gNames, a.2.gNull, a.2.gNames)) rfl (fun p x q hp => ?_) ?_ ?_
  · have hlp := congrArg List.length hp
    simp only [List.length_append, List.length_cons] at hlp
    have ht := totN_pre hp
    have hpl := jnAll_len p ⟨false, []⟩
    simp only [List.length_nil, Nat.zero_add] at hpl
    have hjl := jn_len (jnAll p) x
    have hc := chg_le p ⟨false, []⟩
    change (jnAll p).gNames.length ≤ totN p at hpl
    change chgs p ≤ p.length at hc
    simp only [lt_pre hp, cond_true, idx_pre2 hp rfl, Option.bind_some]
    rw [show (⟨(jnAll p).gNull, (jnAll p).gNames⟩ : TApiSet) = jnAll p from rfl]
    rw [join_eq (by omega), Option.bind_some, same_eq (by omega) (by omega), Option.bind_some, inc_pre hp (by omega), rjoin_eq (by omega), chgs_snoc, jnAll_snoc]
    cases sm (jn (jnAll p) x) (jnAll p)
    · simp only [Bool.not_false, cond_true, Option.bind_some, cond_false]
      rw [wrap_id (by omega) (by omega)]; simp
    · simp [Bool.not_true, cond_false]
  · simp only [lt_end, cond_false]
  · have hc := chg_cnt l ⟨false, []⟩ (by simp [Rise])
    have h2 : b2n (jnAll l).gNull ≤ 1 := by cases (jnAll l).gNull <;> decide
    change chgs l + cnt ⟨false, []⟩ ≤ cnt (jnAll l) at hc
    change (jnAll l).gNames.length ≤ totN l at hall
    have h3 : cnt (⟨false, []⟩ : TApiSet) = 0 := rfl
    rw [h3] at hc
    unfold cnt at hc
    simp only []
    rw [wrap_id (by omega) (by omega), decide_eq_true (by omega), cond_true, exact_refl (by simp only []; omega), Option.bind_some, cond_true, lives07]
    rfl
end Go.Proofs.Ytaofljigbobdpaa.Ab
