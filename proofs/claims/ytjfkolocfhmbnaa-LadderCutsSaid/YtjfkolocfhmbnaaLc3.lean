/- The texts that ladderCuts_holds leans on, part 3. -/
import Derived.Test.YtjfkolocfhmbnaaLc2
namespace Go.Proofs.Ytjfkolocfhmbnaa.Ab
open Go
set_option linter.all false
theorem loop_any {β τ : Type} {l : List β} {f : Int → Option (Step Int (Unit ⊕ τ))} (t : β → Bool) (r : Nat → τ)
    (h1 : ∀ p x q, l = p ++ x :: q → f (p.length : Int) = some (bif t x then .done (.inr (r p.length)) else .next ((p.length + 1 : Nat) : Int)))
    (h2 : f (l.length : Int) = some (.done (.inl ()))) : (l.any t = false ∧ loopM f (0 : Int) = some (.inl ())) ∨ (l.any t = true ∧ ∃ j, j < l.length ∧ loopM f (0 : Int) = some (.inr (r j))) := by
  have key : ∀ (q p : List β), l = p ++ q → (q.any t = false ∧ loopM f (p.length : Int) = some (.inl ())) ∨ (q.any t = true ∧ ∃ j, j < l.length ∧ loopM f (p.length : Int) = some (.inr (r j))) := by
    intro q
    induction q with
    | nil =>
      intro p e
      rw [List.append_nil] at e; subst e
      exact .inl ⟨rfl, loopM_done h2⟩
    | cons x q ih =>
      intro p e
      have h := h1 p x q e
      cases ht : t x
      · rw [ht, cond_false] at h
        have := ih (p ++ [x]) (by simp [e])
        rw [loopM_next h]
        simp only [List.length_append, List.length_cons, List.length_nil, Nat.zero_add, List.any_cons, ht, Bool.false_or] at this ⊢
        exact this
      · rw [ht, cond_true] at h
        refine .inr ⟨by simp [ht], p.length, by subst e; simp, loopM_done h⟩
  exact key l [] rfl
theorem any_list {β τ ρ : Type} {f : Int → Option (Step Int (Unit ⊕ τ))} {k : Unit ⊕ τ → Option ρ} {R : Option ρ} (l : List β) (t : β → Bool) (r : Nat → τ)
    (h1 : ∀ p x q, l = p ++ x :: q → f (p.length : Int) = some (bif t x then .done (.inr (r p.length)) else .next ((p.length + 1 : Nat) : Int)))
    (h2 : f (l.length : Int) = some (.done (.inl ()))) (k0 : l.any t = false → k (.inl ()) = R) (k1 : ∀ j, j < l.length → l.any t = true → k (.inr (r j)) = R) : Option.bind (loopM f (0 : Int)) k = R := by
  rcases loop_any t r h1 h2 with ⟨a, b⟩ | ⟨a, j, hj, b⟩
  · rw [b]; exact k0 a
  · rw [b]; exact k1 j hj a
end Go.Proofs.Ytjfkolocfhmbnaa.Ab
namespace Go.Proofs.Ytjfkolocfhmbnaa.Ab.Pq
open Go
set_option linter.all false
theorem rise_nodup {R : Int → Int → Prop} {l : List Int} (h : Rise R l) : l.Nodup := by
  unfold Rise at h
  exact h.imp fun h => h.2
section
variable (lt : Int → Int → Bool) (R : Int → Int → Prop)
def pk (s : List Int) (a : Int × Bool) (x : Int) : Int × Bool := if (!s.contains x && (!a.2 || lt x a.1)) = true then (x, true) else a
def PkI (s pre : List Int) (a : Int × Bool) : Prop := (a.2 = false ∧ ∀ x ∈ pre, x ∈ s) ∨ (a.2 = true ∧ a.1 ∈ pre ∧ a.1 ∉ s ∧ ∀ x ∈ pre, x ∉ s → R a.1 x)
variable (hlt : ∀ a b, lt a b = true ↔ (R a b ∧ a ≠ b)) (to : ∀ a b, R a b ∨ R b a) (tr : ∀ a b c, R a b → R b c → R a c) (an : ∀ a b, R a b → R b a → a = b)
include hlt to tr in
theorem pk_step {s pre : List Int} {a : Int × Bool} (x : Int) (h : PkI R s pre a) : PkI R s (pre ++ [x]) (pk lt s a x) := by
  have re : ∀ y, R y y := fun y => (to y y).elim id id
  unfold pk
  by_cases hs : x ∈ s
  · rw [if_neg (by simp [hs])]
    rcases h with ⟨h1, h2⟩ | ⟨h1, h2, h3, h4⟩
    · refine .inl ⟨h1, fun y hy => ?_⟩
      rcases List.mem_append.1 hy with hy | hy
      · exact h2 y hy
      · rw [List.mem_singleton] at hy; subst hy; exact hs
    · refine .inr ⟨h1, List.mem_append_left _ h2, h3, fun y hy hn => ?_⟩
      rcases List.mem_append.1 hy with hy | hy
      · exact h4 y hy hn
      · rw [List.mem_singleton] at hy; subst hy; exact absurd hs hn
  · rcases h with ⟨h1, h2⟩ | ⟨h1, h2, h3, h4⟩
    · rw [if_pos (by simp [hs, h1])]
      refine .inr ⟨rfl, by simp, hs, fun y hy hn => ?_⟩
      rcases List.mem_append.1 hy with hy | hy
      · exact absurd (h2 y hy) hn
      · rw [List.mem_singleton] at hy; subst hy; exact re _
    · cases hc : lt x a.1
      · rw [if_neg (by simp [h1, hc])]
        refine .inr ⟨h1, List.mem_append_left _ h2, h3, fun y hy hn => ?_⟩
        rcases List.mem_append.1 hy with hy | hy
        · exact h4 y hy hn
        · rw [List.mem_singleton] at hy; subst hy
          by_cases e : y = a.1
          · rw [← e]; exact re _
          · rcases to a.1 y with k | k
            · exact k
            · rw [(hlt y a.1).2 ⟨k, e⟩] at hc; cases hc
      · rw [if_pos (by simp [hs, hc])]
        have hc' := (hlt _ _).1 hc
        refine .inr ⟨rfl, by simp, hs, fun y hy hn => ?_⟩
        rcases List.mem_append.1 hy with hy | hy
        · exact tr _ _ _ hc'.1 (h4 y hy hn)
        · rw [List.mem_singleton] at hy; subst hy; exact re _
include hlt to tr in
theorem pk_all {s : List Int} : ∀ (post pre : List Int) (a : Int × Bool), PkI R s pre a → PkI R s (pre ++ post) (post.foldl (pk lt s) a)
  | [], pre, a, h => by simpa using h
  | x :: post, pre, a, h => by
    have := pk_all post (pre ++ [x]) _ (pk_step lt R hlt to tr x h)
    simpa using this
include hlt to tr an in
theorem sel {l L : List Int} (hL : Rise R L) (hm : ∀ x, x ∈ L ↔ x ∈ l) (k : Nat) (hk : k ≤ L.length) :
    (∃ x, L[k]? = some x ∧ l.foldl (pk lt (L.take k)) (0, false) = (x, true)) ∨ (k = L.length ∧ (l.foldl (pk lt (L.take k)) (0, false)).2 = false) := by
  have h := pk_all lt R hlt to tr (s := L.take k) l [] (0, false) (.inl ⟨rfl, by simp⟩)
  rw [List.nil_append] at h
  generalize l.foldl (pk lt (L.take k)) (0, false) = a at h
  have hnd := rise_nodup hL
  by_cases hlt' : k < L.length
  · left
    have hx : L[k]? = some L[k] := List.getElem?_eq_getElem hlt'
    have hxl : L[k] ∈ L := List.getElem_mem hlt'
    generalize hg : L[k] = x at hx hxl
    refine ⟨x, hx, ?_⟩
    have hsplit : L = L.take k ++ x :: L.drop (k + 1) := by
      rw [← hg, ← List.drop_eq_getElem_cons hlt', List.take_append_drop]
    have hxs : x ∉ L.take k := fun hin => by
      rw [hsplit, List.nodup_append] at hnd
      exact hnd.2.2 x hin x (by simp) rfl
    rcases h with ⟨_, h2⟩ | ⟨h1, h2, h3, h4⟩
    · exact absurd (h2 x ((hm x).1 hxl)) hxs
    · have hin := (hm _).2 h2
      have hR := h4 x ((hm x).1 hxl) hxs
      have : a.1 = x := by
        rw [hsplit, List.mem_append, List.mem_cons] at hin
        rcases hin with hin | hin | hin
        · exact absurd hin h3
        · exact hin
        · unfold Rise at hL
          rw [hsplit, List.pairwise_append] at hL
          have := (List.pairwise_cons.1 hL.2.1).1 _ hin
          exact an _ _ hR this.1
      obtain ⟨a1, a2⟩ := a
      simp only at h1 this; subst h1 this; rfl
  · right
    have hk' : k = L.length := by omega
    refine ⟨hk', ?_⟩
    rcases h with ⟨h1, _⟩ | ⟨h1, h2, h3, _⟩
    · exact h1
    · rw [hk', List.take_length] at h3
      exact absurd ((hm _).2 h2) h3
end
def leAR (x y : Int) : Prop := x.natAbs < y.natAbs ∨ x.natAbs = y.natAbs ∧ x ≤ y
def ltA (x y : Int) : Bool := decide (x.natAbs < y.natAbs) || (decide (x.natAbs = y.natAbs) && decide (x < y))
theorem ltA_iff (a b : Int) : ltA a b = true ↔ (leAR a b ∧ a ≠ b) := by
  unfold ltA leAR
  simp only [Bool.or_eq_true, Bool.and_eq_true, decide_eq_true_eq]
  omega
theorem leA_to (a b : Int) : leAR a b ∨ leAR b a := by unfold leAR; omega
theorem leA_tr (a b c : Int) (h : leAR a b) (k : leAR b c) : leAR a c := by unfold leAR at *; omega
theorem leA_an (a b : Int) (h : leAR a b) (k : leAR b a) : a = b := by unfold leAR at *; omega
def lsA (l : List Int) : List Int := compactI (sortA l)
theorem sortA_len (l : List Int) : (sortA l).length = l.length := by
  unfold sortA; rw [List.length_map, List.length_mergeSort, List.length_map]
theorem sortA_mem {l : List Int} (h : l.all inI = true) (x : Int) : x ∈ sortA l ↔ x ∈ l := by
  rw [List.all_eq_true] at h
  unfold sortA
  rw [List.mem_map]
  constructor
  · rintro ⟨w, hw, rfl⟩
    rw [List.mem_mergeSort, List.mem_map] at hw
    obtain ⟨y, hy, rfl⟩ := hw
    rw [toW_val (h y hy)]; exact hy
  · intro hx
    exact ⟨toW x, List.mem_mergeSort.2 (List.mem_map_of_mem hx), toW_val (h x hx)⟩
theorem sortA_sorted (l : List Int) : (sortA l).Pairwise leAR := by
  have hle : ∀ x y : WI, (!ltOf cfW y x) = true ↔ leAR x.1 y.1 := fun x y => by
    unfold ltOf cfW leAR
    rw [Bool.not_eq_true', decide_eq_false_iff_not, cfA_lt]; omega
  have := List.pairwise_mergeSort (le := fun x y : WI => !ltOf cfW y x) (fun a b c h1 h2 => by rw [hle] at *; exact leA_tr _ _ _ h1 h2) (fun a b => by
    rw [Bool.or_eq_true, hle, hle]; exact leA_to _ _) (l.map toW)
  unfold sortA
  rw [List.pairwise_map]
  exact this.imp fun {a b} h => (hle a b).1 h
theorem lsA_all {l : List Int} (h : l.all inI = true) : Rise leAR (lsA l) ∧ (∀ x, x ∈ lsA l ↔ x ∈ l) ∧ (lsA l).length ≤ l.length := by
  obtain ⟨h1, h2⟩ := compact_rise (R := leAR) leA_tr (fun a => (leA_to a a).elim id id) leA_an (sortA_sorted l)
  exact ⟨h1, fun x => (h2 x).trans (sortA_mem h x), by have := compact_le (sortA l); rw [sortA_len] at this; exact this⟩
def tkA (l : List Int) (m : Int) : List Int := (lsA l).take (min (lsA l).length m.toNat)
theorem cut_eq {l : List Int} {m : Int} (h : l.all inI = true) (hb : l.length ≤ 4000000) : ladder_Cut l m = some (if m < 1 then [] else sortI (tkA l m)) := by
  have hL := lsA_all h
  unfold ladder_Cut
  by_cases hm : m < 1
  · rw [decide_eq_true hm, cond_true, if_pos hm]
  · rw [decide_eq_false hm, cond_false, if_neg hm]
    have hc : slices_Clone_int_int l = some l := by
      unfold slices_Clone_int_int
      rw [app_len (by omega) (by simp; omega), List.append_nil]
    have hcut : cutL (lsA l) (0 : Int) (min ((lsA l).length : Int) m) = some (tkA l m) := by
      have := cutL_nat (xs := lsA l) (l := 0) (h := min (lsA l).length m.toNat) (Nat.zero_le _) (Nat.min_le_left _ _)
      rw [show ((min (lsA l).length m.toNat : Nat) : Int) = min ((lsA l).length : Int) m by omega] at this
      rw [show ((0 : Nat) : Int) = 0 from rfl] at this
      rw [this]; unfold tkA; simp
    rw [hc, Option.bind_some, need_bind (by unfold len62A; rw [h]; simp; omega), need_bind (by unfold len62I; rw [sortA_len]; simp; omega)]
    rw [show compactI (sortA l) = lsA l from rfl, hcut, Option.bind_some, need_bind (by unfold len62I tkA; rw [decide_eq_true_iff, List.length_take]; omega)]
theorem sortI_rise {l : List Int} (h : l.Nodup) : Rise (· ≤ ·) (sortI l) ∧ ∀ x, x ∈ sortI l ↔ x ∈ l := by
  have hs : (sortI l).Pairwise (· ≤ ·) := by
    have := List.pairwise_mergeSort (le := fun x y : Int => decide (x ≤ y)) (fun a b c h1 h2 => by simp at h1 h2 ⊢; omega) (fun a b => by simp; omega) l
    exact this.imp fun h => by simpa using h
  have hn : (sortI l).Nodup := (List.mergeSort_perm l _).nodup_iff.2 h
  exact ⟨List.Pairwise.and hs hn, fun x => List.mem_mergeSort⟩
theorem in_eq {l : List Int} {x : Int} (hb : l.length ≤ 4000000) : r16_in l x = some (l.contains x) := by
  unfold r16_in
  have hh : (l.any fun y => y == x) = l.contains x := by
    rw [Bool.eq_iff_iff, List.any_eq_true, List.contains_iff_mem]
    constructor
    · rintro ⟨y, hy, e⟩; rw [beq_iff_eq] at e; subst e; exact hy
    · intro h; exact ⟨x, h, by simp⟩
  refine any_list l (fun y => y == x) (fun _ => true) (fun p y q e => ?_) (by rw [lt_end, cond_false]) (fun h => ?_) (fun j _ h => ?_)
  · rw [lt_pre e, cond_true, idx_pre2 e rfl, Option.bind_some, inc_pre e (by omega)]
    cases (y == x) <;> rfl
  · rw [hh] at h; rw [h]; rfl
  · rw [hh] at h; rw [h]; rfl
theorem size_eq {n : Int} (h : inI n = true) : r16_size n = some (n.natAbs : Int) := by
  unfold inI at h
  simp only [Bool.and_eq_true, decide_eq_true_eq] at h
  unfold r16_size
  simp only [IntKind.wrap_u64, IntKind.wrap_i64]
  by_cases h1 : n < 0
  · rw [decide_eq_true h1, cond_true]; congr 1; omega
  · rw [decide_eq_false h1, cond_false]; congr 1; omega
theorem lesser_eq {a b : Int} (ha : inI a = true) (hb : inI b = true) : r16_lesser a b = some (ltA a b) := by
  unfold r16_lesser
  rw [size_eq ha, Option.bind_some, size_eq hb, Option.bind_some, Option.bind_some, Option.bind_some]
  unfold ltA
  by_cases h1 : a.natAbs < b.natAbs
  · have h1' : (a.natAbs : Int) < (b.natAbs : Int) := by omega
    rw [decide_eq_true h1', decide_eq_true h1]; rfl
  · have h1' : ¬ (a.natAbs : Int) < (b.natAbs : Int) := by omega
    rw [decide_eq_false h1', decide_eq_false h1, cond_false, Bool.false_or]
    by_cases h2 : a.natAbs = b.natAbs
    · rw [decide_eq_true h2, h2]; simp
    · have h2' : ¬ (a.natAbs : Int) = (b.natAbs : Int) := by omega
      rw [decide_eq_false h2, show ((a.natAbs : Int) == (b.natAbs : Int)) = false by simpa using h2']; rfl
theorem ints_refl {l : List Int} (hb : l.length ≤ 1048576) : r11_Ints l l = some true := by
  unfold r11_Ints
  rw [pairs (fun a b => a == b) l l (fun p x q p' y q' e e' hp => ?_) ?_, all2_refl fun x _ => by simp]
  · rw [lt_end, cond_false]
  · obtain rfl : x = y := Option.some.inj ((idx_pre2 e rfl).symm.trans (idx_pre2 e' hp))
    rw [lt_pre e, cond_true, idx_pre2 e rfl, Option.bind_some, Option.bind_some, inc_pre e (by omega)]; simp
noncomputable def p1F (l s : List Int) : Int × Bool × Int → Option (Step (Int × Bool × Int) (Int × Bool)) :=
  fun (s530 : Int × Bool × Int) => (bif (decide (s530.2.2 < (l.length : Int))) then (Option.bind (α := Bool) ((idx l s530.2.2).bind fun x567 => ((r16_in s x567).bind fun x568 => (bif (!x568) then (bif (!s530.2.1) then some true else ((idx l s530.2.2).bind fun x571 => ((r16_lesser x571 s530.1).bind fun x572 => some x572))) else some false))) fun y566 => (bif y566 then ((idx l s530.2.2).bind fun x574 => some (.next (x574, true, (IntKind.i64.wrap (s530.2.2 + (1 : Int)))))) else some (.next (s530.1, s530.2.1, (IntKind.i64.wrap (s530.2.2 + (1 : Int))))))) else some (.done (s530.1, s530.2.1)))
noncomputable def p2F (l s : List Int) : Int × Bool × Int → Option (Step (Int × Bool × Int) Int) :=
  fun (s1056 : Int × Bool × Int) => (bif (decide (s1056.2.2 < (l.length : Int))) then (Option.bind (α := Bool) ((idx l s1056.2.2).bind fun x1090 => ((r16_in s x1090).bind fun x1091 => (bif (!x1091) then (bif (!s1056.2.1) then some true else ((idx l s1056.2.2).bind fun x1094 => some (decide (x1094 < s1056.1)))) else some false))) fun y1089 => (bif y1089 then ((idx l s1056.2.2).bind fun x1096 => some (.next (x1096, true, (IntKind.i64.wrap (s1056.2.2 + (1 : Int)))))) else some (.next (s1056.1, s1056.2.1, (IntKind.i64.wrap (s1056.2.2 + (1 : Int))))))) else some (.done s1056.1))
theorem pass1 {l s : List Int} (h : l.all inI = true) (hb : l.length ≤ 4000000) (hs : s.length ≤ 4000000) :
    loopM (p1F l s) ((0 : Int), false, (0 : Int)) = some (l.foldl (pk ltA s) (0, false)) := by
  refine loop_pre (f := p1F l s) l (fun pre => pre.foldl (pk ltA s) (0, false)) (fun a n => (a.1, a.2, (n : Int))) (fun a => a) (fun pre x post hp => ?_) ?_
  · have hI := pk_all ltA leAR ltA_iff leA_to leA_tr (s := s) pre [] (0, false) (.inl ⟨rfl, by simp⟩)
    rw [List.nil_append] at hI
    have hx : inI x = true := List.all_eq_true.1 h x (pre_mem hp)
    rw [List.foldl_append, List.foldl_cons, List.foldl_nil]
    generalize pre.foldl (pk ltA s) (0, false) = a at hI ⊢
    obtain ⟨b, y⟩ := a
    unfold p1F
    simp only [lt_pre hp, cond_true]
    rw [idx_pre2 hp rfl, Option.bind_some, in_eq hs, Option.bind_some, inc_pre hp (by omega)]
    unfold pk
    cases hc : s.contains x
    · cases y
      · simp
      · rcases hI with ⟨h1, _⟩ | ⟨_, h2, _, _⟩
        · cases h1
        · have hb' : inI b = true := List.all_eq_true.1 h b (by rw [hp]; exact List.mem_append_left _ h2)
          simp only [Bool.not_false, Bool.not_true, cond_true, cond_false, Option.bind_some]
          rw [lesser_eq hx hb', Option.bind_some, Option.bind_some]
          cases hl : ltA x b <;> simp
    · simp
  · unfold p1F; simp only [lt_end, cond_false]
def ltZ (a b : Int) : Bool := decide (a < b)
theorem pass2 {l s : List Int} (hb : l.length ≤ 4000000) (hs : s.length ≤ 4000000) :
    loopM (p2F l s) ((0 : Int), false, (0 : Int)) = some (l.foldl (pk ltZ s) (0, false)).1 := by
  refine loop_pre (f := p2F l s) l (fun pre => pre.foldl (pk ltZ s) (0, false)) (fun a n => (a.1, a.2, (n : Int))) (fun a => a.1) (fun pre x post hp => ?_) ?_
  · rw [List.foldl_append, List.foldl_cons, List.foldl_nil]
    generalize pre.foldl (pk ltZ s) (0, false) = a
    obtain ⟨b, y⟩ := a
    unfold p2F
    simp only [lt_pre hp, cond_true]
    rw [idx_pre2 hp rfl, Option.bind_some, in_eq hs, Option.bind_some, inc_pre hp (by omega)]
    unfold pk ltZ
    cases hc : s.contains x
    · cases y
      · simp
      · simp only [Bool.not_false, Bool.not_true, cond_true, cond_false, Option.bind_some]
        by_cases hl : x < b <;> simp [hl]
    · simp
  · unfold p2F; simp only [lt_end, cond_false]
noncomputable def c1F (l : List Int) (m : Int) : List Int → Option (Step (List Int) (List Int)) :=
  fun (s291 : List Int) => (bif (decide ((s291.length : Int) < m)) then (Option.bind (α := Int × Bool) (loopM (p1F l s291) ((0 : Int), false, (0 : Int))) fun y529 => (bif (!y529.2) then some (.done s291) else ((app 8 s291 ([y529.1] : List Int)).bind fun x576 => some (.next x576)))) else some (.done s291))
noncomputable def c2F (l : List Int) : List Int → Option (Step (List Int) (List Int)) :=
  fun (s839 : List Int) => (bif (decide ((s839.length : Int) < (l.length : Int))) then (Option.bind (α := Int) (loopM (p2F l s839) ((0 : Int), false, (0 : Int))) fun y1055 => ((app 8 s839 ([y1055] : List Int)).bind fun x1097 => some (.next x1097))) else some (.done s839))
theorem take_snoc {L : List Int} {k : Nat} {x : Int} (h : L[k]? = some x) : L.take (k + 1) = L.take k ++ [x] := by
  obtain ⟨hlt, e⟩ := List.getElem?_eq_some_iff.1 h
  rw [List.take_succ_eq_append_getElem hlt, e]
theorem cut1 {l : List Int} {m : Int} (h : l.all inI = true) (hb : l.length ≤ 4000000) : loopM (c1F l m) [] = some (tkA l m) := by
  obtain ⟨hL, hm, hlen⟩ := lsA_all h
  refine loopM_eq (f := c1F l m) (fun s => ∃ k, k ≤ (lsA l).length ∧ s = (lsA l).take k ∧ (k = 0 ∨ (k : Int) ≤ m)) (fun s => (lsA l).length - s.length) (fun _ => tkA l m) ?_ [] ⟨0, Nat.zero_le _, rfl, .inl rfl⟩
  rintro s ⟨k, hk, rfl, hkm⟩
  have hlk : ((lsA l).take k).length = k := by rw [List.length_take]; omega
  by_cases hlt : (k : Int) < m
  · rcases sel ltA leAR ltA_iff leA_to leA_tr leA_an hL hm k hk with ⟨x, hx, e⟩ | ⟨e1, e2⟩
    · left
      have hkl := (List.getElem?_eq_some_iff.1 hx).1
      refine ⟨(lsA l).take (k + 1), ?_, ⟨k + 1, hkl, rfl, .inr (by omega)⟩, ?_, rfl⟩
      · unfold c1F
        rw [hlk, decide_eq_true hlt, cond_true, pass1 h hb (by omega), Option.bind_some, e, Bool.not_true, cond_false, app_len (by omega) (by simp; omega), Option.bind_some, take_snoc hx]
      · rw [hlk, List.length_take]; omega
    · right
      unfold c1F
      rw [hlk, decide_eq_true hlt, cond_true, pass1 h hb (by omega), Option.bind_some, e2, Bool.not_false, cond_true]
      unfold tkA
      congr 3; omega
  · right
    unfold c1F
    rw [hlk, decide_eq_false hlt, cond_false]
    unfold tkA
    congr 3; omega
theorem cut2 {l M : List Int} (hM : Rise (· ≤ ·) M) (hm : ∀ x, x ∈ M ↔ x ∈ l) (hl : M.length = l.length) (hb : l.length ≤ 4000000) : loopM (c2F l) [] = some M := by
  refine loopM_eq (f := c2F l) (fun s => ∃ k, k ≤ M.length ∧ s = M.take k) (fun s => M.length - s.length) (fun _ => M) ?_ [] ⟨0, Nat.zero_le _, rfl⟩
  rintro s ⟨k, hk, rfl⟩
  have hlk : (M.take k).length = k := by rw [List.length_take]; omega
  by_cases hlt : k < M.length
  · rcases sel ltZ (· ≤ ·) (fun a b => by unfold ltZ; rw [decide_eq_true_iff]; omega) (fun a b => by omega) (fun a b c h k => by omega) (fun a b h k => by omega) hM hm k hk with ⟨x, hx, e⟩ | ⟨e1, _⟩
    · left
      refine ⟨M.take (k + 1), ?_, ⟨k + 1, hlt, rfl⟩, ?_, rfl⟩
      · unfold c2F
        rw [hlk, decide_eq_true (by omega), cond_true, pass2 hb (by omega), Option.bind_some, e, app_len (by omega) (by simp; omega), Option.bind_some, take_snoc hx]
      · rw [hlk, List.length_take]; omega
    · omega
  · right
    unfold c2F
    rw [hlk, decide_eq_false (by omega), cond_false, List.take_of_length_le (by omega)]
theorem tkA_nodup {l : List Int} {m : Int} (h : l.all inI = true) : (tkA l m).Nodup := (rise_nodup (lsA_all h).1).sublist (List.take_sublist _ _)
theorem rcut_eq {l : List Int} {m : Int} (h : l.all inI = true) (hb : l.length ≤ 4000000) : r16_Cut l m = some (sortI (tkA l m)) := by
  have hlen := (lsA_all h).2.2
  have hT : (tkA l m).length ≤ 4000000 := by unfold tkA; rw [List.length_take]; omega
  obtain ⟨h1, h2⟩ := sortI_rise (tkA_nodup (m := m) h)
  have h3 : (sortI (tkA l m)).length = (tkA l m).length := List.length_mergeSort _
  show Option.bind (α := List Int) (loopM (c1F l m) []) (fun y290 => Option.bind (α := List Int) (loopM (c2F y290) []) fun y838 => some y838) = _
  rw [cut1 h hb, Option.bind_some, cut2 h1 h2 h3 hT, Option.bind_some]
theorem cut_same {l : List Int} {m : Int} (h : l.all inI = true) (hb : l.length ≤ 4000000) : ladder_Cut l m = some (sortI (tkA l m)) := by
  rw [cut_eq h hb]
  by_cases hm : m < 1
  · rw [if_pos hm]
    have : tkA l m = [] := by unfold tkA; rw [show min (lsA l).length m.toNat = 0 by omega]; rfl
    rw [this]; simp [sortI]
  · rw [if_neg hm]
theorem around0 : ladder_around 0 = some [0, -1, 1] := by
  unfold ladder_around
  rw [decide_eq_true (by decide), cond_true, app_len (by omega) (by simp), Option.bind_some, Option.bind_some, decide_eq_true (by decide), cond_true, app_len (by omega) (by simp)]
  simp [IntKind.wrap_i64]
theorem lives16 : l16_lives = some true := by
  unfold l16_lives ladder_Of
  rw [around0, Option.bind_some, loopM_done (t := [0, -1, 1]) (by simp), Option.bind_some, loopM_done (t := [0, -1, 1]) (by simp), Option.bind_some, cut_same (by decide) (by simp), Option.bind_some]
  have hall : ([0, -1, 1] : List Int).all inI = true := by decide
  obtain ⟨hL, hm, hlen⟩ := lsA_all hall
  have ht : tkA [0, -1, 1] 40 = lsA [0, -1, 1] := by
    unfold tkA
    simp only [List.length_cons, List.length_nil] at hlen
    exact List.take_of_length_le (by omega)
  obtain ⟨h1, h2⟩ := sortI_rise (tkA_nodup (m := 40) hall)
  have : sortI (tkA [0, -1, 1] 40) = [-1, 0, 1] := rise_unique (fun a b h k => by omega) h1 (by simp [Rise]) fun x => by
    rw [h2, ht, hm]; simp; omega
  rw [this, Option.bind_some, ints_refl (by simp)]; rfl
theorem ladderCuts_law {l : List Int} (m : Int) (h : l.all inI = true) : l16_LadderCuts l m = some true := by
  unfold l16_LadderCuts
  by_cases hb : (200 : Int) < l.length
  · rw [decide_eq_true hb, cond_true, lives16]; rfl
  · rw [decide_eq_false hb, cond_false, cut_same h (by omega), Option.bind_some, rcut_eq h (by omega), Option.bind_some]
    have h3 : (sortI (tkA l m)).length = (tkA l m).length := List.length_mergeSort _
    have hlen := (lsA_all h).2.2
    rw [ints_refl (by rw [h3]; unfold tkA; rw [List.length_take]; omega), Option.bind_some, cond_true, lives16]; rfl
end Go.Proofs.Ytjfkolocfhmbnaa.Ab.Pq
namespace Go.Proofs.Ytjfkolocfhmbnaa.Ab
open Go
set_option linter.all false
def fieldsOK (tab : List (Option TI)) (ts : List Nat) : Nat → List (Nat × Nat) → Option Nat
  | off, [] => some off
  | off, (ty, o) :: fs => match ti tab ty with
    | some i => bif Nat.beq o off && ts.contains ty then fieldsOK tab ts (off + i.size) fs else none
    | none => none
def typeOK (tab : List (Option TI)) (ts : List Nat) (t : Nat) : Bool :=
  match ti tab t with
  | some i => match i.d with
    | .bool => Nat.beq i.size 1
    | .int _ => Nat.beq i.size 1
    | .str => Nat.beq i.size 1
    | .slice e => ts.contains e && Nat.beq i.size 1 && (match ti tab e with | some ie => Nat.ble 1 ie.size | none => false)
    | .struct fs => match fieldsOK tab ts 0 fs with
      | some n => Nat.beq n i.size
      | none => false
    | .array n e => ts.contains e && (match ti tab e with | some ie => Nat.beq i.size (n * ie.size) | none => false)
    | _ => false
  | none => false
def closedT (tab : List (Option TI)) (ts : List Nat) : Bool := ts.all (typeOK tab ts)
def GoodT (tab : List (Option TI)) : Nat → Nat → D → Prop
  | 0, _, _ => False
  | n + 1, t, d => ∃ i, ti tab t = some i ∧ match i.d with
    | .bool => ∃ b, d = .v (.bool b)
    | .int k => ∃ m, d = .v (.int k m) ∧ (Lit.int k m).wf = true
    | .str => ∃ s : ByteArray, d = .v (.string s) ∧ s.size ≤ maxLen
    | .slice e => ∃ ie xs, ti tab e = some ie ∧ d = .lst ie.size xs .no ∧ xs.length ≤ maxLen ∧ ∀ x ∈ xs, GoodT tab n e x
    | .struct fs => ∃ ds : List D, d = .agg (ds.flatMap dcells) ∧ ds.length = fs.length ∧ ∀ (j : Nat) (f : Nat × Nat) (d0 : D), fs[j]? = some f → ds[j]? = some d0 → GoodT tab n f.1 d0
    | .array m e => ∃ ds : List D, d = .agg (ds.flatMap dcells) ∧ ds.length = m ∧ ∀ x ∈ ds, GoodT tab n e x
    | _ => False
section
variable {H : Type} {enc : TypeId × Value → H} {P : Program} {w : World} {base : Nat} {spare : Nat → Bool} {held : Bool} {tab : List (Option TI)} {ts : List Nat}
theorem cellsOf_ti (hT : TabOK P tab) {t : TypeId} {i : TI} (h : ti tab t = some i) : P.cellsOf t = i.size := by
  obtain ⟨tf, z, dd, h1, _, _, h2, _⟩ := tiOf_inv (ti_ok hT h)
  simp [Program.cellsOf, h1, h2]
def allOf (w : World) : Hp := fun a => w.cell? a
theorem ag_all (w : World) : Ag (allOf w) w := fun _ _ h => h
def Rd (tab : List (Option TI)) (w : World) (n t : Nat) (cs : List Value) (d : D) : Prop :=
  ∃ i, ti tab t = some i ∧ RepC (allOf w) d cs ∧ Reps (allOf w) (dcells d) cs ∧ cs.length = i.size ∧ (dcells d).length = i.size ∧ GoodT tab n t d
theorem rd_fields (hT : TabOK P tab) {n : Nat} {cs : List Value} (ih : ∀ t cs x, ts.contains t = true → DataW.trod enc P w base spare held n t cs = some x → ∃ d, Rd tab w n t cs d) :
    ∀ (gs : List Field) (off total : Nat), fieldsOK tab ts off (gs.map fun f => (f.type, f.offset)) = some total → total ≤ cs.length → (∀ f ∈ gs, ∃ y, DataW.trod enc P w base spare held n f.type ((cs.drop f.offset).take (P.cellsOf f.type)) = some y) →
      off ≤ total ∧ ∃ ds : List D, ds.length = gs.length ∧ Reps (allOf w) (ds.flatMap dcells) ((cs.drop off).take (total - off)) ∧ (ds.flatMap dcells).length = total - off ∧ ∀ (j : Nat) (f : Nat × Nat) (d0 : D), (gs.map fun f => (f.type, f.offset))[j]? = some f → ds[j]? = some d0 → GoodT tab n f.1 d0
  | [], off, total, h, _, _ => by
    simp [fieldsOK] at h; subst h
    exact ⟨Nat.le_refl _, [], rfl, by simp [Reps], by simp, fun j f d0 e => by simp at e⟩
  | g :: gs, off, total, h, hl, hy => by
    simp only [List.map_cons, fieldsOK] at h
    split at h
    · rename_i i hi
      cases hb : (Nat.beq g.offset off && ts.contains g.type) with
      | false => rw [hb] at h; cases h
      | true =>
        rw [hb] at h
        simp only [cond_true] at h
        simp only [Bool.and_eq_true] at hb
        have ho := Nat.eq_of_beq_eq_true hb.1
        obtain ⟨y, hy0⟩ := hy g (by simp)
        obtain ⟨d, i', hi', h1, h2, h3, h4, h5⟩ := ih _ _ y hb.2 hy0
        rw [hi] at hi'; cases hi'
        obtain ⟨hle, ds, e1, e2, e3, e4⟩ := rd_fields hT ih gs (off + i.size) total h hl fun f hf => hy f (by simp [hf])
        rw [cellsOf_ti hT hi, ho] at h2
        refine ⟨by omega, d :: ds, by simp [e1], ?_, by simp [h4, e3]; omega, ?_⟩
        · simp only [List.flatMap_cons]
          have := reps_append h2 e2
          have e : (cs.drop off).take i.size ++ (cs.drop (off + i.size)).take (total - (off + i.size)) = (cs.drop off).take (total - off) := by
            rw [show total - off = i.size + (total - (off + i.size)) by omega, List.take_add, List.drop_drop]
          rwa [e] at this
        · intro j f d0 hf hd
          cases j with
          | zero => simp at hf hd; subst hf; subst hd; exact h5
          | succ j => exact e4 j f d0 (by simpa using hf) (by simpa using hd)
    · cases h
theorem rd_elems {n e sz b off : Nat} {ie : TI} (hie : ti tab e = some ie) (hsz : ie.size = sz) (he : ts.contains e = true) (ih : ∀ t cs x, ts.contains t = true → DataW.trod enc P w base spare held n t cs = some x → ∃ d, Rd tab w n t cs d) :
    ∀ (m i0 : Nat), (∀ i, i0 ≤ i → i < i0 + m → ∃ cs y, w.cells? base ((⟨b, off, none⟩ : Addr).add (i * sz)) sz = some cs ∧ DataW.trod enc P w base spare held n e cs = some y) →
      ∃ xs : List D, xs.length = m ∧ Els (allOf w) sz b (off + i0 * sz) xs ∧ ∀ x ∈ xs, GoodT tab n e x
  | 0, i0, _ => ⟨[], rfl, by simp [Els], by simp⟩
  | m + 1, i0, h => by
    obtain ⟨cs, y, h1, h2⟩ := h i0 (Nat.le_refl _) (by omega)
    obtain ⟨d, i', hi', g1, g2, g3, g4, g5⟩ := ih e cs y he h2
    rw [hie] at hi'; cases hi'
    obtain ⟨xs, f1, f2, f3⟩ := rd_elems hie hsz he ih m (i0 + 1) fun i hi hi' => h i (by omega) (by omega)
    refine ⟨d :: xs, by simp [f1], ?_, ?_⟩
    · simp only [Els]
      refine ⟨⟨cs, by rw [g3, hsz], g1, fun j u hj => ?_, reps_one g2⟩, ?_⟩
      · obtain ⟨_, hlen, hc⟩ := World.cells?_some h1
        have hjl : j < sz := by rw [← hlen]; exact (List.getElem?_eq_some_iff.1 hj).1
        have := hc j hjl
        rw [addr_add, addr_add] at this
        show w.cell? _ = _
        rw [this]; exact hj
      · rw [show off + i0 * sz + sz = off + (i0 + 1) * sz by rw [Nat.add_mul]; omega]; exact f2
    · intro x hx
      rcases List.mem_cons.1 hx with rfl | hx
      · exact g5
      · exact f3 x hx
theorem rd_arr {n e sz : Nat} {ie : TI} {cs : List Value} (hie : ti tab e = some ie) (hsz : ie.size = sz) (he : ts.contains e = true) (ih : ∀ t cs x, ts.contains t = true → DataW.trod enc P w base spare held n t cs = some x → ∃ d, Rd tab w n t cs d) :
    ∀ (m i0 : Nat), (∀ i, i0 ≤ i → i < i0 + m → ∃ y, DataW.trod enc P w base spare held n e ((cs.drop (i * sz)).take sz) = some y) →
      ∃ ds : List D, ds.length = m ∧ Reps (allOf w) (ds.flatMap dcells) ((cs.drop (i0 * sz)).take (m * sz)) ∧ (ds.flatMap dcells).length = m * sz ∧ ∀ x ∈ ds, GoodT tab n e x
  | 0, i0, _ => ⟨[], rfl, by simp [Reps], by simp, by simp⟩
  | m + 1, i0, h => by
    obtain ⟨y, h2⟩ := h i0 (Nat.le_refl _) (by omega)
    obtain ⟨d, i', hi', g1, g2, g3, g4, g5⟩ := ih e _ y he h2
    rw [hie] at hi'; cases hi'
    obtain ⟨ds, f1, f2, f3, f4⟩ := rd_arr hie hsz he ih m (i0 + 1) fun i hi hi' => h i (by omega) (by omega)
    refine ⟨d :: ds, by simp [f1], ?_, ?_, ?_⟩
    · simp only [List.flatMap_cons]
      have := reps_append g2 f2
      have e2 : (cs.drop (i0 * sz)).take sz ++ (cs.drop ((i0 + 1) * sz)).take (m * sz) = (cs.drop (i0 * sz)).take ((m + 1) * sz) := by
        rw [show (m + 1) * sz = sz + m * sz by rw [Nat.add_mul]; omega, List.take_add, List.drop_drop, show i0 * sz + sz = (i0 + 1) * sz by rw [Nat.add_mul]; omega]
      rwa [e2] at this
    · simp only [List.flatMap_cons, List.length_append, f3, g4, hsz]
      rw [Nat.add_mul]; omega
    · intro x hx
      rcases List.mem_cons.1 hx with rfl | hx
      · exact g5
      · exact f4 x hx
theorem rd (hT : TabOK P tab) (hc : closedT tab ts = true) : ∀ (n : Nat) (t : TypeId) (cs : List Value) (x : DataW H × List MemPlace), ts.contains t = true → DataW.trod enc P w base spare held n t cs = some x → ∃ d, Rd tab w n t cs d := by
  intro n
  induction n with
  | zero => intro t cs x _ h; simp [DataW.trod] at h
  | succ n ih =>
    intro t cs x ht h
    have hok : typeOK tab ts t = true := by
      unfold closedT at hc
      rw [List.all_eq_true] at hc
      exact hc t (by simpa using ht)
    unfold typeOK at hok
    split at hok
    · rename_i i hi
      obtain ⟨tf, z, dd, h1, h2, h3, h4, _⟩ := tiOf_inv (ti_ok hT hi)
      split at hok
      · rename_i hd
        have hs := Nat.eq_of_beq_eq_true hok
        obtain ⟨b, rfl, _⟩ := DataW.trod_bool (by rw [h2, td_bool (h3.trans hd)]) h
        refine ⟨.v (.bool b), i, hi, by simp [RepC], ?_, by simp [hs], by simp [dcells, hs], ?_⟩
        · simp only [dcells, Reps]; exact ⟨_, _, rfl, ⟨by simp [RepC], rfl, rfl⟩, rfl⟩
        · unfold GoodT; exact ⟨i, hi, by rw [hd]; exact ⟨b, rfl⟩⟩
      · rename_i k hd
        have hs := Nat.eq_of_beq_eq_true hok
        obtain ⟨m, rfl, _, hwf⟩ := DataW.trod_int (by rw [h2, td_int (h3.trans hd)]) h
        refine ⟨.v (.int k m), i, hi, by simp [RepC], ?_, by simp [hs], by simp [dcells, hs], ?_⟩
        · simp only [dcells, Reps]; exact ⟨_, _, rfl, ⟨by simp [RepC], rfl, rfl⟩, rfl⟩
        · unfold GoodT; exact ⟨i, hi, by rw [hd]; exact ⟨m, rfl, hwf⟩⟩
      · rename_i hd
        have hs := Nat.eq_of_beq_eq_true hok
        obtain ⟨s, rfl, _, hwf⟩ := DataW.trod_string (by rw [h2, td_str (h3.trans hd)]) h
        refine ⟨.v (.string s), i, hi, by simp [RepC], ?_, by simp [hs], by simp [dcells, hs], ?_⟩
        · simp only [dcells, Reps]; exact ⟨_, _, rfl, ⟨by simp [RepC], rfl, rfl⟩, rfl⟩
        · unfold GoodT; exact ⟨i, hi, by rw [hd]; exact ⟨s, rfl, hwf⟩⟩
      · rename_i e hd
        simp only [Bool.and_eq_true] at hok
        obtain ⟨⟨he, hs⟩, hsz⟩ := hok
        have hs := Nat.eq_of_beq_eq_true hs
        split at hsz
        · rename_i ie hie
          have hsz := Nat.le_of_ble_eq_true hsz
          rcases DataW.trod_slice (by rw [h2, td_slice (h3.trans hd)]) h with ⟨rfl, _⟩ | ⟨a, len, cap, elems, rest, n', hf, rfl, _, hb, hlc, hcm, hel, hcells, _, _⟩
          · have hr : RepC (allOf w) (.lst ie.size [] .no) [.slice none 0 0] := by
              simp only [RepC, CapOK]; exact ⟨_, rfl, trivial, .inl ⟨by trivial, none, 0, rfl, fun _ => rfl⟩⟩
            refine ⟨.lst ie.size [] .no, i, hi, hr, ?_, by simp [hs], by simp [dcells, hs], ?_⟩
            · simp only [dcells, Reps]; exact ⟨_, _, rfl, ⟨hr, rfl, rfl⟩, rfl⟩
            · unfold GoodT; exact ⟨i, hi, by rw [hd]; exact ⟨ie, [], hie, rfl, by simp, by simp⟩⟩
          · have : n' = n := by omega
            subst this
            rw [cellsOf_ti hT hie] at hcells
            rcases Nat.eq_zero_or_pos len with hz | hpos
            · subst hz
              have hr : RepC (allOf w) (.lst ie.size [] .no) [.slice (some a) 0 cap] := by
                simp only [RepC, CapOK]; exact ⟨_, rfl, trivial, .inl ⟨by trivial, some a, cap, rfl, fun q => by cases q⟩⟩
              refine ⟨.lst ie.size [] .no, i, hi, hr, ?_, by simp [hs], by simp [dcells, hs], ?_⟩
              · simp only [dcells, Reps]; exact ⟨_, _, rfl, ⟨hr, rfl, rfl⟩, rfl⟩
              · unfold GoodT; exact ⟨i, hi, by rw [hd]; exact ⟨ie, [], hie, rfl, by simp, by simp⟩⟩
            · have hsome : ∀ j, j < len → ∃ cs y, w.cells? base (a.add (j * ie.size)) ie.size = some cs ∧ DataW.trod enc P w base spare held n' e cs = some y := by
                intro j hj
                have hj2 := hcells j hj
                rw [List.getElem?_eq_getElem (by omega)] at hj2
                rw [Option.bind_eq_some_iff] at hj2
                obtain ⟨cs, q1, q2⟩ := hj2
                exact ⟨cs, _, q1, q2⟩
              have hspot : a.spot = none := by
                obtain ⟨cs, y, q1, _⟩ := hsome 0 hpos
                obtain ⟨_, hlen, hcc⟩ := World.cells?_some q1
                have q2 := hcc 0 (by omega)
                rw [List.getElem?_eq_getElem (by omega)] at q2
                have q3 : (a.add (0 * ie.size)).add 0 = a := by simp [Addr.add]
                rw [q3] at q2
                cases hsp : a.spot with
                | none => rfl
                | some s =>
                  unfold World.cell? at q2
                  split at q2
                  · simp [hsp] at q2
                  · cases q2
              obtain ⟨b, off, sp⟩ := a
              simp only at hspot; subst hspot
              obtain ⟨xs, f1, f2, f3⟩ := rd_elems (spare := spare) (held := held) (enc := enc) (P := P) (base := base) hie rfl he ih len 0 fun j _ hj => hsome j (by omega)
              have hr : RepC (allOf w) (.lst ie.size xs .no) [.slice (some ⟨b, off, none⟩) len cap] := by
                simp only [RepC, CapOK]
                refine ⟨_, rfl, trivial, .inr ⟨b, off, cap, by rw [f1], by rw [f1]; exact hlc, by simpa using f2⟩⟩
              refine ⟨.lst ie.size xs .no, i, hi, hr, ?_, by simp [hs], by simp [dcells, hs], ?_⟩
              · simp only [dcells, Reps]; exact ⟨_, _, rfl, ⟨hr, rfl, rfl⟩, rfl⟩
              · unfold GoodT; exact ⟨i, hi, by rw [hd]; exact ⟨ie, xs, hie, rfl, by rw [f1]; omega, f3⟩⟩
        · cases hsz
      · rename_i fs hd
        split at hok
        · rename_i tot hfo
          have hs := Nat.eq_of_beq_eq_true hok
          obtain ⟨gs, e1, e2⟩ := td_struct (h3.trans hd)
          obtain ⟨xs, n', hf, _, hl, hxl, hx⟩ := DataW.trod_struct (by rw [h2, e1]) h
          have : n' = n := by omega
          subst this
          rw [cellsOf_ti hT hi] at hl
          obtain ⟨_, ds, f1, f2, f3, f4⟩ := rd_fields hT (cs := cs) ih gs.toList 0 tot (by rw [e2]; exact hfo) (by omega) fun f hfm => by
            obtain ⟨j, hj⟩ := List.getElem?_of_mem hfm
            have hj' : gs[j]? = some f := by simpa using hj
            have q := hx j f hj'
            have hjl : j < xs.length := by rw [hxl]; exact (Array.getElem?_eq_some_iff.1 hj').1
            rw [List.getElem?_eq_getElem hjl] at q
            exact ⟨_, q⟩
          simp only [List.drop_zero, Nat.sub_zero] at f2 f3
          rw [List.take_of_length_le (by omega)] at f2
          refine ⟨.agg (ds.flatMap dcells), i, hi, by simp only [RepC]; exact f2, f2, hl, by simp only [dcells]; omega, ?_⟩
          unfold GoodT
          exact ⟨i, hi, by rw [hd]; exact ⟨ds, rfl, by rw [f1, ← e2]; simp, fun j f d0 q1 q2 => f4 j f d0 (by rw [e2]; exact q1) q2⟩⟩
        · cases hok
      · rename_i m e hd
        simp only [Bool.and_eq_true] at hok
        obtain ⟨he, hsz⟩ := hok
        split at hsz
        · rename_i ie hie
          have hsz := Nat.eq_of_beq_eq_true hsz
          obtain ⟨xs, n', hf, _, hl, hxl, hx⟩ := DataW.trod_array (by rw [h2, td_array (h3.trans hd)]) h
          have : n' = n := by omega
          subst this
          rw [cellsOf_ti hT hi] at hl
          rw [cellsOf_ti hT hie] at hx
          obtain ⟨ds, f1, f2, f3, f4⟩ := rd_arr (cs := cs) hie rfl he ih m 0 fun j _ hj => by
            have q := hx j (by omega)
            rw [List.getElem?_eq_getElem (by omega)] at q
            exact ⟨_, q⟩
          simp only [Nat.zero_mul, List.drop_zero] at f2
          rw [List.take_of_length_le (by omega)] at f2
          refine ⟨.agg (ds.flatMap dcells), i, hi, by simp only [RepC]; exact f2, f2, hl, by simp only [dcells]; omega, ?_⟩
          unfold GoodT
          exact ⟨i, hi, by rw [hd]; exact ⟨ds, rfl, f1, f4⟩⟩
        · cases hsz
      · cases hok
    · cases hok
end
end Go.Proofs.Ytjfkolocfhmbnaa.Ab
namespace Go.Proofs.Ytjfkolocfhmbnaa.Ab
open Go
set_option linter.all false
section
variable {P : Program} {tab : List (Option TI)} {n t : Nat} {i : TI} {d : D}
theorem good_int {k : IntKind} (hi : ti tab t = some i) (hd : i.d = .int k) (g : GoodT tab n t d) : ∃ m, d = .v (.int k m) ∧ (Lit.int k m).wf = true := by
  cases n with
  | zero => simp [GoodT] at g
  | succ n =>
    unfold GoodT at g
    obtain ⟨i', h1, h2⟩ := g
    rw [hi] at h1; cases h1
    rw [hd] at h2; exact h2
theorem good_slice {e : Nat} {ie : TI} (hi : ti tab t = some i) (hd : i.d = .slice e) (he : ti tab e = some ie) (g : GoodT tab n t d) : ∃ (n' : Nat) (xs : List D), n = n' + 1 ∧ d = .lst ie.size xs .no ∧ xs.length ≤ maxLen ∧ ∀ x ∈ xs, GoodT tab n' e x := by
  cases n with
  | zero => simp [GoodT] at g
  | succ n =>
    unfold GoodT at g
    obtain ⟨i', h1, h2⟩ := g
    rw [hi] at h1; cases h1
    rw [hd] at h2
    obtain ⟨ie', xs, h3, h4, h5, h6⟩ := h2
    rw [he] at h3; cases h3
    exact ⟨n, xs, rfl, h4, h5, h6⟩
theorem good_list {α : Type} {f : α → D} {K : α → Prop} {p : D → Prop} (h : ∀ x, p x → ∃ y, x = f y ∧ K y) : ∀ (xs : List D), (∀ x ∈ xs, p x) → ∃ ys : List α, xs = ys.map f ∧ ∀ y ∈ ys, K y
  | [], _ => ⟨[], rfl, by simp⟩
  | x :: xs, hx => by
    obtain ⟨y, rfl, hy⟩ := h x (hx x (by simp))
    obtain ⟨ys, rfl, hys⟩ := good_list h xs fun z hz => hx z (by simp [hz])
    refine ⟨y :: ys, rfl, fun z hz => ?_⟩
    rcases List.mem_cons.1 hz with rfl | hz
    · exact hy
    · exact hys z hz
theorem shape_of {w : World} {r : Reach} {base : Nat} {v : Value} (hT : TabOK P tab) (hv : Value.okWide P w r base t v) (g : GoodT tab n t d) : d.shape v = true := by
  cases n with
  | zero => simp [GoodT] at g
  | succ n =>
    unfold GoodT at g
    obtain ⟨i, hi, g⟩ := g
    obtain ⟨tf, z, dd, h1, h2, h3, _⟩ := tiOf_inv (ti_ok hT hi)
    unfold Value.okWide at hv
    rw [h2] at hv
    split at g
    · rename_i hd
      have := td_bool (h3.trans hd); subst this
      obtain ⟨b, rfl⟩ := g
      cases v <;> first | rfl | (simp [Cell.okWide, Cell.ok, h2] at hv)
    · rename_i k hd
      have := td_int (h3.trans hd); subst this
      obtain ⟨b, rfl, _⟩ := g
      cases v <;> first | rfl | (simp [Cell.okWide, Cell.ok, h2] at hv)
    · rename_i hd
      have := td_str (h3.trans hd); subst this
      obtain ⟨b, rfl, _⟩ := g
      cases v <;> first | rfl | (simp [Cell.okWide, Cell.ok, h2] at hv)
    · rename_i e hd
      have := td_slice (h3.trans hd); subst this
      obtain ⟨ie, xs, _, rfl, _⟩ := g
      cases v <;> first | rfl | (simp [Cell.okWide, Cell.ok, h2] at hv)
    · rename_i fs hd
      obtain ⟨gs, rfl, _⟩ := td_struct (h3.trans hd)
      obtain ⟨ds, rfl, _⟩ := g
      simp only at hv
      obtain ⟨cs, rfl, _⟩ := hv
      rfl
    · rename_i m e hd
      have := td_array (h3.trans hd); subst this
      obtain ⟨ds, rfl, _⟩ := g
      simp only at hv
      obtain ⟨cs, rfl, _⟩ := hv
      rfl
    · exact g.elim
theorem rd_arg {H : Type} {enc : TypeId × Value → H} {w : World} {base : Nat} {spare : Nat → Bool} {held : Bool} {v : Value} {x : DataW H} {ps : List MemPlace} {r : Reach} {b0 : Nat} (hT : TabOK P tab) (ts : List Nat) (hc : closedT tab ts = true) (ht : ts.contains t = true)
    (hv : Value.okWide P w r b0 t v) (h : DataW.Trod enc P w base spare held t v x ps) : ∃ n d, GoodT tab n t d ∧ Rep (allOf w) d v := by
  obtain ⟨n, hn⟩ := h
  obtain ⟨d, i, h1, h2, h3, h4, h5, h6⟩ := rd hT hc n t _ _ ht hn
  exact ⟨n, d, h6, h2, shape_of hT hv h6⟩
end
end Go.Proofs.Ytjfkolocfhmbnaa.Ab
namespace Go.Proofs.Ytjfkolocfhmbnaa
open Go.ChangeShapes Go.WideShapes Go.ChangeAt Go.RowKit Go.Joins
set_option linter.all false
theorem own : ownKnob Try.prog.godebug = none := by kernel_rfl
theorem laidOut' : laidOutB Try.prog = true := by kernel_rfl
theorem args_back {H : Type} {enc : TypeId × Value → H} {P : Program} {W : World} (hl : laidOutB P = true) : ∀ {ts : List TypeId} {vs : List Value} {ds : List (DataW H)} {ps : List MemPlace},
    (ts.all fun t => P.readableRec t && decide (t < P.types.size)) = true → DataW.TrodAll enc P W 0 (fun _ => true) true ts vs ds ps → (∀ x ∈ ps, x.block < W.heap.size) → ∀ W', Below W.heap.size W W' →
    ∀ sp : Nat → Bool, (∀ x ∈ ps, sp x.block = true) → DataW.TrodAll enc P W' 0 sp true ts vs ds ps
  | [], vs, ds, ps, _, h, _, W', hb, sp, hsp => by
    obtain ⟨rfl, rfl, rfl⟩ := trodAll_nil h
    exact trodAll_mk0
  | t :: ts, vs, ds, ps, hr, h, hlt, W', hb, sp, hsp => by
    obtain ⟨v, vs', d, ds', p, q, rfl, rfl, rfl, h0, h1⟩ := trodAll_cons h
    simp only [List.all_cons, Bool.and_eq_true, decide_eq_true_eq] at hr
    exact trodAll_cons_mk (WideElems.Trod_stays hl hr.1.1 hr.1.2 h0 (fun x hx => hb.same (hlt x (by simp [hx]))) (fun x hx => hsp x (by simp [hx])))
      (args_back hl hr.2 h1 (fun x hx => hlt x (by simp [hx])) W' hb sp (fun x hx => hsp x (by simp [hx])))
theorem i64_wf {n : Int} (h : (Lit.int .i64 n).wf = true) : -9223372036854775808 ≤ n ∧ n < 9223372036854775808 := by
  simp [Lit.wf, IntKind.min, IntKind.max, IntKind.signed, IntKind.bits] at h
  omega
end Go.Proofs.Ytjfkolocfhmbnaa
namespace Go.Proofs.Ytjfkolocfhmbnaa.Ab
open Go
set_option linter.all false
section
variable {H : Type} {enc : TypeId × Value → H} {P : Program} {w : World} {base : Nat} {spare : Nat → Bool} {held : Bool} {tab : List (Option TI)} {ts : List Nat}
end
end Go.Proofs.Ytjfkolocfhmbnaa.Ab
namespace Go.Proofs.Ytjfkolocfhmbnaa.Ab
open Go
set_option linter.all false
def wfL22 : List Int → Prop := (fun y => (y.length ≤ maxLen ∧ ∀ z ∈ y, (Lit.int .i64 z).wf = true))
theorem goodL22 {n : Nat} {d : D} (g : GoodT tab n 22 d) : ∃ x : List Int, d = .lst 1 (x.map eI64) .no ∧ wfL22 x := by
  obtain ⟨n1, zs1, _, rfl, hl1, hz1⟩ := good_slice ti22 rfl ti3 (g)
  obtain ⟨x1, rfl, w1⟩ := good_list (f := eI64) (K := (fun y => (Lit.int .i64 y).wf = true)) (p := fun x => GoodT tab n1 3 x) (fun x hx => by obtain ⟨x2, rfl, w2⟩ := good_int ti3 rfl (hx); exact ⟨x2, rfl, w2⟩) zs1 hz1
  exact ⟨x1, rfl, ⟨by simpa using hl1, w1⟩⟩
theorem LadderCuts_true (a0 : List Int) (a1 : Int) (k0 : wfL22 a0) (k1 : (Lit.int .i64 a1).wf = true) : l16_LadderCuts a0 a1 = some true :=
  Pq.ladderCuts_law a1 (List.all_eq_true.2 fun x hx => by
    have := i64_wf (k0.2 x hx)
    unfold inI
    simp only [Bool.and_eq_true, decide_eq_true_eq]; exact this)
end Go.Proofs.Ytjfkolocfhmbnaa.Ab
namespace Go.Proofs.Ytjfkolocfhmbnaa
open Go.ChangeShapes Go.WideShapes Go.ChangeAt Go.RowKit Go.Joins
set_option linter.all false
set_option maxRecDepth 100000 in
theorem liftedLadderCuts (os : Os) (started : os.Started) (H : Type) (enc : TypeId × Value → H) :
    ReturnsInHanded {} Try.checked os 3 .any (Rows.ladderCutsSpec.pre6 enc Try.prog Try.f3 Rows.ladderCutsRow.domain false) (Rows.ladderCutsSpec.post enc Try.prog Try.f3 false true false false) := by
  refine returnsInHanded_of_change (C := Try.checked) own started (by kernel_rfl) Try.func3
    (ChangeSpec.witness6 (enc := enc) (C := Try.checked) false ⟨#[], #[.slice none 0 0, .int .i64 0], []⟩ 8 (by kernel_rfl) (by kernel_rfl) (by kernel_rfl) (by kernel_rfl)) ?_
  intro W base args ds gs before hval0 hW hcnd _
  have hval : ∀ (j : Nat) t v, Try.f3.params[j]? = some t → args[j]? = some v → Value.okWide Try.prog W .any base t v := hval0
  have hW' := hW
  obtain ⟨p, q, hA0, hV, rfl, hfz, hnd⟩ := hW
  have hA : DataW.TrodAll enc Try.prog W 0 (fun _ => true) true Try.f3.params.toList args.toList ds p := hA0
  obtain ⟨rfl, rfl⟩ := trodVars_none hV
  simp only [List.append_nil] at hW'
  have hback := args_back laidOut' (by kernel_rfl) hA (fun x hx => hW'.lt x hx)
  rw [Try.params3] at hA hval
  obtain ⟨v0, vs0, d0, ds0, p0, q0, hargs, rfl, hp0, h0, r0⟩ := trodAll_cons hA
  obtain ⟨v1, vs1, d1, ds1, p1, q1, rfl, rfl, hp1, h1, r1⟩ := trodAll_cons r0
  obtain ⟨rfl, rfl, hpn⟩ := trodAll_nil r1
  obtain rfl : args = #[v0, v1] := by cases args; simp_all
  obtain ⟨n0, x0, g0, rep0⟩ := Ab.rd_arg (t := 22) Ab.htab [3, 22] (by kernel_rfl) (by kernel_rfl) (hval 0 22 v0 rfl rfl) h0
  obtain ⟨a0, rfl, k0⟩ := Ab.goodL22 g0
  obtain ⟨n1, x1, g1, rep1⟩ := Ab.rd_arg (t := 3) Ab.htab [3, 22] (by kernel_rfl) (by kernel_rfl) (hval 1 3 v1 rfl rfl) h1
  obtain ⟨a1, rfl, k1⟩ := Ab.good_int Ab.ti3 rfl g1
  clear hA0 hval0
  refine (Ab.to_calls (us := #[v0, v1]) (Ab.l16_LadderCuts_ok a0 a1 true (Ab.LadderCuts_true a0 a1 k0 k1)) (Ab.ag_all W) (by simp only [Ab.RepsV]; exact ⟨_, _, rfl, rep0, ⟨_, _, rfl, rep1, rfl⟩⟩)).mono fun e W' ⟨he, hb⟩ => ?_
  subst he
  exact ⟨_, rfl, _, _, _, [], p, [], hW', trodAll_cons_mk (shut_bool Try.underlying4 _) trodAll_mk0, hback W' hb _ (fun x hx => by simpa using hW'.lt x hx), rfl, hb.frame _, fun h => by cases h⟩
theorem ladderCuts_holds : Rows.LadderCutsSaid :=
  OpenClaim.holds_of_wide 3 Try.f3 rfl rfl rfl rfl rfl rfl rfl ⟨rfl, rfl, rfl, rfl, rfl⟩ rfl rfl rfl rfl rfl (by kernel_rfl) Try.func3 (by kernel_rfl)
    (of_decide_eq_true (by kernel_rfl)) (by unfold Func.isWrapper; rw [if_neg (of_decide_eq_false (by kernel_rfl))]; exact ⟨rfl, rfl⟩)
    (fun os started H enc _ => liftedLadderCuts os started H enc)
#print axioms ladderCuts_holds
end Go.Proofs.Ytjfkolocfhmbnaa
