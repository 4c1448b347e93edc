/- Lists that rise, each once. Over any program. -/
import Derived.Test.YtpeimfcmhedjmaaSo0
import Derived.Test.YtpeimfcmhedjmaaBc
namespace Go.Proofs.Ytpeimfcmhedjmaa.Ab
open Go
set_option linter.all false
section
variable {α : Type} {R : α → α → Prop}
/-- Rising, each once. -/
def Rise (R : α → α → Prop) (l : List α) : Prop := l.Pairwise fun a b => R a b ∧ a ≠ b
theorem rise_unique (an : ∀ a b, R a b → R b a → a = b) : ∀ {l m : List α}, Rise R l → Rise R m → (∀ x, x ∈ l ↔ x ∈ m) → l = m
  | [], [], _, _, _ => rfl
  | [], y :: m, _, _, h => by have := (h y).2 (by simp); cases this
  | x :: l, [], _, _, h => by have := (h x).1 (by simp); cases this
  | x :: l, y :: m, hl, hm, h => by
    unfold Rise at hl hm
    rw [List.pairwise_cons] at hl hm
    have hxy : x = y := by
      rcases List.mem_cons.1 ((h x).1 (by simp)) with e | e
      · exact e
      · rcases List.mem_cons.1 ((h y).2 (by simp)) with e2 | e2
        · exact e2.symm
        · exact an _ _ (hl.1 _ e2).1 (hm.1 _ e).1
    subst hxy
    congr 1
    refine rise_unique an hl.2 hm.2 fun z => ?_
    constructor
    · intro hz
      rcases List.mem_cons.1 ((h z).1 (List.mem_cons_of_mem _ hz)) with e | e
      · exact absurd e.symm (hl.1 _ hz).2
      · exact e
    · intro hz
      rcases List.mem_cons.1 ((h z).2 (List.mem_cons_of_mem _ hz)) with e | e
      · exact absurd e.symm (hm.1 _ hz).2
      · exact e
variable [Inhabited α] [DecidableEq α]
theorem compactUp_rise (tr : ∀ a b c, R a b → R b c → R a c) (re : ∀ a, R a a) (an : ∀ a b, R a b → R b a → a = b) (d : Array α) (hs : ∀ i j, i < j → j < d.size → R d[i]! d[j]!) : ∀ m, m ≤ d.size →
    Rise R (Lib.compactUpTo d m) ∧ (∀ x, x ∈ Lib.compactUpTo d m ↔ ∃ j, j < m ∧ x = d[j]!)
  | 0, _ => ⟨by simp [Rise, Lib.compactUpTo], by simp [Lib.compactUpTo]⟩
  | m + 1, h => by
    obtain ⟨h1, h2⟩ := compactUp_rise tr re an d hs m (by omega)
    rw [Lib.compactUpTo_succ]
    by_cases k : Lib.keeps d m = true
    · rw [if_pos k]
      refine ⟨?_, fun x => ?_⟩
      · unfold Rise at h1 ⊢
        rw [List.pairwise_append]
        refine ⟨h1, by simp, fun a ha b hb => ?_⟩
        simp only [List.mem_singleton] at hb; subst hb
        obtain ⟨j, hj, rfl⟩ := (h2 a).1 ha
        refine ⟨hs j m hj (by omega), fun e => ?_⟩
        have hk : m = 0 ∨ d[m]! ≠ d[m - 1]! := by simpa [Lib.keeps] using k
        rcases hk with hk | hk
        · omega
        · refine hk (an _ _ ?_ (hs (m - 1) m (by omega) (by omega)))
          rw [← e]
          by_cases hjm : j = m - 1
          · subst hjm; exact re _
          · exact hs j (m - 1) (by omega) (by omega)
      · rw [List.mem_append, h2 x, List.mem_singleton]
        constructor
        · rintro (⟨j, hj, rfl⟩ | rfl)
          · exact ⟨j, by omega, rfl⟩
          · exact ⟨m, by omega, rfl⟩
        · rintro ⟨j, hj, rfl⟩
          by_cases hjm : j = m
          · subst hjm; exact .inr rfl
          · exact .inl ⟨j, by omega, rfl⟩
    · rw [if_neg k, List.append_nil]
      refine ⟨h1, fun x => ?_⟩
      rw [h2 x]
      have hk : ¬ (m = 0 ∨ d[m]! ≠ d[m - 1]!) := by simpa [Lib.keeps] using k
      have hm : m ≠ 0 := fun e => hk (.inl e)
      have he : d[m]! = d[m - 1]! := by
        by_cases q : d[m]! = d[m - 1]!
        · exact q
        · exact absurd (.inr q) hk
      constructor
      · rintro ⟨j, hj, rfl⟩; exact ⟨j, by omega, rfl⟩
      · rintro ⟨j, hj, rfl⟩
        by_cases hjm : j = m
        · subst hjm; exact ⟨j - 1, by omega, he⟩
        · exact ⟨j, by omega, rfl⟩
theorem compact_rise (tr : ∀ a b c, R a b → R b c → R a c) (re : ∀ a, R a a) (an : ∀ a b, R a b → R b a → a = b) {l : List α} (hs : l.Pairwise R) : Rise R (Lib.compact l) ∧ ∀ x, x ∈ Lib.compact l ↔ x ∈ l := by
  have hg : ∀ j, j < l.length → l.toArray[j]! = l[j]! := fun j hj => by
    rw [getElem!_pos l.toArray j (by simpa using hj), getElem!_pos l j hj]; simp
  obtain ⟨h1, h2⟩ := compactUp_rise tr re an l.toArray (fun i j hij hj => by
    have hj' : j < l.length := by simpa using hj
    rw [hg i (by omega), hg j hj', getElem!_pos l i (by omega), getElem!_pos l j hj']
    exact List.pairwise_iff_getElem.1 hs i j _ _ hij) l.length (by simp)
  refine ⟨h1, fun x => ?_⟩
  unfold Lib.compact
  rw [h2 x]
  constructor
  · rintro ⟨j, hj, rfl⟩
    rw [hg j hj, getElem!_pos l j hj]; exact List.getElem_mem _
  · intro hx
    obtain ⟨j, hj, rfl⟩ := List.getElem_of_mem hx
    exact ⟨j, hj, by rw [hg j hj, getElem!_pos l j hj]⟩
end
theorem compactI_rise (xs : List Int) : Rise (· ≤ ·) (compactI (sortI xs)) ∧ ∀ x, x ∈ compactI (sortI xs) ↔ x ∈ xs := by
  have hs : (sortI xs).Pairwise (· ≤ ·) := by
    have := List.pairwise_mergeSort (le := fun x y : Int => decide (x ≤ y)) (fun a b c h1 h2 => by simp at h1 h2 ⊢; omega) (fun a b => by simp; omega) xs
    exact this.imp fun h => by simpa using h
  obtain ⟨h1, h2⟩ := compact_rise (R := fun a b : Int => a ≤ b) (fun a b c => Int.le_trans) Int.le_refl (fun a b h k => by omega) hs
  exact ⟨h1, fun x => (h2 x).trans (by unfold sortI; exact List.mem_mergeSort)⟩
theorem compactI_of {xs l : List Int} (hl : Rise (· ≤ ·) l) (hm : ∀ x, x ∈ l ↔ x ∈ xs) : compactI (sortI xs) = l := by
  obtain ⟨h1, h2⟩ := compactI_rise xs
  exact rise_unique (fun a b h k => by omega) h1 hl fun x => (h2 x).trans (hm x).symm
def leS (a b : ByteArray) : Prop := lsOf a ≤ lsOf b
theorem lsOf_inj {a b : ByteArray} (h : lsOf a = lsOf b) : a = b := by rw [← bs_ls a, ← bs_ls b, h]
theorem compactB_rise (xs : List ByteArray) : Rise leS (compactB (sortB xs)) ∧ ∀ x, x ∈ compactB (sortB xs) ↔ x ∈ xs := by
  have e : (sortB xs).map lsOf = (xs.map lsOf).mergeSort (fun x y => decide (x ≤ y)) := by
    unfold sortB; rw [List.map_map]
    have : (lsOf ∘ bsOf) = id := by funext l; exact ls_bs l
    rw [this, List.map_id]
  have hs : ((sortB xs).map lsOf).Pairwise (· ≤ ·) := by
    rw [e]
    have := List.pairwise_mergeSort (le := fun x y : List UInt8 => decide (x ≤ y)) (fun a b c h1 h2 => by simp at h1 h2 ⊢; exact List.le_trans h1 h2) (fun a b => by simp; exact List.le_total a b) (xs.map lsOf)
    exact this.imp fun h => by simpa using h
  obtain ⟨h1, h2⟩ := compact_rise (R := fun a b : List UInt8 => a ≤ b) (fun a b c => List.le_trans) List.le_refl (fun a b h k => List.le_antisymm h k) hs
  unfold compactB
  refine ⟨?_, fun x => ?_⟩
  · unfold Rise at h1 ⊢
    rw [List.pairwise_map]
    refine h1.imp fun {a b} h => ⟨by unfold leS; rw [ls_bs, ls_bs]; exact h.1, fun q => h.2 ?_⟩
    have := congrArg lsOf q
    rwa [ls_bs, ls_bs] at this
  · rw [List.mem_map]
    constructor
    · rintro ⟨l, hl, rfl⟩
      have := (h2 l).1 hl
      rw [e, List.mem_mergeSort, List.mem_map] at this
      obtain ⟨y, hy, rfl⟩ := this
      rw [bs_ls]; exact hy
    · intro hx
      refine ⟨lsOf x, (h2 _).2 ?_, bs_ls x⟩
      rw [e, List.mem_mergeSort]; exact List.mem_map_of_mem hx
theorem compactB_of {xs l : List ByteArray} (hl : Rise leS l) (hm : ∀ x, x ∈ l ↔ x ∈ xs) : compactB (sortB xs) = l := by
  obtain ⟨h1, h2⟩ := compactB_rise xs
  exact rise_unique (fun a b h k => lsOf_inj (List.le_antisymm h k)) h1 hl fun x => (h2 x).trans (hm x).symm
end Go.Proofs.Ytpeimfcmhedjmaa.Ab
