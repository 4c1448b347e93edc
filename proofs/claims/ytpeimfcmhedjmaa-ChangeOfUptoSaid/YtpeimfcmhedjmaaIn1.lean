/- Insertion into rising lists. -/
import Derived.Test.YtpeimfcmhedjmaaTm3
import Derived.Test.YtpeimfcmhedjmaaBc
namespace Go.Proofs.Ytpeimfcmhedjmaa.Ab
open Go
set_option linter.all false
/-! ### Insertion into a rising list -/
section
variable {α : Type} [DecidableEq α] (lt : α → α → Bool)
def insT (w : α) : List α → List α
  | [] => [w]
  | x :: l => if w = x then x :: l else if lt w x = true then w :: x :: l else x :: insT w l
theorem insT_mem (w : α) : ∀ l x, x ∈ insT lt w l ↔ x = w ∨ x ∈ l
  | [], x => by simp [insT]
  | y :: l, x => by
    unfold insT
    split
    · rename_i h; subst h; simp
    · split
      · simp
      · rw [List.mem_cons, insT_mem w l x, List.mem_cons]
        constructor
        · rintro (h | h | h)
          · exact .inr (.inl h)
          · exact .inl h
          · exact .inr (.inr h)
        · rintro (h | h | h)
          · exact .inr (.inl h)
          · exact .inl h
          · exact .inr (.inr h)
theorem insT_len (w : α) : ∀ l, (insT lt w l).length ≤ l.length + 1
  | [] => by simp [insT]
  | y :: l => by
    have := insT_len w l
    unfold insT
    split
    · simp
    · split
      · simp
      · simp only [List.length_cons]; omega
variable {R : α → α → Prop} (hlt : ∀ a b, lt a b = true ↔ (R a b ∧ a ≠ b)) (to : ∀ a b, R a b ∨ R b a) (tr : ∀ a b c, R a b → R b c → R a c) (an : ∀ a b, R a b → R b a → a = b)
include hlt to tr an in
theorem insT_rise (w : α) : ∀ l, Rise R l → Rise R (insT lt w l)
  | [], _ => by simp [insT, Rise]
  | y :: l, h => by
    unfold Rise at h
    rw [List.pairwise_cons] at h
    unfold insT
    split
    · exact List.pairwise_cons.2 h
    · rename_i hne
      split
      · rename_i hl
        have hr := (hlt w y).1 hl
        refine List.pairwise_cons.2 ⟨fun z hz => ?_, List.pairwise_cons.2 h⟩
        rcases List.mem_cons.1 hz with rfl | hz
        · exact hr
        · have h2 := h.1 z hz
          refine ⟨tr _ _ _ hr.1 h2.1, fun e => ?_⟩
          subst e
          exact hne (an _ _ hr.1 h2.1)
      · rename_i hl
        refine List.pairwise_cons.2 ⟨fun z hz => ?_, insT_rise w l h.2⟩
        rcases (insT_mem lt w l z).1 hz with rfl | hz
        · refine ⟨?_, fun e => hne e.symm⟩
          rcases to z y with k | k
          · exact absurd ((hlt z y).2 ⟨k, hne⟩) hl
          · exact k
        · exact h.1 z hz
def insA (ws : List α) : List α := ws.foldl (fun acc w => insT lt w acc) []
theorem insA_snoc (ws : List α) (w : α) : insA lt (ws ++ [w]) = insT lt w (insA lt ws) := by simp [insA]
include hlt to tr an in
theorem insA_all (ws : List α) : Rise R (insA lt ws) ∧ (∀ x, x ∈ insA lt ws ↔ x ∈ ws) ∧ (insA lt ws).length ≤ ws.length := by
  have key : ∀ (ws acc : List α), Rise R acc → Rise R (ws.foldl (fun acc w => insT lt w acc) acc) ∧ (∀ x, x ∈ ws.foldl (fun acc w => insT lt w acc) acc ↔ x ∈ acc ∨ x ∈ ws) ∧ (ws.foldl (fun acc w => insT lt w acc) acc).length ≤ acc.length + ws.length := by
    intro ws
    induction ws with
    | nil => intro acc h; exact ⟨h, by simp, by simp⟩
    | cons w ws ih =>
      intro acc h
      obtain ⟨h1, h2, h3⟩ := ih (insT lt w acc) (insT_rise lt hlt to tr an w acc h)
      have hl := insT_len lt w acc
      refine ⟨h1, fun x => ?_, by simp only [List.foldl_cons, List.length_cons]; omega⟩
      rw [List.foldl_cons, h2 x, insT_mem, List.mem_cons]
      constructor
      · rintro ((h | h) | h)
        · exact .inr (.inl h)
        · exact .inl h
        · exact .inr (.inr h)
      · rintro (h | h | h)
        · exact .inl (.inr h)
        · exact .inl (.inl h)
        · exact .inr h
  obtain ⟨h1, h2, h3⟩ := key ws [] (by simp [Rise])
  exact ⟨h1, fun x => (h2 x).trans (by simp), by simpa [insA] using h3⟩
/-- What the loop holds behind the first of a list: what is laid out, and whether the new one1 is among it. -/
def insS (w : α) (s : List α × Bool) (x : α) : List α × Bool :=
  ((if (!s.2 && (decide (w = x) || lt w x)) = true then (if lt w x = true then s.1 ++ [w, x] else s.1 ++ [x]) else s.1 ++ [x]), s.2 || (decide (w = x) || lt w x))
theorem insS_yes (w : α) : ∀ (l acc : List α), l.foldl (insS lt w) (acc, true) = (acc ++ l, true)
  | [], acc => by simp
  | x :: l, acc => by
    rw [List.foldl_cons, show insS lt w (acc, true) x = (acc ++ [x], true) by simp [insS], insS_yes w l]; simp
variable (ir : ∀ a, lt a a = false)
include ir in
theorem insS_no (w : α) : ∀ (l acc : List α), (if (l.foldl (insS lt w) (acc, false)).2 = true then (l.foldl (insS lt w) (acc, false)).1 else (l.foldl (insS lt w) (acc, false)).1 ++ [w]) = acc ++ insT lt w l
  | [], acc => by simp [insT]
  | x :: l, acc => by
    rw [List.foldl_cons]
    by_cases h1 : w = x
    · subst h1
      rw [show insS lt w (acc, false) w = (acc ++ [w], true) by simp [insS, ir], insS_yes]
      simp [insT]
    · by_cases h2 : lt w x = true
      · rw [show insS lt w (acc, false) x = (acc ++ [w, x], true) by simp [insS, h2], insS_yes]
        simp [insT, h1, h2]
      · rw [show insS lt w (acc, false) x = (acc ++ [x], false) by simp [insS, h1, h2], insS_no w l]
        simp [insT, h1, h2]
theorem insS_len (w : α) : ∀ (l : List α) (s : List α × Bool), (l.foldl (insS lt w) s).1.length ≤ s.1.length + 2 * l.length
  | [], s => by simp
  | x :: l, s => by
    have := insS_len w l (insS lt w s x)
    have h : (insS lt w s x).1.length ≤ s.1.length + 2 := by
      unfold insS; dsimp only; split
      · split <;> simp
      · simp
    rw [List.foldl_cons, List.length_cons]; omega
end
theorem bl_eq : ∀ x y : List UInt8, Op.bytesLess x y = decide (x < y)
  | [], [] => by simp [Op.bytesLess]
  | [], b :: y => by simp [Op.bytesLess]
  | a :: x, [] => by simp [Op.bytesLess]
  | a :: x, b :: y => by
    rw [Op.bytesLess, bl_eq x y, Bool.eq_iff_iff, decide_eq_true_iff, List.cons_lt_cons_iff]
    simp
theorem ltB_iff (a b : ByteArray) : ltB a b = true ↔ (leS a b ∧ a ≠ b) := by
  unfold ltB leS
  rw [ByteArray.toList_eq, ByteArray.toList_eq, bl_eq, decide_eq_true_iff]
  show lsOf a < lsOf b ↔ _
  constructor
  · intro h
    exact ⟨List.le_of_lt h, fun e => by subst e; exact List.lt_irrefl _ h⟩
  · rintro ⟨h, k⟩
    by_cases q : lsOf a < lsOf b
    · exact q
    · exact absurd (lsOf_inj (List.le_antisymm h (List.not_lt.1 q))) k
theorem ltB_irr (a : ByteArray) : ltB a a = false := by
  cases h : ltB a a
  · rfl
  · exact absurd rfl ((ltB_iff a a).1 h).2
theorem insB_all (ws : List ByteArray) : Rise leS (insA ltB ws) ∧ (∀ x, x ∈ insA ltB ws ↔ x ∈ ws) ∧ (insA ltB ws).length ≤ ws.length :=
  insA_all ltB ltB_iff (fun a b => List.le_total _ _) (fun a b c => List.le_trans) (fun a b h k => lsOf_inj (List.le_antisymm h k)) ws
def ltI (a b : Int) : Bool := decide (a < b)
theorem insI_all (ws : List Int) : Rise (· ≤ ·) (insA ltI ws) ∧ (∀ x, x ∈ insA ltI ws ↔ x ∈ ws) ∧ (insA ltI ws).length ≤ ws.length :=
  insA_all ltI (fun a b => by unfold ltI; rw [decide_eq_true_iff]; omega) (fun a b => Int.le_total a b) (fun a b c => Int.le_trans) (fun a b h k => by omega) ws
end Go.Proofs.Ytpeimfcmhedjmaa.Ab
