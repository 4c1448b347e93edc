/- Loops over lists; insertion into rising lists; two lists place by place. Over any program. -/
import Derived.Test.YtpapooaaccmnpaaTm3
namespace Go.Proofs.Ytpapooaaccmnpaa.Ab
open Go
set_option linter.all false
theorem loop_pre {σ τ α β : Type} {f : σ → Option (Step σ τ)} (l : List β) (g : List β → α) (st : α → Nat → σ) (fin : α → τ)
    (h1 : ∀ pre x post, l = pre ++ x :: post → f (st (g pre) pre.length) = some (.next (st (g (pre ++ [x])) (pre.length + 1))))
    (h2 : f (st (g l) l.length) = some (.done (fin (g l)))) : loopM f (st (g []) 0) = some (fin (g l)) := by
  have key : ∀ (post pre : List β), l = pre ++ post → loopM f (st (g pre) pre.length) = some (fin (g l)) := by
    intro post
    induction post with
    | nil => intro pre h; rw [List.append_nil] at h; subst h; exact loopM_done h2
    | cons x post ih =>
      intro pre h
      rw [loopM_next (h1 pre x post h)]
      have := ih (pre ++ [x]) (by simp [h])
      simpa using this
  simpa using key l [] rfl
/-- The same, with what follows. -/
theorem loop_list {σ τ α β ρ : Type} {f : σ → Option (Step σ τ)} {s0 : σ} {k : τ → Option ρ} {r : Option ρ} (l : List β) (g : List β → α) (st : α → Nat → σ) (fin : α → τ) (h0 : st (g []) 0 = s0)
    (h1 : ∀ pre x post, l = pre ++ x :: post → f (st (g pre) pre.length) = some (.next (st (g (pre ++ [x])) (pre.length + 1))))
    (h2 : f (st (g l) l.length) = some (.done (fin (g l)))) (hk : k (fin (g l)) = r) : Option.bind (loopM f s0) k = r := by
  subst h0
  rw [loop_pre l g st fin h1 h2]; exact hk
theorem idx_pre {β : Type} (pre : List β) (x : β) (post : List β) : idx (pre ++ x :: post) (pre.length : Int) = some x := by
  rw [idx_nat]; simp
theorem lt_pre {β : Type} {l pre : List β} {x : β} {post : List β} (h : l = pre ++ x :: post) : decide ((pre.length : Int) < (l.length : Int)) = true := by
  subst h; simp; omega
theorem lt_end {β : Type} (l : List β) : decide ((l.length : Int) < (l.length : Int)) = false := by simp
theorem inc_pre {β : Type} {l pre : List β} {x : β} {post : List β} (h : l = pre ++ x :: post) (hb : l.length ≤ 4611686018427387904) : IntKind.i64.wrap ((pre.length : Int) + 1) = ((pre.length + 1 : Nat) : Int) := by
  have : pre.length < l.length := by subst h; simp
  rw [IntKind.wrap_i64]; omega
theorem wrap_id {n : Int} (h : -9223372036854775808 ≤ n) (k : n < 9223372036854775808) : IntKind.i64.wrap n = n := by rw [IntKind.wrap_i64]; omega
theorem wrap_nat {n : Nat} (k : n < 4611686018427387904) : IntKind.i64.wrap (n : Int) = (n : Int) := wrap_id (by omega) (by omega)
theorem pre_mem {β : Type} {l pre : List β} {x : β} {post : List β} (h : l = pre ++ x :: post) : x ∈ l := by subst h; simp
theorem app_len {β : Type} {bb : Nat} {xs ys : List β} (hb : bb ≤ 4096) (h : xs.length + ys.length ≤ 8388608) : app bb xs ys = some (xs ++ ys) := by
  refine app_of ?_
  have := Nat.mul_le_mul h hb
  omega
def all2 {β γ : Type} (t : β → γ → Bool) : List β → List γ → Bool
  | [], [] => true
  | x :: l, y :: m => t x y && all2 t l m
  | _, _ => false
theorem all2_len {β γ : Type} {t : β → γ → Bool} : ∀ {l : List β} {m : List γ}, l.length ≠ m.length → all2 t l m = false
  | [], [], h => absurd rfl h
  | [], _ :: _, _ => rfl
  | _ :: _, [], _ => rfl
  | x :: l, y :: m, h => by
    show (t x y && all2 t l m) = false
    rw [all2_len (by simpa using h), Bool.and_false]
theorem loop_all2 {β γ : Type} (t : β → γ → Bool) {l : List β} {m : List γ} (hl : l.length = m.length) {f : Int → Option (Step Int (Unit ⊕ Bool))}
    (h1 : ∀ p x q p' y q', l = p ++ x :: q → m = p' ++ y :: q' → p.length = p'.length → f (p.length : Int) = some (bif t x y then .next ((p.length + 1 : Nat) : Int) else .done (.inr false)))
    (h2 : f (l.length : Int) = some (.done (.inl ()))) : loopM f (0 : Int) = some (bif all2 t l m then .inl () else .inr false) := by
  have key : ∀ (q p : List β) (q' p' : List γ), l = p ++ q → m = p' ++ q' → p.length = p'.length → loopM f (p.length : Int) = some (bif all2 t q q' then .inl () else .inr false) := by
    intro q
    induction q with
    | nil =>
      intro p q' p' e e' hp
      have : q' = [] := by
        subst e e'
        simp only [List.append_nil, List.length_append] at hl
        exact List.eq_nil_of_length_eq_zero (by omega)
      subst this
      rw [List.append_nil] at e; subst e
      rw [loopM_done h2]; rfl
    | cons x q ih =>
      intro p q' p' e e' hp
      cases q' with
      | nil =>
        subst e e'
        simp only [List.append_nil, List.length_append, List.length_cons] at hl
        omega
      | cons y q' =>
        have h := h1 p x q p' y q' e e' hp
        show _ = some (bif (t x y && all2 t q q') then _ else _)
        cases ht : t x y
        · rw [ht, cond_false] at h
          rw [loopM_done h, Bool.false_and]; rfl
        · rw [ht, cond_true] at h
          rw [loopM_next h, Bool.true_and]
          have := ih (p ++ [x]) q' (p' ++ [y]) (by simp [e]) (by simp [e']) (by simp [hp])
          simpa using this
  exact key l [] m [] rfl rfl rfl
theorem pairs {β γ : Type} (t : β → γ → Bool) (l : List β) (m : List γ) {f : Int → Option (Step Int (Unit ⊕ Bool))}
    (h1 : ∀ p x q p' y q', l = p ++ x :: q → m = p' ++ y :: q' → p.length = p'.length → f (p.length : Int) = some (bif t x y then .next ((p.length + 1 : Nat) : Int) else .done (.inr false)))
    (h2 : f (l.length : Int) = some (.done (.inl ()))) :
    (bif ((l.length : Int) != (m.length : Int)) then some false else (Option.bind (α := (Unit) ⊕ (Bool)) (loopM f (0 : Int)) (Sum.elim (fun _ => some true) (fun r => some r)))) = some (all2 t l m) := by
  by_cases hl : l.length = m.length
  · rw [show ((l.length : Int) != (m.length : Int)) = false by simp [hl], cond_false, loop_all2 t hl h1 h2, Option.bind_some]
    cases all2 t l m <;> rfl
  · rw [show ((l.length : Int) != (m.length : Int)) = true by simpa using fun h => hl (by omega), cond_true, all2_len hl]
theorem idx_pre2 {β : Type} {m p : List β} {x : β} {q : List β} {n : Nat} (h : m = p ++ x :: q) (hn : n = p.length) : idx m (n : Int) = some x := by
  subst h hn; exact idx_pre _ _ _
theorem all2_refl {β : Type} {t : β → β → Bool} : ∀ {l : List β}, (∀ x ∈ l, t x x = true) → all2 t l l = true
  | [], _ => rfl
  | x :: l, h => by
    show (t x x && all2 t l l) = true
    rw [h x (by simp), all2_refl fun y hy => h y (List.mem_cons_of_mem _ hy)]; rfl
/-- A loop that looks at each of a list. -/
theorem loop_all {β : Type} {l : List β} {f : Int → Option (Step Int (Unit ⊕ Bool))} (h1 : ∀ p x q, l = p ++ x :: q → f (p.length : Int) = some (.next ((p.length + 1 : Nat) : Int))) (h2 : f (l.length : Int) = some (.done (.inl ()))) : loopM f (0 : Int) = some (.inl ()) :=
  loop_pre l (fun _ => ()) (fun _ n => (n : Int)) (fun _ => .inl ()) (fun p x q h => h1 p x q h) h2
/-! ### Insertion into a rising list -/
section
variable {α : Type} [DecidableEq α] (lt : α → α → Bool)
def insT (w : α) : List α → List α
  | [] => [w]
  | x :: l => if w = x then x :: l else if lt w x = true then w :: x :: l else x :: insT w l
theorem insT_mem (w : α) : ∀ l x, x ∈ insT lt w l ↔ x = w ∨ x ∈ l
  | [], x => by simp [insT]
  | y :: l, x => by
    unfold insT
    split
    · rename_i h; subst h; simp
    · split
      · simp
      · rw [List.mem_cons, insT_mem w l x, List.mem_cons]
        constructor
        · rintro (h | h | h)
          · exact .inr (.inl h)
          · exact .inl h
          · exact .inr (.inr h)
        · rintro (h | h | h)
          · exact .inr (.inl h)
          · exact .inl h
          · exact .inr (.inr h)
theorem insT_len (w : α) : ∀ l, (insT lt w l).length ≤ l.length + 1
  | [] => by simp [insT]
  | y :: l => by
    have := insT_len w l
    unfold insT
    split
    · simp
    · split
      · simp
      · simp only [List.length_cons]; omega
variable {R : α → α → Prop} (hlt : ∀ a b, lt a b = true ↔ (R a b ∧ a ≠ b)) (to : ∀ a b, R a b ∨ R b a) (tr : ∀ a b c, R a b → R b c → R a c) (an : ∀ a b, R a b → R b a → a = b)
include hlt to tr an in
theorem insT_rise (w : α) : ∀ l, Rise R l → Rise R (insT lt w l)
  | [], _ => by simp [insT, Rise]
  | y :: l, h => by
    unfold Rise at h
    rw [List.pairwise_cons] at h
    unfold insT
    split
    · exact List.pairwise_cons.2 h
    · rename_i hne
      split
      · rename_i hl
        have hr := (hlt w y).1 hl
        refine List.pairwise_cons.2 ⟨fun z hz => ?_, List.pairwise_cons.2 h⟩
        rcases List.mem_cons.1 hz with rfl | hz
        · exact hr
        · have h2 := h.1 z hz
          refine ⟨tr _ _ _ hr.1 h2.1, fun e => ?_⟩
          subst e
          exact hne (an _ _ hr.1 h2.1)
      · rename_i hl
        refine List.pairwise_cons.2 ⟨fun z hz => ?_, insT_rise w l h.2⟩
        rcases (insT_mem lt w l z).1 hz with rfl | hz
        · refine ⟨?_, fun e => hne e.symm⟩
          rcases to z y with k | k
          · exact absurd ((hlt z y).2 ⟨k, hne⟩) hl
          · exact k
        · exact h.1 z hz
def insA (ws : List α) : List α := ws.foldl (fun acc w => insT lt w acc) []
theorem insA_snoc (ws : List α) (w : α) : insA lt (ws ++ [w]) = insT lt w (insA lt ws) := by simp [insA]
include hlt to tr an in
theorem insA_all (ws : List α) : Rise R (insA lt ws) ∧ (∀ x, x ∈ insA lt ws ↔ x ∈ ws) ∧ (insA lt ws).length ≤ ws.length := by
  have key : ∀ (ws acc : List α), Rise R acc → Rise R (ws.foldl (fun acc w => insT lt w acc) acc) ∧ (∀ x, x ∈ ws.foldl (fun acc w => insT lt w acc) acc ↔ x ∈ acc ∨ x ∈ ws) ∧ (ws.foldl (fun acc w => insT lt w acc) acc).length ≤ acc.length + ws.length := by
    intro ws
    induction ws with
    | nil => intro acc h; exact ⟨h, by simp, by simp⟩
    | cons w ws ih =>
      intro acc h
      obtain ⟨h1, h2, h3⟩ := ih (insT lt w acc) (insT_rise lt hlt to tr an w acc h)
      have hl := insT_len lt w acc
      refine ⟨h1, fun x => ?_, by simp only [List.foldl_cons, List.length_cons]; omega⟩
      rw [List.foldl_cons, h2 x, insT_mem, List.mem_cons]
      constructor
      · rintro ((h | h) | h)
        · exact .inr (.inl h)
        · exact .inl h
        · exact .inr (.inr h)
      · rintro (h | h | h)
        · exact .inl (.inr h)
        · exact .inl (.inl h)
        · exact .inr h
  obtain ⟨h1, h2, h3⟩ := key ws [] (by simp [Rise])
  exact ⟨h1, fun x => (h2 x).trans (by simp), by simpa [insA] using h3⟩
/-- What the loop holds behind the first of a list: what is laid out, and whether the new one1 is among it. -/
def insS (w : α) (s : List α × Bool) (x : α) : List α × Bool :=
  ((if (!s.2 && (decide (w = x) || lt w x)) = true then (if lt w x = true then s.1 ++ [w, x] else s.1 ++ [x]) else s.1 ++ [x]), s.2 || (decide (w = x) || lt w x))
theorem insS_yes (w : α) : ∀ (l acc : List α), l.foldl (insS lt w) (acc, true) = (acc ++ l, true)
  | [], acc => by simp
  | x :: l, acc => by
    rw [List.foldl_cons, show insS lt w (acc, true) x = (acc ++ [x], true) by simp [insS], insS_yes w l]; simp
variable (ir : ∀ a, lt a a = false)
include ir in
theorem insS_no (w : α) : ∀ (l acc : List α), (if (l.foldl (insS lt w) (acc, false)).2 = true then (l.foldl (insS lt w) (acc, false)).1 else (l.foldl (insS lt w) (acc, false)).1 ++ [w]) = acc ++ insT lt w l
  | [], acc => by simp [insT]
  | x :: l, acc => by
    rw [List.foldl_cons]
    by_cases h1 : w = x
    · subst h1
      rw [show insS lt w (acc, false) w = (acc ++ [w], true) by simp [insS, ir], insS_yes]
      simp [insT]
    · by_cases h2 : lt w x = true
      · rw [show insS lt w (acc, false) x = (acc ++ [w, x], true) by simp [insS, h2], insS_yes]
        simp [insT, h1, h2]
      · rw [show insS lt w (acc, false) x = (acc ++ [x], false) by simp [insS, h1, h2], insS_no w l]
        simp [insT, h1, h2]
theorem insS_len (w : α) : ∀ (l : List α) (s : List α × Bool), (l.foldl (insS lt w) s).1.length ≤ s.1.length + 2 * l.length
  | [], s => by simp
  | x :: l, s => by
    have := insS_len w l (insS lt w s x)
    have h : (insS lt w s x).1.length ≤ s.1.length + 2 := by
      unfold insS; dsimp only; split
      · split <;> simp
      · simp
    rw [List.foldl_cons, List.length_cons]; omega
end
theorem bl_eq : ∀ x y : List UInt8, Op.bytesLess x y = decide (x < y)
  | [], [] => by simp [Op.bytesLess]
  | [], b :: y => by simp [Op.bytesLess]
  | a :: x, [] => by simp [Op.bytesLess]
  | a :: x, b :: y => by
    rw [Op.bytesLess, bl_eq x y, Bool.eq_iff_iff, decide_eq_true_iff, List.cons_lt_cons_iff]
    simp
theorem ltB_iff (a b : ByteArray) : ltB a b = true ↔ (leS a b ∧ a ≠ b) := by
  unfold ltB leS
  rw [ByteArray.toList_eq, ByteArray.toList_eq, bl_eq, decide_eq_true_iff]
  show lsOf a < lsOf b ↔ _
  constructor
  · intro h
    exact ⟨List.le_of_lt h, fun e => by subst e; exact List.lt_irrefl _ h⟩
  · rintro ⟨h, k⟩
    by_cases q : lsOf a < lsOf b
    · exact q
    · exact absurd (lsOf_inj (List.le_antisymm h (List.not_lt.1 q))) k
theorem ltB_irr (a : ByteArray) : ltB a a = false := by
  cases h : ltB a a
  · rfl
  · exact absurd rfl ((ltB_iff a a).1 h).2
theorem insB_all (ws : List ByteArray) : Rise leS (insA ltB ws) ∧ (∀ x, x ∈ insA ltB ws ↔ x ∈ ws) ∧ (insA ltB ws).length ≤ ws.length :=
  insA_all ltB ltB_iff (fun a b => List.le_total _ _) (fun a b c => List.le_trans) (fun a b h k => lsOf_inj (List.le_antisymm h k)) ws
def ltI (a b : Int) : Bool := decide (a < b)
theorem insI_all (ws : List Int) : Rise (· ≤ ·) (insA ltI ws) ∧ (∀ x, x ∈ insA ltI ws ↔ x ∈ ws) ∧ (insA ltI ws).length ≤ ws.length :=
  insA_all ltI (fun a b => by unfold ltI; rw [decide_eq_true_iff]; omega) (fun a b => Int.le_total a b) (fun a b c => Int.le_trans) (fun a b h k => by omega) ws
end Go.Proofs.Ytpapooaaccmnpaa.Ab
