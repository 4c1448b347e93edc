/- What a function computes, as a function of Lean: the frame of such texts. Over any program. -/
import Derived.Test.YtpapooaaccmnpaaAb17
namespace Go.Proofs.Ytpapooaaccmnpaa.Ab
open Go
set_option linter.all false

/-! ### Loops -/
inductive Step (σ τ : Type) where
  | next (s : σ)
  | done (t : τ)
def loopN {σ τ : Type} (f : σ → Option (Step σ τ)) : Nat → σ → Option τ
  | 0, _ => none
  | n + 1, s => match f s with
    | none => none
    | some (.next s') => loopN f n s'
    | some (.done t) => some t
theorem loopN_one {σ τ : Type} {f : σ → Option (Step σ τ)} : ∀ {n m : Nat} {s : σ} {t t' : τ}, loopN f n s = some t → loopN f m s = some t' → t = t'
  | 0, _, _, _, _, h, _ => by simp [loopN] at h
  | _ + 1, 0, _, _, _, _, h => by simp [loopN] at h
  | n + 1, m + 1, s, t, t', h, k => by
    simp only [loopN] at h k
    cases hf : f s with
    | none => rw [hf] at h; cases h
    | some x =>
      rw [hf] at h k
      cases x with
      | next s' => exact loopN_one h k
      | done u => simp at h k; rw [← h, ← k]
open Classical in
noncomputable def loopM {σ τ : Type} (f : σ → Option (Step σ τ)) (s : σ) : Option τ := if h : ∃ n t, loopN f n s = some t then some h.choose_spec.choose else none
theorem loopM_of {σ τ : Type} {f : σ → Option (Step σ τ)} {n : Nat} {s : σ} {t : τ} (h : loopN f n s = some t) : loopM f s = some t := by
  have hx : ∃ n t, loopN f n s = some t := ⟨n, t, h⟩
  unfold loopM
  rw [dif_pos hx]
  exact congrArg some (loopN_one hx.choose_spec.choose_spec h)
theorem loopM_inv {σ τ : Type} {f : σ → Option (Step σ τ)} {s : σ} {t : τ} (h : loopM f s = some t) : ∃ n, loopN f n s = some t := by
  unfold loopM at h
  split at h
  · rename_i hx
    simp only [Option.some.injEq] at h
    exact ⟨_, h ▸ hx.choose_spec.choose_spec⟩
  · cases h
theorem loopM_done {σ τ : Type} {f : σ → Option (Step σ τ)} {s : σ} {t : τ} (h : f s = some (.done t)) : loopM f s = some t := loopM_of (n := 1) (by simp [loopN, h])
theorem loopM_next {σ τ : Type} {f : σ → Option (Step σ τ)} {s s' : σ} (h : f s = some (.next s')) : loopM f s = loopM f s' := by
  cases e : loopM f s' with
  | some t =>
    obtain ⟨n, hn⟩ := loopM_inv e
    exact loopM_of (n := n + 1) (by simp [loopN, h, hn])
  | none =>
    cases e2 : loopM f s with
    | none => rfl
    | some t =>
      obtain ⟨n, hn⟩ := loopM_inv e2
      cases n with
      | zero => simp [loopN] at hn
      | succ n =>
        simp only [loopN, h] at hn
        rw [loopM_of hn] at e; cases e
theorem loopM_none {σ τ : Type} {f : σ → Option (Step σ τ)} {s : σ} (h : f s = none) : loopM f s = none := by
  cases e : loopM f s with
  | none => rfl
  | some t =>
    obtain ⟨n, hn⟩ := loopM_inv e
    cases n with
    | zero => simp [loopN] at hn
    | succ n => simp [loopN, h] at hn
/-- A loop's law: what comes of a state, an invariant, a measure. -/
theorem loopM_eq {σ τ : Type} {f : σ → Option (Step σ τ)} (I : σ → Prop) (μ : σ → Nat) (g : σ → τ)
    (h : ∀ s, I s → (∃ s', f s = some (.next s') ∧ I s' ∧ μ s' < μ s ∧ g s' = g s) ∨ f s = some (.done (g s))) (s : σ) (hs : I s) : loopM f s = some (g s) := by
  have key : ∀ n s, μ s < n → I s → loopM f s = some (g s) := by
    intro n
    induction n with
    | zero => intro s hn; omega
    | succ n ih =>
      intro s hn hs
      rcases h s hs with ⟨s', h1, h2, h3, h4⟩ | h1
      · rw [loopM_next h1, ih s' (by omega) h2, h4]
      · exact loopM_done h1
  exact key (μ s + 1) s (Nat.lt_succ_self _) hs
/-- A loop's law, weaker: what is so of what comes of it. -/
theorem loopM_some {σ τ : Type} {f : σ → Option (Step σ τ)} (I : σ → Prop) (μ : σ → Nat) (p : τ → Prop)
    (h : ∀ s, I s → (∃ s', f s = some (.next s') ∧ I s' ∧ μ s' < μ s) ∨ ∃ t, f s = some (.done t) ∧ p t) (s : σ) (hs : I s) : ∃ t, loopM f s = some t ∧ p t := by
  have key : ∀ n s, μ s < n → I s → ∃ t, loopM f s = some t ∧ p t := by
    intro n
    induction n with
    | zero => intro s hn; omega
    | succ n ih =>
      intro s hn hs
      rcases h s hs with ⟨s', h1, h2, h3⟩ | ⟨t, h1, h2⟩
      · rw [loopM_next h1]; exact ih s' (by omega) h2
      · exact ⟨t, loopM_done h1, h2⟩
  exact key (μ s + 1) s (Nat.lt_succ_self _) hs

theorem loop_bind {σ τ ρ : Type} {f : σ → Option (Step σ τ)} {g : τ → Option ρ} {r : ρ} (I : σ → Prop) (μ : σ → Nat) (p : τ → Prop) {s : σ}
    (hs : I s) (h : ∀ s, I s → (∃ s', f s = some (.next s') ∧ I s' ∧ μ s' < μ s) ∨ ∃ t, f s = some (.done t) ∧ p t) (hg : ∀ t, p t → g t = some r) : Option.bind (loopM f s) g = some r := by
  obtain ⟨t, h1, h2⟩ := loopM_some I μ p h s hs
  rw [h1]; exact hg t h2

/-! ### Tests -/
/-- It comes to something of which φ is so. -/
def Yes {α : Type} (m : Option α) (φ : α → Prop) : Prop := ∃ x, m = some x ∧ φ x
section
variable {α β : Type} {φ : α → Prop} {ψ : β → Prop}
theorem yes_bind {m : Option α} {f : α → Option β} (h : Yes (m.bind f) ψ) : ∃ a, m = some a ∧ Yes (f a) ψ := by
  obtain ⟨x, h1, h2⟩ := h
  rw [Option.bind_eq_some_iff] at h1
  obtain ⟨a, h3, h4⟩ := h1
  exact ⟨a, h3, x, h4, h2⟩
theorem yes_t {c : Bool} {a b : Option α} (hc : c = true) (h : Yes (bif c then a else b) φ) : Yes a φ := by subst hc; exact h
theorem yes_f {c : Bool} {a b : Option α} (hc : c = false) (h : Yes (bif c then a else b) φ) : Yes b φ := by subst hc; exact h
theorem yes_some {a : α} (h : Yes (some a) φ) : φ a := by
  obtain ⟨x, h1, h2⟩ := h
  cases h1; exact h2
theorem yes_of {m : Option α} {r : α} (h : m = some r) : Yes m (fun x => x = r) := ⟨r, h, rfl⟩
theorem yes_eq {a r : α} (h : Yes (some a) (fun x => x = r)) : a = r := by obtain ⟨x, h1, h2⟩ := h; cases h1; exact h2
theorem yes_m {m : Option α} (h : Yes m φ) : ∃ a, m = some a ∧ Yes (some a) φ := by
  obtain ⟨x, h1, h2⟩ := h
  exact ⟨x, h1, x, rfl, h2⟩
theorem yes_none (h : Yes none φ) : False := by obtain ⟨x, h1, _⟩ := h; cases h1
/-- A condition that is owed. -/
def need (p : Bool) : Option Unit := bif p then some () else none
theorem need_ok {p : Bool} {u : Unit} (h : need p = some u) : p = true := by
  cases p with
  | true => rfl
  | false => cases h
theorem need_t {p : Bool} (h : p = true) : need p = some () := by subst h; rfl
theorem need_bind {p : Bool} (h : p = true) (f : Unit → Option α) : (need p).bind f = f () := by subst h; rfl

/-! ### Elements and parts -/
def idx (xs : List α) (i : Int) : Option α := bif decide (0 ≤ i) then xs[i.toNat]? else none
theorem idx_ok {xs : List α} {i : Int} {x : α} (h : idx xs i = some x) : 0 ≤ i ∧ xs[i.toNat]? = some x := by
  unfold idx at h
  by_cases hi : 0 ≤ i
  · rw [decide_eq_true hi] at h; exact ⟨hi, h⟩
  · rw [decide_eq_false hi] at h; cases h
theorem idx_nonneg {xs : List α} {i : Int} {x : α} (h : idx xs i = some x) : 0 ≤ i := (idx_ok h).1
theorem idx_map {xs : List α} {i : Int} {x : α} {e : α → D} (h : idx xs i = some x) : (xs.map e)[i.toNat]? = some (e x) := by
  rw [List.getElem?_map, (idx_ok h).2]; rfl
theorem idx_nat (xs : List α) (n : Nat) : idx xs (n : Int) = xs[n]? := by simp [idx]
def bAt (s : ByteArray) (i : Int) : Option UInt8 := idx s.data.toList i
theorem bAt_ok {s : ByteArray} {i : Int} {x : UInt8} (h : bAt s i = some x) : s.data.toList[i.toNat]? = some x := (idx_ok h).2
theorem bAt_nonneg {s : ByteArray} {i : Int} {x : UInt8} (h : bAt s i = some x) : 0 ≤ i := (idx_ok h).1
/-- xs[l:h]. -/
def cutL (xs : List α) (l h : Int) : Option (List α) := bif decide (0 ≤ l) && decide (l ≤ h) && decide (h ≤ (xs.length : Int)) then some ((xs.drop l.toNat).take (h.toNat - l.toNat)) else none
theorem cutL_ok {xs ys : List α} {l h : Int} (e : cutL xs l h = some ys) : ys = (xs.drop l.toNat).take (h.toNat - l.toNat) ∧ l = (l.toNat : Int) ∧ h = (h.toNat : Int) ∧ l.toNat ≤ h.toNat ∧ h.toNat ≤ xs.length := by
  unfold cutL at e
  cases hc : decide (0 ≤ l) && decide (l ≤ h) && decide (h ≤ (xs.length : Int)) with
  | false => rw [hc] at e; cases e
  | true =>
    rw [hc] at e
    simp only [Bool.and_eq_true, decide_eq_true_eq] at hc
    obtain ⟨⟨h1, h2⟩, h3⟩ := hc
    simp only [cond_true, Option.some.injEq] at e
    exact ⟨e.symm, by omega, by omega, by omega, by omega⟩
theorem cutL_nat {xs : List α} {l h : Nat} (h1 : l ≤ h) (h2 : h ≤ xs.length) : cutL xs (l : Int) (h : Int) = some ((xs.drop l).take (h - l)) := by
  unfold cutL
  rw [show (decide ((0 : Int) ≤ (l : Int)) && decide ((l : Int) ≤ (h : Int)) && decide ((h : Int) ≤ (xs.length : Int))) = true by simp; omega]
  simp
/-- s[l:h]. -/
def cutS (s : ByteArray) (l h : Int) : Option ByteArray := bif decide (0 ≤ l) && decide (l ≤ h) && decide (h ≤ (s.size : Int)) then some (s.extract l.toNat h.toNat) else none
theorem cutS_ok {s r : ByteArray} {l h : Int} (e : cutS s l h = some r) : r = s.extract l.toNat h.toNat ∧ l = (l.toNat : Int) ∧ h = (h.toNat : Int) ∧ l.toNat ≤ h.toNat ∧ h.toNat ≤ s.size := by
  unfold cutS at e
  cases hc : decide (0 ≤ l) && decide (l ≤ h) && decide (h ≤ (s.size : Int)) with
  | false => rw [hc] at e; cases e
  | true =>
    rw [hc] at e
    simp only [Bool.and_eq_true, decide_eq_true_eq] at hc
    obtain ⟨⟨h1, h2⟩, h3⟩ := hc
    simp only [cond_true, Option.some.injEq] at e
    exact ⟨e.symm, by omega, by omega, by omega, by omega⟩
/-- append, of elements of bb bytes. -/
def app (bb : Nat) (xs ys : List α) : Option (List α) := bif decide ((xs.length + ys.length) * bb ≤ 140737488355328) then some (xs ++ ys) else none
theorem app_ok {bb : Nat} {xs ys zs : List α} (h : app bb xs ys = some zs) : zs = xs ++ ys ∧ (xs.length + ys.length) * bb ≤ 140737488355328 := by
  unfold app at h
  cases hc : decide ((xs.length + ys.length) * bb ≤ 140737488355328) with
  | false => rw [hc] at h; cases h
  | true =>
    rw [hc] at h
    simp only [cond_true, Option.some.injEq] at h
    exact ⟨h.symm, of_decide_eq_true hc⟩
theorem app_of {bb : Nat} {xs ys : List α} (h : (xs.length + ys.length) * bb ≤ 140737488355328) : app bb xs ys = some (xs ++ ys) := by
  unfold app; rw [decide_eq_true h]; rfl
theorem app_bound {bb : Nat} {xs ys zs : List α} {e : α → D} (h : app bb xs ys = some zs) : ((xs.map e).length + (ys.map e).length) * bb ≤ 140737488355328 := by
  simpa using (app_ok h).2
theorem app_map {bb : Nat} {xs ys zs : List α} {e : α → D} (h : app bb xs ys = some zs) : xs.map e ++ ys.map e = zs.map e := by
  rw [(app_ok h).1, List.map_append]
theorem map_len {xs : List α} {e : α → D} : (xs.map e).length = xs.length := List.length_map _
end

/-! ### Weakening -/
/-- Cells of the one are cells of the other. -/
def WkC (d d' : D) : Prop := ∀ H us, RepC H d us → RepC H d' us
/-- Cells one by one, of flat data. -/
def WkR (ds ds' : List D) : Prop := ∀ H us, Reps H ds us → Reps H ds' us
theorem WkC.refl (d : D) : WkC d d := fun _ _ h => h
theorem WkC.no {k : Nat} {xs : List D} {c : Cap} : WkC (.lst k xs c) (.lst k xs .no) := fun H us h => by
  simp only [RepC] at h ⊢
  obtain ⟨y, e, _, h⟩ := h
  exact ⟨y, e, trivial, h⟩
theorem WkC.nil {k k' : Nat} {c : Cap} : WkC (.lst k [] c) (.lst k' [] .no) := fun H us h => by
  simp only [RepC] at h ⊢
  obtain ⟨y, e, _, h⟩ := h
  rcases h with ⟨_, h⟩ | ⟨b, off, m, e1, e2, e3⟩
  · exact ⟨y, e, trivial, .inl ⟨by trivial, h⟩⟩
  · exact ⟨y, e, trivial, .inr ⟨b, off, m, e1, e2, by simp [Els]⟩⟩
theorem WkC.nilF {k k' : Nat} : WkC (.lst k [] .full) (.lst k' [] .full) := fun H us h => by
  simp only [RepC] at h ⊢
  obtain ⟨y, e, h0, h⟩ := h
  rcases h with ⟨_, h⟩ | ⟨b, off, m, e1, e2, e3⟩
  · exact ⟨y, e, h0, .inl ⟨by trivial, h⟩⟩
  · exact ⟨y, e, h0, .inr ⟨b, off, m, e1, e2, by simp [Els]⟩⟩
theorem WkC.agg {ds ds' : List D} (h : WkR ds ds') : WkC (.agg ds) (.agg ds') := fun H us k => by
  simp only [RepC] at k ⊢; exact h H us k
theorem WkC.of_eq {d d' : D} (h : d = d') : WkC d d' := h ▸ WkC.refl d
theorem WkR.refl (ds : List D) : WkR ds ds := fun _ _ h => h
theorem WkR.nil : WkR [] [] := WkR.refl _
theorem WkR.cons {d d' : D} {ds ds' : List D} (h : WkC d d') (hf : d'.flat = d.flat) (k : WkR ds ds') : WkR (d :: ds) (d' :: ds') := fun H us q => by
  simp only [Reps] at q ⊢
  obtain ⟨u, us', e, ⟨h1, h2, h3⟩, h4⟩ := q
  exact ⟨u, us', e, ⟨h H _ h1, h2, hf.trans h3⟩, k H _ h4⟩
/-- Elements one by one. -/
inductive WkE : List D → List D → Prop
  | nil : WkE [] []
  | cons {d d' : D} {ds ds' : List D} (h : WkC d d') (k : WkE ds ds') : WkE (d :: ds) (d' :: ds')
theorem WkE.refl : ∀ ds : List D, WkE ds ds
  | [] => .nil
  | _ :: ds => .cons (WkC.refl _) (WkE.refl ds)
theorem WkE.els {H : Hp} {k b : Nat} : ∀ {ds ds' : List D} {off : Nat}, WkE ds ds' → Els H k b off ds → Els H k b off ds'
  | _, _, _, .nil, h => h
  | _, _, _, .cons h1 h2, h => by
    simp only [Els] at h ⊢
    obtain ⟨⟨us, e1, e2, e3⟩, h3⟩ := h
    exact ⟨⟨us, e1, h1 H us e2, e3⟩, h2.els h3⟩
theorem WkE.length {ds ds' : List D} (h : WkE ds ds') : ds.length = ds'.length := by
  induction h with
  | nil => rfl
  | cons _ _ ih => simp [ih]
theorem WkE.append {ds ds' es es' : List D} (h : WkE ds ds') (k : WkE es es') : WkE (ds ++ es) (ds' ++ es') := by
  induction h with
  | nil => exact k
  | cons h1 _ ih => exact .cons h1 ih
theorem WkC.lst {k : Nat} {xs ys : List D} {c : Cap} (h : WkE xs ys) : WkC (.lst k xs c) (.lst k ys c) := fun H us q => by
  simp only [RepC] at q ⊢
  obtain ⟨y, e, hc, q⟩ := q
  refine ⟨y, e, hc, ?_⟩
  rcases q with ⟨q1, q2⟩ | ⟨b, off, m, e1, e2, e3⟩
  · subst q1
    cases h; exact .inl ⟨rfl, q2⟩
  · exact .inr ⟨b, off, m, by rw [← h.length]; exact e1, by rw [← h.length]; exact e2, h.els e3⟩
theorem WkC.trans {a b c : D} (h : WkC a b) (k : WkC b c) : WkC a c := fun H us q => k H us (h H us q)
theorem WkC.wk {d d' : D} (h : WkC d d') (hs : ∀ y, d.shape y = true → d'.shape y = true) : Wk d d' := fun H y q => ⟨h H _ q.1, hs y q.2⟩
theorem shape_agg {l l' : List D} : ∀ y, (D.agg l).shape y = true → (D.agg l').shape y = true := fun y h => by cases y <;> first | rfl | cases h
theorem shape_lst {k k' : Nat} {l l' : List D} {c c' : Cap} : ∀ y, (D.lst k l c).shape y = true → (D.lst k' l' c').shape y = true := fun y h => by cases y <;> first | rfl | cases h
theorem Wk.agg {ds ds' : List D} (h : WkR ds ds') : Wk (.agg ds) (.agg ds') := (WkC.agg h).wk shape_agg
theorem Wk.lst0 {k : Nat} {xs ys : List D} {c : Cap} (h : WkE xs ys) : Wk (.lst k xs c) (.lst k ys c) := (WkC.lst h).wk shape_lst
theorem Wk.lst {k : Nat} {xs ys : List D} {c : Cap} (h : WkE xs ys) : Wk (.lst k xs c) (.lst k ys .no) := ((WkC.lst h).trans WkC.no).wk shape_lst
theorem Wk.nil0 {k k' : Nat} {c : Cap} : Wk (.lst k [] c) (.lst k' [] .no) := WkC.nil.wk shape_lst
theorem Wk.trans {a b c : D} (h : Wk a b) (k : Wk b c) : Wk a c := fun H y q => k H y (h H y q)

/-! ### Blocks and tokens, told otherwise -/
/-- One state is another one, told otherwise. -/
theorem WkS.trans {C : Ctx} {a b c : S} (h : WkS C a b) (k : WkS C b c) : WkS C a c := fun H x w c1 t1 => by
  obtain ⟨H1, l1, c2, t2⟩ := h H x w c1 t1
  obtain ⟨H2, l2, c3, t3⟩ := k H1 x w c2 t2
  exact ⟨H2, Hp.le_trans l1 l2, c3, t3⟩
theorem WkS.refl {C : Ctx} (s : S) : WkS C s s := fun H _ _ c t => ⟨H, Hp.le_refl H, c, t⟩
/-- A block's cells, weaker. -/
theorem WkS.blk {C : Ctx} {t : List (Nat × D)} {h h' : List (Nat × Blk)} {k : List (Nat × Value)} {b : Nat} {ds ds' : List D} {T : TypeId} (j : Nat) (hb : h[j]? = some (b, .cells ds T)) (hw : WkR ds ds') (e : h.set j (b, .cells ds' T) = h') : WkS C ⟨t, h, k⟩ ⟨t, h', k⟩ := fun H a w c kt => by
  subst e
  refine ⟨H, Hp.le_refl H, ?_, kt⟩
  obtain ⟨us, h1, h2, h3⟩ := c.blks _ (List.mem_of_getElem? hb)
  have hlt := (List.getElem?_eq_some_iff.1 hb).1
  have hget := (List.getElem?_eq_some_iff.1 hb).2
  have hcl : claims (h.set j (b, Blk.cells ds' T)) k = claims h k := by
    exact claims_set hb rfl
  refine ⟨c.ag, c.le, c.new, c.same, c.size, ?_, c.toks, by rw [hcl]; exact c.nd, by rw [hcl]; exact c.own, c.env⟩
  intro p hp
  rcases List.mem_or_eq_of_mem_set hp with hp | hp
  · exact c.blks p hp
  · subst hp; exact ⟨us, h1, hw H us h2, h3⟩
/-- A full slice in a slot has room of its own: none. -/
theorem TokOK.full {H : Hp} {w : World} {k : Nat} {y : Value} (h : CapOK .full y) : TokOK H w (k, y) := fun a n m e hlt => by
  subst e
  simp only [CapOK] at h; omega
theorem tokClaim_full {k : Nat} {y : Value} (h : CapOK .full y) : tokClaim (k, y) = [] := by
  unfold tokClaim
  split
  · rename_i k0 a n m e
    simp only [Prod.mk.injEq] at e
    obtain ⟨_, e⟩ := e
    subst e
    simp only [CapOK] at h
    rw [if_neg (by omega)]
  · rfl
theorem Core.tokFull {C : Ctx} {H : Hp} {h : List (Nat × Blk)} {k : List (Nat × Value)} {w : World} (c : Core C H h k w) (kk : Nat) {y : Value} (hy : CapOK .full y) : Core C H h ((kk, y) :: k) w := by
  have hcl : claims h ((kk, y) :: k) = claims h k := by unfold claims; rw [List.flatMap_cons, tokClaim_full hy]; rfl
  refine ⟨c.ag, c.le, c.new, c.same, c.size, c.blks, ?_, by rw [hcl]; exact c.nd, by rw [hcl]; exact c.own, c.env⟩
  intro p hp
  rcases List.mem_cons.1 hp with rfl | hp
  · exact TokOK.full hy
  · exact c.toks p hp
theorem lst_cur {H : Hp} {k : Nat} {xs : List D} {y : Value} (h : Rep H (.lst k xs .full) y) : CapOK .full y ∧ Rep H (.lst k xs (.cur y)) y := by
  obtain ⟨hc, hr⟩ := rep_lst_inv h
  refine ⟨hc, ?_, by have := h.2; cases y <;> first | rfl | cases this⟩
  have h1 := h.1
  simp only [RepC] at h1 ⊢
  obtain ⟨y', e, _, h3⟩ := h1
  have : y' = y := by
    have hs := h.2
    cases y <;> simp [D.shape] at hs <;> simp [Value.cells] at e <;> exact e.symm
  subst this
  exact ⟨y', e, rfl, h3⟩
section
variable {P : Program} {C : Ctx} {N : Nat} {ops rest : List Oper} {o : Oper} {t : List (Nat × D)} {h : List (Nat × Blk)} {k : List (Nat × Value)} {Q : Exit → S → Prop} {tab : List (Option TI)}
/-- A full slice in slot i gets a token. -/
theorem w_tokF {c : Code} {i kk : Nat} {xs : List D} (hx : look t i = some (.lst kk xs .full)) (g : ∀ y, wpD P C N c ⟨(i, .lst kk xs (.cur y)) :: t, h, (kk, y) :: k⟩ Q) : wpD P C N c ⟨t, h, k⟩ Q := by
  rintro a w ⟨H, c0, kt, hN, hdf⟩
  obtain ⟨v, h1, h2⟩ := kt i _ hx
  obtain ⟨h3, h4⟩ := lst_cur h2
  refine g v a w ⟨H, c0.tokFull kk h3, ?_, hN, hdf⟩
  intro j d e
  simp only [look] at e
  cases hb : Nat.beq i j with
  | true =>
    rw [hb] at e; simp at e; subst e
    have := Nat.eq_of_beq_eq_true hb; subst this
    exact ⟨v, h1, h4⟩
  | false => rw [hb] at e; exact kt j d (by simpa using e)

/-! ### Pieces -/
/-- The state is one of those, told otherwise. -/
def WkX {Y : Type} (C : Ctx) (s : S) (S1 : Y → S) : Prop := ∀ H a w, Core C H s.h s.k w → TOK H s.t a → ∃ y H', H.le H' ∧ Core C H' (S1 y).h (S1 y).k w ∧ TOK H' (S1 y).t a
theorem WkX.of {Y : Type} {s : S} {S1 : Y → S} (y : Y) (h : WkS C s (S1 y)) : WkX C s S1 := fun H a w c t => by
  obtain ⟨H', h1, h2, h3⟩ := h H a w c t
  exact ⟨y, H', h1, h2, h3⟩
theorem WkX.wk {Y : Type} {s s' : S} {S1 : Y → S} (h : WkS C s s') (g : WkX C s' S1) : WkX C s S1 := fun H a w c t => by
  obtain ⟨H', h1, h2, h3⟩ := h H a w c t
  obtain ⟨y, H2, g1, g2, g3⟩ := g H' a w h2 h3
  exact ⟨y, H2, Hp.le_trans h1 g1, g2, g3⟩
theorem look_put {t : List (Nat × D)} {H : Hp} {a : Act} (kt : TOK H t a) {i : Nat} {d : D} {v : Value} (h1 : a.tmps[i]? = some v) (h2 : Rep H d v) : TOK H ((i, d) :: t) a := by
  intro j d' e
  simp only [look] at e
  cases hb : Nat.beq i j with
  | true =>
    rw [hb] at e; simp at e; subst e
    have := Nat.eq_of_beq_eq_true hb; subst this
    exact ⟨v, h1, h2⟩
  | false => rw [hb] at e; exact kt j d' (by simpa using e)
/-- A full slice in slot i gets a token. -/
theorem WkX.tokF {Y : Type} {S1 : Y → S} {i kk : Nat} {xs : List D} (hx : look t i = some (.lst kk xs .full)) (g : ∀ y, WkX C ⟨(i, .lst kk xs (.cur y)) :: t, h, (kk, y) :: k⟩ S1) : WkX C ⟨t, h, k⟩ S1 := fun H a w c kt => by
  obtain ⟨v, h1, h2⟩ := kt i _ hx
  obtain ⟨h3, h4⟩ := lst_cur h2
  exact g v H a w (c.tokFull kk h3) (look_put kt h1 h4)
theorem rep_nil {H : Hp} {k k' : Nat} {c : Cap} {y : Value} (h : Rep H (.lst k [] c) y) (hc : CapOK c y) : Rep H (.lst k' [] c) y := by
  obtain ⟨h1, h2⟩ := h
  refine ⟨?_, by cases y <;> first | rfl | cases h2⟩
  simp only [RepC] at h1 ⊢
  obtain ⟨z, e, h3, h4⟩ := h1
  refine ⟨z, e, h3, ?_⟩
  rcases h4 with ⟨_, h4⟩ | ⟨b, off, m, e1, e2, e3⟩
  · exact .inl ⟨by trivial, h4⟩
  · exact .inr ⟨b, off, m, e1, e2, by simp [Els]⟩
/-- A nil slice in slot i gets a token. -/
theorem WkX.tokN {Y : Type} {S1 : Y → S} {i k0 : Nat} (kk : Nat) (hx : look t i = some (.lst k0 [] .full)) (g : ∀ y, WkX C ⟨(i, .lst kk [] (.cur y)) :: t, h, (kk, y) :: k⟩ S1) : WkX C ⟨t, h, k⟩ S1 := fun H a w c kt => by
  obtain ⟨v, h1, h2⟩ := kt i _ hx
  have h5 := rep_nil (k' := kk) h2 (rep_lst_inv h2).1
  obtain ⟨h3, h4⟩ := lst_cur h5
  exact g v H a w (c.tokFull kk h3) (look_put kt h1 h4)
/-- A full slice in a block's cell gets a token. -/
theorem core_cellF {H : Hp} {w : World} {b off k0 : Nat} {ds : List D} {T : TypeId} {xs : List D} (kk j : Nat) (hb : h[j]? = some (b, .cells ds T)) (hd : ds[off]? = some (.lst k0 xs .full)) (hk : k0 = kk ∨ xs = []) (c : Core C H h k w) : ∃ y, Core C H (h.set j (b, .cells (ds.set off (.lst kk xs (.cur y))) T)) ((kk, y) :: k) w := by
  obtain ⟨us, h1, h2, h3⟩ := c.blks _ (List.mem_of_getElem? hb)
  obtain ⟨u, e1, e2, e3, e4⟩ := reps_get h2 hd
  have hr : Rep H (.lst k0 xs .full) u := rep_cell e2 e3 e4
  have hr' : Rep H (.lst kk xs .full) u := by
    rcases hk with rfl | rfl
    · exact hr
    · exact rep_nil hr (rep_lst_inv hr).1
  obtain ⟨h4, h5⟩ := lst_cur hr'
  refine ⟨u, ?_⟩
  have c1 := c.tokFull kk h4
  have hcl : claims (h.set j (b, Blk.cells (ds.set off (.lst kk xs (.cur u))) T)) ((kk, u) :: k) = claims h ((kk, u) :: k) := by
    exact claims_set hb rfl
  refine ⟨c1.ag, c1.le, c1.new, c1.same, c1.size, ?_, c1.toks, by rw [hcl]; exact c1.nd, by rw [hcl]; exact c1.own, c1.env⟩
  intro p hp
  rcases List.mem_or_eq_of_mem_set hp with hp | hp
  · exact c1.blks p hp
  · subst hp
    have hc5 := h5.1
    rw [oneCell_cells e3] at hc5
    exact ⟨us, h1, reps_set off h2 e1 ⟨hc5, rfl⟩, h3⟩
theorem WkX.cellF {Y : Type} {S1 : Y → S} {b off k0 : Nat} {ds : List D} {T : TypeId} {xs : List D} (kk j : Nat) (hb : h[j]? = some (b, .cells ds T)) (hd : ds[off]? = some (.lst k0 xs .full)) (hk : k0 = kk ∨ xs = []) (g : ∀ y, WkX C ⟨t, h.set j (b, .cells (ds.set off (.lst kk xs (.cur y))) T), (kk, y) :: k⟩ S1) : WkX C ⟨t, h, k⟩ S1 := fun H a w c kt => by
  obtain ⟨y, c'⟩ := core_cellF kk j hb hd hk c
  exact g y H a w c' kt
theorem WkS.perm {t t' : List (Nat × D)} {h' hj : List (Nat × Blk)} {k' kj : List (Nat × Value)} (e : ∀ i d, look t' i = some d → ∃ d0, look t i = some d0 ∧ Wk d0 d) (hh : h.Perm (h' ++ hj)) (kk : k.Perm (k' ++ kj)) : WkS C ⟨t, h, k⟩ ⟨t', h', k'⟩ := fun H a w c kt => by
  refine ⟨H, Hp.le_refl H, (c.perm hh kk).drop (List.sublist_append_left _ _) (List.sublist_append_left _ _), ?_⟩
  intro i d hd
  obtain ⟨d0, h1, h2⟩ := e i d hd
  obtain ⟨v, h3, h4⟩ := kt i d0 h1
  exact ⟨v, h3, h2 H v h4⟩
theorem wpD_wkX {Y : Type} {c : Code} {s : S} {S1 : Y → S} (hs : WkX C s S1) (g : ∀ y, wpD P C N c (S1 y) Q) : wpD P C N c s Q := by
  rintro a w ⟨H, c0, kt, hN, hdf⟩
  obtain ⟨y, H', hle, c', kt'⟩ := hs H a w c0 kt
  exact g y a w ⟨H', c', kt', hN, hdf⟩
/-- A piece, and what is behind it. -/
theorem wpD_mid {Y : Type} {c : Code} {s : S} (S1 : Y → S) (h1 : wpD P C N c s (fun x s' => x = .normal ∧ WkX C s' S1)) (h2 : ∀ s', WkX C s' S1 → Q .normal s') : wpD P C N c s Q :=
  wpD_mono h1 fun _ s' ⟨e, hw⟩ => by subst e; exact h2 s' hw
/-- What comes of a piece that may return, too. -/
def midX {τ ρ Y : Type} (C : Ctx) (S1 : τ → Y → S) (Q : Exit → S → Prop) (x : τ ⊕ ρ) : Exit → S → Prop := fun e s =>
  match x with
  | .inl v => e = .normal ∧ WkX C s (S1 v)
  | .inr _ => e = .ret ∧ Q .ret s
theorem wpD_midX {τ ρ Y : Type} {c : Code} {s : S} (S1 : τ → Y → S) (x : τ ⊕ ρ) (h1 : wpD P C N c s (midX C S1 Q x)) (h2 : ∀ v s', x = .inl v → WkX C s' (S1 v) → Q .normal s') : wpD P C N c s Q := by
  refine wpD_mono h1 fun e s' hm => ?_
  cases x with
  | inl v =>
    obtain ⟨e1, hw⟩ := hm
    subst e1
    exact h2 v s' rfl hw
  | inr r =>
    obtain ⟨e1, hq⟩ := hm
    subst e1
    exact hq
theorem WkX.trans {Y Z : Type} {s : S} {S1 : Y → S} {S2 : Z → S} (h : WkX C s S1) (g : ∀ y, WkX C (S1 y) S2) : WkX C s S2 := fun H a w c kt => by
  obtain ⟨y, H1, l1, c1, t1⟩ := h H a w c kt
  obtain ⟨z, H2, l2, c2, t2⟩ := g y H1 a w c1 t1
  exact ⟨z, H2, Hp.le_trans l1 l2, c2, t2⟩
/-- What is so of a step of a loop that comes to t. -/
def LP {σ τ : Type} (t : τ) (G : σ → Prop) : Step σ τ → Prop
  | .next s => G s
  | .done u => u = t
theorem lp_next {σ τ : Type} {t : τ} {G : σ → Prop} {s : σ} (h : Yes (some (Step.next s)) (LP t G)) : G s := by obtain ⟨x, h1, h2⟩ := h; cases h1; exact h2
theorem lp_done {σ τ : Type} {t u : τ} {G : σ → Prop} (h : Yes (some (Step.done (σ := σ) u)) (LP t G)) : u = t := by obtain ⟨x, h1, h2⟩ := h; cases h1; exact h2
theorem yes_loop {σ τ : Type} {f : σ → Option (Step σ τ)} {t : τ} {n : Nat} {x : σ} (h : loopN f (n + 1) x = some t) : Yes (f x) (LP t fun x' => loopN f n x' = some t) := by
  simp only [loopN] at h
  cases e : f x with
  | none => rw [e] at h; cases h
  | some st =>
    rw [e] at h
    cases st with
    | next s' => exact ⟨_, rfl, h⟩
    | done u => exact ⟨_, rfl, by simpa [LP] using h⟩
theorem loop_M {σ τ Y : Type} {f : σ → Option (Step σ τ)} {x0 : σ} {u : τ} {s : S} {c : Code} (hl : loopM f x0 = some u) (St : σ → Y → S) (hw : WkX C s (St x0))
    (hb : ∀ (G : σ → Prop) x y, Yes (f x) (LP u G) → wpD P C N c (St x y) (thenD (fun s' => ∃ x', G x' ∧ WkX C s' (St x')) Q)) : wpD P C N (.loop c) s Q := by
  obtain ⟨n, hn⟩ := loopM_inv hl
  have key : ∀ n x y, loopN f n x = some u → roundsD P C N c Q n (St x y) := by
    intro n
    induction n with
    | zero => intro x y h; simp [loopN] at h
    | succ n ih =>
      intro x y h
      refine roundsD_succ (wpD_mono (hb _ x y (yes_loop h)) ?_)
      intro e s' q
      cases e with
      | normal =>
        obtain ⟨x', h1, h2⟩ := q
        rintro a w ⟨H, c0, kt, hN, hdf⟩
        obtain ⟨y', H', hle, c', kt'⟩ := h2 H a w c0 kt
        exact ih x' y' h1 a w ⟨H', c', kt', hN, hdf⟩
      | _ => exact q
  exact wpD_wkX hw (fun y => wpD_loop n (key n x0 y hn))
/-- Jumps back to a label, as a loop. -/
def backD (K : S → Prop) (l : Nat) (Q : Exit → S → Prop) : Exit → S → Prop
  | .goto j, s => j = l ∧ K s
  | x, s => Q x s
theorem back_goto {K : S → Prop} {l : Nat} {Q : Exit → S → Prop} {s : S} (g : K s) : backD K l Q (.goto l) s := ⟨rfl, g⟩
theorem back_normal {K : S → Prop} {l : Nat} {Q : Exit → S → Prop} {s : S} (g : Q .normal s) : backD K l Q .normal s := g
theorem back_ret {K : S → Prop} {l : Nat} {Q : Exit → S → Prop} {s : S} (g : Q .ret s) : backD K l Q .ret s := g
theorem back_exit {K : S → Prop} {l j : Nat} {Q : Exit → S → Prop} {s : S} (g : Q (.exit j) s) : backD K l Q (.exit j) s := g
/-- The end of a function, its results told otherwise. -/
def retX (C : Ctx) (tab : List (Option TI)) (rs : List ResultVar) (R : D → List (Nat × Blk) → List (Nat × Value) → Prop) (x : Exit) (s : S) : Prop := ∀ H a w, Core C H s.h s.k w → TOK H s.t a → ∃ s' H', H.le H' ∧ Core C H' s'.h s'.k w ∧ TOK H' s'.t a ∧ retD tab rs R x s'
theorem retX.of {rs : List ResultVar} {R : D → List (Nat × Blk) → List (Nat × Value) → Prop} {x : Exit} {s s' : S} (h : WkS C s s') (g : retD tab rs R x s') : retX C tab rs R x s := fun H a w c kt => by
  obtain ⟨H', h1, h2, h3⟩ := h H a w c kt
  exact ⟨s', H', h1, h2, h3, g⟩
theorem retX.wk {rs : List ResultVar} {R : D → List (Nat × Blk) → List (Nat × Value) → Prop} {x : Exit} {s s' : S} (h : WkS C s s') (g : retX C tab rs R x s') : retX C tab rs R x s := fun H a w c kt => by
  obtain ⟨H', h1, h2, h3⟩ := h H a w c kt
  obtain ⟨s2, H2, g1, g2⟩ := g H' a w h2 h3
  exact ⟨s2, H2, Hp.le_trans h1 g1, g2⟩
theorem retX.wkX {Y : Type} {S1 : Y → S} {rs : List ResultVar} {R : D → List (Nat × Blk) → List (Nat × Value) → Prop} {x : Exit} {s : S} (h : WkX C s S1) (g : ∀ y, retX C tab rs R x (S1 y)) : retX C tab rs R x s := fun H a w c kt => by
  obtain ⟨y, H', h1, h2, h3⟩ := h H a w c kt
  obtain ⟨s2, H2, g1, g2⟩ := g y H' a w h2 h3
  exact ⟨s2, H2, Hp.le_trans h1 g1, g2⟩
theorem retX.tokF {rs : List ResultVar} {R : D → List (Nat × Blk) → List (Nat × Value) → Prop} {x : Exit} {i kk : Nat} {xs : List D} (hx : look t i = some (.lst kk xs .full)) (g : ∀ y, retX C tab rs R x ⟨(i, .lst kk xs (.cur y)) :: t, h, (kk, y) :: k⟩) : retX C tab rs R x ⟨t, h, k⟩ := fun H a w c kt => by
  obtain ⟨v, h1, h2⟩ := kt i _ hx
  obtain ⟨h3, h4⟩ := lst_cur h2
  exact g v H a w (c.tokFull kk h3) (look_put kt h1 h4)
theorem retX.tokN {rs : List ResultVar} {R : D → List (Nat × Blk) → List (Nat × Value) → Prop} {x : Exit} {i k0 : Nat} (kk : Nat) (hx : look t i = some (.lst k0 [] .full)) (g : ∀ y, retX C tab rs R x ⟨(i, .lst kk [] (.cur y)) :: t, h, (kk, y) :: k⟩) : retX C tab rs R x ⟨t, h, k⟩ := fun H a w c kt => by
  obtain ⟨v, h1, h2⟩ := kt i _ hx
  have h5 := rep_nil (k' := kk) h2 (rep_lst_inv h2).1
  obtain ⟨h3, h4⟩ := lst_cur h5
  exact g v H a w (c.tokFull kk h3) (look_put kt h1 h4)
theorem retX.cellF {rs : List ResultVar} {R : D → List (Nat × Blk) → List (Nat × Value) → Prop} {x : Exit} {b off k0 : Nat} {ds : List D} {T : TypeId} {xs : List D} (kk j : Nat) (hb : h[j]? = some (b, .cells ds T)) (hd : ds[off]? = some (.lst k0 xs .full)) (hk : k0 = kk ∨ xs = []) (g : ∀ y, retX C tab rs R x ⟨t, h.set j (b, .cells (ds.set off (.lst kk xs (.cur y))) T), (kk, y) :: k⟩) : retX C tab rs R x ⟨t, h, k⟩ := fun H a w c kt => by
  obtain ⟨y, c'⟩ := core_cellF kk j hb hd hk c
  exact g y H a w c' kt
theorem enterX {f : FuncId} {fn : Func} {c : Code} {ds : List D} {R : D → List (Nat × Blk) → List (Nat × Value) → Prop} {rs : List ResultVar} (ht : TabOK P tab)
    (hf : P.funcs[f]? = some fn) (hb : fn.body = some c) (hn : (fn.name == "runtime.NumGoroutine") = false) {N : Nat} (hN : fn.ntmps = N) (hl : Nat.ble ds.length N = true) (hrs : fn.results.toList = rs)
    (hw : ∀ C, wpD P C N c ⟨argT 0 ds, h, k⟩ (retX C tab rs R)) : CallsD P f ds h k R := by
  refine enter ht hf hb hn hN hl hrs fun C => ?_
  intro a w r
  refine wp_mono (hw C a w r) ?_
  rintro x a' w' ⟨s, ⟨H, c0, kt, hN, hdf⟩, hk⟩
  obtain ⟨s', H', hle, c', kt', hr⟩ := hk H a' w' c0 kt
  exact ⟨s', ⟨H', c', kt', hN, hdf⟩, hr⟩

theorem resL_nil {s : S} : resL tab s [] [] := rfl
theorem resL_cons {s : S} {r : ResultVar} {rs : List ResultVar} {d : D} {ds : List D} (h1 : resOne tab s r d) (h2 : resL tab s rs ds) : resL tab s (r :: rs) (d :: ds) := ⟨d, ds, rfl, h1, h2⟩
theorem resOne_tmp {s : S} {i : Nat} {d : D} (h1 : look s.t i = some d) : resOne tab s (.tmp i) d := h1
theorem resOne_cell {s : S} {a b off : Nat} {T T' : TypeId} {ds : List D} {i : TI} {d : D} (j : Nat) (h1 : look s.t a = some (.ptr b off)) (h2 : s.h[j]? = some (b, Blk.cells ds T')) (h3 : ti tab T = some i) (h4 : partD i ds off = some d) : resOne tab s (.cell a T) d := ⟨j, b, off, ds, T', i, h1, h2, h3, h4⟩
theorem retD_mk {R : D → List (Nat × Blk) → List (Nat × Value) → Prop} {rs : List ResultVar} {x : Exit} {s : S} {ds : List D} {hh : List (Nat × Blk)} {kk : List (Nat × Value)} (hx : x = .ret ∨ x = .normal) (hr : resL tab s rs ds) (hs : hh.Sublist s.h) (ks : kk.Sublist s.k) (g : R (wrapD ds) hh kk) : retD tab rs R x s := ⟨hx, ds, hh, kk, hr, hs, ks, g⟩

/-! ### The steps that take elements and parts, told by types -/
theorem x_cut {α : Type} {e0 : α → D} {kk : Nat} {T e : TypeId} {x : Operand} {lo hi : Option Operand} {l' n' : Option Int} {xs ys : List α} {l n : Int} {c : Cap} {ti0 tie : TI} (q : cutL xs l n = some ys) (hT : TabOK P tab) (ho : o.op = .slice T x lo hi none)
    (hx : opD t x = some (.lst kk (xs.map e0) c)) (e1 : optI t lo = some l') (e2 : optI t hi = some n') (hti : ti tab T = some ti0) (hs : ti0.d = .slice e) (hte : ti tab e = some tie) (hk : tie.size = kk) (h1 : l'.getD 0 = l) (h2 : n'.getD xs.length = n) : Ex P o t (.lst kk (ys.map e0) .no) := by
  obtain ⟨q1, q2, q3, q4, q5⟩ := cutL_ok q
  have := x_part hT ho hx e1 e2 hti hs hte hk (h1.trans q2) (by rw [map_len]; exact h2.trans q3) q4 (by rw [map_len]; exact q5)
  rw [q1, List.map_take, List.map_drop]
  exact this
theorem x_cut3 {α : Type} {e0 : α → D} {kk : Nat} {T e : TypeId} {x y z : Operand} {lo : Option Operand} {l' : Option Int} {ik jk : IntKind} {xs ys : List α} {l n mm : Int} {c : Cap} {ti0 tie : TI} (q : cutL xs l n = some ys) (hm : mm = n) (hT : TabOK P tab) (ho : o.op = .slice T x lo (some y) (some z))
    (hx : opD t x = some (.lst kk (xs.map e0) c)) (e1 : optI t lo = some l') (e2 : opD t y = some (.v (.int ik n))) (e3 : opD t z = some (.v (.int jk mm))) (hti : ti tab T = some ti0) (hs : ti0.d = .slice e) (hte : ti tab e = some tie) (hk : tie.size = kk) (h1 : l'.getD 0 = l) : Ex P o t (.lst kk (ys.map e0) .full) := by
  obtain ⟨q1, q2, q3, q4, q5⟩ := cutL_ok q
  have := x_part3 hT ho hx e1 e2 e3 hti hs hte hk (h1.trans q2) q3 (hm.trans q3) q4 (by rw [map_len]; exact q5)
  rw [q1, List.map_take, List.map_drop]
  exact this
theorem x_cutS {T : TypeId} {x : Operand} {lo hi : Option Operand} {l' n' : Option Int} {s r : ByteArray} {l n : Int} {ti0 : TI} (q : cutS s l n = some r) (hT : TabOK P tab) (ho : o.op = .slice T x lo hi none)
    (hx : opD t x = some (.v (.string s))) (e1 : optI t lo = some l') (e2 : optI t hi = some n') (hti : ti tab T = some ti0) (hs : ti0.d = .str) (h1 : l'.getD 0 = l) (h2 : n'.getD s.size = n) : Ex P o t (.v (.string r)) := by
  obtain ⟨q1, q2, q3, q4, q5⟩ := cutS_ok q
  have := x_sub hT ho hx e1 e2 hti hs (h1.trans q2) (h2.trans q3) q4 q5
  rw [q1]
  exact this
theorem p_cut {α : Type} {e0 : α → D} {i kk : Nat} {T e : TypeId} {x : Operand} {lo hi : Option Operand} {l' n' : Option Int} {xs ys : List α} {l n : Int} {c : Cap} {ti0 tie : TI} (q : cutL xs l n = some ys) (hT : TabOK P tab) (ho : o.op = .slice T x lo hi none) (hw : wantD ops t o = some true) (hd : o.dst = some i) (hi0 : Nat.blt i N = true)
    (hx : opD t x = some (.lst kk (xs.map e0) c)) (e1 : optI t lo = some l') (e2 : optI t hi = some n') (hti : ti tab T = some ti0) (hs : ti0.d = .slice e) (hte : ti tab e = some tie) (hk : tie.size = kk) (h1 : l'.getD 0 = l) (h2 : n'.getD xs.length = n)
    (g : opsD P C N ops rest ⟨(i, .lst kk (ys.map e0) .no) :: t, h, k⟩ Q) : opsD P C N ops (o :: rest) ⟨t, h, k⟩ Q := by
  obtain ⟨q1, q2, q3, q4, q5⟩ := cutL_ok q
  refine p_part hT ho hw hd hi0 hx e1 e2 hti hs hte hk (h1.trans q2) (by rw [map_len]; exact h2.trans q3) q4 (by rw [map_len]; exact q5) ?_
  rw [q1, List.map_take, List.map_drop] at g
  exact g
theorem p_cut3 {α : Type} {e0 : α → D} {i kk : Nat} {T e : TypeId} {x y z : Operand} {lo : Option Operand} {l' : Option Int} {ik jk : IntKind} {xs ys : List α} {l n mm : Int} {c : Cap} {ti0 tie : TI} (q : cutL xs l n = some ys) (hm : mm = n) (hT : TabOK P tab) (ho : o.op = .slice T x lo (some y) (some z)) (hw : wantD ops t o = some true) (hd : o.dst = some i) (hi0 : Nat.blt i N = true)
    (hx : opD t x = some (.lst kk (xs.map e0) c)) (e1 : optI t lo = some l') (e2 : opD t y = some (.v (.int ik n))) (e3 : opD t z = some (.v (.int jk mm))) (hti : ti tab T = some ti0) (hs : ti0.d = .slice e) (hte : ti tab e = some tie) (hk : tie.size = kk) (h1 : l'.getD 0 = l)
    (g : opsD P C N ops rest ⟨(i, .lst kk (ys.map e0) .full) :: t, h, k⟩ Q) : opsD P C N ops (o :: rest) ⟨t, h, k⟩ Q := by
  obtain ⟨q1, q2, q3, q4, q5⟩ := cutL_ok q
  refine p_part3 hT ho hw hd hi0 hx e1 e2 e3 hti hs hte hk (h1.trans q2) q3 (hm.trans q3) q4 (by rw [map_len]; exact q5) ?_
  rw [q1, List.map_take, List.map_drop] at g
  exact g
theorem p_cutS {i : Nat} {T : TypeId} {x : Operand} {lo hi : Option Operand} {l' n' : Option Int} {s r : ByteArray} {l n : Int} {ti0 : TI} (q : cutS s l n = some r) (hT : TabOK P tab) (ho : o.op = .slice T x lo hi none) (hw : wantD ops t o = some true) (hd : o.dst = some i) (hi0 : Nat.blt i N = true)
    (hx : opD t x = some (.v (.string s))) (e1 : optI t lo = some l') (e2 : optI t hi = some n') (hti : ti tab T = some ti0) (hs : ti0.d = .str) (h1 : l'.getD 0 = l) (h2 : n'.getD s.size = n)
    (g : opsD P C N ops rest ⟨(i, .v (.string r)) :: t, h, k⟩ Q) : opsD P C N ops (o :: rest) ⟨t, h, k⟩ Q := by
  obtain ⟨q1, q2, q3, q4, q5⟩ := cutS_ok q
  refine p_sub hT ho hw hd hi0 hx e1 e2 hti hs (h1.trans q2) (h2.trans q3) q4 q5 ?_
  rw [q1] at g
  exact g
theorem p_mapD {α : Type} {e0 : α → D} {i kk : Nat} {xs ys zs : List α} {bb : Nat} {c : Cap} (q : app bb xs ys = some zs) (hx : look t i = some (.lst kk (xs.map e0 ++ ys.map e0) c)) (g : opsD P C N ops rest ⟨(i, .lst kk (zs.map e0) c) :: t, h, k⟩ Q) : opsD P C N ops rest ⟨t, h, k⟩ Q :=
  p_eq hx (Wk.of_eq (by rw [app_map q])) g
theorem p_mapD0 {α : Type} {e0 : α → D} {i kk : Nat} {ys zs : List α} {bb : Nat} {c : Cap} (q : app bb [] ys = some zs) (hx : look t i = some (.lst kk (ys.map e0) c)) (g : opsD P C N ops rest ⟨(i, .lst kk (zs.map e0) c) :: t, h, k⟩ Q) : opsD P C N ops rest ⟨t, h, k⟩ Q :=
  p_eq hx (Wk.of_eq (by rw [(app_ok q).1]; simp)) g
/-- A call that is given a block, which stays where it is. -/
theorem perm_set {α : Type} : ∀ {l : List α} {j : Nat} {x y : α}, l[j]? = some x → (y :: l.eraseIdx j).Perm (l.set j y)
  | [], j, x, y, h => by simp at h
  | a :: l, 0, x, y, h => by simp
  | a :: l, j + 1, x, y, h => by
    simp at h
    simp only [List.eraseIdx_cons_succ, List.set_cons_succ]
    exact (List.Perm.swap a y _).trans ((perm_set h).cons a)
theorem opsD_perm {h' : List (Nat × Blk)} {k' : List (Nat × Value)} (hh : h.Perm h') (kk : k.Perm k') (g : opsD P C N ops rest ⟨t, h', k'⟩ Q) : opsD P C N ops rest ⟨t, h, k⟩ Q :=
  ops_wk (s := ⟨t, h, k⟩) (s' := ⟨t, h', k'⟩) (fun H _ _ c kt => ⟨H, Hp.le_refl H, c.perm hh kk, kt⟩) g
theorem p_callB {f : FuncId} {args : List Operand} {ts : Array TypeId} {i : Nat} {ds ds' : List D} {x : Nat × Blk} {k1 k2 : List (Nat × Value)} {R : D → List (Nat × Blk) → List (Nat × Value) → Prop} {R' : D → Nat × Blk → List (Nat × Value) → Prop} (j : Nat)
    (hc : CallsD P f ds' [x] k1 R) (hR : ∀ d h k, R d h k → ∃ x', h = [x'] ∧ R' d x' k) (ho : o.op = .call ⟨.value (.func f), args.toArray, ts⟩) (hw : wantD ops t o = some true) (hd : o.dst = some i) (hi : Nat.blt i N = true) (ha : someMap args (opD t) = some ds) (hwk : WkL ds ds')
    (hh : h[j]? = some x) (hk : k.Perm (k1 ++ k2)) (g : ∀ d x' k', R' d x' k' → opsD P C N ops rest ⟨(i, d) :: t, h.set j x', k' ++ k2⟩ Q) : opsD P C N ops (o :: rest) ⟨t, h, k⟩ Q := by
  refine ops_call (s := ⟨t, h, k⟩) hc ho hw hd hi ha hwk (perm_at hh) hk fun d h' k' r => ?_
  obtain ⟨x', rfl, r'⟩ := hR d h' k' r
  exact opsD_perm (perm_set hh) (List.Perm.refl _) (g d x' k' r')
theorem p_callB0 {f : FuncId} {args : List Operand} {ts : Array TypeId} {ds ds' : List D} {x : Nat × Blk} {k1 k2 : List (Nat × Value)} {R : D → List (Nat × Blk) → List (Nat × Value) → Prop} {R' : D → Nat × Blk → List (Nat × Value) → Prop} (j : Nat)
    (hc : CallsD P f ds' [x] k1 R) (hR : ∀ d h k, R d h k → ∃ x', h = [x'] ∧ R' d x' k) (ho : o.op = .call ⟨.value (.func f), args.toArray, ts⟩) (hw : wantD ops t o = some true) (hd : o.dst = none) (ha : someMap args (opD t) = some ds) (hwk : WkL ds ds')
    (hh : h[j]? = some x) (hk : k.Perm (k1 ++ k2)) (g : ∀ d x' k', R' d x' k' → opsD P C N ops rest ⟨t, h.set j x', k' ++ k2⟩ Q) : opsD P C N ops (o :: rest) ⟨t, h, k⟩ Q := by
  refine ops_call0 (s := ⟨t, h, k⟩) hc ho hw hd ha hwk (perm_at hh) hk fun d h' k' r => ?_
  obtain ⟨x', rfl, r'⟩ := hR d h' k' r
  exact opsD_perm (perm_set hh) (List.Perm.refl _) (g d x' k' r')
end
section
variable {P : Program} {C : Ctx} {N : Nat} {ops rest : List Oper} {o : Oper} {t : List (Nat × D)} {h : List (Nat × Blk)} {k : List (Nat × Value)} {Q : Exit → S → Prop} {tab : List (Option TI)}
theorem midX_inl {τ ρ Y : Type} {S1 : τ → Y → S} {s : S} {v : τ} (g : WkX C s (S1 v)) : midX (ρ := ρ) C S1 Q (.inl v) .normal s := ⟨rfl, g⟩
theorem midX_inr {τ ρ Y : Type} {S1 : τ → Y → S} {s : S} {r : ρ} (g : Q .ret s) : midX C S1 Q (.inr r) .ret s := ⟨rfl, g⟩
theorem scope_L {σ τ Y : Type} {f : σ → Option (Step σ τ)} {x0 : σ} {u : τ} {s : S} {c r : Code} (l : Nat) (hl : loopM f x0 = some u) (St : σ → Y → S) (hf : findLabel c l = some (.seq .skip r))
    (hc : ∀ Q', (∀ y, wpD P C N r (St x0 y) Q') → wpD P C N c s Q')
    (hb : ∀ (G : σ → Prop) x y, Yes (f x) (LP u G) → wpD P C N r (St x y) (backD (fun s' => ∃ x', G x' ∧ WkX C s' (St x')) l Q)) : wpD P C N (.scope c) s Q := by
  obtain ⟨n, hn⟩ := loopM_inv hl
  have key : ∀ n x y, loopN f (n + 1) x = some u → wpD P C N r (St x y) (scopeD P C N c Q n) := by
    intro n
    induction n with
    | zero =>
      intro x y h
      refine wpD_mono (hb _ x y (yes_loop h)) ?_
      intro e s' q
      cases e with
      | goto j => obtain ⟨_, x', h1, _⟩ := q; simp [loopN] at h1
      | _ => exact q
    | succ n ih =>
      intro x y h
      refine wpD_mono (hb _ x y (yes_loop h)) ?_
      intro e s' q
      cases e with
      | goto j =>
        obtain ⟨rfl, x', h1, h2⟩ := q
        refine scope_goto hf ?_
        rintro a w ⟨H, c0, kt, hN, hdf⟩
        obtain ⟨y', H', hle, c', kt'⟩ := h2 H a w c0 kt
        exact (jumpsD_succ (wpD_seq (wpD_skip (then_normal (ih x' y' h1))))) a w ⟨H', c', kt', hN, hdf⟩
      | _ => exact q
  cases n with
  | zero => simp [loopN] at hn
  | succ n => exact wpD_scope (n + 1) (jumpsD_succ (hc _ fun y => key n x0 y hn))
theorem CallsD.drop {f : FuncId} {ds : List D} {R : D → List (Nat × Blk) → List (Nat × Value) → Prop} {d1 : D} (c : CallsD P f ds h k R) (hr : ∀ d h k, R d h k → Wk d d1) : CallsD P f ds h k (fun d h k => d = d1 ∧ h = [] ∧ k = []) := by
  refine ⟨c.1, fun H w vs h1 h2 h3 h4 h5 => (c.2 H w vs h1 h2 h3 h4 h5).mono ?_⟩
  rintro e w' ⟨v, H', d, h', k', e1, e2, e3, e4⟩
  exact ⟨v, H', d1, [], [], e1, hr d h' k' e4 H' v e2, e3.drop (List.nil_sublist _) (List.nil_sublist _), rfl, rfl, rfl⟩
theorem Ex.wk {d d' : D} (h : Ex P o t d) (k : Wk d d') : Ex P o t d' := fun H a w kt => let ⟨v, h1, h2⟩ := h H a w kt; ⟨v, h1, k H v h2⟩
theorem ExE.wk {d d' : D} (h : ExE P o t d) (k : Wk d d') : ExE P o t d' := fun H a w hA kt => let ⟨v, w', H', h1, h2, h3⟩ := h H a w hA kt; ⟨v, w', H', h1, h2, k H' v h3⟩
/-- A full slice in a block's cell gets a token, within a region. -/
theorem p_cellF {b off k0 : Nat} {ds : List D} {T : TypeId} {xs : List D} (kk j : Nat) (hb : h[j]? = some (b, .cells ds T)) (hd : ds[off]? = some (.lst k0 xs .full)) (hk : k0 = kk ∨ xs = []) (g : ∀ y, opsD P C N ops rest ⟨t, h.set j (b, .cells (ds.set off (.lst kk xs (.cur y))) T), (kk, y) :: k⟩ Q) : opsD P C N ops rest ⟨t, h, k⟩ Q := by
  rintro a w ⟨H, c0, kt, hN, hdf⟩
  obtain ⟨y, c'⟩ := core_cellF kk j hb hd hk c0
  exact g y a w ⟨H, c', kt, hN, hdf⟩
theorem p_slotF {i k0 : Nat} {xs : List D} (kk : Nat) (hx : look t i = some (.lst k0 xs .full)) (hk : k0 = kk ∨ xs = []) (g : ∀ y, opsD P C N ops rest ⟨(i, .lst kk xs (.cur y)) :: t, h, (kk, y) :: k⟩ Q) : opsD P C N ops rest ⟨t, h, k⟩ Q := by
  rintro a w ⟨H, c0, kt, hN, hdf⟩
  obtain ⟨v, h1, h2⟩ := kt i _ hx
  have h2' : Rep H (.lst kk xs .full) v := by
    rcases hk with rfl | rfl
    · exact h2
    · exact rep_nil h2 (rep_lst_inv h2).1
  obtain ⟨h3, h4⟩ := lst_cur h2'
  exact g v a w ⟨H, c0.tokFull kk h3, look_put kt h1 h4, hN, hdf⟩
theorem o_blk {b : Nat} {ds ds' : List D} {T : TypeId} {h' : List (Nat × Blk)} (j : Nat) (hb : h[j]? = some (b, .cells ds T)) (hw : WkR ds ds') (e : h.set j (b, .cells ds' T) = h') (g : opsD P C N ops rest ⟨t, h', k⟩ Q) : opsD P C N ops rest ⟨t, h, k⟩ Q :=
  ops_wk (s := ⟨t, h, k⟩) (s' := ⟨t, h', k⟩) (WkS.blk j hb hw e) g
/-- A slot, told otherwise. -/
theorem w_eq {c : Code} {i : Nat} {d d' : D} (hx : look t i = some d) (e : Wk d d') (g : wpD P C N c ⟨(i, d') :: t, h, k⟩ Q) : wpD P C N c ⟨t, h, k⟩ Q := by
  rintro a w ⟨H, c0, kt, hN, hdf⟩
  obtain ⟨v, h1, h2⟩ := kt i _ hx
  exact g a w ⟨H, c0, look_put kt h1 (e H v h2), hN, hdf⟩
theorem WkX.slot {Y : Type} {S1 : Y → S} {i : Nat} {d d' : D} (hx : look t i = some d) (e : Wk d d') (g : WkX C ⟨(i, d') :: t, h, k⟩ S1) : WkX C ⟨t, h, k⟩ S1 := fun H a w c kt => by
  obtain ⟨v, h1, h2⟩ := kt i _ hx
  exact g H a w c (look_put kt h1 (e H v h2))
end
/-! ### Plain data -/
def eI64 (n : Int) : D := .v (.int .i64 n)
def eU64 (n : Int) : D := .v (.int .u64 n)
def eI32 (n : Int) : D := .v (.int .i32 n)
def eU16 (n : Int) : D := .v (.int .u16 n)
def eBool (b : Bool) : D := .v (.bool b)
def eStr (s : ByteArray) : D := .v (.string s)
def eList {α : Type} (k : Nat) (e : α → D) (l : List α) : D := .lst k (l.map e) .no
end Go.Proofs.Ytpapooaaccmnpaa.Ab
