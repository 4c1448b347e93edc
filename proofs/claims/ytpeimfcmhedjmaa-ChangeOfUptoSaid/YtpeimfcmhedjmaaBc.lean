/- merged: Tr1, Tr2, Tr3, Tr4, Tr5, Tr6, Rw1, Rw2, Rw3, Rw4, Lo, Co, Ab22. -/
import Derived.Test.YtpeimfcmhedjmaaBb
/- What a function computes, as a function of Lean: the frame of such texts. Over any program. -/
namespace Go.Proofs.Ytpeimfcmhedjmaa.Ab
open Go
set_option linter.all false
/-! ### Loops -/
inductive Step (σ τ : Type) where
  | next (s : σ)
  | done (t : τ)
def loopN {σ τ : Type} (f : σ → Option (Step σ τ)) : Nat → σ → Option τ
  | 0, _ => none
  | n + 1, s => match f s with
    | none => none
    | some (.next s') => loopN f n s'
    | some (.done t) => some t
theorem loopN_one {σ τ : Type} {f : σ → Option (Step σ τ)} : ∀ {n m : Nat} {s : σ} {t t' : τ}, loopN f n s = some t → loopN f m s = some t' → t = t'
  | 0, _, _, _, _, h, _ => by simp [loopN] at h
  | _ + 1, 0, _, _, _, _, h => by simp [loopN] at h
  | n + 1, m + 1, s, t, t', h, k => by
    simp only [loopN] at h k
    cases hf : f s with
    | none => rw [hf] at h; cases h
    | some x =>
      rw [hf] at h k
      cases x with
      | next s' => exact loopN_one h k
      | done u => simp at h k; rw [← h, ← k]
open Classical in
noncomputable def loopM {σ τ : Type} (f : σ → Option (Step σ τ)) (s : σ) : Option τ := if h : ∃ n t, loopN f n s = some t then some h.choose_spec.choose else none
theorem loopM_of {σ τ : Type} {f : σ → Option (Step σ τ)} {n : Nat} {s : σ} {t : τ} (h : loopN f n s = some t) : loopM f s = some t := by
  have hx : ∃ n t, loopN f n s = some t := ⟨n, t, h⟩
  unfold loopM
  rw [dif_pos hx]
  exact congrArg some (loopN_one hx.choose_spec.choose_spec h)
theorem loopM_inv {σ τ : Type} {f : σ → Option (Step σ τ)} {s : σ} {t : τ} (h : loopM f s = some t) : ∃ n, loopN f n s = some t := by
  unfold loopM at h
  split at h
  · rename_i hx
    simp only [Option.some.injEq] at h
    exact ⟨_, h ▸ hx.choose_spec.choose_spec⟩
  · cases h
theorem loopM_done {σ τ : Type} {f : σ → Option (Step σ τ)} {s : σ} {t : τ} (h : f s = some (.done t)) : loopM f s = some t := loopM_of (n := 1) (by simp [loopN, h])
theorem loopM_next {σ τ : Type} {f : σ → Option (Step σ τ)} {s s' : σ} (h : f s = some (.next s')) : loopM f s = loopM f s' := by
  cases e : loopM f s' with
  | some t =>
    obtain ⟨n, hn⟩ := loopM_inv e
    exact loopM_of (n := n + 1) (by simp [loopN, h, hn])
  | none =>
    cases e2 : loopM f s with
    | none => rfl
    | some t =>
      obtain ⟨n, hn⟩ := loopM_inv e2
      cases n with
      | zero => simp [loopN] at hn
      | succ n =>
        simp only [loopN, h] at hn
        rw [loopM_of hn] at e; cases e
theorem loopM_none {σ τ : Type} {f : σ → Option (Step σ τ)} {s : σ} (h : f s = none) : loopM f s = none := by
  cases e : loopM f s with
  | none => rfl
  | some t =>
    obtain ⟨n, hn⟩ := loopM_inv e
    cases n with
    | zero => simp [loopN] at hn
    | succ n => simp [loopN, h] at hn
/-- A loop's law: what comes of a state, an invariant, a measure. -/
theorem loopM_eq {σ τ : Type} {f : σ → Option (Step σ τ)} (I : σ → Prop) (μ : σ → Nat) (g : σ → τ)
    (h : ∀ s, I s → (∃ s', f s = some (.next s') ∧ I s' ∧ μ s' < μ s ∧ g s' = g s) ∨ f s = some (.done (g s))) (s : σ) (hs : I s) : loopM f s = some (g s) := by
  have key : ∀ n s, μ s < n → I s → loopM f s = some (g s) := by
    intro n
    induction n with
    | zero => intro s hn; omega
    | succ n ih =>
      intro s hn hs
      rcases h s hs with ⟨s', h1, h2, h3, h4⟩ | h1
      · rw [loopM_next h1, ih s' (by omega) h2, h4]
      · exact loopM_done h1
  exact key (μ s + 1) s (Nat.lt_succ_self _) hs
/-- A loop's law, weaker: what is so of what comes of it. -/
theorem loopM_some {σ τ : Type} {f : σ → Option (Step σ τ)} (I : σ → Prop) (μ : σ → Nat) (p : τ → Prop)
    (h : ∀ s, I s → (∃ s', f s = some (.next s') ∧ I s' ∧ μ s' < μ s) ∨ ∃ t, f s = some (.done t) ∧ p t) (s : σ) (hs : I s) : ∃ t, loopM f s = some t ∧ p t := by
  have key : ∀ n s, μ s < n → I s → ∃ t, loopM f s = some t ∧ p t := by
    intro n
    induction n with
    | zero => intro s hn; omega
    | succ n ih =>
      intro s hn hs
      rcases h s hs with ⟨s', h1, h2, h3⟩ | ⟨t, h1, h2⟩
      · rw [loopM_next h1]; exact ih s' (by omega) h2
      · exact ⟨t, loopM_done h1, h2⟩
  exact key (μ s + 1) s (Nat.lt_succ_self _) hs
theorem loop_bind {σ τ ρ : Type} {f : σ → Option (Step σ τ)} {g : τ → Option ρ} {r : ρ} (I : σ → Prop) (μ : σ → Nat) (p : τ → Prop) {s : σ}
    (hs : I s) (h : ∀ s, I s → (∃ s', f s = some (.next s') ∧ I s' ∧ μ s' < μ s) ∨ ∃ t, f s = some (.done t) ∧ p t) (hg : ∀ t, p t → g t = some r) : Option.bind (loopM f s) g = some r := by
  obtain ⟨t, h1, h2⟩ := loopM_some I μ p h s hs
  rw [h1]; exact hg t h2
/-! ### Tests -/
/-- It comes to something of which φ is so. -/
def Yes {α : Type} (m : Option α) (φ : α → Prop) : Prop := ∃ x, m = some x ∧ φ x
section
variable {α β : Type} {φ : α → Prop} {ψ : β → Prop}
theorem yes_bind {m : Option α} {f : α → Option β} (h : Yes (m.bind f) ψ) : ∃ a, m = some a ∧ Yes (f a) ψ := by
  obtain ⟨x, h1, h2⟩ := h
  rw [Option.bind_eq_some_iff] at h1
  obtain ⟨a, h3, h4⟩ := h1
  exact ⟨a, h3, x, h4, h2⟩
theorem yes_t {c : Bool} {a b : Option α} (hc : c = true) (h : Yes (bif c then a else b) φ) : Yes a φ := by subst hc; exact h
theorem yes_f {c : Bool} {a b : Option α} (hc : c = false) (h : Yes (bif c then a else b) φ) : Yes b φ := by subst hc; exact h
theorem yes_some {a : α} (h : Yes (some a) φ) : φ a := by
  obtain ⟨x, h1, h2⟩ := h
  cases h1; exact h2
theorem yes_of {m : Option α} {r : α} (h : m = some r) : Yes m (fun x => x = r) := ⟨r, h, rfl⟩
theorem yes_eq {a r : α} (h : Yes (some a) (fun x => x = r)) : a = r := by obtain ⟨x, h1, h2⟩ := h; cases h1; exact h2
theorem yes_m {m : Option α} (h : Yes m φ) : ∃ a, m = some a ∧ Yes (some a) φ := by
  obtain ⟨x, h1, h2⟩ := h
  exact ⟨x, h1, x, rfl, h2⟩
theorem yes_none (h : Yes none φ) : False := by obtain ⟨x, h1, _⟩ := h; cases h1
/-- A condition that is owed. -/
def need (p : Bool) : Option Unit := bif p then some () else none
theorem need_ok {p : Bool} {u : Unit} (h : need p = some u) : p = true := by
  cases p with
  | true => rfl
  | false => cases h
theorem need_t {p : Bool} (h : p = true) : need p = some () := by subst h; rfl
theorem need_bind {p : Bool} (h : p = true) (f : Unit → Option α) : (need p).bind f = f () := by subst h; rfl
/-! ### Elements and parts -/
def idx (xs : List α) (i : Int) : Option α := bif decide (0 ≤ i) then xs[i.toNat]? else none
theorem idx_ok {xs : List α} {i : Int} {x : α} (h : idx xs i = some x) : 0 ≤ i ∧ xs[i.toNat]? = some x := by
  unfold idx at h
  by_cases hi : 0 ≤ i
  · rw [decide_eq_true hi] at h; exact ⟨hi, h⟩
  · rw [decide_eq_false hi] at h; cases h
theorem idx_nonneg {xs : List α} {i : Int} {x : α} (h : idx xs i = some x) : 0 ≤ i := (idx_ok h).1
theorem idx_map {xs : List α} {i : Int} {x : α} {e : α → D} (h : idx xs i = some x) : (xs.map e)[i.toNat]? = some (e x) := by
  rw [List.getElem?_map, (idx_ok h).2]; rfl
theorem idx_nat (xs : List α) (n : Nat) : idx xs (n : Int) = xs[n]? := by simp [idx]
def bAt (s : ByteArray) (i : Int) : Option UInt8 := idx s.data.toList i
theorem bAt_ok {s : ByteArray} {i : Int} {x : UInt8} (h : bAt s i = some x) : s.data.toList[i.toNat]? = some x := (idx_ok h).2
theorem bAt_nonneg {s : ByteArray} {i : Int} {x : UInt8} (h : bAt s i = some x) : 0 ≤ i := (idx_ok h).1
/-- xs[l:h]. -/
def cutL (xs : List α) (l h : Int) : Option (List α) := bif decide (0 ≤ l) && decide (l ≤ h) && decide (h ≤ (xs.length : Int)) then some ((xs.drop l.toNat).take (h.toNat - l.toNat)) else none
theorem cutL_ok {xs ys : List α} {l h : Int} (e : cutL xs l h = some ys) : ys = (xs.drop l.toNat).take (h.toNat - l.toNat) ∧ l = (l.toNat : Int) ∧ h = (h.toNat : Int) ∧ l.toNat ≤ h.toNat ∧ h.toNat ≤ xs.length := by
  unfold cutL at e
  cases hc : decide (0 ≤ l) && decide (l ≤ h) && decide (h ≤ (xs.length : Int)) with
  | false => rw [hc] at e; cases e
  | true =>
    rw [hc] at e
    simp only [Bool.and_eq_true, decide_eq_true_eq] at hc
    obtain ⟨⟨h1, h2⟩, h3⟩ := hc
    simp only [cond_true, Option.some.injEq] at e
    exact ⟨e.symm, by omega, by omega, by omega, by omega⟩
theorem cutL_nat {xs : List α} {l h : Nat} (h1 : l ≤ h) (h2 : h ≤ xs.length) : cutL xs (l : Int) (h : Int) = some ((xs.drop l).take (h - l)) := by
  unfold cutL
  rw [show (decide ((0 : Int) ≤ (l : Int)) && decide ((l : Int) ≤ (h : Int)) && decide ((h : Int) ≤ (xs.length : Int))) = true by simp; omega]
  simp
/-- s[l:h]. -/
def cutS (s : ByteArray) (l h : Int) : Option ByteArray := bif decide (0 ≤ l) && decide (l ≤ h) && decide (h ≤ (s.size : Int)) then some (s.extract l.toNat h.toNat) else none
theorem cutS_ok {s r : ByteArray} {l h : Int} (e : cutS s l h = some r) : r = s.extract l.toNat h.toNat ∧ l = (l.toNat : Int) ∧ h = (h.toNat : Int) ∧ l.toNat ≤ h.toNat ∧ h.toNat ≤ s.size := by
  unfold cutS at e
  cases hc : decide (0 ≤ l) && decide (l ≤ h) && decide (h ≤ (s.size : Int)) with
  | false => rw [hc] at e; cases e
  | true =>
    rw [hc] at e
    simp only [Bool.and_eq_true, decide_eq_true_eq] at hc
    obtain ⟨⟨h1, h2⟩, h3⟩ := hc
    simp only [cond_true, Option.some.injEq] at e
    exact ⟨e.symm, by omega, by omega, by omega, by omega⟩
/-- append, of elements of bb bytes. -/
def app (bb : Nat) (xs ys : List α) : Option (List α) := bif decide ((xs.length + ys.length) * bb ≤ 140737488355328) then some (xs ++ ys) else none
theorem app_ok {bb : Nat} {xs ys zs : List α} (h : app bb xs ys = some zs) : zs = xs ++ ys ∧ (xs.length + ys.length) * bb ≤ 140737488355328 := by
  unfold app at h
  cases hc : decide ((xs.length + ys.length) * bb ≤ 140737488355328) with
  | false => rw [hc] at h; cases h
  | true =>
    rw [hc] at h
    simp only [cond_true, Option.some.injEq] at h
    exact ⟨h.symm, of_decide_eq_true hc⟩
theorem app_of {bb : Nat} {xs ys : List α} (h : (xs.length + ys.length) * bb ≤ 140737488355328) : app bb xs ys = some (xs ++ ys) := by
  unfold app; rw [decide_eq_true h]; rfl
theorem app_bound {bb : Nat} {xs ys zs : List α} {e : α → D} (h : app bb xs ys = some zs) : ((xs.map e).length + (ys.map e).length) * bb ≤ 140737488355328 := by
  simpa using (app_ok h).2
theorem app_map {bb : Nat} {xs ys zs : List α} {e : α → D} (h : app bb xs ys = some zs) : xs.map e ++ ys.map e = zs.map e := by
  rw [(app_ok h).1, List.map_append]
theorem map_len {xs : List α} {e : α → D} : (xs.map e).length = xs.length := List.length_map _
end
/-! ### Weakening -/
/-- Cells of the one are cells of the other. -/
def WkC (d d' : D) : Prop := ∀ H us, RepC H d us → RepC H d' us
/-- Cells one by one, of flat data. -/
def WkR (ds ds' : List D) : Prop := ∀ H us, Reps H ds us → Reps H ds' us
theorem WkC.refl (d : D) : WkC d d := fun _ _ h => h
theorem WkC.no {k : Nat} {xs : List D} {c : Cap} : WkC (.lst k xs c) (.lst k xs .no) := fun H us h => by
  simp only [RepC] at h ⊢
  obtain ⟨y, e, _, h⟩ := h
  exact ⟨y, e, trivial, h⟩
theorem WkC.nil {k k' : Nat} {c : Cap} : WkC (.lst k [] c) (.lst k' [] .no) := fun H us h => by
  simp only [RepC] at h ⊢
  obtain ⟨y, e, _, h⟩ := h
  rcases h with ⟨_, h⟩ | ⟨b, off, m, e1, e2, e3⟩
  · exact ⟨y, e, trivial, .inl ⟨by trivial, h⟩⟩
  · exact ⟨y, e, trivial, .inr ⟨b, off, m, e1, e2, by simp [Els]⟩⟩
theorem WkC.nilF {k k' : Nat} : WkC (.lst k [] .full) (.lst k' [] .full) := fun H us h => by
  simp only [RepC] at h ⊢
  obtain ⟨y, e, h0, h⟩ := h
  rcases h with ⟨_, h⟩ | ⟨b, off, m, e1, e2, e3⟩
  · exact ⟨y, e, h0, .inl ⟨by trivial, h⟩⟩
  · exact ⟨y, e, h0, .inr ⟨b, off, m, e1, e2, by simp [Els]⟩⟩
theorem WkC.agg {ds ds' : List D} (h : WkR ds ds') : WkC (.agg ds) (.agg ds') := fun H us k => by
  simp only [RepC] at k ⊢; exact h H us k
theorem WkC.of_eq {d d' : D} (h : d = d') : WkC d d' := h ▸ WkC.refl d
theorem WkR.refl (ds : List D) : WkR ds ds := fun _ _ h => h
theorem WkR.nil : WkR [] [] := WkR.refl _
theorem WkR.cons {d d' : D} {ds ds' : List D} (h : WkC d d') (hf : d'.flat = d.flat) (k : WkR ds ds') : WkR (d :: ds) (d' :: ds') := fun H us q => by
  simp only [Reps] at q ⊢
  obtain ⟨u, us', e, ⟨h1, h2, h3⟩, h4⟩ := q
  exact ⟨u, us', e, ⟨h H _ h1, h2, hf.trans h3⟩, k H _ h4⟩
/-- Elements one by one. -/
inductive WkE : List D → List D → Prop
  | nil : WkE [] []
  | cons {d d' : D} {ds ds' : List D} (h : WkC d d') (k : WkE ds ds') : WkE (d :: ds) (d' :: ds')
theorem WkE.refl : ∀ ds : List D, WkE ds ds
  | [] => .nil
  | _ :: ds => .cons (WkC.refl _) (WkE.refl ds)
theorem WkE.els {H : Hp} {k b : Nat} : ∀ {ds ds' : List D} {off : Nat}, WkE ds ds' → Els H k b off ds → Els H k b off ds'
  | _, _, _, .nil, h => h
  | _, _, _, .cons h1 h2, h => by
    simp only [Els] at h ⊢
    obtain ⟨⟨us, e1, e2, e3⟩, h3⟩ := h
    exact ⟨⟨us, e1, h1 H us e2, e3⟩, h2.els h3⟩
theorem WkE.length {ds ds' : List D} (h : WkE ds ds') : ds.length = ds'.length := by
  induction h with
  | nil => rfl
  | cons _ _ ih => simp [ih]
theorem WkE.append {ds ds' es es' : List D} (h : WkE ds ds') (k : WkE es es') : WkE (ds ++ es) (ds' ++ es') := by
  induction h with
  | nil => exact k
  | cons h1 _ ih => exact .cons h1 ih
theorem WkC.lst {k : Nat} {xs ys : List D} {c : Cap} (h : WkE xs ys) : WkC (.lst k xs c) (.lst k ys c) := fun H us q => by
  simp only [RepC] at q ⊢
  obtain ⟨y, e, hc, q⟩ := q
  refine ⟨y, e, hc, ?_⟩
  rcases q with ⟨q1, q2⟩ | ⟨b, off, m, e1, e2, e3⟩
  · subst q1
    cases h; exact .inl ⟨rfl, q2⟩
  · exact .inr ⟨b, off, m, by rw [← h.length]; exact e1, by rw [← h.length]; exact e2, h.els e3⟩
theorem WkC.trans {a b c : D} (h : WkC a b) (k : WkC b c) : WkC a c := fun H us q => k H us (h H us q)
theorem WkC.wk {d d' : D} (h : WkC d d') (hs : ∀ y, d.shape y = true → d'.shape y = true) : Wk d d' := fun H y q => ⟨h H _ q.1, hs y q.2⟩
theorem shape_agg {l l' : List D} : ∀ y, (D.agg l).shape y = true → (D.agg l').shape y = true := fun y h => by cases y <;> first | rfl | cases h
theorem shape_lst {k k' : Nat} {l l' : List D} {c c' : Cap} : ∀ y, (D.lst k l c).shape y = true → (D.lst k' l' c').shape y = true := fun y h => by cases y <;> first | rfl | cases h
theorem Wk.agg {ds ds' : List D} (h : WkR ds ds') : Wk (.agg ds) (.agg ds') := (WkC.agg h).wk shape_agg
theorem Wk.lst0 {k : Nat} {xs ys : List D} {c : Cap} (h : WkE xs ys) : Wk (.lst k xs c) (.lst k ys c) := (WkC.lst h).wk shape_lst
theorem Wk.lst {k : Nat} {xs ys : List D} {c : Cap} (h : WkE xs ys) : Wk (.lst k xs c) (.lst k ys .no) := ((WkC.lst h).trans WkC.no).wk shape_lst
theorem Wk.nil0 {k k' : Nat} {c : Cap} : Wk (.lst k [] c) (.lst k' [] .no) := WkC.nil.wk shape_lst
theorem Wk.trans {a b c : D} (h : Wk a b) (k : Wk b c) : Wk a c := fun H y q => k H y (h H y q)
/-! ### Blocks and tokens, told otherwise -/
/-- One state is another one, told otherwise. -/
theorem WkS.trans {C : Ctx} {a b c : S} (h : WkS C a b) (k : WkS C b c) : WkS C a c := fun H x w c1 t1 => by
  obtain ⟨H1, l1, c2, t2⟩ := h H x w c1 t1
  obtain ⟨H2, l2, c3, t3⟩ := k H1 x w c2 t2
  exact ⟨H2, Hp.le_trans l1 l2, c3, t3⟩
theorem WkS.refl {C : Ctx} (s : S) : WkS C s s := fun H _ _ c t => ⟨H, Hp.le_refl H, c, t⟩
/-- A block's cells, weaker. -/
theorem WkS.blk {C : Ctx} {t : List (Nat × D)} {h h' : List (Nat × Blk)} {k : List (Nat × Value)} {b : Nat} {ds ds' : List D} {T : TypeId} (j : Nat) (hb : h[j]? = some (b, .cells ds T)) (hw : WkR ds ds') (e : h.set j (b, .cells ds' T) = h') : WkS C ⟨t, h, k⟩ ⟨t, h', k⟩ := fun H a w c kt => by
  subst e
  refine ⟨H, Hp.le_refl H, ?_, kt⟩
  obtain ⟨us, h1, h2, h3⟩ := c.blks _ (List.mem_of_getElem? hb)
  have hlt := (List.getElem?_eq_some_iff.1 hb).1
  have hget := (List.getElem?_eq_some_iff.1 hb).2
  have hcl : claims (h.set j (b, Blk.cells ds' T)) k = claims h k := by
    exact claims_set hb rfl
  refine ⟨c.ag, c.le, c.new, c.same, c.size, ?_, c.toks, by rw [hcl]; exact c.nd, by rw [hcl]; exact c.own, c.env⟩
  intro p hp
  rcases List.mem_or_eq_of_mem_set hp with hp | hp
  · exact c.blks p hp
  · subst hp; exact ⟨us, h1, hw H us h2, h3⟩
/-- A full slice in a slot has room of its own: none. -/
theorem TokOK.full {H : Hp} {w : World} {k : Nat} {y : Value} (h : CapOK .full y) : TokOK H w (k, y) := fun a n m e hlt => by
  subst e
  simp only [CapOK] at h; omega
theorem tokClaim_full {k : Nat} {y : Value} (h : CapOK .full y) : tokClaim (k, y) = [] := by
  unfold tokClaim
  split
  · rename_i k0 a n m e
    simp only [Prod.mk.injEq] at e
    obtain ⟨_, e⟩ := e
    subst e
    simp only [CapOK] at h
    rw [if_neg (by omega)]
  · rfl
theorem Core.tokFull {C : Ctx} {H : Hp} {h : List (Nat × Blk)} {k : List (Nat × Value)} {w : World} (c : Core C H h k w) (kk : Nat) {y : Value} (hy : CapOK .full y) : Core C H h ((kk, y) :: k) w := by
  have hcl : claims h ((kk, y) :: k) = claims h k := by unfold claims; rw [List.flatMap_cons, tokClaim_full hy]; rfl
  refine ⟨c.ag, c.le, c.new, c.same, c.size, c.blks, ?_, by rw [hcl]; exact c.nd, by rw [hcl]; exact c.own, c.env⟩
  intro p hp
  rcases List.mem_cons.1 hp with rfl | hp
  · exact TokOK.full hy
  · exact c.toks p hp
theorem lst_cur {H : Hp} {k : Nat} {xs : List D} {y : Value} (h : Rep H (.lst k xs .full) y) : CapOK .full y ∧ Rep H (.lst k xs (.cur y)) y := by
  obtain ⟨hc, hr⟩ := rep_lst_inv h
  refine ⟨hc, ?_, by have := h.2; cases y <;> first | rfl | cases this⟩
  have h1 := h.1
  simp only [RepC] at h1 ⊢
  obtain ⟨y', e, _, h3⟩ := h1
  have : y' = y := by
    have hs := h.2
    cases y <;> simp [D.shape] at hs <;> simp [Value.cells] at e <;> exact e.symm
  subst this
  exact ⟨y', e, rfl, h3⟩
section
variable {P : Program} {C : Ctx} {N : Nat} {ops rest : List Oper} {o : Oper} {t : List (Nat × D)} {h : List (Nat × Blk)} {k : List (Nat × Value)} {Q : Exit → S → Prop} {tab : List (Option TI)}
/-- A full slice in slot i gets a token. -/
theorem w_tokF {c : Code} {i kk : Nat} {xs : List D} (hx : look t i = some (.lst kk xs .full)) (g : ∀ y, wpD P C N c ⟨(i, .lst kk xs (.cur y)) :: t, h, (kk, y) :: k⟩ Q) : wpD P C N c ⟨t, h, k⟩ Q := by
  rintro a w ⟨H, c0, kt, hN, hdf⟩
  obtain ⟨v, h1, h2⟩ := kt i _ hx
  obtain ⟨h3, h4⟩ := lst_cur h2
  refine g v a w ⟨H, c0.tokFull kk h3, ?_, hN, hdf⟩
  intro j d e
  simp only [look] at e
  cases hb : Nat.beq i j with
  | true =>
    rw [hb] at e; simp at e; subst e
    have := Nat.eq_of_beq_eq_true hb; subst this
    exact ⟨v, h1, h4⟩
  | false => rw [hb] at e; exact kt j d (by simpa using e)
/-! ### Pieces -/
/-- The state is one of those, told otherwise. -/
def WkX {Y : Type} (C : Ctx) (s : S) (S1 : Y → S) : Prop := ∀ H a w, Core C H s.h s.k w → TOK H s.t a → ∃ y H', H.le H' ∧ Core C H' (S1 y).h (S1 y).k w ∧ TOK H' (S1 y).t a
theorem WkX.of {Y : Type} {s : S} {S1 : Y → S} (y : Y) (h : WkS C s (S1 y)) : WkX C s S1 := fun H a w c t => by
  obtain ⟨H', h1, h2, h3⟩ := h H a w c t
  exact ⟨y, H', h1, h2, h3⟩
theorem WkX.wk {Y : Type} {s s' : S} {S1 : Y → S} (h : WkS C s s') (g : WkX C s' S1) : WkX C s S1 := fun H a w c t => by
  obtain ⟨H', h1, h2, h3⟩ := h H a w c t
  obtain ⟨y, H2, g1, g2, g3⟩ := g H' a w h2 h3
  exact ⟨y, H2, Hp.le_trans h1 g1, g2, g3⟩
theorem look_put {t : List (Nat × D)} {H : Hp} {a : Act} (kt : TOK H t a) {i : Nat} {d : D} {v : Value} (h1 : a.tmps[i]? = some v) (h2 : Rep H d v) : TOK H ((i, d) :: t) a := by
  intro j d' e
  simp only [look] at e
  cases hb : Nat.beq i j with
  | true =>
    rw [hb] at e; simp at e; subst e
    have := Nat.eq_of_beq_eq_true hb; subst this
    exact ⟨v, h1, h2⟩
  | false => rw [hb] at e; exact kt j d' (by simpa using e)
/-- A full slice in slot i gets a token. -/
theorem WkX.tokF {Y : Type} {S1 : Y → S} {i kk : Nat} {xs : List D} (hx : look t i = some (.lst kk xs .full)) (g : ∀ y, WkX C ⟨(i, .lst kk xs (.cur y)) :: t, h, (kk, y) :: k⟩ S1) : WkX C ⟨t, h, k⟩ S1 := fun H a w c kt => by
  obtain ⟨v, h1, h2⟩ := kt i _ hx
  obtain ⟨h3, h4⟩ := lst_cur h2
  exact g v H a w (c.tokFull kk h3) (look_put kt h1 h4)
theorem rep_nil {H : Hp} {k k' : Nat} {c : Cap} {y : Value} (h : Rep H (.lst k [] c) y) (hc : CapOK c y) : Rep H (.lst k' [] c) y := by
  obtain ⟨h1, h2⟩ := h
  refine ⟨?_, by cases y <;> first | rfl | cases h2⟩
  simp only [RepC] at h1 ⊢
  obtain ⟨z, e, h3, h4⟩ := h1
  refine ⟨z, e, h3, ?_⟩
  rcases h4 with ⟨_, h4⟩ | ⟨b, off, m, e1, e2, e3⟩
  · exact .inl ⟨by trivial, h4⟩
  · exact .inr ⟨b, off, m, e1, e2, by simp [Els]⟩
/-- A nil slice in slot i gets a token. -/
theorem WkX.tokN {Y : Type} {S1 : Y → S} {i k0 : Nat} (kk : Nat) (hx : look t i = some (.lst k0 [] .full)) (g : ∀ y, WkX C ⟨(i, .lst kk [] (.cur y)) :: t, h, (kk, y) :: k⟩ S1) : WkX C ⟨t, h, k⟩ S1 := fun H a w c kt => by
  obtain ⟨v, h1, h2⟩ := kt i _ hx
  have h5 := rep_nil (k' := kk) h2 (rep_lst_inv h2).1
  obtain ⟨h3, h4⟩ := lst_cur h5
  exact g v H a w (c.tokFull kk h3) (look_put kt h1 h4)
/-- A full slice in a block's cell gets a token. -/
theorem core_cellF {H : Hp} {w : World} {b off k0 : Nat} {ds : List D} {T : TypeId} {xs : List D} (kk j : Nat) (hb : h[j]? = some (b, .cells ds T)) (hd : ds[off]? = some (.lst k0 xs .full)) (hk : k0 = kk ∨ xs = []) (c : Core C H h k w) : ∃ y, Core C H (h.set j (b, .cells (ds.set off (.lst kk xs (.cur y))) T)) ((kk, y) :: k) w := by
  obtain ⟨us, h1, h2, h3⟩ := c.blks _ (List.mem_of_getElem? hb)
  obtain ⟨u, e1, e2, e3, e4⟩ := reps_get h2 hd
  have hr : Rep H (.lst k0 xs .full) u := rep_cell e2 e3 e4
  have hr' : Rep H (.lst kk xs .full) u := by
    rcases hk with rfl | rfl
    · exact hr
    · exact rep_nil hr (rep_lst_inv hr).1
  obtain ⟨h4, h5⟩ := lst_cur hr'
  refine ⟨u, ?_⟩
  have c1 := c.tokFull kk h4
  have hcl : claims (h.set j (b, Blk.cells (ds.set off (.lst kk xs (.cur u))) T)) ((kk, u) :: k) = claims h ((kk, u) :: k) := by
    exact claims_set hb rfl
  refine ⟨c1.ag, c1.le, c1.new, c1.same, c1.size, ?_, c1.toks, by rw [hcl]; exact c1.nd, by rw [hcl]; exact c1.own, c1.env⟩
  intro p hp
  rcases List.mem_or_eq_of_mem_set hp with hp | hp
  · exact c1.blks p hp
  · subst hp
    have hc5 := h5.1
    rw [oneCell_cells e3] at hc5
    exact ⟨us, h1, reps_set off h2 e1 ⟨hc5, rfl⟩, h3⟩
theorem WkX.cellF {Y : Type} {S1 : Y → S} {b off k0 : Nat} {ds : List D} {T : TypeId} {xs : List D} (kk j : Nat) (hb : h[j]? = some (b, .cells ds T)) (hd : ds[off]? = some (.lst k0 xs .full)) (hk : k0 = kk ∨ xs = []) (g : ∀ y, WkX C ⟨t, h.set j (b, .cells (ds.set off (.lst kk xs (.cur y))) T), (kk, y) :: k⟩ S1) : WkX C ⟨t, h, k⟩ S1 := fun H a w c kt => by
  obtain ⟨y, c'⟩ := core_cellF kk j hb hd hk c
  exact g y H a w c' kt
theorem WkS.perm {t t' : List (Nat × D)} {h' hj : List (Nat × Blk)} {k' kj : List (Nat × Value)} (e : ∀ i d, look t' i = some d → ∃ d0, look t i = some d0 ∧ Wk d0 d) (hh : h.Perm (h' ++ hj)) (kk : k.Perm (k' ++ kj)) : WkS C ⟨t, h, k⟩ ⟨t', h', k'⟩ := fun H a w c kt => by
  refine ⟨H, Hp.le_refl H, (c.perm hh kk).drop (List.sublist_append_left _ _) (List.sublist_append_left _ _), ?_⟩
  intro i d hd
  obtain ⟨d0, h1, h2⟩ := e i d hd
  obtain ⟨v, h3, h4⟩ := kt i d0 h1
  exact ⟨v, h3, h2 H v h4⟩
theorem wpD_wkX {Y : Type} {c : Code} {s : S} {S1 : Y → S} (hs : WkX C s S1) (g : ∀ y, wpD P C N c (S1 y) Q) : wpD P C N c s Q := by
  rintro a w ⟨H, c0, kt, hN, hdf⟩
  obtain ⟨y, H', hle, c', kt'⟩ := hs H a w c0 kt
  exact g y a w ⟨H', c', kt', hN, hdf⟩
/-- A piece, and what is behind it. -/
theorem wpD_mid {Y : Type} {c : Code} {s : S} (S1 : Y → S) (h1 : wpD P C N c s (fun x s' => x = .normal ∧ WkX C s' S1)) (h2 : ∀ s', WkX C s' S1 → Q .normal s') : wpD P C N c s Q :=
  wpD_mono h1 fun _ s' ⟨e, hw⟩ => by subst e; exact h2 s' hw
/-- What comes of a piece that may return, too. -/
def midX {τ ρ Y : Type} (C : Ctx) (S1 : τ → Y → S) (Q : Exit → S → Prop) (x : τ ⊕ ρ) : Exit → S → Prop := fun e s =>
  match x with
  | .inl v => e = .normal ∧ WkX C s (S1 v)
  | .inr _ => e = .ret ∧ Q .ret s
theorem wpD_midX {τ ρ Y : Type} {c : Code} {s : S} (S1 : τ → Y → S) (x : τ ⊕ ρ) (h1 : wpD P C N c s (midX C S1 Q x)) (h2 : ∀ v s', x = .inl v → WkX C s' (S1 v) → Q .normal s') : wpD P C N c s Q := by
  refine wpD_mono h1 fun e s' hm => ?_
  cases x with
  | inl v =>
    obtain ⟨e1, hw⟩ := hm
    subst e1
    exact h2 v s' rfl hw
  | inr r =>
    obtain ⟨e1, hq⟩ := hm
    subst e1
    exact hq
theorem WkX.trans {Y Z : Type} {s : S} {S1 : Y → S} {S2 : Z → S} (h : WkX C s S1) (g : ∀ y, WkX C (S1 y) S2) : WkX C s S2 := fun H a w c kt => by
  obtain ⟨y, H1, l1, c1, t1⟩ := h H a w c kt
  obtain ⟨z, H2, l2, c2, t2⟩ := g y H1 a w c1 t1
  exact ⟨z, H2, Hp.le_trans l1 l2, c2, t2⟩
/-- What is so of a step of a loop that comes to t. -/
def LP {σ τ : Type} (t : τ) (G : σ → Prop) : Step σ τ → Prop
  | .next s => G s
  | .done u => u = t
theorem lp_next {σ τ : Type} {t : τ} {G : σ → Prop} {s : σ} (h : Yes (some (Step.next s)) (LP t G)) : G s := by obtain ⟨x, h1, h2⟩ := h; cases h1; exact h2
theorem lp_done {σ τ : Type} {t u : τ} {G : σ → Prop} (h : Yes (some (Step.done (σ := σ) u)) (LP t G)) : u = t := by obtain ⟨x, h1, h2⟩ := h; cases h1; exact h2
theorem yes_loop {σ τ : Type} {f : σ → Option (Step σ τ)} {t : τ} {n : Nat} {x : σ} (h : loopN f (n + 1) x = some t) : Yes (f x) (LP t fun x' => loopN f n x' = some t) := by
  simp only [loopN] at h
  cases e : f x with
  | none => rw [e] at h; cases h
  | some st =>
    rw [e] at h
    cases st with
    | next s' => exact ⟨_, rfl, h⟩
    | done u => exact ⟨_, rfl, by simpa [LP] using h⟩
theorem loop_M {σ τ Y : Type} {f : σ → Option (Step σ τ)} {x0 : σ} {u : τ} {s : S} {c : Code} (hl : loopM f x0 = some u) (St : σ → Y → S) (hw : WkX C s (St x0))
    (hb : ∀ (G : σ → Prop) x y, Yes (f x) (LP u G) → wpD P C N c (St x y) (thenD (fun s' => ∃ x', G x' ∧ WkX C s' (St x')) Q)) : wpD P C N (.loop c) s Q := by
  obtain ⟨n, hn⟩ := loopM_inv hl
  have key : ∀ n x y, loopN f n x = some u → roundsD P C N c Q n (St x y) := by
    intro n
    induction n with
    | zero => intro x y h; simp [loopN] at h
    | succ n ih =>
      intro x y h
      refine roundsD_succ (wpD_mono (hb _ x y (yes_loop h)) ?_)
      intro e s' q
      cases e with
      | normal =>
        obtain ⟨x', h1, h2⟩ := q
        rintro a w ⟨H, c0, kt, hN, hdf⟩
        obtain ⟨y', H', hle, c', kt'⟩ := h2 H a w c0 kt
        exact ih x' y' h1 a w ⟨H', c', kt', hN, hdf⟩
      | _ => exact q
  exact wpD_wkX hw (fun y => wpD_loop n (key n x0 y hn))
/-- Jumps back to a label, as a loop. -/
def backD (K : S → Prop) (l : Nat) (Q : Exit → S → Prop) : Exit → S → Prop
  | .goto j, s => j = l ∧ K s
  | x, s => Q x s
theorem back_goto {K : S → Prop} {l : Nat} {Q : Exit → S → Prop} {s : S} (g : K s) : backD K l Q (.goto l) s := ⟨rfl, g⟩
theorem back_normal {K : S → Prop} {l : Nat} {Q : Exit → S → Prop} {s : S} (g : Q .normal s) : backD K l Q .normal s := g
theorem back_ret {K : S → Prop} {l : Nat} {Q : Exit → S → Prop} {s : S} (g : Q .ret s) : backD K l Q .ret s := g
theorem back_exit {K : S → Prop} {l j : Nat} {Q : Exit → S → Prop} {s : S} (g : Q (.exit j) s) : backD K l Q (.exit j) s := g
/-- The end of a function, its results told otherwise. -/
def retX (C : Ctx) (tab : List (Option TI)) (rs : List ResultVar) (R : D → List (Nat × Blk) → List (Nat × Value) → Prop) (x : Exit) (s : S) : Prop := ∀ H a w, Core C H s.h s.k w → TOK H s.t a → ∃ s' H', H.le H' ∧ Core C H' s'.h s'.k w ∧ TOK H' s'.t a ∧ retD tab rs R x s'
theorem retX.of {rs : List ResultVar} {R : D → List (Nat × Blk) → List (Nat × Value) → Prop} {x : Exit} {s s' : S} (h : WkS C s s') (g : retD tab rs R x s') : retX C tab rs R x s := fun H a w c kt => by
  obtain ⟨H', h1, h2, h3⟩ := h H a w c kt
  exact ⟨s', H', h1, h2, h3, g⟩
theorem retX.wk {rs : List ResultVar} {R : D → List (Nat × Blk) → List (Nat × Value) → Prop} {x : Exit} {s s' : S} (h : WkS C s s') (g : retX C tab rs R x s') : retX C tab rs R x s := fun H a w c kt => by
  obtain ⟨H', h1, h2, h3⟩ := h H a w c kt
  obtain ⟨s2, H2, g1, g2⟩ := g H' a w h2 h3
  exact ⟨s2, H2, Hp.le_trans h1 g1, g2⟩
theorem retX.wkX {Y : Type} {S1 : Y → S} {rs : List ResultVar} {R : D → List (Nat × Blk) → List (Nat × Value) → Prop} {x : Exit} {s : S} (h : WkX C s S1) (g : ∀ y, retX C tab rs R x (S1 y)) : retX C tab rs R x s := fun H a w c kt => by
  obtain ⟨y, H', h1, h2, h3⟩ := h H a w c kt
  obtain ⟨s2, H2, g1, g2⟩ := g y H' a w h2 h3
  exact ⟨s2, H2, Hp.le_trans h1 g1, g2⟩
theorem retX.tokF {rs : List ResultVar} {R : D → List (Nat × Blk) → List (Nat × Value) → Prop} {x : Exit} {i kk : Nat} {xs : List D} (hx : look t i = some (.lst kk xs .full)) (g : ∀ y, retX C tab rs R x ⟨(i, .lst kk xs (.cur y)) :: t, h, (kk, y) :: k⟩) : retX C tab rs R x ⟨t, h, k⟩ := fun H a w c kt => by
  obtain ⟨v, h1, h2⟩ := kt i _ hx
  obtain ⟨h3, h4⟩ := lst_cur h2
  exact g v H a w (c.tokFull kk h3) (look_put kt h1 h4)
theorem retX.tokN {rs : List ResultVar} {R : D → List (Nat × Blk) → List (Nat × Value) → Prop} {x : Exit} {i k0 : Nat} (kk : Nat) (hx : look t i = some (.lst k0 [] .full)) (g : ∀ y, retX C tab rs R x ⟨(i, .lst kk [] (.cur y)) :: t, h, (kk, y) :: k⟩) : retX C tab rs R x ⟨t, h, k⟩ := fun H a w c kt => by
  obtain ⟨v, h1, h2⟩ := kt i _ hx
  have h5 := rep_nil (k' := kk) h2 (rep_lst_inv h2).1
  obtain ⟨h3, h4⟩ := lst_cur h5
  exact g v H a w (c.tokFull kk h3) (look_put kt h1 h4)
theorem retX.cellF {rs : List ResultVar} {R : D → List (Nat × Blk) → List (Nat × Value) → Prop} {x : Exit} {b off k0 : Nat} {ds : List D} {T : TypeId} {xs : List D} (kk j : Nat) (hb : h[j]? = some (b, .cells ds T)) (hd : ds[off]? = some (.lst k0 xs .full)) (hk : k0 = kk ∨ xs = []) (g : ∀ y, retX C tab rs R x ⟨t, h.set j (b, .cells (ds.set off (.lst kk xs (.cur y))) T), (kk, y) :: k⟩) : retX C tab rs R x ⟨t, h, k⟩ := fun H a w c kt => by
  obtain ⟨y, c'⟩ := core_cellF kk j hb hd hk c
  exact g y H a w c' kt
theorem enterX {f : FuncId} {fn : Func} {c : Code} {ds : List D} {R : D → List (Nat × Blk) → List (Nat × Value) → Prop} {rs : List ResultVar} (ht : TabOK P tab)
    (hf : P.funcs[f]? = some fn) (hb : fn.body = some c) (hn : (fn.name == "runtime.NumGoroutine") = false) {N : Nat} (hN : fn.ntmps = N) (hl : Nat.ble ds.length N = true) (hrs : fn.results.toList = rs)
    (hw : ∀ C, wpD P C N c ⟨argT 0 ds, h, k⟩ (retX C tab rs R)) : CallsD P f ds h k R := by
  refine enter ht hf hb hn hN hl hrs fun C => ?_
  intro a w r
  refine wp_mono (hw C a w r) ?_
  rintro x a' w' ⟨s, ⟨H, c0, kt, hN, hdf⟩, hk⟩
  obtain ⟨s', H', hle, c', kt', hr⟩ := hk H a' w' c0 kt
  exact ⟨s', ⟨H', c', kt', hN, hdf⟩, hr⟩
theorem resL_nil {s : S} : resL tab s [] [] := rfl
theorem resL_cons {s : S} {r : ResultVar} {rs : List ResultVar} {d : D} {ds : List D} (h1 : resOne tab s r d) (h2 : resL tab s rs ds) : resL tab s (r :: rs) (d :: ds) := ⟨d, ds, rfl, h1, h2⟩
theorem resOne_tmp {s : S} {i : Nat} {d : D} (h1 : look s.t i = some d) : resOne tab s (.tmp i) d := h1
theorem resOne_cell {s : S} {a b off : Nat} {T T' : TypeId} {ds : List D} {i : TI} {d : D} (j : Nat) (h1 : look s.t a = some (.ptr b off)) (h2 : s.h[j]? = some (b, Blk.cells ds T')) (h3 : ti tab T = some i) (h4 : partD i ds off = some d) : resOne tab s (.cell a T) d := ⟨j, b, off, ds, T', i, h1, h2, h3, h4⟩
theorem retD_mk {R : D → List (Nat × Blk) → List (Nat × Value) → Prop} {rs : List ResultVar} {x : Exit} {s : S} {ds : List D} {hh : List (Nat × Blk)} {kk : List (Nat × Value)} (hx : x = .ret ∨ x = .normal) (hr : resL tab s rs ds) (hs : hh.Sublist s.h) (ks : kk.Sublist s.k) (g : R (wrapD ds) hh kk) : retD tab rs R x s := ⟨hx, ds, hh, kk, hr, hs, ks, g⟩
/-! ### The steps that take elements and parts, told by types -/
theorem x_cut {α : Type} {e0 : α → D} {kk : Nat} {T e : TypeId} {x : Operand} {lo hi : Option Operand} {l' n' : Option Int} {xs ys : List α} {l n : Int} {c : Cap} {ti0 tie : TI} (q : cutL xs l n = some ys) (hT : TabOK P tab) (ho : o.op = .slice T x lo hi none)
    (hx : opD t x = some (.lst kk (xs.map e0) c)) (e1 : optI t lo = some l') (e2 : optI t hi = some n') (hti : ti tab T = some ti0) (hs : ti0.d = .slice e) (hte : ti tab e = some tie) (hk : tie.size = kk) (h1 : l'.getD 0 = l) (h2 : n'.getD xs.length = n) : Ex P o t (.lst kk (ys.map e0) .no) := by
  obtain ⟨q1, q2, q3, q4, q5⟩ := cutL_ok q
  have := x_part hT ho hx e1 e2 hti hs hte hk (h1.trans q2) (by rw [map_len]; exact h2.trans q3) q4 (by rw [map_len]; exact q5)
  rw [q1, List.map_take, List.map_drop]
  exact this
theorem x_cut3 {α : Type} {e0 : α → D} {kk : Nat} {T e : TypeId} {x y z : Operand} {lo : Option Operand} {l' : Option Int} {ik jk : IntKind} {xs ys : List α} {l n mm : Int} {c : Cap} {ti0 tie : TI} (q : cutL xs l n = some ys) (hm : mm = n) (hT : TabOK P tab) (ho : o.op = .slice T x lo (some y) (some z))
    (hx : opD t x = some (.lst kk (xs.map e0) c)) (e1 : optI t lo = some l') (e2 : opD t y = some (.v (.int ik n))) (e3 : opD t z = some (.v (.int jk mm))) (hti : ti tab T = some ti0) (hs : ti0.d = .slice e) (hte : ti tab e = some tie) (hk : tie.size = kk) (h1 : l'.getD 0 = l) : Ex P o t (.lst kk (ys.map e0) .full) := by
  obtain ⟨q1, q2, q3, q4, q5⟩ := cutL_ok q
  have := x_part3 hT ho hx e1 e2 e3 hti hs hte hk (h1.trans q2) q3 (hm.trans q3) q4 (by rw [map_len]; exact q5)
  rw [q1, List.map_take, List.map_drop]
  exact this
theorem x_cutS {T : TypeId} {x : Operand} {lo hi : Option Operand} {l' n' : Option Int} {s r : ByteArray} {l n : Int} {ti0 : TI} (q : cutS s l n = some r) (hT : TabOK P tab) (ho : o.op = .slice T x lo hi none)
    (hx : opD t x = some (.v (.string s))) (e1 : optI t lo = some l') (e2 : optI t hi = some n') (hti : ti tab T = some ti0) (hs : ti0.d = .str) (h1 : l'.getD 0 = l) (h2 : n'.getD s.size = n) : Ex P o t (.v (.string r)) := by
  obtain ⟨q1, q2, q3, q4, q5⟩ := cutS_ok q
  have := x_sub hT ho hx e1 e2 hti hs (h1.trans q2) (h2.trans q3) q4 q5
  rw [q1]
  exact this
theorem p_cut {α : Type} {e0 : α → D} {i kk : Nat} {T e : TypeId} {x : Operand} {lo hi : Option Operand} {l' n' : Option Int} {xs ys : List α} {l n : Int} {c : Cap} {ti0 tie : TI} (q : cutL xs l n = some ys) (hT : TabOK P tab) (ho : o.op = .slice T x lo hi none) (hw : wantD ops t o = some true) (hd : o.dst = some i) (hi0 : Nat.blt i N = true)
    (hx : opD t x = some (.lst kk (xs.map e0) c)) (e1 : optI t lo = some l') (e2 : optI t hi = some n') (hti : ti tab T = some ti0) (hs : ti0.d = .slice e) (hte : ti tab e = some tie) (hk : tie.size = kk) (h1 : l'.getD 0 = l) (h2 : n'.getD xs.length = n)
    (g : opsD P C N ops rest ⟨(i, .lst kk (ys.map e0) .no) :: t, h, k⟩ Q) : opsD P C N ops (o :: rest) ⟨t, h, k⟩ Q := by
  obtain ⟨q1, q2, q3, q4, q5⟩ := cutL_ok q
  refine p_part hT ho hw hd hi0 hx e1 e2 hti hs hte hk (h1.trans q2) (by rw [map_len]; exact h2.trans q3) q4 (by rw [map_len]; exact q5) ?_
  rw [q1, List.map_take, List.map_drop] at g
  exact g
theorem p_cut3 {α : Type} {e0 : α → D} {i kk : Nat} {T e : TypeId} {x y z : Operand} {lo : Option Operand} {l' : Option Int} {ik jk : IntKind} {xs ys : List α} {l n mm : Int} {c : Cap} {ti0 tie : TI} (q : cutL xs l n = some ys) (hm : mm = n) (hT : TabOK P tab) (ho : o.op = .slice T x lo (some y) (some z)) (hw : wantD ops t o = some true) (hd : o.dst = some i) (hi0 : Nat.blt i N = true)
    (hx : opD t x = some (.lst kk (xs.map e0) c)) (e1 : optI t lo = some l') (e2 : opD t y = some (.v (.int ik n))) (e3 : opD t z = some (.v (.int jk mm))) (hti : ti tab T = some ti0) (hs : ti0.d = .slice e) (hte : ti tab e = some tie) (hk : tie.size = kk) (h1 : l'.getD 0 = l)
    (g : opsD P C N ops rest ⟨(i, .lst kk (ys.map e0) .full) :: t, h, k⟩ Q) : opsD P C N ops (o :: rest) ⟨t, h, k⟩ Q := by
  obtain ⟨q1, q2, q3, q4, q5⟩ := cutL_ok q
  refine p_part3 hT ho hw hd hi0 hx e1 e2 e3 hti hs hte hk (h1.trans q2) q3 (hm.trans q3) q4 (by rw [map_len]; exact q5) ?_
  rw [q1, List.map_take, List.map_drop] at g
  exact g
theorem p_cutS {i : Nat} {T : TypeId} {x : Operand} {lo hi : Option Operand} {l' n' : Option Int} {s r : ByteArray} {l n : Int} {ti0 : TI} (q : cutS s l n = some r) (hT : TabOK P tab) (ho : o.op = .slice T x lo hi none) (hw : wantD ops t o = some true) (hd : o.dst = some i) (hi0 : Nat.blt i N = true)
    (hx : opD t x = some (.v (.string s))) (e1 : optI t lo = some l') (e2 : optI t hi = some n') (hti : ti tab T = some ti0) (hs : ti0.d = .str) (h1 : l'.getD 0 = l) (h2 : n'.getD s.size = n)
    (g : opsD P C N ops rest ⟨(i, .v (.string r)) :: t, h, k⟩ Q) : opsD P C N ops (o :: rest) ⟨t, h, k⟩ Q := by
  obtain ⟨q1, q2, q3, q4, q5⟩ := cutS_ok q
  refine p_sub hT ho hw hd hi0 hx e1 e2 hti hs (h1.trans q2) (h2.trans q3) q4 q5 ?_
  rw [q1] at g
  exact g
theorem p_mapD {α : Type} {e0 : α → D} {i kk : Nat} {xs ys zs : List α} {bb : Nat} {c : Cap} (q : app bb xs ys = some zs) (hx : look t i = some (.lst kk (xs.map e0 ++ ys.map e0) c)) (g : opsD P C N ops rest ⟨(i, .lst kk (zs.map e0) c) :: t, h, k⟩ Q) : opsD P C N ops rest ⟨t, h, k⟩ Q :=
  p_eq hx (Wk.of_eq (by rw [app_map q])) g
theorem p_mapD0 {α : Type} {e0 : α → D} {i kk : Nat} {ys zs : List α} {bb : Nat} {c : Cap} (q : app bb [] ys = some zs) (hx : look t i = some (.lst kk (ys.map e0) c)) (g : opsD P C N ops rest ⟨(i, .lst kk (zs.map e0) c) :: t, h, k⟩ Q) : opsD P C N ops rest ⟨t, h, k⟩ Q :=
  p_eq hx (Wk.of_eq (by rw [(app_ok q).1]; simp)) g
/-- A call that is given a block, which stays where it is. -/
theorem perm_set {α : Type} : ∀ {l : List α} {j : Nat} {x y : α}, l[j]? = some x → (y :: l.eraseIdx j).Perm (l.set j y)
  | [], j, x, y, h => by simp at h
  | a :: l, 0, x, y, h => by simp
  | a :: l, j + 1, x, y, h => by
    simp at h
    simp only [List.eraseIdx_cons_succ, List.set_cons_succ]
    exact (List.Perm.swap a y _).trans ((perm_set h).cons a)
theorem opsD_perm {h' : List (Nat × Blk)} {k' : List (Nat × Value)} (hh : h.Perm h') (kk : k.Perm k') (g : opsD P C N ops rest ⟨t, h', k'⟩ Q) : opsD P C N ops rest ⟨t, h, k⟩ Q :=
  ops_wk (s := ⟨t, h, k⟩) (s' := ⟨t, h', k'⟩) (fun H _ _ c kt => ⟨H, Hp.le_refl H, c.perm hh kk, kt⟩) g
theorem p_callB {f : FuncId} {args : List Operand} {ts : Array TypeId} {i : Nat} {ds ds' : List D} {x : Nat × Blk} {k1 k2 : List (Nat × Value)} {R : D → List (Nat × Blk) → List (Nat × Value) → Prop} {R' : D → Nat × Blk → List (Nat × Value) → Prop} (j : Nat)
    (hc : CallsD P f ds' [x] k1 R) (hR : ∀ d h k, R d h k → ∃ x', h = [x'] ∧ R' d x' k) (ho : o.op = .call ⟨.value (.func f), args.toArray, ts⟩) (hw : wantD ops t o = some true) (hd : o.dst = some i) (hi : Nat.blt i N = true) (ha : someMap args (opD t) = some ds) (hwk : WkL ds ds')
    (hh : h[j]? = some x) (hk : k.Perm (k1 ++ k2)) (g : ∀ d x' k', R' d x' k' → opsD P C N ops rest ⟨(i, d) :: t, h.set j x', k' ++ k2⟩ Q) : opsD P C N ops (o :: rest) ⟨t, h, k⟩ Q := by
  refine ops_call (s := ⟨t, h, k⟩) hc ho hw hd hi ha hwk (perm_at hh) hk fun d h' k' r => ?_
  obtain ⟨x', rfl, r'⟩ := hR d h' k' r
  exact opsD_perm (perm_set hh) (List.Perm.refl _) (g d x' k' r')
theorem p_callB0 {f : FuncId} {args : List Operand} {ts : Array TypeId} {ds ds' : List D} {x : Nat × Blk} {k1 k2 : List (Nat × Value)} {R : D → List (Nat × Blk) → List (Nat × Value) → Prop} {R' : D → Nat × Blk → List (Nat × Value) → Prop} (j : Nat)
    (hc : CallsD P f ds' [x] k1 R) (hR : ∀ d h k, R d h k → ∃ x', h = [x'] ∧ R' d x' k) (ho : o.op = .call ⟨.value (.func f), args.toArray, ts⟩) (hw : wantD ops t o = some true) (hd : o.dst = none) (ha : someMap args (opD t) = some ds) (hwk : WkL ds ds')
    (hh : h[j]? = some x) (hk : k.Perm (k1 ++ k2)) (g : ∀ d x' k', R' d x' k' → opsD P C N ops rest ⟨t, h.set j x', k' ++ k2⟩ Q) : opsD P C N ops (o :: rest) ⟨t, h, k⟩ Q := by
  refine ops_call0 (s := ⟨t, h, k⟩) hc ho hw hd ha hwk (perm_at hh) hk fun d h' k' r => ?_
  obtain ⟨x', rfl, r'⟩ := hR d h' k' r
  exact opsD_perm (perm_set hh) (List.Perm.refl _) (g d x' k' r')
end
section
variable {P : Program} {C : Ctx} {N : Nat} {ops rest : List Oper} {o : Oper} {t : List (Nat × D)} {h : List (Nat × Blk)} {k : List (Nat × Value)} {Q : Exit → S → Prop} {tab : List (Option TI)}
theorem midX_inl {τ ρ Y : Type} {S1 : τ → Y → S} {s : S} {v : τ} (g : WkX C s (S1 v)) : midX (ρ := ρ) C S1 Q (.inl v) .normal s := ⟨rfl, g⟩
theorem midX_inr {τ ρ Y : Type} {S1 : τ → Y → S} {s : S} {r : ρ} (g : Q .ret s) : midX C S1 Q (.inr r) .ret s := ⟨rfl, g⟩
theorem scope_L {σ τ Y : Type} {f : σ → Option (Step σ τ)} {x0 : σ} {u : τ} {s : S} {c r : Code} (l : Nat) (hl : loopM f x0 = some u) (St : σ → Y → S) (hf : findLabel c l = some (.seq .skip r))
    (hc : ∀ Q', (∀ y, wpD P C N r (St x0 y) Q') → wpD P C N c s Q')
    (hb : ∀ (G : σ → Prop) x y, Yes (f x) (LP u G) → wpD P C N r (St x y) (backD (fun s' => ∃ x', G x' ∧ WkX C s' (St x')) l Q)) : wpD P C N (.scope c) s Q := by
  obtain ⟨n, hn⟩ := loopM_inv hl
  have key : ∀ n x y, loopN f (n + 1) x = some u → wpD P C N r (St x y) (scopeD P C N c Q n) := by
    intro n
    induction n with
    | zero =>
      intro x y h
      refine wpD_mono (hb _ x y (yes_loop h)) ?_
      intro e s' q
      cases e with
      | goto j => obtain ⟨_, x', h1, _⟩ := q; simp [loopN] at h1
      | _ => exact q
    | succ n ih =>
      intro x y h
      refine wpD_mono (hb _ x y (yes_loop h)) ?_
      intro e s' q
      cases e with
      | goto j =>
        obtain ⟨rfl, x', h1, h2⟩ := q
        refine scope_goto hf ?_
        rintro a w ⟨H, c0, kt, hN, hdf⟩
        obtain ⟨y', H', hle, c', kt'⟩ := h2 H a w c0 kt
        exact (jumpsD_succ (wpD_seq (wpD_skip (then_normal (ih x' y' h1))))) a w ⟨H', c', kt', hN, hdf⟩
      | _ => exact q
  cases n with
  | zero => simp [loopN] at hn
  | succ n => exact wpD_scope (n + 1) (jumpsD_succ (hc _ fun y => key n x0 y hn))
theorem CallsD.drop {f : FuncId} {ds : List D} {R : D → List (Nat × Blk) → List (Nat × Value) → Prop} {d1 : D} (c : CallsD P f ds h k R) (hr : ∀ d h k, R d h k → Wk d d1) : CallsD P f ds h k (fun d h k => d = d1 ∧ h = [] ∧ k = []) := by
  refine ⟨c.1, fun H w vs h1 h2 h3 h4 h5 => (c.2 H w vs h1 h2 h3 h4 h5).mono ?_⟩
  rintro e w' ⟨v, H', d, h', k', e1, e2, e3, e4⟩
  exact ⟨v, H', d1, [], [], e1, hr d h' k' e4 H' v e2, e3.drop (List.nil_sublist _) (List.nil_sublist _), rfl, rfl, rfl⟩
theorem Ex.wk {d d' : D} (h : Ex P o t d) (k : Wk d d') : Ex P o t d' := fun H a w kt => let ⟨v, h1, h2⟩ := h H a w kt; ⟨v, h1, k H v h2⟩
theorem ExE.wk {d d' : D} (h : ExE P o t d) (k : Wk d d') : ExE P o t d' := fun H a w hA kt => let ⟨v, w', H', h1, h2, h3⟩ := h H a w hA kt; ⟨v, w', H', h1, h2, k H' v h3⟩
/-- A full slice in a block's cell gets a token, within a region. -/
theorem p_cellF {b off k0 : Nat} {ds : List D} {T : TypeId} {xs : List D} (kk j : Nat) (hb : h[j]? = some (b, .cells ds T)) (hd : ds[off]? = some (.lst k0 xs .full)) (hk : k0 = kk ∨ xs = []) (g : ∀ y, opsD P C N ops rest ⟨t, h.set j (b, .cells (ds.set off (.lst kk xs (.cur y))) T), (kk, y) :: k⟩ Q) : opsD P C N ops rest ⟨t, h, k⟩ Q := by
  rintro a w ⟨H, c0, kt, hN, hdf⟩
  obtain ⟨y, c'⟩ := core_cellF kk j hb hd hk c0
  exact g y a w ⟨H, c', kt, hN, hdf⟩
theorem p_slotF {i k0 : Nat} {xs : List D} (kk : Nat) (hx : look t i = some (.lst k0 xs .full)) (hk : k0 = kk ∨ xs = []) (g : ∀ y, opsD P C N ops rest ⟨(i, .lst kk xs (.cur y)) :: t, h, (kk, y) :: k⟩ Q) : opsD P C N ops rest ⟨t, h, k⟩ Q := by
  rintro a w ⟨H, c0, kt, hN, hdf⟩
  obtain ⟨v, h1, h2⟩ := kt i _ hx
  have h2' : Rep H (.lst kk xs .full) v := by
    rcases hk with rfl | rfl
    · exact h2
    · exact rep_nil h2 (rep_lst_inv h2).1
  obtain ⟨h3, h4⟩ := lst_cur h2'
  exact g v a w ⟨H, c0.tokFull kk h3, look_put kt h1 h4, hN, hdf⟩
theorem o_blk {b : Nat} {ds ds' : List D} {T : TypeId} {h' : List (Nat × Blk)} (j : Nat) (hb : h[j]? = some (b, .cells ds T)) (hw : WkR ds ds') (e : h.set j (b, .cells ds' T) = h') (g : opsD P C N ops rest ⟨t, h', k⟩ Q) : opsD P C N ops rest ⟨t, h, k⟩ Q :=
  ops_wk (s := ⟨t, h, k⟩) (s' := ⟨t, h', k⟩) (WkS.blk j hb hw e) g
/-- A slot, told otherwise. -/
theorem w_eq {c : Code} {i : Nat} {d d' : D} (hx : look t i = some d) (e : Wk d d') (g : wpD P C N c ⟨(i, d') :: t, h, k⟩ Q) : wpD P C N c ⟨t, h, k⟩ Q := by
  rintro a w ⟨H, c0, kt, hN, hdf⟩
  obtain ⟨v, h1, h2⟩ := kt i _ hx
  exact g a w ⟨H, c0, look_put kt h1 (e H v h2), hN, hdf⟩
theorem WkX.slot {Y : Type} {S1 : Y → S} {i : Nat} {d d' : D} (hx : look t i = some d) (e : Wk d d') (g : WkX C ⟨(i, d') :: t, h, k⟩ S1) : WkX C ⟨t, h, k⟩ S1 := fun H a w c kt => by
  obtain ⟨v, h1, h2⟩ := kt i _ hx
  exact g H a w c (look_put kt h1 (e H v h2))
end
/-! ### Plain data -/
def eI64 (n : Int) : D := .v (.int .i64 n)
def eU64 (n : Int) : D := .v (.int .u64 n)
def eI32 (n : Int) : D := .v (.int .i32 n)
def eU16 (n : Int) : D := .v (.int .u16 n)
def eBool (b : Bool) : D := .v (.bool b)
def eStr (s : ByteArray) : D := .v (.string s)
def eList {α : Type} (k : Nat) (e : α → D) (l : List α) : D := .lst k (l.map e) .no
end Go.Proofs.Ytpeimfcmhedjmaa.Ab
/- More steps: bits, shifts, texts, greatest and least, nil slices. Over any program. -/
namespace Go.Proofs.Ytpeimfcmhedjmaa.Ab
open Go
set_option linter.all false
/-! ### Recursion -/
def Le {α : Type} (m m' : Option α) : Prop := ∀ r, m = some r → m' = some r
theorem Le.refl {α : Type} (m : Option α) : Le m m := fun _ h => h
theorem Le.none {α : Type} (m : Option α) : Le Option.none m := fun _ h => by cases h
theorem Le.bind {α β : Type} {m m' : Option α} {f f' : α → Option β} (h : Le m m') (k : ∀ x, Le (f x) (f' x)) : Le (m.bind f) (m'.bind f') := fun r e => by
  rw [Option.bind_eq_some_iff] at e ⊢
  obtain ⟨a, h1, h2⟩ := e
  exact ⟨a, h a h1, k a r h2⟩
theorem Le.cond {α : Type} {c : Bool} {m m' n n' : Option α} (h : Le m m') (k : Le n n') : Le (bif c then m else n) (bif c then m' else n') := by
  cases c
  · exact k
  · exact h
theorem Le.elim {α β γ : Type} {f f' : α → Option γ} {g g' : β → Option γ} {x : α ⊕ β} (h : ∀ a, Le (f a) (f' a)) (k : ∀ b, Le (g b) (g' b)) : Le (Sum.elim f g x) (Sum.elim f' g' x) := by
  cases x
  · exact h _
  · exact k _
theorem Le.loop {σ τ : Type} {f f' : σ → Option (Step σ τ)} {s : σ} (h : ∀ s, Le (f s) (f' s)) : Le (loopM f s) (loopM f' s) := fun r e => by
  obtain ⟨n, hn⟩ := loopM_inv e
  have key : ∀ n s, loopN f n s = some r → loopN f' n s = some r := by
    intro n
    induction n with
    | zero => intro s h; simp [loopN] at h
    | succ n ih =>
      intro s e
      simp only [loopN] at e ⊢
      cases hf : f s with
      | none => rw [hf] at e; cases e
      | some x =>
        rw [hf] at e
        rw [h s x hf]
        cases x with
        | next s' => exact ih s' e
        | done t => exact e
  exact loopM_of (key n s hn)
open Classical in
noncomputable def anyN {α : Type} (f : Nat → Option α) : Option α := if h : ∃ n r, f n = some r then some h.choose_spec.choose else Option.none
theorem anyN_inv {α : Type} {f : Nat → Option α} {r : α} (h : anyN f = some r) : ∃ n, f n = some r := by
  unfold anyN at h
  split at h
  · rename_i hx
    simp only [Option.some.injEq] at h
    exact ⟨_, h ▸ hx.choose_spec.choose_spec⟩
  · cases h
theorem anyN_of {α : Type} {f : Nat → Option α} (hle : ∀ n, Le (f n) (f (n + 1))) {r : α} {n : Nat} (h : f n = some r) : anyN f = some r := by
  have up : ∀ (k n : Nat) (r : α), f n = some r → f (n + k) = some r := by
    intro k
    induction k with
    | zero => intro n r e; exact e
    | succ k ih => intro n r e; exact hle _ _ (ih n r e)
  have hx : ∃ n r, f n = some r := ⟨n, r, h⟩
  unfold anyN
  rw [dif_pos hx]
  have h1 := hx.choose_spec.choose_spec
  have h2 := up n _ _ h1
  have h3 := up hx.choose _ _ h
  rw [Nat.add_comm] at h3
  exact h2.symm.trans h3
def bitI (op : BinOp) (k : IntKind) (a b : Int) : Int :=
  match op with
  | .and => k.wrap ((BitVec.ofInt k.bits a &&& BitVec.ofInt k.bits b).toNat : Int)
  | .or => k.wrap ((BitVec.ofInt k.bits a ||| BitVec.ofInt k.bits b).toNat : Int)
  | .xor => k.wrap ((BitVec.ofInt k.bits a ^^^ BitVec.ofInt k.bits b).toNat : Int)
  | _ => k.wrap ((BitVec.ofInt k.bits a &&& ~~~ (BitVec.ofInt k.bits b)).toNat : Int)
def isBit : BinOp → Bool
  | .and => true | .or => true | .xor => true | .andNot => true | _ => false
def shI (op : BinOp) (k : IntKind) (a b : Int) : Int :=
  match op with
  | .shl => k.wrap (a * 2 ^ (min b.toNat k.bits))
  | _ => a.fdiv (2 ^ (min b.toNat k.bits))
def isSh : BinOp → Bool
  | .shl => true | .shr => true | _ => false
def ltB (a b : ByteArray) : Bool := Op.bytesLess a.toList b.toList
def catS (a b : ByteArray) : Option ByteArray := bif decide (((a.size + b.size : Nat) : Int) ≤ IntKind.i64.max) then some (a ++ b) else none
theorem catS_ok {a b r : ByteArray} (h : catS a b = some r) : r = a ++ b ∧ ((a.size + b.size : Nat) : Int) ≤ IntKind.i64.max := by
  unfold catS at h
  by_cases hc : ((a.size + b.size : Nat) : Int) ≤ IntKind.i64.max
  · rw [decide_eq_true hc] at h
    simp only [cond_true, Option.some.injEq] at h
    exact ⟨h.symm, hc⟩
  · rw [decide_eq_false hc] at h; cases h
theorem i64max : IntKind.i64.max = 9223372036854775807 := by decide
theorem catS_of {a b : ByteArray} (h : a.size + b.size ≤ 9223372036854775807) : catS a b = some (a ++ b) := by
  unfold catS
  rw [decide_eq_true (by rw [i64max]; omega)]; rfl
section
variable {P : Program} {C : Ctx} {N : Nat} {ops rest : List Oper} {o : Oper} {t : List (Nat × D)} {h : List (Nat × Blk)} {k : List (Nat × Value)} {Q : Exit → S → Prop} {tab : List (Option TI)}
theorem x_bit {op : BinOp} {xt yt : TypeId} {x y : Operand} {kk : IntKind} {a b : Int} (ho : o.op = .binOp op xt x y yt) (hop : isBit op = true) (hx : opD t x = some (.v (.int kk a))) (hy : opD t y = some (.v (.int kk b))) : Ex P o t (.v (.int kk (bitI op kk a b))) := fun H ac w kt => by
  refine ⟨.int kk (bitI op kk a b), ?_, rep_v rfl⟩
  unfold execOp
  rw [ho]
  refine exec_v ?_
  rw [rep_v_inv (opD_ok kt hx), rep_v_inv (opD_ok kt hy)]
  cases op <;> simp [isBit] at hop <;> simp [eqGuard, binOp, Op.intBits, bitI] <;> rfl
theorem p_bit {i : Nat} {op : BinOp} {xt yt : TypeId} {x y : Operand} {kk : IntKind} {a b : Int} (ho : o.op = .binOp op xt x y yt) (hop : isBit op = true) (hw : wantD ops t o = some true) (hd : o.dst = some i) (hi : Nat.blt i N = true) (hx : opD t x = some (.v (.int kk a))) (hy : opD t y = some (.v (.int kk b)))
    (g : opsD P C N ops rest ⟨(i, .v (.int kk (bitI op kk a b))) :: t, h, k⟩ Q) : opsD P C N ops (o :: rest) ⟨t, h, k⟩ Q := ops_run (s := ⟨t, h, k⟩) hw hd hi (x_bit ho hop hx hy) g
theorem x_sh {op : BinOp} {xt yt : TypeId} {x y : Operand} {kk jk : IntKind} {a b : Int} (ho : o.op = .binOp op xt x y yt) (hop : isSh op = true) (hx : opD t x = some (.v (.int kk a))) (hy : opD t y = some (.v (.int jk b))) (hb : 0 ≤ b) : Ex P o t (.v (.int kk (shI op kk a b))) := fun H ac w kt => by
  refine ⟨.int kk (shI op kk a b), ?_, rep_v rfl⟩
  unfold execOp
  rw [ho]
  refine exec_v ?_
  rw [rep_v_inv (opD_ok kt hx), rep_v_inv (opD_ok kt hy)]
  have hn : ¬ b < 0 := by omega
  cases op <;> simp [isSh] at hop <;> simp [eqGuard, binOp, Op.shift, shI, hn] <;> rfl
theorem p_sh {i : Nat} {op : BinOp} {xt yt : TypeId} {x y : Operand} {kk jk : IntKind} {a b : Int} (ho : o.op = .binOp op xt x y yt) (hop : isSh op = true) (hw : wantD ops t o = some true) (hd : o.dst = some i) (hi : Nat.blt i N = true) (hx : opD t x = some (.v (.int kk a))) (hy : opD t y = some (.v (.int jk b))) (hb : 0 ≤ b)
    (g : opsD P C N ops rest ⟨(i, .v (.int kk (shI op kk a b))) :: t, h, k⟩ Q) : opsD P C N ops (o :: rest) ⟨t, h, k⟩ Q := ops_run (s := ⟨t, h, k⟩) hw hd hi (x_sh ho hop hx hy hb) g
theorem x_cat {xt yt : TypeId} {x y : Operand} {a b r : ByteArray} (q : catS a b = some r) (ho : o.op = .binOp .add xt x y yt) (hx : opD t x = some (.v (.string a))) (hy : opD t y = some (.v (.string b))) : Ex P o t (.v (.string r)) := fun H ac w kt => by
  obtain ⟨rfl, hl⟩ := catS_ok q
  refine ⟨.string (a ++ b), ?_, rep_v rfl⟩
  unfold execOp
  rw [ho]
  refine exec_v ?_
  rw [rep_v_inv (opD_ok kt hx), rep_v_inv (opD_ok kt hy)]
  have hn : ¬ IntKind.i64.max < ((a.size + b.size : Nat) : Int) := by omega
  have h2 : binOp .add xt (.string a) (.string b) = pure (.string (a ++ b)) := by
    unfold binOp Op.stringOp
    simp only [gt_iff_lt]
    rw [if_neg hn]
  have h1 : (eqGuard .add xt x y (.string a) (.string b)).run P w = .ok () w := by simp [eqGuard] <;> rfl
  rw [run_bind_ok h1, h2]; rfl
theorem p_cat {i : Nat} {xt yt : TypeId} {x y : Operand} {a b r : ByteArray} (q : catS a b = some r) (ho : o.op = .binOp .add xt x y yt) (hw : wantD ops t o = some true) (hd : o.dst = some i) (hi : Nat.blt i N = true) (hx : opD t x = some (.v (.string a))) (hy : opD t y = some (.v (.string b)))
    (g : opsD P C N ops rest ⟨(i, .v (.string r)) :: t, h, k⟩ Q) : opsD P C N ops (o :: rest) ⟨t, h, k⟩ Q := ops_run (s := ⟨t, h, k⟩) hw hd hi (x_cat q ho hx hy) g
def strLV (op : BinOp) (a b : ByteArray) : Option Bool :=
  match op with
  | .lss => some (ltB a b)
  | .geq => some (!ltB a b)
  | .leq => some (ltB a b || a.toList == b.toList)
  | .gtr => some (!(ltB a b || a.toList == b.toList))
  | _ => none
theorem x_ltS {op : BinOp} {xt yt : TypeId} {x y : Operand} {a b : ByteArray} {r : Bool} (ho : o.op = .binOp op xt x y yt) (hx : opD t x = some (.v (.string a))) (hy : opD t y = some (.v (.string b))) (e : strLV op a b = some r) : Ex P o t (.v (.bool r)) := fun H ac w kt => by
  refine ⟨.bool r, ?_, rep_v rfl⟩
  unfold execOp
  rw [ho]
  refine exec_v ?_
  rw [rep_v_inv (opD_ok kt hx), rep_v_inv (opD_ok kt hy)]
  cases op <;> simp only [strLV, Option.some.injEq, reduceCtorEq] at e <;> subst e <;> simp [eqGuard, binOp, Op.stringOp, ltB] <;> rfl
theorem p_ltS {i : Nat} {op : BinOp} {xt yt : TypeId} {x y : Operand} {a b : ByteArray} {r : Bool} (ho : o.op = .binOp op xt x y yt) (hw : wantD ops t o = some true) (hd : o.dst = some i) (hi : Nat.blt i N = true) (hx : opD t x = some (.v (.string a))) (hy : opD t y = some (.v (.string b))) (e : strLV op a b = some r)
    (g : opsD P C N ops rest ⟨(i, .v (.bool r)) :: t, h, k⟩ Q) : opsD P C N ops (o :: rest) ⟨t, h, k⟩ Q := ops_run (s := ⟨t, h, k⟩) hw hd hi (x_ltS ho hx hy e) g
theorem x_max {T T' : TypeId} {x y : Operand} {kk : IntKind} {a b : Int} (ho : o.op = .call ⟨.builtin .max, [x, y].toArray, #[T, T']⟩) (hx : opD t x = some (.v (.int kk a))) (hy : opD t y = some (.v (.int kk b))) : Ex P o t (.v (.int kk (max a b))) := fun H ac w kt => by
  refine ⟨.int kk (max a b), exec_builtin (s := Builtin.max_) ho (fun _ _ => rfl) ?_, rep_v rfl⟩
  simp only [List.map_cons, List.map_nil, rep_v_inv (opD_ok kt hx), rep_v_inv (opD_ok kt hy)]
  show (pure (.int kk (if b > a then b else a)) : Sem Value).run P w = _
  have : max a b = if b > a then b else a := by split <;> omega
  rw [this]; rfl
theorem p_max {i : Nat} {T T' : TypeId} {x y : Operand} {kk : IntKind} {a b : Int} (ho : o.op = .call ⟨.builtin .max, [x, y].toArray, #[T, T']⟩) (hw : wantD ops t o = some true) (hd : o.dst = some i) (hi : Nat.blt i N = true) (hx : opD t x = some (.v (.int kk a))) (hy : opD t y = some (.v (.int kk b)))
    (g : opsD P C N ops rest ⟨(i, .v (.int kk (max a b))) :: t, h, k⟩ Q) : opsD P C N ops (o :: rest) ⟨t, h, k⟩ Q := ops_run (s := ⟨t, h, k⟩) hw hd hi (x_max ho hx hy) g
theorem x_max3 {T T' T'' : TypeId} {x y z : Operand} {kk : IntKind} {a b c : Int} (ho : o.op = .call ⟨.builtin .max, [x, y, z].toArray, #[T, T', T'']⟩) (hx : opD t x = some (.v (.int kk a))) (hy : opD t y = some (.v (.int kk b))) (hz : opD t z = some (.v (.int kk c))) : Ex P o t (.v (.int kk (max (max a b) c))) := fun H ac w kt => by
  refine ⟨.int kk (max (max a b) c), exec_builtin (s := Builtin.max_) ho (fun _ _ => rfl) ?_, rep_v rfl⟩
  simp only [List.map_cons, List.map_nil, rep_v_inv (opD_ok kt hx), rep_v_inv (opD_ok kt hy), rep_v_inv (opD_ok kt hz)]
  have e1 : (if b > a then b else a) = max a b := by split <;> omega
  have e2 : (if c > max a b then c else max a b) = max (max a b) c := by split <;> omega
  have h1 : (Builtin.max2 (.int kk a) (.int kk b)).run P w = .ok (.int kk (max a b)) w := by show (pure (.int kk (if b > a then b else a)) : Sem Value).run P w = _; rw [e1]; rfl
  have h2 : (Builtin.max2 (.int kk (max a b)) (.int kk c)).run P w = .ok (.int kk (max (max a b) c)) w := by show (pure (.int kk (if c > max a b then c else max a b)) : Sem Value).run P w = _; rw [e2]; rfl
  show (List.foldlM Builtin.max2 (.int kk a) [.int kk b, .int kk c] : Sem Value).run P w = _
  simp only [List.foldlM_cons, List.foldlM_nil]
  rw [run_bind_ok h1, run_bind_ok h2]; rfl
theorem p_max3 {i : Nat} {T T' T'' : TypeId} {x y z : Operand} {kk : IntKind} {a b c : Int} (ho : o.op = .call ⟨.builtin .max, [x, y, z].toArray, #[T, T', T'']⟩) (hw : wantD ops t o = some true) (hd : o.dst = some i) (hi : Nat.blt i N = true) (hx : opD t x = some (.v (.int kk a))) (hy : opD t y = some (.v (.int kk b))) (hz : opD t z = some (.v (.int kk c)))
    (g : opsD P C N ops rest ⟨(i, .v (.int kk (max (max a b) c))) :: t, h, k⟩ Q) : opsD P C N ops (o :: rest) ⟨t, h, k⟩ Q := ops_run (s := ⟨t, h, k⟩) hw hd hi (x_max3 ho hx hy hz) g
theorem x_min {T T' : TypeId} {x y : Operand} {kk : IntKind} {a b : Int} (ho : o.op = .call ⟨.builtin .min, [x, y].toArray, #[T, T']⟩) (hx : opD t x = some (.v (.int kk a))) (hy : opD t y = some (.v (.int kk b))) : Ex P o t (.v (.int kk (min a b))) := fun H ac w kt => by
  refine ⟨.int kk (min a b), exec_builtin (s := Builtin.min_) ho (fun _ _ => rfl) ?_, rep_v rfl⟩
  simp only [List.map_cons, List.map_nil, rep_v_inv (opD_ok kt hx), rep_v_inv (opD_ok kt hy)]
  show (pure (.int kk (if b < a then b else a)) : Sem Value).run P w = _
  have : min a b = if b < a then b else a := by split <;> omega
  rw [this]; rfl
theorem p_min {i : Nat} {T T' : TypeId} {x y : Operand} {kk : IntKind} {a b : Int} (ho : o.op = .call ⟨.builtin .min, [x, y].toArray, #[T, T']⟩) (hw : wantD ops t o = some true) (hd : o.dst = some i) (hi : Nat.blt i N = true) (hx : opD t x = some (.v (.int kk a))) (hy : opD t y = some (.v (.int kk b)))
    (g : opsD P C N ops rest ⟨(i, .v (.int kk (min a b))) :: t, h, k⟩ Q) : opsD P C N ops (o :: rest) ⟨t, h, k⟩ Q := ops_run (s := ⟨t, h, k⟩) hw hd hi (x_min ho hx hy) g
/-- Is a slice nil? Not if it has elements. -/
theorem p_isnil {i kk : Nat} {xt yt e : Nat} {x : Operand} {xs : List D} {c : Cap} {i0 : TI} (hT : TabOK P tab) (ho : o.op = .binOp .eql xt x (.const (.slice none 0 0)) yt) (hw : wantD ops t o = some true) (hd : o.dst = some i) (hi : Nat.blt i N = true) (hx : opD t x = some (.lst kk xs c)) (hi0 : ti tab xt = some i0) (hd0 : i0.d = .slice e)
    (g : ∀ b, (b = true → xs = []) → opsD P C N ops rest ⟨(i, .v (.bool b)) :: t, h, k⟩ Q) : opsD P C N ops (o :: rest) ⟨t, h, k⟩ Q := by
  refine ops_val (s := ⟨t, h, k⟩) hw hd hi fun H a w cc kt => ?_
  obtain ⟨d0, u0, u1⟩ := run_underlying (w := w) (ti_ok hT hi0)
  have e0 := td_slice (u1.trans hd0); subst e0
  have hr := opD_ok kt hx
  obtain ⟨_, hr2⟩ := rep_lst_inv hr
  have key : ∀ (ad : Option Addr) (n m : Nat), a.eval x = .slice ad n m → (execOp a.eval o).run P w = .ok (.value (.bool ad.isNone)) w := by
    intro ad n m hv
    unfold execOp
    rw [ho]
    refine exec_v ?_
    rw [hv]
    have h1 : (eqGuard .eql xt x (.const (.slice none 0 0)) (.slice ad n m) (a.eval (.const (.slice none 0 0)))).run P w = .ok () w := by simp [eqGuard, Act.eval] <;> rfl
    rw [run_bind_ok h1]
    show (do pure (.bool (← Op.equal xt (.slice ad n m) (.slice none 0 0))) : Sem Value).run P w = _
    have h2 : (Op.equal xt (.slice ad n m) (.slice none 0 0)).run P w = .ok ad.isNone w := by
      show (Op.equalIn (9999 + 1) xt _ _).run P w = _
      rw [Op.equalIn, run_bind_ok u0]
      cases ad <;> rfl
    rw [run_bind_ok h2]; rfl
  rcases hr2 with ⟨rfl, ad, m, hv, _⟩ | ⟨b, off, m, hv, _, hE⟩
  · exact ⟨.bool ad.isNone, w, H, .v (.bool ad.isNone), h, k, key _ _ _ hv, Hp.le_refl H, cc, rep_v rfl, g _ fun _ => rfl⟩
  · exact ⟨.bool false, w, H, .v (.bool false), h, k, key _ _ _ hv, Hp.le_refl H, cc, rep_v rfl, g _ fun q => by cases q⟩
/-! ### Calls of function values -/
theorem repsV_append {H : Hp} : ∀ {l m : List D} {us vs : List Value}, RepsV H l us → RepsV H m vs → RepsV H (l ++ m) (us ++ vs)
  | [], m, us, vs, h, k => by simp only [RepsV] at h; subst h; simpa using k
  | d :: l, m, us, vs, h, k => by
    simp only [RepsV] at h
    obtain ⟨u, us', rfl, h1, h2⟩ := h
    simp only [List.cons_append, RepsV]
    exact ⟨u, _, rfl, h1, repsV_append h2 k⟩
theorem rep_fn_inv {H : Hp} {f : Fn} {as cs : List D} {y : Value} (h : Rep H (.fn f as cs) y) : ∃ vs ws, y = .func f vs.toArray ws.toArray ∧ RepsV H as vs ∧ RepsV H cs ws := by
  obtain ⟨h1, h2⟩ := h
  cases y <;> simp [D.shape] at h2 <;> simp [RepC, Value.cells] at h1 <;> simp [h1]
theorem callV_run {f : FuncId} {args : List Operand} {ts : Array TypeId} {x : Operand} {a : Act} {w : World} {vs ws : List Value} (ho : o.op = .call ⟨.value x, args.toArray, ts⟩) (hx : a.eval x = .func (.func f) vs.toArray ws.toArray) (h : Goes P f) : (execOp a.eval o).run P w = .ok (.enter f (vs ++ args.map a.eval ++ ws).toArray) w := by
  unfold execOp
  rw [ho]
  simp only []
  have : (resolve a.eval ⟨.value x, args.toArray, ts⟩ o.type).run P w = .ok ⟨.fn (.func f) ws.toArray, vs.toArray ++ (args.map a.eval).toArray⟩ w := by
    simp [resolve, Deferred.ofValue, hx]
    first | done | rfl
  rw [run_bind_ok this]
  show (callFunc f (vs.toArray ++ (args.map a.eval).toArray ++ ws.toArray)).run P w = _
  rw [callFunc_run h]
  simp
theorem p_callV {f : FuncId} {x : Operand} {args : List Operand} {ts : Array TypeId} {i : Nat} {as cs ds da ds' : List D} {h1 h2 : List (Nat × Blk)} {k1 k2 : List (Nat × Value)} {R : D → List (Nat × Blk) → List (Nat × Value) → Prop}
    (hc : CallsD P f ds' h1 k1 R) (hx : opD t x = some (.fn (.func f) as cs)) (ho : o.op = .call ⟨.value x, args.toArray, ts⟩) (hw : wantD ops t o = some true) (hd : o.dst = some i) (hi : Nat.blt i N = true) (ha : someMap args (opD t) = some ds) (hda : as ++ ds ++ cs = da) (hwk : WkL da ds')
    (hh : h.Perm (h1 ++ h2)) (hk : k.Perm (k1 ++ k2)) (g : ∀ d h' k', R d h' k' → opsD P C N ops rest ⟨(i, d) :: t, h' ++ h2, k' ++ k2⟩ Q) : opsD P C N ops (o :: rest) ⟨t, h, k⟩ Q := by
  subst hda
  rintro a w ⟨H, c, kt, hN, hdf⟩
  obtain ⟨vs, ws, ex, r1, r2⟩ := rep_fn_inv (opD_ok kt hx)
  unfold wpList
  rw [wantD_ok kt hw, if_pos rfl]
  refine .inl ?_
  unfold Oper.wp
  rw [callV_run ho ex hc.1, Oper.upon_enter]
  have c0 := c.perm hh hk
  have nd := (claims_append h1 h2 k1 k2).nodup_iff.1 c0.nd
  rw [List.nodup_append] at nd
  have hv := hwk H _ (repsV_append (repsV_append r1 (someMap_ok kt ha)) r2)
  have := hc.2 H w _ hv c.ag (fun p hp => c0.blks p (List.mem_append_left _ hp)) (fun p hp => c0.toks p (List.mem_append_left _ hp)) nd.1
  refine this.mono ?_
  rintro e w' ⟨v, H', d, h', k', rfl, hr, hcore, hR⟩
  simp only []
  rw [hd]
  refine g d h' k' hR _ _ ⟨H', Core.call c0 hcore, TOK.put (kt.mono hcore.le) (by rw [hN]; simpa using hi) hr, ?_, hdf⟩
  simp only [Act.put, Array.size_setIfInBounds]; exact hN
theorem p_callV0 {f : FuncId} {x : Operand} {args : List Operand} {ts : Array TypeId} {i : Nat} {as cs ds da ds' : List D} {R : D → Prop}
    (hc : CallsD P f ds' [] [] (fun d h k => R d ∧ h = [] ∧ k = [])) (hx : opD t x = some (.fn (.func f) as cs)) (ho : o.op = .call ⟨.value x, args.toArray, ts⟩) (hw : wantD ops t o = some true) (hd : o.dst = some i) (hi : Nat.blt i N = true) (ha : someMap args (opD t) = some ds) (hda : as ++ ds ++ cs = da) (hwk : WkL da ds')
    (g : ∀ d, R d → opsD P C N ops rest ⟨(i, d) :: t, h, k⟩ Q) : opsD P C N ops (o :: rest) ⟨t, h, k⟩ Q :=
  p_callV (h1 := []) (k1 := []) (h2 := h) (k2 := k) hc hx ho hw hd hi ha hda hwk (List.Perm.refl _) (List.Perm.refl _) fun d h' k' ⟨r, e1, e2⟩ => by subst e1; subst e2; exact g d r
theorem p_callVB {f : FuncId} {z : Operand} {args : List Operand} {ts : Array TypeId} {i : Nat} {as cs ds da ds' : List D} {x : Nat × Blk} {k1 k2 : List (Nat × Value)} {R : D → List (Nat × Blk) → List (Nat × Value) → Prop} {R' : D → Nat × Blk → List (Nat × Value) → Prop} (j : Nat)
    (hc : CallsD P f ds' [x] k1 R) (hR : ∀ d h k, R d h k → ∃ x', h = [x'] ∧ R' d x' k) (hz : opD t z = some (.fn (.func f) as cs)) (ho : o.op = .call ⟨.value z, args.toArray, ts⟩) (hw : wantD ops t o = some true) (hd : o.dst = some i) (hi : Nat.blt i N = true) (ha : someMap args (opD t) = some ds) (hda : as ++ ds ++ cs = da) (hwk : WkL da ds')
    (hh : h[j]? = some x) (hk : k.Perm (k1 ++ k2)) (g : ∀ d x' k', R' d x' k' → opsD P C N ops rest ⟨(i, d) :: t, h.set j x', k' ++ k2⟩ Q) : opsD P C N ops (o :: rest) ⟨t, h, k⟩ Q := by
  refine p_callV hc hz ho hw hd hi ha hda hwk (perm_at hh) hk fun d h' k' r => ?_
  obtain ⟨x', rfl, r'⟩ := hR d h' k' r
  exact opsD_perm (perm_set hh) (List.Perm.refl _) (g d x' k' r')
/-- A text's bytes, in new memory. -/
theorem els_ofBytes {H : Hp} {b : Nat} : ∀ (bs : List UInt8) (off : Nat), Told H b off (bs.map fun c => Value.int .u8 c.toNat) → Els H 1 b off (bs.map byteD)
  | [], off, _ => by simp [Els]
  | c :: bs, off, h => by
    simp only [List.map_cons, Els, byteD]
    refine ⟨⟨[.int .u8 c.toNat], rfl, by simp [RepC], fun j u e => ?_, by simp [one]⟩, els_ofBytes bs (off + 1) fun j u e => ?_⟩
    · cases j with
      | zero => simp at e; subst e; exact h 0 _ (by simp)
      | succ j => simp at e
    · have := h (j + 1) u (by simpa using e)
      rwa [show off + (j + 1) = off + 1 + j by omega] at this
end
end Go.Proofs.Ytpeimfcmhedjmaa.Ab
/- Texts as bytes: new memory that is marked. Over any program. -/
namespace Go.Proofs.Ytpeimfcmhedjmaa.Ab
open Go
set_option linter.all false
theorem heap_freeze {w : World} {a : Addr} {n k : Nat} : (w.freeze a n).heap[k]? = w.heap[k]? ∨ (a.block = k ∧ ∃ c e f g, w.heap[k]? = some (.cells c e f) ∧ (w.freeze a n).heap[k]? = some (.cells c e g)) := by
  unfold World.freeze
  split
  · exact .inl rfl
  · by_cases hk : a.block = k
    · subst hk
      simp only [Array.getElem?_modify, if_true]
      cases h : w.heap[a.block]? with
      | none => exact .inl rfl
      | some o =>
        cases o <;> first | exact .inl rfl | (rename_i c e f; exact .inr ⟨trivial, c, e, f, _, rfl, rfl⟩)
    · left
      simp [Array.getElem?_modify, hk]
theorem cell_freeze {w : World} {a x : Addr} {n : Nat} : (w.freeze a n).cell? x = w.cell? x := by
  unfold World.cell?
  rcases heap_freeze (w := w) (a := a) (n := n) (k := x.block) with h | ⟨_, c, e, f, g, h1, h2⟩
  · rw [h]
  · rw [h1, h2]
theorem freeze_env (w : World) (a : Addr) (n : Nat) : Env w (w.freeze a n) ∧ (w.freeze a n).heap.size = w.heap.size := by
  unfold World.freeze
  split
  · exact ⟨Env.refl w, rfl⟩
  · exact ⟨⟨rfl, rfl, rfl⟩, by simp⟩
theorem Core.freezeNew {H H' : Hp} {w w' : World} {b off n : Nat} (c : Core ⟨H, w, []⟩ H' [] [] w') (hb : w.heap.size ≤ b) : Core ⟨H, w, []⟩ H' [] [] (w'.freeze ⟨b, off, none⟩ n) := by
  obtain ⟨he, hs⟩ := freeze_env w' ⟨b, off, none⟩ n
  refine ⟨fun a v e => by rw [cell_freeze]; exact c.ag a v e, c.le, c.new, fun k hk hm => ?_, by rw [hs]; exact c.size, by simp, by simp, by simp [claims], by simp [claims], c.env.trans he⟩
  have hk' : k < w.heap.size := hk
  rcases heap_freeze (w := w') (a := ⟨b, off, none⟩) (n := n) (k := k) with h | ⟨h1, _⟩
  · rw [h]; exact c.same k hk hm
  · simp only at h1; omega
theorem run_mark {P : Program} {w : World} {b off : Nat} : ∃ w', (markStringish ⟨b, off, none⟩).run P w = .ok () w' ∧ (w' = w ∨ ∃ o n, w' = w.freeze ⟨b, o, none⟩ n) := by
  unfold markStringish
  have h : (shape b).run P w = .ok (w.shape? b) w := rfl
  rw [run_bind_ok h]
  cases w.shape? b with
  | none => exact ⟨w, rfl, .inl rfl⟩
  | some p => exact ⟨w.freeze ⟨b, p.2, none⟩ 1, rfl, .inr ⟨p.2, 1, rfl⟩⟩
section
variable {P : Program} {C : Ctx} {N : Nat} {ops rest : List Oper} {o : Oper} {t : List (Nat × D)} {h : List (Nat × Blk)} {k : List (Nat × Value)} {Q : Exit → S → Prop} {tab : List (Option TI)}
/-- A text's bytes, in new memory. -/
theorem x_ofStr {T T' e : TypeId} {x : Operand} {s : ByteArray} {i0 i1 ie : TI} (hT : TabOK P tab) (ho : o.op = .convert T T' x) (hx : opD t x = some (.v (.string s))) (hi0 : ti tab T = some i0) (hd0 : i0.d = .str) (hi1 : ti tab T' = some i1) (hd1 : i1.d = .slice e) (hie : ti tab e = some ie) (hde : ie.d = .int .u8) : ExE P o t (.lst 1 (s.data.toList.map byteD) .no) := fun H a w hA kt => by
  have core : Core ⟨H, w, []⟩ H [] [] w := Core.here hA
  obtain ⟨d0, u0, u1⟩ := run_underlying (w := w) (ti_ok hT hi0)
  have e0 := td_str (u1.trans hd0); subst e0
  obtain ⟨d1, u2, u3⟩ := run_underlying (w := w) (ti_ok hT hi1)
  have e1 := td_slice (u3.trans hd1); subst e1
  obtain ⟨d2, u4, u5⟩ := run_underlying (w := w) (ti_ok hT hie)
  have e2 := td_int (u5.trans hde); subst e2
  have hx := rep_v_inv (opD_ok kt hx)
  have hrun : ∀ (v : Value) (w' : World), (Conv.stringToBytes e s).run P w = .ok v w' → (execOp a.eval o).run P w = .ok (.value v) w' := by
    intro v w' hv
    unfold execOp
    rw [ho]
    refine exec_v ?_
    rw [hx]
    unfold convert
    rw [run_bind_ok u0, run_bind_ok u2]
    simp only []
    rw [run_bind_ok u4]
    exact hv
  have hch : ∃ n, s.size ≤ n ∧ (choose (.appendCap s.size 0 e)).run P w = .ok n (wDrew w) := by
    have hforced : (Question.appendCap s.size 0 e).forced = false := rfl
    refine ⟨_, ?_, by simp only [choose, Sem.run, hforced]; rfl⟩
    simp only [Question.cut]; omega
  obtain ⟨n, hn, hc1⟩ := hch
  have core1 : Core ⟨H, w, []⟩ H [] [] (wDrew w) := core.drew
  let us : List Value := s.data.toList.map fun b => Value.int .u8 b.toNat
  let vs : List Value := us ++ (List.replicate (n - s.size) (Value.int .u8 0))
  obtain ⟨hle, core2, told⟩ := core1.allocTold (us := us) (vs := vs) e (fun j u q => by
    have hl := (List.getElem?_eq_some_iff.1 q).1
    rw [List.getElem?_append_left hl]; exact q)
  have hnew : (wDrew w).heap.size = w.heap.size := rfl
  obtain ⟨w3, hm, hw3⟩ := run_mark (P := P) (w := (wDrew w).alloc (.cells vs.toArray e)) (b := w.heap.size) (off := 0)
  have core3 : Core ⟨H, w, []⟩ (tell H (wDrew w).heap.size us) [] [] w3 := by
    rcases hw3 with rfl | ⟨q, m, rfl⟩
    · exact core2
    · exact core2.freezeNew (Nat.le_refl _)
  have hel := els_ofBytes (H := tell H (wDrew w).heap.size us) (b := w.heap.size) s.data.toList 0 told
  refine ⟨.slice (some ⟨w.heap.size, 0, none⟩) s.size n, w3, _, hrun _ _ ?_, core3, ?_⟩
  · unfold Conv.stringToBytes
    rw [run_bind_ok hc1]
    have hvs : (s.data.map fun b => Value.int .u8 b.toNat) ++ Array.replicate (n - s.size) (Value.int .u8 0) = vs.toArray := by
      apply Array.toList_inj.1
      simp [vs, us]
    simp only [hvs]
    have hr : (newRow e vs.toArray).run P (wDrew w) = .ok (⟨w.heap.size, 0, none⟩ : Addr) ((wDrew w).alloc (.cells vs.toArray e)) := rfl
    rw [run_bind_ok hr, run_bind_ok hm]; rfl
  · refine rep_cell ?_ rfl rfl
    simp only [RepC, CapOK]
    have hsz : s.data.toList.length = s.size := Array.length_toList
    by_cases h0 : s.size = 0
    · refine ⟨_, rfl, trivial, .inl ⟨?_, some ⟨w.heap.size, 0, none⟩, n, by rw [h0], fun q => by cases q⟩⟩
      have : s.data.toList.length = 0 := hsz.trans h0
      rw [List.length_eq_zero_iff] at this
      rw [this]; rfl
    · exact ⟨_, rfl, trivial, .inr ⟨w.heap.size, 0, n, by rw [List.length_map, hsz], by rw [List.length_map, hsz]; exact hn, hel⟩⟩
/-- A literal of bytes, marked as a text's. -/
theorem p_litB {i1 i2 n kk : Nat} {o2 : Oper} {T e : TypeId} {ps : Array (Nat × Operand)} {i0 ie : TI} {r : List D} (hT : TabOK P tab) (ho : o.op = .buildSlice T n ps) (hw : wantD ops t o = some true) (hd : o.dst = some i1) (hi : Nat.blt i1 N = true)
    (ho2 : o2.op = .convert T T (.tmp i1)) (hw2 : wantD ops ((i1, .lst kk (chunkD ie.agg kk n r) .no) :: t) o2 = some true) (hd2 : o2.dst = some i2) (hi2 : Nat.blt i2 N = true)
    (hi0 : ti tab T = some i0) (hd0 : i0.d = .slice e) (hie : ti tab e = some ie) (hde : ie.d = .int .u8) (hks : ie.size = kk) (hz : ie.zero.all one = true) (hzl : Nat.beq ie.zero.length kk = true) (hpos : Nat.ble 1 (n * kk) = true) (hmax : Nat.ble (n * kk) 16777216 = true) (hag : (ie.agg || Nat.beq kk 1) = true)
    (er : buildD tab ((List.range n).map fun j => (e, j * kk)) t ps.toList (List.replicate (n * kk) .any) = some r)
    (g : opsD P C N ops rest ⟨(i2, .lst kk (chunkD ie.agg kk n r) .no) :: (i1, .lst kk (chunkD ie.agg kk n r) .no) :: t, h, k⟩ Q) : opsD P C N ops (o :: o2 :: rest) ⟨t, h, k⟩ Q := by
  rintro a w ⟨H, c, kt, hN, hdf⟩
  obtain ⟨w1, H1, hr1, c1, rep1⟩ := x_litS hT ho hi0 hd0 hie hks hz hzl hpos hmax hag er H a w c.ag kt
  have rep1' : Rep H1 (.lst kk (chunkD ie.agg kk n r) .no) (.slice (some ⟨w.heap.size, 0, none⟩) n n) := Wk.no H1 _ rep1
  obtain ⟨w2, hm, hw2'⟩ := run_mark (P := P) (w := w1) (b := w.heap.size) (off := 0)
  have c2 : Core ⟨H, w, []⟩ H1 [] [] w2 := by
    rcases hw2' with rfl | ⟨q, m, rfl⟩
    · exact c1
    · exact c1.freezeNew (Nat.le_refl _)
  have c3 : Core C H1 h k w2 := by
    have := Core.call (h1 := []) (k1 := []) (h2 := h) (k2 := k) (by simpa using c) c2
    simpa using this
  have kt1 : TOK H1 ((i1, .lst kk (chunkD ie.agg kk n r) .no) :: t) (a.put (some i1) (.slice (some ⟨w.heap.size, 0, none⟩) n n)) := TOK.put (kt.mono c1.le) (by rw [hN]; simpa using hi) rep1'
  have hsz1 : (a.put (some i1) (.slice (some ⟨w.heap.size, 0, none⟩) n n)).tmps.size = N := by simp only [Act.put, Array.size_setIfInBounds]; exact hN
  unfold wpList
  rw [wantD_ok kt hw, if_pos rfl]
  refine .inl ?_
  unfold Oper.wp
  rw [hr1, Oper.upon_value, hd]
  unfold wpList
  rw [wantD_ok kt1 hw2, if_pos rfl]
  refine .inl ?_
  unfold Oper.wp
  have hev : (a.put (some i1) (Value.slice (some ⟨w.heap.size, 0, none⟩) n n)).eval (.tmp i1) = .slice (some ⟨w.heap.size, 0, none⟩) n n := by
    simp only [Act.eval, Act.put]
    rw [Array.getD_eq_getD_getElem?, Array.getElem?_setIfInBounds_self_of_lt (by rw [hN]; simpa using hi)]
    rfl
  have hr2 : (execOp (a.put (some i1) (Value.slice (some ⟨w.heap.size, 0, none⟩) n n)).eval o2).run P w1 = .ok (.value (.slice (some ⟨w.heap.size, 0, none⟩) n n)) w2 := by
    unfold execOp
    rw [ho2]
    refine exec_v ?_
    rw [hev]
    obtain ⟨d0, u0, u1⟩ := run_underlying (w := w1) (ti_ok hT hi0)
    have e0 := td_slice (u1.trans hd0); subst e0
    obtain ⟨d1, u2, u3⟩ := run_underlying (w := w1) (ti_ok hT hie)
    have e1 := td_int (u3.trans hde); subst e1
    unfold convert
    rw [run_bind_ok u0, run_bind_ok u0]
    simp only []
    rw [run_bind_ok u2]
    simp only [beq_self_eq_true]
    rw [run_bind_ok hm]; rfl
  rw [hr2, Oper.upon_value, hd2]
  refine g _ _ ⟨H1, c3, TOK.put kt1 (by rw [hsz1]; simpa using hi2) rep1', ?_, hdf⟩
  simp only [Act.put, Array.size_setIfInBounds]; exact hN
theorem p_ofStr {i : Nat} {T T' e : TypeId} {x : Operand} {s : ByteArray} {i0 i1 ie : TI} (hT : TabOK P tab) (ho : o.op = .convert T T' x) (hw : wantD ops t o = some true) (hd : o.dst = some i) (hi : Nat.blt i N = true) (hx : opD t x = some (.v (.string s))) (hi0 : ti tab T = some i0) (hd0 : i0.d = .str) (hi1 : ti tab T' = some i1) (hd1 : i1.d = .slice e) (hie : ti tab e = some ie) (hde : ie.d = .int .u8)
    (g : opsD P C N ops rest ⟨(i, .lst 1 (s.data.toList.map byteD) .no) :: t, h, k⟩ Q) : opsD P C N ops (o :: rest) ⟨t, h, k⟩ Q := p_e (x_ofStr hT ho hx hi0 hd0 hi1 hd1 hie hde) hw hd hi g
end
end Go.Proofs.Ytpeimfcmhedjmaa.Ab
/- Arrays at an index that is reckoned. Over any program. -/
namespace Go.Proofs.Ytpeimfcmhedjmaa.Ab
open Go
set_option linter.all false
def putA (j : Int) (k : Nat) (v g : Int) : Int := bif j == (k : Int) then v else g
def putL (j : Int) (v : Int) : Nat → List Int → List Int
  | _, [] => []
  | k, g :: l => putA j k v g :: putL j v (k + 1) l
def inA (j : Int) (n : Nat) : Bool := decide (0 ≤ j) && decide (j < (n : Int))
theorem inA_both {j : Int} {n : Nat} (h : inA j n = true) : 0 ≤ j ∧ j < (n : Int) := by simpa [inA] using h
theorem inA_lo {j : Int} {n : Nat} {u : Unit} (h : need (inA j n) = some u) : 0 ≤ j := (inA_both (need_ok h)).1
theorem inA_hi {j : Int} {n : Nat} {u : Unit} (h : need (inA j n) = some u) : j < (n : Int) := (inA_both (need_ok h)).2
theorem inA_of {j : Int} {n : Nat} (h : 0 ≤ j) (k : j < (n : Int)) : inA j n = true := by simp [inA, h, k]
theorem idx_lt {α : Type} {xs : List α} {j : Int} {x : α} (h : idx xs j = some x) : j.toNat < xs.length := (List.getElem?_eq_some_iff.1 (idx_ok h).2).1
theorem idx_lt' {α : Type} {xs : List α} {j : Int} {x : α} {n : Nat} (h : idx xs j = some x) (hn : xs.length = n) : j < (n : Int) := by
  have := idx_lt h; have := idx_nonneg h; omega
theorem part_at {α : Type} {i : TI} {e : α → D} {xs : List α} {pre post : List D} {j : Int} {x : α} (hg : i.agg = false) (h : idx xs j = some x) : partD i (pre ++ (xs.map e ++ post)) (pre.length + j.toNat * 1) = some (e x) := by
  unfold partD
  rw [hg, cond_false, Nat.mul_one, List.getElem?_append_right (Nat.le_add_right _ _), Nat.add_sub_cancel_left, List.getElem?_append_left (by simpa using idx_lt h), List.getElem?_map, (idx_ok h).2]
  rfl
theorem part_at0 {α : Type} {i : TI} {e : α → D} {xs : List α} {j : Int} {x : α} (hg : i.agg = false) (h : idx xs j = some x) : partD i (xs.map e) (j.toNat * 1) = some (e x) := by
  unfold partD
  rw [hg, cond_false, Nat.mul_one, List.getElem?_map, (idx_ok h).2]
  rfl
theorem flat_take {α : Type} {c : α → List D} {m : Nat} : ∀ {xs : List α} {j : Nat} {x : α}, (∀ y ∈ xs, (c y).length = m) → xs[j]? = some x → (((xs.map c).flatten).drop (j * m)).take m = c x ∧ j * m + m ≤ ((xs.map c).flatten).length
  | [], j, x, _, h => by simp at h
  | y :: xs, 0, x, hl, h => by
    simp only [List.getElem?_cons_zero, Option.some.injEq] at h
    subst h
    have := hl y (by simp)
    simp only [List.map_cons, List.flatten_cons, Nat.zero_mul, List.drop_zero, List.length_append, Nat.zero_add]
    refine ⟨?_, by omega⟩
    rw [List.take_append_of_le_length (by omega), List.take_of_length_le (by omega)]
  | y :: xs, j + 1, x, hl, h => by
    have ih := flat_take (xs := xs) (j := j) (x := x) (fun z hz => hl z (by simp [hz])) (by simpa using h)
    have hy := hl y (by simp)
    simp only [List.map_cons, List.flatten_cons, List.length_append]
    have e : (j + 1) * m = (c y).length + j * m := by rw [hy, Nat.add_mul]; omega
    refine ⟨?_, by rw [hy]; have := ih.2; rw [Nat.add_mul]; omega⟩
    rw [e, List.drop_append, List.drop_of_length_le (by omega)]
    simpa using ih.1
theorem part_st {α : Type} {i : TI} {c : α → List D} {xs : List α} {m : Nat} {j : Int} {x : α} (hg : i.agg = true) (hm : i.size = m) (hl : ∀ y ∈ xs, (c y).length = m) (h : idx xs j = some x) : partD i ((xs.map c).flatten) (j.toNat * m) = some (.agg (c x)) := by
  obtain ⟨h1, h2⟩ := flat_take hl (idx_ok h).2
  have hb : Nat.ble (j.toNat * m + m) ((xs.map c).flatten).length = true := by rw [Nat.ble_eq]; exact h2
  unfold partD
  rw [hg, cond_true, hm, hb, cond_true, h1]
theorem putL_at {kk : IntKind} {v : Int} : ∀ {xs : List Int} {j k : Nat}, (xs.map (fun x => D.v (.int kk x))).set j (.v (.int kk v)) = (putL ((j + k : Nat) : Int) v k xs).map (fun x => D.v (.int kk x))
  | [], j, k => by simp [putL]
  | g :: l, 0, k => by
    have hn : ∀ (l : List Int) (q : Nat), k < q → putL (k : Int) v q l = l := by
      intro l
      induction l with
      | nil => intro q _; rfl
      | cons a l ih =>
        intro q hq
        unfold putL putA
        rw [ih (q + 1) (by omega), show ((k : Int) == (q : Int)) = false by simp; omega]
        rfl
    simp only [List.map_cons, List.set_cons_zero, putL, Nat.zero_add]
    rw [hn l (k + 1) (by omega)]
    simp [putA]
  | g :: l, j + 1, k => by
    have ih := putL_at (kk := kk) (v := v) (xs := l) (j := j) (k := k + 1)
    simp only [List.map_cons, List.set_cons_succ, putL, ih]
    have hp : putA ((j + 1 + k : Nat) : Int) k v g = g := by
      unfold putA
      rw [show ((((j + 1 + k : Nat) : Int)) == (k : Int)) = false by rw [beq_eq_false_iff_ne]; omega]
      rfl
    rw [hp, show j + (k + 1) = j + 1 + k by omega]
theorem lay_at {kk : IntKind} {xs : List Int} {pre post : List D} {j v : Int} (h0 : 0 ≤ j) (h1 : j < (xs.length : Int)) : lay (pre ++ (xs.map (fun x => D.v (.int kk x)) ++ post)) (pre.length + j.toNat * 1) [.v (.int kk v)] = pre ++ ((putL j v 0 xs).map (fun x => D.v (.int kk x)) ++ post) := by
  obtain ⟨n, rfl⟩ := Int.eq_ofNat_of_zero_le h0
  have hn : n < xs.length := by omega
  have := putL_at (kk := kk) (v := v) (xs := xs) (j := n) (k := 0)
  rw [Nat.add_zero] at this
  rw [← this]
  unfold lay
  simp only [Int.toNat_natCast, Nat.mul_one, List.length_cons, List.length_nil, Nat.zero_add]
  rw [List.take_append, List.take_of_length_le (by omega), show pre.length + n - pre.length = n by omega, List.take_append_of_le_length (by simp; omega), List.drop_append, List.drop_of_length_le (by omega), show pre.length + n + 1 - pre.length = n + 1 by omega, List.drop_append_of_le_length (by simp; omega)]
  simp only [List.nil_append, List.append_assoc, List.cons_append]
  congr 1
  have e := List.set_eq_take_append_cons_drop (l := xs.map (fun x => D.v (.int kk x))) (i := n) (a := .v (.int kk v))
  rw [if_pos (by simpa using hn)] at e
  rw [e]
  simp
theorem ble_at {n m : Nat} {j : Int} {p : Nat} (h0 : 0 ≤ j) (h1 : j < (n : Int)) (h : p + n ≤ m) : Nat.ble (p + j.toNat * 1 + 1) m = true := by rw [Nat.ble_eq]; omega
section
variable {P : Program} {C : Ctx} {N : Nat} {ops rest : List Oper} {o : Oper} {t : List (Nat × D)} {h : List (Nat × Blk)} {k : List (Nat × Value)} {Q : Exit → S → Prop} {tab : List (Option TI)}
theorem x_idxA {n : Nat} {T e : TypeId} {x ix : Operand} {ik : IntKind} {j : Int} {ds : List D} {d : D} {ti0 tie : TI} (hT : TabOK P tab) (ho : o.op = .index T x ix) (hx : opD t x = some (.agg ds)) (hix : opD t ix = some (.v (.int ik j)))
    (hti : ti tab T = some ti0) (hs : ti0.d = .array n e) (hte : ti tab e = some tie) (h0 : 0 ≤ j) (hb : j < n) (hp : partD tie ds (j.toNat * tie.size) = some d) : Ex P o t d := fun H a w kt => by
  obtain ⟨dd, h1, h2⟩ := run_underlying (w := w) (ti_ok hT hti)
  have := td_array (h2.trans hs); subst this
  obtain ⟨us, h3, h4⟩ := rep_agg_inv (opD_ok kt hx)
  obtain ⟨v, h5, h6⟩ := run_part (w := w) (ti_ok hT hte) h4 hp
  refine ⟨v, ?_, h6⟩
  unfold execOp
  rw [ho]
  refine exec_v ?_
  rw [h3, rep_v_inv (opD_ok kt hix)]
  unfold Instr.index
  rw [run_bind_ok (a := (ik, j)) rfl]
  simp only []
  rw [run_bind_ok h1]
  simp only [if_pos (show 0 ≤ j ∧ j < (n : Int) from ⟨h0, hb⟩)]
  rw [run_bind_ok (run_sizeOf (ti_ok hT hte))]
  exact h5
theorem p_idxA {i n : Nat} {T e : TypeId} {x ix : Operand} {ik : IntKind} {j : Int} {ds : List D} {d : D} {ti0 tie : TI} (hT : TabOK P tab) (ho : o.op = .index T x ix) (hw : wantD ops t o = some true) (hd : o.dst = some i) (hi : Nat.blt i N = true) (hx : opD t x = some (.agg ds)) (hix : opD t ix = some (.v (.int ik j)))
    (hti : ti tab T = some ti0) (hs : ti0.d = .array n e) (hte : ti tab e = some tie) (h0 : 0 ≤ j) (hb : j < n) (hp : partD tie ds (j.toNat * tie.size) = some d)
    (g : opsD P C N ops rest ⟨(i, d) :: t, h, k⟩ Q) : opsD P C N ops (o :: rest) ⟨t, h, k⟩ Q := ops_run (s := ⟨t, h, k⟩) hw hd hi (x_idxA hT ho hx hix hti hs hte h0 hb hp) g
end
end Go.Proofs.Ytpeimfcmhedjmaa.Ab
/- Function values that are called within drawn regions. Over any program. -/
namespace Go.Proofs.Ytpeimfcmhedjmaa.Ab
open Go
set_option linter.all false
section
variable {P : Program} {C : Ctx} {N : Nat} {l : List Oper} {m : Nat} {De : Nat → D} {al : AL} {pre : List (List Nat)} {ev : List Nat} {h : List (Nat × Blk)} {k : List (Nat × Value)} {Q : Exit → S → Prop} {bs : Nat → Nat} {i : Nat} {o : Oper} {rest : List Oper} {te : TE}
theorem z_callV {f : FuncId} {z : Operand} {args : List Operand} {ts : Array TypeId} {j : Nat} {p : List Nat} {t : List (Nat × D)} {as cs ds da ds' : List D} {d : D} (hp : pre.getD i [] = p) (ht : vis p te = t) (hc : CallsD P f ds' [] [] (fun d' h k => d' = d ∧ h = [] ∧ k = [])) (hz : opD t z = some (.fn (.func f) as cs)) (ho : o.op = .call ⟨.value z, args.toArray, ts⟩)
    (ha : someMap args (opD t) = some ds) (hda : as ++ ds ++ cs = da) (hwk : WkL da ds') (hw : wantD l (vis [] te) o = some true) (hd : o.dst = some j) (hi : Nat.blt j N = true) (he : ev.contains i = true) (hna : isAl al i = false) (hDe : De i = d)
    (g : Zw P C N l m De al pre ev h k Q bs (i + 1) rest ((j, d, some i) :: te)) : Zw P C N l m De al pre ev h k Q bs i (o :: rest) te :=
  z_event hp hw hd hi he hna hDe (fun hh H a w c kt => by
    subst ht; subst hda
    obtain ⟨vs, ws, ex, r1, r2⟩ := rep_fn_inv (opD_ok kt hz)
    unfold Jx.Gives
    rw [callV_run ho ex hc.1]
    simp only []
    have hv := hwk H _ (repsV_append (repsV_append r1 (someMap_ok kt ha)) r2)
    refine (hc.2 H w _ hv c.ag (by simp) (by simp) (by simp [claims, blkClaim])).mono ?_
    rintro e w' ⟨v, H', d', h', k', rfl, hr, hcore, rfl, rfl, rfl⟩
    exact ⟨v, rfl, H', hcore.le, hcore, hr⟩) g
theorem z_callVB {f : FuncId} {z : Operand} {args : List Operand} {ts : Array TypeId} {j : Nat} {p : List Nat} {t : List (Nat × D)} {as cs ds da ds' : List D} {d : D} {x : Nat × Blk} (b : Nat) (hp : pre.getD i [] = p) (ht : vis p te = t) (hc : CallsD P f ds' [x] [] (fun d' h k => d' = d ∧ h = [x] ∧ k = [])) (hz : opD t z = some (.fn (.func f) as cs)) (ho : o.op = .call ⟨.value z, args.toArray, ts⟩)
    (ha : someMap args (opD t) = some ds) (hda : as ++ ds ++ cs = da) (hwk : WkL da ds') (hb : h[b]? = some x) (hw : wantD l (vis [] te) o = some true) (hd : o.dst = some j) (hi : Nat.blt j N = true) (he : ev.contains i = true) (hna : isAl al i = false) (hDe : De i = d)
    (g : Zw P C N l m De al pre ev h k Q bs (i + 1) rest ((j, d, some i) :: te)) : Zw P C N l m De al pre ev h k Q bs i (o :: rest) te :=
  z_event2 hp hw hd hi he hna hDe (fun hh H a w c kt => by
    subst ht; subst hda
    obtain ⟨vs, ws, ex, r1, r2⟩ := rep_fn_inv (opD_ok kt hz)
    unfold Jx.Gives
    rw [callV_run ho ex hc.1]
    simp only []
    have hv := hwk H _ (repsV_append (repsV_append r1 (someMap_ok kt ha)) r2)
    have hbl : b < h.length := (List.getElem?_eq_some_iff.1 hb).1
    have hb2 : (h ++ hh)[b]? = some x := by rw [List.getElem?_append_left hbl]; exact hb
    have c1 := c.perm (perm_at hb2) (List.Perm.refl k)
    have hblk := c.blks _ (List.mem_of_getElem? hb2)
    have nd := (claims_append [x] ((h ++ hh).eraseIdx b) [] k).nodup_iff.1 (by simpa using c1.nd)
    rw [List.nodup_append] at nd
    refine (hc.2 H w _ hv c.ag (by simpa using hblk) (by simp) nd.1).mono ?_
    rintro e w' ⟨v, H', d', h', k', rfl, hr, hcore, rfl, rfl, rfl⟩
    refine ⟨v, rfl, H', hcore.le, ?_, hr⟩
    have c2 := Core.call (h1 := [x]) (k1 := []) (h2 := (h ++ hh).eraseIdx b) (k2 := k) c1 hcore
    exact c2.perm (perm_at hb2).symm (List.Perm.refl k)) g
end
end Go.Proofs.Ytpeimfcmhedjmaa.Ab
/- Arrays that are built. Over any program. -/
namespace Go.Proofs.Ytpeimfcmhedjmaa.Ab
open Go
set_option linter.all false
section
variable {P : Program} {C : Ctx} {N : Nat} {ops rest : List Oper} {o : Oper} {t : List (Nat × D)} {h : List (Nat × Blk)} {k : List (Nat × Value)} {Q : Exit → S → Prop} {tab : List (Option TI)}
theorem td_array' {d : TypeDesc} {n e : Nat} (h : tdOf d = .array n e) : d = .array n e := td_array h
theorem zeros_reps {H : Hp} : ∀ {l : List Value}, l.all one = true → Reps H (l.map dOf) l
  | [], _ => by simp [Reps]
  | u :: l, hz => by
    simp only [List.all_cons, Bool.and_eq_true] at hz
    simp only [List.map_cons, Reps]
    exact ⟨u, l, rfl, ⟨(dOf_ok H u).1, hz.1, (dOf_ok H u).2⟩, zeros_reps hz.2⟩
theorem x_buildA {T : TypeId} {ps : Array (Nat × Operand)} {ti0 j : TI} {n e : Nat} {r : List D} (hT : TabOK P tab) (ho : o.op = .build T ps) (hti : ti tab T = some ti0) (hfs : ti0.d = .array n e) (hj : ti tab e = some j) (hz : ti0.zero.all one = true) (eb : buildD tab ((List.range n).map fun i => (e, i * j.size)) t ps.toList (ti0.zero.map dOf) = some r) : ∀ H a w, TOK H t a → ∃ v, (execOp a.eval o).run P w = .ok (.value v) w ∧ Rep H (.agg r) v :=
  fun H a w kt => by
  obtain ⟨z, h1, h2⟩ := run_zeroValue (w := w) (ti_ok hT hti)
  obtain ⟨d, h3, h4⟩ := run_underlying (w := w) (ti_ok hT hti)
  obtain rfl := td_array (h4.trans hfs)
  have hr : Reps H (ti0.zero.map dOf) z.cells.toList := by rw [h2]; exact zeros_reps hz
  obtain ⟨vs, h6, h7⟩ := fill_ok (P := P) (place := fun i => some (i * j.size, j.size)) hT kt (fs := (List.range n).map fun i => (e, i * j.size)) (by
    intro f fl j' hf hj'
    rw [List.getElem?_map, Option.map_eq_some_iff] at hf
    obtain ⟨x, h8, h9⟩ := hf
    have := List.getElem?_eq_some_iff.1 h8
    obtain ⟨h10, h11⟩ := this
    simp only [List.getElem_range] at h11
    subst h9; subst h11
    simp only [] at hj'
    rw [hj] at hj'
    cases hj'
    rfl) ps.toList _ _ r hr eb
  refine ⟨.agg vs.toArray, ?_, rep_agg h7⟩
  unfold execOp
  rw [ho]
  refine exec_v ?_
  unfold Instr.build
  rw [run_bind_ok h1]
  simp only []
  rw [run_bind_ok h3]
  simp only []
  rw [run_bind_ok (run_sizeOf (ti_ok hT hj))]
  have e1 : (ps.map fun x => (x.1, a.eval x.2)).toList = ps.toList.map fun p => (p.1, a.eval p.2) := by simp
  rw [e1]
  have e2 : z.cells = z.cells.toList.toArray := by simp
  rw [e2]
  simp only [h6]
  rfl
theorem p_buildA {i : Nat} {T : TypeId} {ps : Array (Nat × Operand)} {ti0 j : TI} {n e : Nat} {r : List D} (hT : TabOK P tab) (ho : o.op = .build T ps) (hw : wantD ops t o = some true) (hd : o.dst = some i) (hi : Nat.blt i N = true)
    (hti : ti tab T = some ti0) (hfs : ti0.d = .array n e) (hj : ti tab e = some j) (hz : ti0.zero.all one = true) (eb : buildD tab ((List.range n).map fun i => (e, i * j.size)) t ps.toList (ti0.zero.map dOf) = some r)
    (g : opsD P C N ops rest ⟨(i, .agg r) :: t, h, k⟩ Q) : opsD P C N ops (o :: rest) ⟨t, h, k⟩ Q := ops_run (s := ⟨t, h, k⟩) hw hd hi (x_buildA hT ho hti hfs hj hz eb) g
end
end Go.Proofs.Ytpeimfcmhedjmaa.Ab
/- Rows: slices whose memory is one's own. Over any program. -/
namespace Go.Proofs.Ytpeimfcmhedjmaa.Ab
open Go
set_option linter.all false
/-- A slice value, told by where it lies, its length, its room. -/
abbrev SL (z : Option Addr × Nat × Nat) : Value := .slice z.1 z.2.1 z.2.2
abbrev Z3 := Option Addr × Nat × Nat
theorem flat_els {H H' : Hp} {k b : Nat} : ∀ {xs : List D} {us : List Value} {off : Nat}, H.le H' → FlatR H k xs us → Told H' b off us → Els H' k b off xs
  | [], us, off, _, _, _ => by simp [Els]
  | x :: xs, us, off, hle, h, ht => by
    obtain ⟨u1, u2, rfl, hl, ⟨h1, h2⟩, h3⟩ := h
    simp only [Els]
    refine ⟨⟨u1, hl, RepC.mono hle x u1 h1, fun j u e => ht j u (by rw [List.getElem?_append_left (List.getElem?_eq_some_iff.1 e).1]; exact e), h2⟩, flat_els hle h3 fun j u e => ?_⟩
    have := ht (k + j) u (by rw [List.getElem?_append_right (by omega)]; rw [hl]; simpa using e)
    rw [show off + k + j = off + (k + j) by omega]; exact this
theorem flat_len {H : Hp} {k : Nat} : ∀ {xs : List D} {us : List Value}, FlatR H k xs us → us.length = xs.length * k
  | [], us, h => by
    have : us = [] := h
    subst this; simp
  | x :: xs, us, h => by
    obtain ⟨u1, u2, rfl, hl, _, h3⟩ := h
    simp [hl, flat_len h3, Nat.add_mul]; omega
theorem flat_one {H : Hp} {k : Nat} : ∀ {xs : List D} {us : List Value}, FlatR H k xs us → ∀ u ∈ us, one u = true
  | [], us, h, u, hu => by
    have : us = [] := h
    subst this; cases hu
  | x :: xs, us, h, u, hu => by
    obtain ⟨u1, u2, rfl, hl, ⟨_, h2⟩, h3⟩ := h
    rcases List.mem_append.1 hu with x | x
    · exact h2 u x
    · exact flat_one h3 u x
theorem flat_append {H : Hp} {k : Nat} : ∀ {xs ys : List D} {us vs : List Value}, FlatR H k xs us → FlatR H k ys vs → FlatR H k (xs ++ ys) (us ++ vs)
  | [], ys, us, vs, h, g => by
    have : us = [] := h
    subst this; simpa using g
  | x :: xs, ys, us, vs, h, g => by
    obtain ⟨u1, u2, rfl, hl, h1, h3⟩ := h
    exact ⟨u1, u2 ++ vs, by simp, hl, h1, flat_append h3 g⟩
/-- What is told is a row's content as well. -/
theorem els_flatR {H : Hp} {k b : Nat} : ∀ {xs : List D} {off : Nat}, Els H k b off xs → ∃ us : List Value, us.length = xs.length * k ∧ Told H b off us ∧ FlatR H k xs us
  | [], off, _ => ⟨[], by simp, fun j u e => by simp at e, rfl⟩
  | x :: xs, off, h => by
    simp only [Els] at h
    obtain ⟨⟨us, h1, h2, h3, h4⟩, h5⟩ := h
    obtain ⟨vs, g1, g2, g3⟩ := els_flatR h5
    refine ⟨us ++ vs, by simp [h1, g1, Nat.add_mul]; omega, fun j u e => ?_, us, vs, rfl, h1, ⟨h2, h4⟩, g3⟩
    rw [List.getElem?_append] at e
    split at e
    · exact h3 j u e
    · have := g2 _ _ e
      rw [show off + k + (j - us.length) = off + j by omega] at this
      exact this
theorem told_sl {H : Hp} {k : Nat} {xs : List D} {y : Value} (h : RepC H (.lst k xs (.cur y)) [y]) : Rep H (.lst k xs (.cur y)) y := by
  have h0 := h
  simp only [RepC] at h
  obtain ⟨z, e, _, h⟩ := h
  simp at e
  subst e
  have h1 : one y = true := by
    rcases h with ⟨_, a, m, rfl, _⟩ | ⟨b, off, m, rfl, _⟩ <;> rfl
  exact rep_cell h0 h1 rfl
section
variable {C : Ctx} {t : List (Nat × D)} {h : List (Nat × Blk)} {k : List (Nat × Value)}
/-- A row is told from now on; its room stays one's own. -/
theorem row_told {H : Hp} {w : World} {r kk : Nat} {xs : List D} {y : Value} (hA : Ag H w) (hb : BlkOK H w (r, .row kk xs y)) :
    ∃ H', H.le H' ∧ Core ⟨H, w, claims [(r, .row kk xs y)] []⟩ H' [(r, .told kk xs y)] [(kk, y)] w := by
  rcases hb with ⟨a, rfl, rfl⟩ | ⟨b, m, us, rest, T, rfl, h0, hm, h1, h2, h3, h4⟩
  · refine ⟨H, Hp.le_refl H, hA, Hp.le_refl H, fun _ _ x => .inl x, fun _ _ _ => rfl, Nat.le_refl _, ?_, ?_, ?_, ?_, Env.refl w⟩
    · intro p hp
      simp only [List.mem_singleton] at hp; subst hp
      show RepC H _ _
      simp only [RepC, CapOK]
      exact ⟨_, rfl, by trivial, .inl ⟨by trivial, a, 0, rfl, fun _ => rfl⟩⟩
    · intro p hp
      simp only [List.mem_singleton] at hp; subst hp
      intro a n m e hlt
      simp only [Value.slice.injEq] at e
      omega
    · cases a <;> simp [claims, blkClaim, tokClaim]
    · cases a <;> simp [claims, blkClaim, tokClaim]
  · have hl := flat_len h2
    let H' : Hp := tell H b us
    have hle : H.le H' := fun a v e => by
      show (if a.block = b ∧ a.spot = none then us[a.off]? else H a) = some v
      rw [if_neg]
      · exact e
      · rintro ⟨q1, q2⟩
        obtain ⟨ab, ao, as⟩ := a
        simp only at q1 q2; subst q1; subst q2
        rw [h4 ao] at e; cases e
    have htold : Told H' b 0 us := fun j u e => by
      show (if b = b ∧ (none : Option Nat) = none then us[0 + j]? else H _) = some u
      rw [if_pos ⟨rfl, rfl⟩, Nat.zero_add]; exact e
    have hcl : claims [(r, Blk.row kk xs (.slice (some ⟨b, 0, none⟩) xs.length m))] [] = [b] := by simp [claims, blkClaim, sliceClaim, hm]
    refine ⟨H', hle, ?_⟩
    rw [hcl]
    refine ⟨fun a v e => ?_, hle, fun a v e => ?_, fun _ _ _ => rfl, Nat.le_refl _, ?_, ?_, ?_, ?_, Env.refl w⟩
    · by_cases q : a.block = b ∧ a.spot = none
      · have : H' a = us[a.off]? := if_pos q
        rw [this] at e
        obtain ⟨ab, ao, as⟩ := a
        simp only at q e
        obtain ⟨rfl, rfl⟩ := q
        simp only [World.cell?, h1, Option.isSome_none, Bool.false_eq_true, if_false, List.getElem?_toArray]
        rw [List.getElem?_append_left (List.getElem?_eq_some_iff.1 e).1]; exact e
      · have : H' a = H a := if_neg q
        rw [this] at e; exact hA a v e
    · by_cases q : a.block = b ∧ a.spot = none
      · exact .inr (.inr (by simp [q.1]))
      · have : H' a = H a := if_neg q
        rw [this] at e; exact .inl e
    · intro p hp
      simp only [List.mem_singleton] at hp; subst hp
      show RepC H' _ _
      simp only [RepC, CapOK]
      exact ⟨_, rfl, by trivial, .inr ⟨b, 0, m, rfl, h0, flat_els hle h2 htold⟩⟩
    · intro p hp
      simp only [List.mem_singleton] at hp; subst hp
      intro a n m' e hlt
      simp only [Value.slice.injEq, Option.some.injEq] at e
      obtain ⟨rfl, rfl, rfl⟩ := e
      refine ⟨_, T, h1, rfl, by simpa using h3, fun o ho => ?_⟩
      show (if b = b ∧ (none : Option Nat) = none then us[o]? else H _) = none
      rw [if_pos ⟨rfl, rfl⟩, List.getElem?_eq_none]
      simp only at ho; omega
    · simp only [claims, blkClaim, tokClaim, List.flatMap_cons, List.flatMap_nil, List.append_nil, List.nil_append]
      split <;> simp
    · intro x hx
      simp only [claims, blkClaim, tokClaim, List.flatMap_cons, List.flatMap_nil, List.append_nil, List.nil_append] at hx
      split at hx
      · exact .inl (by simpa using hx)
      · cases hx
theorem WkS.frz {h' : List (Nat × Blk)} {r kk : Nat} {xs : List D} {y : Value} (j : Nat) (hj : h[j]? = some (r, .row kk xs y)) (e : h.set j (r, .told kk xs y) = h') : WkS C ⟨t, h, k⟩ ⟨t, h', (kk, y) :: k⟩ := fun H a w c kt => by
  subst e
  have hb := c.blks _ (List.mem_of_getElem? hj)
  obtain ⟨H', hle, c'⟩ := row_told c.ag hb
  have c1 : Core C H ([(r, .row kk xs y)] ++ h.eraseIdx j) ([] ++ k) w := c.perm (perm_at hj) (List.Perm.refl _)
  exact ⟨H', hle, (Core.call c1 c').perm (perm_set hj) (List.Perm.refl _), kt.mono hle⟩
/-- A slot that holds what is told now. -/
theorem WkS.tld {r kk : Nat} {xs : List D} {y : Value} (i j : Nat) (hx : look t i = some (.v y)) (hj : h[j]? = some (r, .told kk xs y)) : WkS C ⟨t, h, k⟩ ⟨(i, .lst kk xs (.cur y)) :: t, h, k⟩ := fun H a w c kt => by
  have hb := told_sl (c.blks _ (List.mem_of_getElem? hj))
  obtain ⟨v, h1, h2⟩ := kt i _ hx
  rw [rep_v_inv h2] at h1
  exact ⟨H, Hp.le_refl H, c, look_put kt h1 hb⟩
theorem WkS.tldC {b off r kk : Nat} {ds : List D} {T : TypeId} {xs : List D} {y : Value} {h' : List (Nat × Blk)} (jb j : Nat) (hb : h[jb]? = some (b, .cells ds T)) (hd : ds[off]? = some (.v y)) (hj : h[j]? = some (r, .told kk xs y)) (e : h.set jb (b, .cells (ds.set off (.lst kk xs (.cur y))) T) = h') : WkS C ⟨t, h, k⟩ ⟨t, h', k⟩ := fun H a w c kt => by
  subst e
  have ht : RepC H (.lst kk xs (.cur y)) [y] := c.blks _ (List.mem_of_getElem? hj)
  have hts := told_sl ht
  obtain ⟨us, h1, h2, h3⟩ := c.blks _ (List.mem_of_getElem? hb)
  obtain ⟨u, e1, e2, e3, e4⟩ := reps_get h2 hd
  have hu : u = y := by simp only [RepC] at e2; simpa using e2
  subst hu
  have hcl : claims (h.set jb (b, Blk.cells (ds.set off (.lst kk xs (.cur u))) T)) k = claims h k := claims_set hb rfl
  refine ⟨H, Hp.le_refl H, ⟨c.ag, c.le, c.new, c.same, c.size, ?_, c.toks, by rw [hcl]; exact c.nd, by rw [hcl]; exact c.own, c.env⟩, kt⟩
  intro p hp
  rcases List.mem_or_eq_of_mem_set hp with hp | hp
  · exact c.blks p hp
  · subst hp
    exact ⟨us, h1, reps_set off h2 e1 ⟨ht, rfl⟩, h3⟩
theorem WkS.drop {h' : List (Nat × Blk)} (j : Nat) (e : h.eraseIdx j = h') : WkS C ⟨t, h, k⟩ ⟨t, h', k⟩ := fun H a w c kt => by
  subst e
  exact ⟨H, Hp.le_refl H, c.drop (List.eraseIdx_sublist _ _) (List.Sublist.refl _), kt⟩
/-- A slice without elements and room: a row of none. -/
theorem row_nil {H : Hp} {w : World} {k0 kk : Nat} {v : Value} (c : Core C H h k w) (hr : Rep H (.lst k0 [] .full) v) : ∃ z : Z3, v = SL z ∧ Core C H ((0, .row kk [] (SL z)) :: h) k w := by
  obtain ⟨hc, hx⟩ := rep_lst_inv hr
  have : ∃ a, v = .slice a 0 0 := by
    rcases hx with ⟨_, a, m, rfl, _⟩ | ⟨b, off, m, rfl, hm, _⟩
    · simp only [CapOK] at hc; subst hc; exact ⟨a, rfl⟩
    · simp only [CapOK, List.length_nil] at hc; subst hc; exact ⟨_, rfl⟩
  obtain ⟨a, rfl⟩ := this
  refine ⟨(a, 0, 0), rfl, c.ag, c.le, c.new, c.same, c.size, ?_, c.toks, ?_, ?_, c.env⟩
  · intro p hp
    rcases List.mem_cons.1 hp with rfl | hp
    · exact .inl ⟨a, rfl, rfl⟩
    · exact c.blks p hp
  · have : claims ((0, Blk.row kk [] (SL (a, 0, 0))) :: h) k = claims h k := by cases a <;> simp [claims, blkClaim, sliceClaim]
    rw [this]; exact c.nd
  · have : claims ((0, Blk.row kk [] (SL (a, 0, 0))) :: h) k = claims h k := by cases a <;> simp [claims, blkClaim, sliceClaim]
    rw [this]; exact c.own
theorem WkX.rowN {Y : Type} {S1 : Y → S} {i k0 : Nat} (kk : Nat) (hx : look t i = some (.lst k0 [] .full)) (g : ∀ z : Z3, WkX C ⟨(i, .v (SL z)) :: t, (0, .row kk [] (SL z)) :: h, k⟩ S1) : WkX C ⟨t, h, k⟩ S1 := fun H a w c kt => by
  obtain ⟨v, h1, h2⟩ := kt i _ hx
  obtain ⟨z, rfl, c'⟩ := row_nil (kk := kk) c h2
  exact g z H a w c' (look_put kt h1 (rep_v rfl))
theorem row_nilC {H : Hp} {w : World} {b off k0 : Nat} {ds : List D} {T : TypeId} (kk j : Nat) (hb : h[j]? = some (b, .cells ds T)) (hd : ds[off]? = some (.lst k0 [] .full)) (c : Core C H h k w) : ∃ z : Z3, Core C H ((0, .row kk [] (SL z)) :: h.set j (b, .cells (ds.set off (.v (SL z))) T)) k w := by
  obtain ⟨us, h1, h2, h3⟩ := c.blks _ (List.mem_of_getElem? hb)
  obtain ⟨u, e1, e2, e3, e4⟩ := reps_get h2 hd
  obtain ⟨z, rfl, c'⟩ := row_nil (kk := kk) c (rep_cell e2 e3 e4)
  have hcl : claims ((0, .row kk [] (SL z)) :: h.set j (b, Blk.cells (ds.set off (.v (SL z))) T)) k = claims ((0, .row kk [] (SL z)) :: h) k := by
    have := claims_set (h := h) (k := k) (y := (b, Blk.cells (ds.set off (.v (SL z))) T)) hb rfl
    simp only [claims, List.flatMap_cons] at this ⊢
    rw [List.append_assoc, this, List.append_assoc]
  refine ⟨z, c'.ag, c'.le, c'.new, c'.same, c'.size, ?_, c'.toks, by rw [hcl]; exact c'.nd, by rw [hcl]; exact c'.own, c'.env⟩
  intro p hp
  rcases List.mem_cons.1 hp with rfl | hp
  · exact c'.blks _ (by simp)
  · rcases List.mem_or_eq_of_mem_set hp with hp | hp
    · exact c.blks p hp
    · subst hp
      exact ⟨us, h1, reps_set off h2 e1 ⟨by simp [RepC], rfl⟩, h3⟩
theorem WkX.rowC {Y : Type} {S1 : Y → S} {b off k0 : Nat} {ds : List D} {T : TypeId} (kk j : Nat) (hb : h[j]? = some (b, .cells ds T)) (hd : ds[off]? = some (.lst k0 [] .full)) (g : ∀ z : Z3, WkX C ⟨t, (0, .row kk [] (SL z)) :: h.set j (b, .cells (ds.set off (.v (SL z))) T), k⟩ S1) : WkX C ⟨t, h, k⟩ S1 := fun H a w c kt => by
  obtain ⟨z, c'⟩ := row_nilC kk j hb hd c
  exact g z H a w c' kt
end
section
variable {P : Program} {C : Ctx} {N : Nat} {ops rest : List Oper} {o : Oper} {t : List (Nat × D)} {h : List (Nat × Blk)} {k : List (Nat × Value)} {Q : Exit → S → Prop} {tab : List (Option TI)}
theorem o_rowN {i k0 : Nat} (kk : Nat) (hx : look t i = some (.lst k0 [] .full)) (g : ∀ z : Z3, opsD P C N ops rest ⟨(i, .v (SL z)) :: t, (0, .row kk [] (SL z)) :: h, k⟩ Q) : opsD P C N ops rest ⟨t, h, k⟩ Q := fun a w ⟨H, c, kt, hn, hd⟩ => by
  obtain ⟨v, h1, h2⟩ := kt i _ hx
  obtain ⟨z, rfl, c'⟩ := row_nil (kk := kk) c h2
  exact g z a w ⟨H, c', look_put kt h1 (rep_v rfl), hn, hd⟩
theorem o_rowC {b off k0 : Nat} {ds : List D} {T : TypeId} (kk j : Nat) (hb : h[j]? = some (b, .cells ds T)) (hd : ds[off]? = some (.lst k0 [] .full)) (g : ∀ z : Z3, opsD P C N ops rest ⟨t, (0, .row kk [] (SL z)) :: h.set j (b, .cells (ds.set off (.v (SL z))) T), k⟩ Q) : opsD P C N ops rest ⟨t, h, k⟩ Q := fun a w ⟨H, c, kt, hn, hd'⟩ => by
  obtain ⟨z, c'⟩ := row_nilC kk j hb hd c
  exact g z a w ⟨H, c', kt, hn, hd'⟩
theorem retX.rowN {rs : List ResultVar} {R : D → List (Nat × Blk) → List (Nat × Value) → Prop} {x : Exit} {i k0 : Nat} (kk : Nat) (hx : look t i = some (.lst k0 [] .full)) (g : ∀ z : Z3, retX C tab rs R x ⟨(i, .v (SL z)) :: t, (0, .row kk [] (SL z)) :: h, k⟩) : retX C tab rs R x ⟨t, h, k⟩ := fun H a w c kt => by
  obtain ⟨v, h1, h2⟩ := kt i _ hx
  obtain ⟨z, rfl, c'⟩ := row_nil (kk := kk) c h2
  exact g z H a w c' (look_put kt h1 (rep_v rfl))
theorem retX.rowC {rs : List ResultVar} {R : D → List (Nat × Blk) → List (Nat × Value) → Prop} {x : Exit} {b off k0 : Nat} {ds : List D} {T : TypeId} (kk j : Nat) (hb : h[j]? = some (b, .cells ds T)) (hd : ds[off]? = some (.lst k0 [] .full)) (g : ∀ z : Z3, retX C tab rs R x ⟨t, (0, .row kk [] (SL z)) :: h.set j (b, .cells (ds.set off (.v (SL z))) T), k⟩) : retX C tab rs R x ⟨t, h, k⟩ := fun H a w c kt => by
  obtain ⟨z, c'⟩ := row_nilC kk j hb hd c
  exact g z H a w c' kt
/-- A row's length is its slice's. -/
theorem row_len {H : Hp} {w : World} {r kk : Nat} {xs : List D} {y : Value} (h : BlkOK H w (r, .row kk xs y)) : ∃ a m, y = .slice a xs.length m := by
  rcases h with ⟨a, rfl, rfl⟩ | ⟨b, m, us, rest, T, rfl, _⟩
  · exact ⟨a, 0, rfl⟩
  · exact ⟨_, m, rfl⟩
theorem p_lenR {i r kk : Nat} {T e : TypeId} {x : Operand} {xs : List D} {z : Z3} {ti0 : TI} (j : Nat) (hT : TabOK P tab) (ho : o.op = .call ⟨.builtin .len, [x].toArray, #[T]⟩) (hw : wantD ops t o = some true) (hd : o.dst = some i) (hi : Nat.blt i N = true)
    (hx : opD t x = some (.v (SL z))) (hj : h[j]? = some (r, .row kk xs (SL z))) (hti : ti tab T = some ti0) (hs : ti0.d = .slice e) {n : Nat} (hn : xs.length = n) (g : opsD P C N ops rest ⟨(i, .v (.int .i64 n)) :: t, h, k⟩ Q) : opsD P C N ops (o :: rest) ⟨t, h, k⟩ Q :=
  ops_val (s := ⟨t, h, k⟩) hw hd hi fun H a w core kt => by
    obtain ⟨ad, m, hy⟩ := row_len (core.blks _ (List.mem_of_getElem? hj))
    refine ⟨.int .i64 n, w, H, .v (.int .i64 n), h, k, exec_builtin (s := Builtin.len_) ho (fun _ _ => rfl) ?_, Hp.le_refl H, core, rep_v rfl, g⟩
    have e := rep_v_inv (opD_ok kt hx)
    simp only [List.map_cons, List.map_nil, e, hy, hn]
    exact run_len_slice (ti_ok hT hti) hs
end
end Go.Proofs.Ytpeimfcmhedjmaa.Ab
/- append to a row. Over any program. -/
namespace Go.Proofs.Ytpeimfcmhedjmaa.Ab
open Go
set_option linter.all false
/-- A row's cells, as append reads them. -/
theorem first_row {P : Program} {w : World} {H : Hp} {r kk : Nat} {xs : List D} {y : Value} (hb : BlkOK H w (r, .row kk xs y)) :
    ∃ us : List Value, us.length = xs.length * kk ∧ FlatR H kk xs us ∧ (Builtin.firstCells kk xs.length y).run P w = .ok us.toArray w := by
  rcases hb with ⟨a, rfl, rfl⟩ | ⟨b, m, us, rest, T, rfl, h0, hm, h1, h2, h3, h4⟩
  · refine ⟨[], by simp, rfl, ?_⟩
    cases a with
    | none => rfl
    | some a => simp only [Builtin.firstCells, List.length_nil, Nat.zero_mul]; rfl
  · have hl := flat_len h2
    refine ⟨us, hl, h2, ?_⟩
    have hr : RowAt w b 0 us := fun j u e => by
      have := row_block h1 j u (by rw [List.getElem?_append_left (List.getElem?_eq_some_iff.1 e).1]; exact e)
      exact this
    have := run_loadCells (P := P) (xs.length * kk) hr (by omega)
    rw [← hl, List.take_length] at this
    simp only [Builtin.firstCells]
    rw [← hl]; exact this
theorem first_told {P : Program} {w : World} {H : Hp} (hA : Ag H w) {kk : Nat} {xs : List D} {c : Cap} {v : Value} (hr : Rep H (.lst kk xs c) v) :
    ∃ us : List Value, us.length = xs.length * kk ∧ FlatR H kk xs us ∧ (Builtin.firstCells kk xs.length v).run P w = .ok us.toArray w := by
  obtain ⟨_, h⟩ := rep_lst_inv hr
  rcases h with ⟨rfl, a, m, rfl, _⟩ | ⟨b, off, m, rfl, hm, hE⟩
  · refine ⟨[], by simp, rfl, ?_⟩
    cases a with
    | none => rfl
    | some a => simp only [Builtin.firstCells, List.length_nil, Nat.zero_mul]; rfl
  · obtain ⟨us, h1, h2, h3⟩ := els_flatR hE
    refine ⟨us, h1, h3, ?_⟩
    have := run_loadCells (P := P) (xs.length * kk) (h2.row hA) (by omega)
    rw [← h1, List.take_length] at this
    simp only [Builtin.firstCells]
    rw [← h1]; exact this
theorem Core.drew' {H : Hp} {w : World} (hA : Ag H w) : Ag H (wDrew w) := fun a v e => hA a v e
theorem blk_drew {H : Hp} {w : World} {p : Nat × Blk} (h : BlkOK H w p) : BlkOK H (wDrew w) p := by
  obtain ⟨b, bl⟩ := p
  cases bl <;> exact h
/-- A row with what is told behind it: what append comes to. -/
theorem app_runR {P : Program} {tab : List (Option TI)} (hT : TabOK P tab) {H : Hp} {w : World} {r kk bb : Nat} {T T' e e' : TypeId} {ty : TypeId} {i0 i1 ie : TI} {xs ys : List D} {v1 v2 : Value}
    (hA : Ag H w) (hrow : BlkOK H w (r, .row kk xs v1)) (hown : ∀ b ∈ claims [(r, .row kk xs v1)] [], b < w.heap.size)
    (hl2 : (Builtin.lenOf v2).run P w = .ok ys.length w) (hf2 : ∀ w', (∀ b, b < w.heap.size → w'.heap[b]? = w.heap[b]?) → ∃ us : List Value, us.length = ys.length * kk ∧ FlatR H kk ys us ∧ (Builtin.firstCells kk ys.length v2).run P w' = .ok us.toArray w')
    (hi0 : ti tab T = some i0) (hd0 : i0.d = .slice e) (hi1 : ti tab T' = some i1) (hd1 : i1.d = .slice e') (hie : ti tab e = some ie) (hks : ie.size = kk) (hbb : ie.bytes = bb) (hz : ie.zero.length = kk) (hb1 : 1 ≤ bb) (hbound : (xs.length + ys.length) * bb ≤ 140737488355328) :
    ∃ (z : Z3) (w' : World), (Builtin.append_ #[T, T'] ty #[v1, v2]).run P w = .ok (SL z) w' ∧ Core ⟨H, w, claims [(r, .row kk xs v1)] []⟩ H [(0, .row kk (xs ++ ys) (SL z))] [] w' := by
  subst hks; subst hbb
  have hTe := ti_ok hT hie
  obtain ⟨d0, u0, u1⟩ := run_underlying (w := w) (ti_ok hT hi0)
  have e0 := td_slice (u1.trans hd0); subst e0
  obtain ⟨d1, u2, u3⟩ := run_underlying (w := w) (ti_ok hT hi1)
  have e1 := td_slice (u3.trans hd1); subst e1
  obtain ⟨tif, z, t1, t2, t3, t4, t5⟩ := run_typeInfo (w := w) hTe
  have hneed : xs.length + ys.length ≤ 140737488355328 := Nat.le_trans (Nat.le_mul_of_pos_right _ hb1) hbound
  have start : ∀ base cap, v1 = .slice base xs.length cap → (Builtin.append_ #[T, T'] ty #[v1, v2]).run P w =
      (if xs.length + ys.length ≤ cap then (do
          let new ← Builtin.firstCells ie.size ys.length v2
          if let some a := base then storeCells (a.add (xs.length * ie.size)) new.toList
          pure (.slice base (xs.length + ys.length) cap) : Sem Value)
       else (do
          if ((xs.length + ys.length : Nat) : Int) > IntKind.i64.max ∧ ((false = true) ∨ (← Go.typeInfo e).bytes = 0) then runtimePanic (.error "growslice: len out of range")
          if Builtin.nextslicecap (xs.length + ys.length) cap * (← Go.typeInfo e).bytes > 2 ^ 48 then (if false then runtimePanic (.error "growslice: len out of range") else do
            if !(← Builtin.mayShare ie.size xs.length ys.length base v2) then mark .noRoom
            unsupported (.resourceLimit "append: a slice or a string whose bytes no memory bears"))
          let newCap ← choose (.appendCap (xs.length + ys.length) cap e)
          askRoom (newCap * (← Go.typeInfo e).bytes)
          let old ← Builtin.firstCells ie.size xs.length v1
          let new ← Builtin.firstCells ie.size ys.length v2
          let rest := Builtin.zeroCells (← Go.zeroValue e).cells (newCap - (xs.length + ys.length))
          pure (.slice (some (← newRow e (old ++ new ++ rest))) (xs.length + ys.length) newCap) : Sem Value)).run P w := by
    intro base cap hv
    subst hv
    unfold Builtin.append_
    simp only [List.getElem?_toArray, List.getElem?_cons_zero, List.getElem?_cons_succ]
    rw [run_bind_ok u0]
    simp only []
    rw [run_bind_ok (run_sizeOf hTe)]
    rw [run_bind_ok u2]
    simp only []
    rw [run_bind_ok (a := false) (w' := w) rfl]
    simp only [Bool.false_eq_true, if_false]
    rw [run_bind_ok hl2]
    simp only [Bool.not_false, if_true]
    rfl
  obtain ⟨base, cap, hv⟩ := row_len hrow
  by_cases hle : xs.length + ys.length ≤ cap
  · obtain ⟨us2, g1, g2, g3⟩ := hf2 w (fun _ _ => rfl)
    rw [start base cap hv, if_pos hle, run_bind_ok g3]
    rcases hrow with ⟨a, e1, e2⟩ | ⟨b, m, us, rest, TT, e1, h0, hm, h1, h2, h3, h4⟩
    · -- no room at all: nothing is added
      rw [hv] at e1
      simp only [Value.slice.injEq] at e1
      obtain ⟨rfl, e3, rfl⟩ := e1
      have hy : ys = [] := List.eq_nil_of_length_eq_zero (by omega)
      subst hy; subst e2
      have hu2 : us2 = [] := List.eq_nil_of_length_eq_zero (by simpa using g1)
      subst hu2
      refine ⟨(base, 0, 0), w, ?_, hA, Hp.le_refl H, fun _ _ x => .inl x, fun _ _ _ => rfl, Nat.le_refl _, ?_, by simp, ?_, ?_, Env.refl w⟩
      · cases base with
        | none => rfl
        | some a => simp only [storeCells]; rfl
      · intro p hp
        simp only [List.mem_singleton] at hp; subst hp
        exact .inl ⟨base, rfl, rfl⟩
      · cases base <;> simp [claims, blkClaim, sliceClaim]
      · cases base <;> simp [claims, blkClaim, sliceClaim]
    · rw [hv] at e1
      simp only [Value.slice.injEq] at e1
      obtain ⟨rfl, _, rfl⟩ := e1
      have hul := flat_len h2
      have hclaim : claims [(r, Blk.row ie.size xs v1)] [] = [b] := by rw [hv]; simp [claims, blkClaim, sliceClaim, hm]
      have hmk : (xs.length + ys.length) * ie.size ≤ cap * ie.size := Nat.mul_le_mul_right _ hle
      rw [Nat.add_mul] at hmk
      have hsz : 0 + xs.length * ie.size + us2.length ≤ (us ++ rest).length := by rw [g1]; omega
      obtain ⟨w', s1, s2, s3, s4, s5⟩ := run_storeCells (P := P) (b := b) (off := xs.length * ie.size) (T := TT) us2 0 w (us ++ rest) h1 (by omega) (flat_one g2)
      simp only [Nat.add_zero] at s5
      have ecells : (us ++ rest).take (xs.length * ie.size) ++ (us2 ++ (us ++ rest).drop (xs.length * ie.size + us2.length)) = (us ++ us2) ++ rest.drop us2.length := by
        rw [List.take_append_of_le_length (by omega), List.take_of_length_le (by omega), List.drop_append, List.drop_of_length_le (by omega), List.nil_append, List.append_assoc]
        congr 3; omega
      rw [ecells] at s5
      refine ⟨(some ⟨b, 0, none⟩, xs.length + ys.length, cap), w', ?_, ?_⟩
      · simp only [addr_add, Nat.zero_add]
        rw [run_bind_ok s1]; rfl
      · rw [hclaim]
        refine ⟨fun a v0 ea => ?_, Hp.le_refl H, fun _ _ x => .inl x, fun i _ hm => s4 i (by simpa using hm), by show w.heap.size ≤ w'.heap.size; omega, ?_, by simp, ?_, ?_, s2⟩
        · have hcell := hA a v0 ea
          by_cases qb : a.block = b
          · obtain ⟨ab, ao, as⟩ := a
            simp only at qb; subst qb
            cases as with
            | some sp => simp [World.cell?, h1] at hcell
            | none => rw [h4 ao] at ea; cases ea
          · simp only [World.cell?] at hcell ⊢
            rw [s4 _ qb]; exact hcell
        · intro p hp
          simp only [List.mem_singleton] at hp; subst hp
          refine .inr ⟨b, cap, us ++ us2, rest.drop us2.length, TT, by simp [SL], by simpa using hle, hm, by simpa using s5, flat_append h2 g2, ?_, h4⟩
          have := congrArg List.length ecells
          simp only [List.length_append, List.length_take, List.length_drop] at this h3 ⊢
          omega
        · simp [claims, blkClaim, sliceClaim, hm]
        · intro x hx; simp [claims, blkClaim, sliceClaim, hm] at hx; subst hx; exact .inl (by simp)
  · have hgt : ¬ xs.length + ys.length ≤ cap := hle
    rw [start base cap hv, if_neg hgt]
    have hti : (Go.typeInfo e).run P w = .ok tif w := t1
    have hbytes : tif.bytes = ie.bytes := t3
    have hno1 : ¬ (((xs.length + ys.length : Nat) : Int) > IntKind.i64.max ∧ ((false = true) ∨ tif.bytes = 0)) := by
      rintro ⟨_, q | q⟩
      · cases q
      · omega
    have hno2 : ¬ (Builtin.nextslicecap (xs.length + ys.length) cap * tif.bytes > 2 ^ 48) := by
      have h5 := next_le (Nat.lt_of_not_le hgt)
      have h6 : Builtin.nextslicecap (xs.length + ys.length) cap * ie.bytes ≤ 2 * (xs.length + ys.length) * ie.bytes := Nat.mul_le_mul_right _ h5
      rw [Nat.mul_assoc] at h6
      rw [hbytes]
      omega
    have hforced : ∀ need, (Question.appendCap need cap e).forced = false := fun _ => rfl
    obtain ⟨newCap, hcap, hchoose⟩ : ∃ newCap, xs.length + ys.length ≤ newCap ∧ (choose (.appendCap (xs.length + ys.length) cap e)).run P w = .ok newCap (wDrew w) := by
      refine ⟨_, ?_, by simp only [choose, Sem.run, hforced]; rfl⟩
      simp only [Question.cut]; omega
    obtain ⟨zz, hz1, hz2⟩ := run_zeroValue (w := wDrew w) hTe
    obtain ⟨tif2, _, hti2, _⟩ := run_typeInfo (w := wDrew w) hTe
    obtain ⟨us1, f1, f2, f3⟩ := first_row (P := P) (blk_drew hrow)
    obtain ⟨us2, g1, g2, g3⟩ := hf2 (wDrew w) (fun _ _ => rfl)
    let restA := Builtin.zeroCells zz.cells (newCap - (xs.length + ys.length))
    have hrest : restA.size = (newCap - (xs.length + ys.length)) * ie.size := by
      show (Builtin.zeroCells zz.cells _).size = _
      unfold Builtin.zeroCells
      simp only [Array.size_map, Array.size_range]
      have : zz.cells.size = ie.size := by rw [← Array.length_toList, hz2, hz]
      rw [this]
    refine ⟨(some ⟨w.heap.size, 0, none⟩, xs.length + ys.length, newCap), (wDrew w).alloc (.cells (us1.toArray ++ us2.toArray ++ restA) e), ?_, ?_⟩
    · rw [run_bind_ok hti]
      rw [if_neg hno1]
      rw [run_bind_ok hti]
      rw [if_neg hno2]
      rw [run_bind_ok hchoose, run_bind_ok hti2, run_bind_ok askRoom_run, run_bind_ok f3, run_bind_ok g3, run_bind_ok hz1]
      rfl
    · have earr : us1.toArray ++ us2.toArray ++ restA = ((us1 ++ us2) ++ restA.toList).toArray := by simp
      rw [earr]
      have hsizew : (wDrew w).heap.size = w.heap.size := rfl
      have hcells : ((wDrew w).alloc (.cells ((us1 ++ us2) ++ restA.toList).toArray e)).heap[w.heap.size]? = some (.cells ((us1 ++ us2) ++ restA.toList).toArray e (0, 0)) := by
        rw [heap_alloc, hsizew, if_pos rfl]
      have hm0 : 0 < newCap := by omega
      refine ⟨fun a v e' => cell_alloc _ (hA a v e'), Hp.le_refl H, fun _ _ x => .inl x, fun b hb _ => ?_, ?_, ?_, by simp, ?_, ?_, ⟨rfl, rfl, rfl⟩⟩
      · rw [heap_alloc, hsizew, if_neg (by exact Nat.ne_of_lt hb)]; rfl
      · rw [size_alloc, hsizew]; exact Nat.le_succ _
      · intro p hp
        simp only [List.mem_singleton] at hp; subst hp
        refine .inr ⟨w.heap.size, newCap, us1 ++ us2, restA.toList, e, by simp [SL], by simpa using hcap, hm0, hcells, flat_append f2 g2, ?_, fun o => ?_⟩
        · simp only [List.length_append, Array.length_toList, hrest, f1, g1]
          rw [← Nat.add_mul, ← Nat.add_mul]
          exact Nat.mul_le_mul_right _ (by omega)
        · cases q : H ⟨w.heap.size, o, none⟩ with
          | none => rfl
          | some v => exact absurd (hA.lt q) (Nat.lt_irrefl _)
      · simp [claims, blkClaim, sliceClaim, hm0]
      · intro x hx; simp [claims, blkClaim, sliceClaim, hm0] at hx; subst hx; exact .inr (Nat.le_refl _)
section
variable {P : Program} {C : Ctx} {N : Nat} {ops rest : List Oper} {o : Oper} {t : List (Nat × D)} {h : List (Nat × Blk)} {k : List (Nat × Value)} {Q : Exit → S → Prop} {tab : List (Option TI)}
/-- append, of what is told, to a row (the j-th). -/
theorem p_appR {i r kk bb : Nat} {T T' e e' : TypeId} {x y : Operand} {xs ys : List D} {c' : Cap} {z : Z3} {i0 i1 ie : TI} (j : Nat) (hT : TabOK P tab) (ho : o.op = .call ⟨.builtin .append, [x, y].toArray, #[T, T']⟩) (hw : wantD ops t o = some true) (hd : o.dst = some i) (hi : Nat.blt i N = true)
    (hx : opD t x = some (.v (SL z))) (hj : h[j]? = some (r, .row kk xs (SL z))) (hy : opD t y = some (.lst kk ys c'))
    (hi0 : ti tab T = some i0) (hd0 : i0.d = .slice e) (hi1 : ti tab T' = some i1) (hd1 : i1.d = .slice e') (hie : ti tab e = some ie) (hks : ie.size = kk) (hbb : ie.bytes = bb) (hz : ie.zero.length = kk) (hb1 : Nat.ble 1 bb = true) (hbound : (xs.length + ys.length) * bb ≤ 140737488355328)
    (g : ∀ z' : Z3, opsD P C N ops rest ⟨(i, .v (SL z')) :: t, h.set j (0, .row kk (xs ++ ys) (SL z')), k⟩ Q) : opsD P C N ops (o :: rest) ⟨t, h, k⟩ Q :=
  ops_val (s := ⟨t, h, k⟩) hw hd hi fun H a w core kt => by
    have hry := opD_ok kt hy
    obtain ⟨a2, m2, ey⟩ := rep_slice_len hry
    have c1 : Core C H ([(r, .row kk xs (SL z))] ++ h.eraseIdx j) ([] ++ k) w := core.perm (perm_at hj) (List.Perm.refl _)
    have hbl := core.blks _ (List.mem_of_getElem? hj)
    obtain ⟨z', w', h1, h2⟩ := app_runR (P := P) (ty := o.type) (v1 := SL z) (v2 := a.eval y) hT core.ag hbl (fun b hb => c1.lt b (by
      have := (claims_append [(r, Blk.row kk xs (SL z))] (h.eraseIdx j) [] k).mem_iff (a := b)
      exact this.2 (List.mem_append_left _ hb))) (by rw [ey]; rfl) (fun w2 hw2 => first_told (fun a' v e' => by
        have := core.ag a' v e'
        have hlt := core.ag.lt e'
        unfold World.cell? at this ⊢
        rw [hw2 _ hlt]; exact this) hry) hi0 hd0 hi1 hd1 hie hks hbb hz (Nat.le_of_ble_eq_true hb1) hbound
    have c2 := Core.call c1 h2
    refine ⟨SL z', w', H, .v (SL z'), h.set j (0, .row kk (xs ++ ys) (SL z')), k, exec_builtin (s := Builtin.append_) ho (fun _ _ => rfl) ?_, Hp.le_refl H, c2.perm (perm_set hj) (List.Perm.refl _), rep_v rfl, g z'⟩
    have e := rep_v_inv (opD_ok kt hx)
    simpa [e] using h1
end
end Go.Proofs.Ytpeimfcmhedjmaa.Ab
/- Rows as steps: append, calls that are given blocks, rows, tokens. Over any program. -/
namespace Go.Proofs.Ytpeimfcmhedjmaa.Ab
open Go
set_option linter.all false
section
variable {P : Program} {C : Ctx} {N : Nat} {ops rest : List Oper} {o : Oper} {t : List (Nat × D)} {h : List (Nat × Blk)} {k : List (Nat × Value)} {Q : Exit → S → Prop} {tab : List (Option TI)}
theorem p_appR2 {i r kk bb : Nat} {T T' e e' : TypeId} {x y : Operand} {xs ys zs : List D} {c' : Cap} {z : Z3} {i0 i1 ie : TI} (j : Nat) (hT : TabOK P tab) (ho : o.op = .call ⟨.builtin .append, [x, y].toArray, #[T, T']⟩) (hw : wantD ops t o = some true) (hd : o.dst = some i) (hi : Nat.blt i N = true)
    (hx : opD t x = some (.v (SL z))) (hj : h[j]? = some (r, .row kk xs (SL z))) (hy : opD t y = some (.lst kk ys c'))
    (hi0 : ti tab T = some i0) (hd0 : i0.d = .slice e) (hi1 : ti tab T' = some i1) (hd1 : i1.d = .slice e') (hie : ti tab e = some ie) (hks : ie.size = kk) (hbb : ie.bytes = bb) (hz : ie.zero.length = kk) (hb1 : Nat.ble 1 bb = true) (hbound : (xs.length + ys.length) * bb ≤ 140737488355328) (em : xs ++ ys = zs)
    (g : ∀ z' : Z3, opsD P C N ops rest ⟨(i, .v (SL z')) :: t, h.set j (0, .row kk zs (SL z')), k⟩ Q) : opsD P C N ops (o :: rest) ⟨t, h, k⟩ Q := by
  subst em
  exact p_appR j hT ho hw hd hi hx hj hy hi0 hd0 hi1 hd1 hie hks hbb hz hb1 hbound g
/-- append to nil: a new row. -/
theorem p_app0R {i k0 kk bb : Nat} {T T' e e' : TypeId} {x y : Operand} {ys zs : List D} {c' : Cap} {i0 i1 ie : TI} (hT : TabOK P tab) (ho : o.op = .call ⟨.builtin .append, [x, y].toArray, #[T, T']⟩) (hw : wantD ops t o = some true) (hd : o.dst = some i) (hi : Nat.blt i N = true)
    (hx : opD t x = some (.lst k0 [] .full)) (hy : opD t y = some (.lst kk ys c'))
    (hi0 : ti tab T = some i0) (hd0 : i0.d = .slice e) (hi1 : ti tab T' = some i1) (hd1 : i1.d = .slice e') (hie : ti tab e = some ie) (hks : ie.size = kk) (hbb : ie.bytes = bb) (hz : ie.zero.length = kk) (hb1 : Nat.ble 1 bb = true) (hbound : ys.length * bb ≤ 140737488355328) (em : ys = zs)
    (g : ∀ z' : Z3, opsD P C N ops rest ⟨(i, .v (SL z')) :: t, (0, .row kk zs (SL z')) :: h, k⟩ Q) : opsD P C N ops (o :: rest) ⟨t, h, k⟩ Q := by
  subst em
  refine ops_val (s := ⟨t, h, k⟩) hw hd hi fun H a w core kt => ?_
  have hry := opD_ok kt hy
  obtain ⟨a2, m2, ey⟩ := rep_slice_len hry
  obtain ⟨z, ez, c1⟩ := row_nil (kk := kk) core (opD_ok kt hx)
  have hbl := c1.blks _ (List.mem_cons_self ..)
  obtain ⟨z', w', h1, h2⟩ := app_runR (P := P) (ty := o.type) (v1 := SL z) (v2 := a.eval y) (xs := []) (ys := ys) hT c1.ag hbl (fun b hb => c1.lt b (by
      have := (claims_append [(0, Blk.row kk [] (SL z))] h [] k).mem_iff (a := b)
      exact this.2 (List.mem_append_left _ hb))) (by rw [ey]; rfl) (fun w2 hw2 => first_told (fun a' v e' => by
        have := core.ag a' v e'
        have hlt := core.ag.lt e'
        unfold World.cell? at this ⊢
        rw [hw2 _ hlt]; exact this) hry) hi0 hd0 hi1 hd1 hie hks hbb hz (Nat.le_of_ble_eq_true hb1) (by simpa using hbound)
  have c2 := Core.call (h1 := [(0, .row kk [] (SL z))]) (k1 := []) (h2 := h) (k2 := k) c1 h2
  refine ⟨SL z', w', H, .v (SL z'), (0, .row kk ys (SL z')) :: h, k, exec_builtin (s := Builtin.append_) ho (fun _ _ => rfl) ?_, Hp.le_refl H, c2, rep_v rfl, g z'⟩
  simpa [ez] using h1
/-- A call, with all that it is given. -/
theorem p_callG {f : FuncId} {args : List Operand} {ts : Array TypeId} {i : Nat} {ds ds' : List D} {h1 h2 : List (Nat × Blk)} {k1 k2 : List (Nat × Value)} {R : D → List (Nat × Blk) → List (Nat × Value) → Prop}
    (hc : CallsD P f ds' h1 k1 R) (ho : o.op = .call ⟨.value (.func f), args.toArray, ts⟩) (hw : wantD ops t o = some true) (hd : o.dst = some i) (hi : Nat.blt i N = true) (ha : someMap args (opD t) = some ds) (hwk : WkL ds ds')
    (hh : h.Perm (h1 ++ h2)) (hk : k.Perm (k1 ++ k2)) (g : ∀ d h' k', R d h' k' → opsD P C N ops rest ⟨(i, d) :: t, h' ++ h2, k' ++ k2⟩ Q) : opsD P C N ops (o :: rest) ⟨t, h, k⟩ Q :=
  ops_call (s := ⟨t, h, k⟩) hc ho hw hd hi ha hwk hh hk g
theorem p_callG0 {f : FuncId} {args : List Operand} {ts : Array TypeId} {ds ds' : List D} {h1 h2 : List (Nat × Blk)} {k1 k2 : List (Nat × Value)} {R : D → List (Nat × Blk) → List (Nat × Value) → Prop}
    (hc : CallsD P f ds' h1 k1 R) (ho : o.op = .call ⟨.value (.func f), args.toArray, ts⟩) (hw : wantD ops t o = some true) (hd : o.dst = none) (ha : someMap args (opD t) = some ds) (hwk : WkL ds ds')
    (hh : h.Perm (h1 ++ h2)) (hk : k.Perm (k1 ++ k2)) (g : ∀ d h' k', R d h' k' → opsD P C N ops rest ⟨t, h' ++ h2, k' ++ k2⟩ Q) : opsD P C N ops (o :: rest) ⟨t, h, k⟩ Q :=
  ops_call0 (s := ⟨t, h, k⟩) hc ho hw hd ha hwk hh hk g
theorem WkC.any {d : D} : WkC d .any := fun _ _ _ => by simp only [RepC]
end
end Go.Proofs.Ytpeimfcmhedjmaa.Ab
/- Rows that are made, read and written element by element. Over any program. -/
namespace Go.Proofs.Ytpeimfcmhedjmaa.Ab
open Go
set_option linter.all false
/-- A pointer into a row. -/
abbrev PE (z : Z3) (o : Nat) : Value := .pointer (z.1.map (·.add o))
def mkOK (bb : Nat) (n c : Int) : Bool := decide (0 ≤ n) && decide (n ≤ c) && decide (c * bb ≤ 140737488355328)
theorem mkOK_of {bb : Nat} {n c : Int} (h : mkOK bb n c = true) : 0 ≤ n ∧ n ≤ c ∧ c * bb ≤ 140737488355328 := by
  simp only [mkOK, Bool.and_eq_true, decide_eq_true_eq] at h; exact ⟨h.1.1, h.1.2, h.2⟩
theorem flat_rep {H : Hp} {kk : Nat} {x : D} {us : List Value} (hl : us.length = kk) (h : RepC H x us) (h1 : ∀ u ∈ us, one u = true) : ∀ n, FlatR H kk (List.replicate n x) (List.replicate n us).flatten
  | 0 => rfl
  | n + 1 => by
    simp only [List.replicate_succ, List.flatten_cons]
    exact ⟨us, _, rfl, hl, ⟨h, h1⟩, flat_rep hl h h1 n⟩
theorem flat_at {H : Hp} {kk : Nat} : ∀ {xs : List D} {us : List Value} {j : Nat} {x : D}, FlatR H kk xs us → xs[j]? = some x → ∃ vs, vs.length = kk ∧ RepC H x vs ∧ (∀ u ∈ vs, one u = true) ∧ (us.drop (j * kk)).take kk = vs ∧ j * kk + kk ≤ us.length
  | [], us, j, x, _, e => by simp at e
  | y :: xs, us, 0, x, h, e => by
    obtain ⟨u1, u2, rfl, hl, ⟨h1, h2⟩, h3⟩ := h
    simp only [List.getElem?_cons_zero, Option.some.injEq] at e
    subst e
    refine ⟨u1, hl, h1, h2, ?_, by simp [hl]⟩
    rw [Nat.zero_mul, List.drop_zero, List.take_append_of_le_length (by omega), List.take_of_length_le (by omega)]
  | y :: xs, us, j + 1, x, h, e => by
    obtain ⟨u1, u2, rfl, hl, ⟨h1, h2⟩, h3⟩ := h
    simp only [List.getElem?_cons_succ] at e
    obtain ⟨vs, g1, g2, g3, g4, g5⟩ := flat_at h3 e
    refine ⟨vs, g1, g2, g3, ?_, by simp only [List.length_append, hl, Nat.add_mul]; omega⟩
    rw [show (j + 1) * kk = u1.length + j * kk by rw [hl, Nat.add_mul]; omega, List.drop_append, List.drop_of_length_le (by omega), List.nil_append, Nat.add_sub_cancel_left]
    exact g4
theorem flat_set {H : Hp} {kk : Nat} {x : D} {vs : List Value} (hl : vs.length = kk) (hx : RepC H x vs) (h1 : ∀ u ∈ vs, one u = true) : ∀ {xs : List D} {us : List Value} {j : Nat}, FlatR H kk xs us → j < xs.length → FlatR H kk (xs.set j x) (us.take (j * kk) ++ (vs ++ us.drop (j * kk + kk)))
  | [], us, j, _, e => by simp at e
  | y :: xs, us, 0, h, e => by
    obtain ⟨u1, u2, rfl, hl', ⟨h2, h3⟩, h4⟩ := h
    simp only [List.set_cons_zero, Nat.zero_mul, List.take_zero, List.nil_append, Nat.zero_add]
    refine ⟨vs, u2, ?_, hl, ⟨hx, h1⟩, h4⟩
    rw [List.drop_append, List.drop_of_length_le (by omega), List.nil_append, hl', Nat.sub_self, List.drop_zero]
  | y :: xs, us, j + 1, h, e => by
    obtain ⟨u1, u2, rfl, hl', ⟨h2, h3⟩, h4⟩ := h
    simp only [List.set_cons_succ]
    refine ⟨u1, _, ?_, hl', ⟨h2, h3⟩, flat_set hl hx h1 h4 (by simpa using e)⟩
    have q : (j + 1) * kk = u1.length + j * kk := by rw [hl', Nat.add_mul]; omega
    rw [q, List.take_append, List.take_of_length_le (by omega), Nat.add_sub_cancel_left, List.append_assoc, List.drop_append, List.drop_of_length_le (by omega), List.nil_append]
    congr 4
    omega
/-- A new row of zeros. -/
theorem Core.newRow {C : Ctx} {H : Hp} {h : List (Nat × Blk)} {k : List (Nat × Value)} {w : World} (c : Core C H h k w) {xs : List D} {us rest : List Value} {kk m : Nat} {T : TypeId} (hf : FlatR H kk xs us) (hm : xs.length ≤ m) (hl : m * kk ≤ (us ++ rest).length) (z : m = 0 → xs = []) :
    Core C H ((0, .row kk xs (SL (some ⟨w.heap.size, 0, none⟩, xs.length, m))) :: h) k (w.alloc (.cells (us ++ rest).toArray T)) := by
  have c0 : Core ⟨H, w, []⟩ H [(0, .row kk xs (SL (some ⟨w.heap.size, 0, none⟩, xs.length, m)))] [] (w.alloc (.cells (us ++ rest).toArray T)) := by
    refine ⟨fun a v e => cell_alloc _ (c.ag a v e), Hp.le_refl H, fun _ _ x => .inl x, fun b hb _ => ?_, ?_, ?_, by simp, ?_, ?_, ⟨rfl, rfl, rfl⟩⟩
    · rw [heap_alloc, if_neg (by exact Nat.ne_of_lt hb)]
    · rw [size_alloc]; exact Nat.le_succ _
    · intro p hp
      simp only [List.mem_singleton] at hp; subst hp
      by_cases q : m = 0
      · subst q
        have := z rfl
        subst this
        exact .inl ⟨_, rfl, rfl⟩
      · refine .inr ⟨w.heap.size, m, us, rest, T, rfl, hm, by omega, by rw [heap_alloc, if_pos rfl], hf, hl, fun o => ?_⟩
        cases e : H ⟨w.heap.size, o, none⟩ with
        | none => rfl
        | some v => exact absurd (c.ag.lt e) (Nat.lt_irrefl _)
    · simp only [claims, blkClaim, sliceClaim, List.flatMap_cons, List.flatMap_nil, List.append_nil]
      split <;> simp
    · intro b hb
      simp only [claims, blkClaim, sliceClaim, List.flatMap_cons, List.flatMap_nil, List.append_nil] at hb
      split at hb
      · simp at hb; subst hb
        exact .inr (Nat.le_refl _)
      · cases hb
  have := Core.call (h1 := []) (k1 := []) (h2 := h) (k2 := k) c c0
  simpa using this
theorem zero_cells {z : List Value} {kk : Nat} (hz : z.length = kk) : ∀ n, ((List.replicate n z).flatten).length = n * kk
  | 0 => by simp
  | n + 1 => by simp [List.replicate_succ, zero_cells hz n, hz, Nat.add_mul]; omega
theorem repl_at {z : List Value} : ∀ (n i : Nat), i < n * z.length → (List.replicate n z).flatten[i]? = z[i % z.length]?
  | 0, i, h => by simp at h
  | n + 1, i, h => by
    simp only [List.replicate_succ, List.flatten_cons]
    rw [List.getElem?_append]
    split
    · rename_i hlt; rw [Nat.mod_eq_of_lt hlt]
    · rename_i hge
      rw [repl_at n (i - z.length) (by rw [Nat.add_mul, Nat.one_mul] at h; omega)]
      rw [Nat.mod_eq_sub_mod (a := i) (by omega)]
section
variable {P : Program} {C : Ctx} {N : Nat} {ops rest : List Oper} {o : Oper} {t : List (Nat × D)} {h : List (Nat × Blk)} {k : List (Nat × Value)} {Q : Exit → S → Prop} {tab : List (Option TI)}
theorem p_makeR {i kk bb : Nat} {T e : TypeId} {x y : Operand} {k1 k2 : IntKind} {n c : Int} {x0 : D} {ti0 ie : TI} (hT : TabOK P tab) (ho : o.op = .makeSlice T x y) (hw : wantD ops t o = some true) (hd : o.dst = some i) (hi : Nat.blt i N = true)
    (hx : opD t x = some (.v (.int k1 n))) (hy : opD t y = some (.v (.int k2 c))) (hti : ti tab T = some ti0) (hs : ti0.d = .slice e) (hie : ti tab e = some ie) (hks : ie.size = kk) (hbb : ie.bytes = bb) (hz : ie.zero.length = kk) (hb1 : Nat.ble 1 bb = true) (hk1 : Nat.ble 1 kk = true) (h1z : ie.zero.all one = true)
    (hok : mkOK bb n c = true) (hz0 : ∀ H, RepC H x0 ie.zero)
    (g : ∀ z : Z3, opsD P C N ops rest ⟨(i, .v (SL z)) :: t, (0, .row kk (List.replicate n.toNat x0) (SL z)) :: h, k⟩ Q) : opsD P C N ops (o :: rest) ⟨t, h, k⟩ Q :=
  ops_val (s := ⟨t, h, k⟩) hw hd hi fun H a w core kt => by
    subst hks; subst hbb
    obtain ⟨h0, hnc, hcb⟩ := mkOK_of hok
    have hb1' := Nat.le_of_ble_eq_true hb1
    have hk1' := Nat.le_of_ble_eq_true hk1
    obtain ⟨d0, u0, u1⟩ := run_underlying (w := w) (ti_ok hT hti)
    have e0 := td_slice (u1.trans hs); subst e0
    have hTe := ti_ok hT hie
    obtain ⟨tif, zz, t1, t2, t3, t4, t5⟩ := run_typeInfo (w := w) hTe
    obtain ⟨zv, hz1, hz2⟩ := run_zeroValue (w := w) hTe
    have hone : ∀ u ∈ ie.zero, one u = true := by simpa [List.all_eq_true] using h1z
    have hc : c ≤ 140737488355328 := by
      have : c * 1 ≤ c * (ie.bytes : Int) := Int.mul_le_mul_of_nonneg_left (by omega) (by omega)
      omega
    have wl : IntKind.i64.wrap n = n := by rw [IntKind.wrap_i64]; omega
    have wc : IntKind.i64.wrap c = c := by rw [IntKind.wrap_i64]; omega
    let xs := List.replicate n.toNat x0
    have hxl : xs.length = n.toNat := by simp [xs]
    refine ⟨SL (some ⟨w.heap.size, 0, none⟩, n.toNat, c.toNat), w.alloc (.cells ((List.replicate n.toNat ie.zero).flatten ++ (List.replicate (c.toNat - n.toNat) ie.zero).flatten).toArray e), H, .v (SL (some ⟨w.heap.size, 0, none⟩, n.toNat, c.toNat)), (0, .row ie.size xs (SL (some ⟨w.heap.size, 0, none⟩, n.toNat, c.toNat))) :: h, k, ?_, Hp.le_refl H, ?_, rep_v rfl, g _⟩
    · unfold execOp
      rw [ho]
      refine exec_v ?_
      rw [rep_v_inv (opD_ok kt hx), rep_v_inv (opD_ok kt hy)]
      unfold Instr.makeSlice
      rw [run_bind_ok u0]
      simp only []
      rw [run_bind_ok (a := n) rfl, run_bind_ok (a := c) rfl, run_bind_ok t1]
      simp only [wl, wc, t3]
      rw [if_neg (by
        simp only [Bool.or_eq_true, decide_eq_true_eq, not_or, Int.not_lt, Int.not_le]
        refine ⟨⟨⟨by omega, ?_⟩, by omega⟩, by omega⟩
        have : (ie.bytes : Int) * c ≤ 140737488355328 := by rw [Int.mul_comm]; exact hcb
        show (ie.bytes : Int) * c ≤ 2 ^ 48
        omega)]
      rw [run_bind_ok askRoom_run, run_bind_ok (run_sizeOf hTe)]
      have hcell : ∀ zr : Array Value, (c.toNat * ie.size = 0 ∨ zr.toList = ie.zero) → (Array.range (c.toNat * ie.size)).map (zr[· % zr.size]!) = ((List.replicate n.toNat ie.zero).flatten ++ (List.replicate (c.toNat - n.toNat) ie.zero).flatten).toArray := by
        intro zr hzr
        apply Array.ext'
        have e1 : (List.replicate n.toNat ie.zero).flatten ++ (List.replicate (c.toNat - n.toNat) ie.zero).flatten = (List.replicate c.toNat ie.zero).flatten := by
          rw [← List.flatten_append, List.replicate_append_replicate, show n.toNat + (c.toNat - n.toNat) = c.toNat by omega]
        rw [e1]
        apply List.ext_getElem?
        intro i
        simp only [Array.toList_map, Array.toList_range, List.getElem?_map]
        rcases hzr with q | q
        · have hc0 : c.toNat = 0 := by
            rcases Nat.mul_eq_zero.1 q with q | q
            · exact q
            · omega
          rw [hc0]; simp
        · have hsz : zr.size = ie.size := by rw [← Array.length_toList, q, hz]
          by_cases hlt : i < c.toNat * ie.size
          · rw [List.getElem?_range hlt, repl_at c.toNat i (by rw [hz]; exact hlt)]
            simp only [Option.map_some]
            have hml : i % zr.size < zr.size := Nat.mod_lt _ (by omega)
            rw [← q, Array.length_toList, Array.getElem?_toList, getElem!_pos zr _ hml, getElem?_pos zr _ hml]
          · rw [List.getElem?_eq_none (by simpa using hlt), List.getElem?_eq_none (by rw [zero_cells hz]; omega)]
            rfl
      by_cases q : c.toNat * ie.size = 0
      · rw [if_pos q, run_bind_ok (a := (#[] : Array Value)) rfl, hcell #[] (.inl q)]
        rfl
      · rw [if_neg q]
        simp only [run_bind, hz1, run_pure]
        rw [hcell zv.cells (.inr hz2)]
        rfl
    · have := core.newRow (xs := xs) (us := (List.replicate n.toNat ie.zero).flatten) (rest := (List.replicate (c.toNat - n.toNat) ie.zero).flatten) (kk := ie.size) (m := c.toNat) (T := e)
        (flat_rep hz (hz0 H) hone n.toNat) (by omega) (by simp only [List.length_append, zero_cells hz]; rw [← Nat.add_mul]; exact Nat.mul_le_mul_right _ (by omega)) (fun q => by
          have : n.toNat = 0 := by omega
          simp [xs, this])
      rw [hxl] at this
      exact this
theorem p_makeR2 {i kk bb : Nat} {T e : TypeId} {x y : Operand} {k1 k2 : IntKind} {n c : Int} {x0 : D} {zs : List D} {ti0 ie : TI} (hT : TabOK P tab) (ho : o.op = .makeSlice T x y) (hw : wantD ops t o = some true) (hd : o.dst = some i) (hi : Nat.blt i N = true)
    (hx : opD t x = some (.v (.int k1 n))) (hy : opD t y = some (.v (.int k2 c))) (hti : ti tab T = some ti0) (hs : ti0.d = .slice e) (hie : ti tab e = some ie) (hks : ie.size = kk) (hbb : ie.bytes = bb) (hz : ie.zero.length = kk) (hb1 : Nat.ble 1 bb = true) (hk1 : Nat.ble 1 kk = true) (h1z : ie.zero.all one = true)
    (hok : mkOK bb n c = true) (hz0 : ∀ H, RepC H x0 ie.zero) (em : List.replicate n.toNat x0 = zs)
    (g : ∀ z : Z3, opsD P C N ops rest ⟨(i, .v (SL z)) :: t, (0, .row kk zs (SL z)) :: h, k⟩ Q) : opsD P C N ops (o :: rest) ⟨t, h, k⟩ Q := by
  subst em
  exact p_makeR hT ho hw hd hi hx hy hti hs hie hks hbb hz hb1 hk1 h1z hok hz0 g
theorem set_map {α : Type} {e : α → D} {xs : List α} {j : Nat} {v : α} : (xs.map e).set j (e v) = (xs.set j v).map e := List.map_set.symm
theorem idx_mlt {α : Type} {e : α → D} {xs : List α} {j : Int} {x : α} (h : idx xs j = some x) : j.toNat < (xs.map e).length := by simpa using idx_lt h
/-- An element's place in a row. -/
theorem p_elemR {i r kk : Nat} {T e : TypeId} {x ix : Operand} {xs : List D} {z : Z3} {ik : IntKind} {jx : Int} {d : D} {ti0 tie : TI} (j : Nat) (hT : TabOK P tab) (ho : o.op = .indexAddr T x ix) (hw : wantD ops t o = some true) (hd : o.dst = some i) (hi : Nat.blt i N = true)
    (hx : opD t x = some (.v (SL z))) (hj : h[j]? = some (r, .row kk xs (SL z))) (hix : opD t ix = some (.v (.int ik jx))) (hti : ti tab T = some ti0) (hs : ti0.d = .slice e) (hte : ti tab e = some tie) (hk : tie.size = kk) (h0 : 0 ≤ jx) (hb : xs[jx.toNat]? = some d)
    (g : opsD P C N ops rest ⟨(i, .v (PE z (jx.toNat * kk))) :: t, h, k⟩ Q) : opsD P C N ops (o :: rest) ⟨t, h, k⟩ Q :=
  ops_val (s := ⟨t, h, k⟩) hw hd hi fun H a w core kt => by
    obtain ⟨dd, h1, h2⟩ := run_underlying (w := w) (ti_ok hT hti)
    have := td_slice (h2.trans hs); subst this
    obtain ⟨hlt, _⟩ := List.getElem?_eq_some_iff.1 hb
    rcases core.blks _ (List.mem_of_getElem? hj) with ⟨ad, _, e2⟩ | ⟨b, m, us, rest', TT, e1, g0, hm, g1, g2, g3, g4⟩
    · subst e2; simp at hb
    refine ⟨PE z (jx.toNat * kk), w, H, _, h, k, ?_, Hp.le_refl H, core, rep_v rfl, g⟩
    unfold execOp
    rw [ho]
    refine exec_v ?_
    rw [rep_v_inv (opD_ok kt hx), rep_v_inv (opD_ok kt hix)]
    obtain ⟨z1, z2, z3⟩ := z
    simp only [SL, Value.slice.injEq] at e1
    obtain ⟨rfl, rfl, rfl⟩ := e1
    unfold Instr.indexAt
    rw [run_bind_ok (a := (ik, jx)) rfl]
    simp only []
    have hlt2 : jx < (xs.length : Int) := by omega
    simp only [SL, PE, run_bind, h1, run_pure, run_sizeOf (ti_ok hT hte), hk, if_pos (show 0 ≤ jx ∧ jx < (xs.length : Int) from ⟨h0, hlt2⟩), addr_add, Option.map_some]
theorem p_loadR {i r kk jn : Nat} {T : TypeId} {x : Operand} {xs : List D} {z : Z3} {d0 d : D} {ti0 : TI} (j : Nat) (hT : TabOK P tab) (ho : o.op = .load T x) (hw : wantD ops t o = some true) (hd : o.dst = some i) (hi : Nat.blt i N = true)
    (hx : opD t x = some (.v (PE z (jn * kk)))) (hj : h[j]? = some (r, .row kk xs (SL z))) (hti : ti tab T = some ti0) (hb : xs[jn]? = some d0) (e : partD ti0 (dcells d0) 0 = some d) (hne : dcells d0 ≠ [])
    (g : opsD P C N ops rest ⟨(i, d) :: t, h, k⟩ Q) : opsD P C N ops (o :: rest) ⟨t, h, k⟩ Q :=
  ops_val (s := ⟨t, h, k⟩) hw hd hi fun H a w core kt => by
    rcases core.blks _ (List.mem_of_getElem? hj) with ⟨ad, _, e2⟩ | ⟨b, m, us, rest', TT, e1, g0, hm, g1, g2, g3, g4⟩
    · subst e2; simp at hb
    obtain ⟨vs, f1, f2, f3, f4, f5⟩ := flat_at g2 hb
    have hrow : RowAt w b (jn * kk) vs := fun q u eq => by
      have := (row_block g1).drop (jn * kk)
      rw [Nat.zero_add] at this
      refine this q u ?_
      rw [List.drop_append_of_le_length (by omega)]
      have hq := (List.getElem?_eq_some_iff.1 eq).1
      rw [← f4, List.getElem?_take, if_pos (by omega)] at eq
      rw [List.getElem?_append_left (by rw [List.length_drop]; omega)]
      exact eq
    obtain ⟨v, h5, h6⟩ := run_loadAt (P := P) (T := T) (n := 0) (ti_ok hT hti) hrow (repC_cells hne f2 f3) e
    refine ⟨v, w, H, d, h, k, ?_, Hp.le_refl H, core, h6, g⟩
    unfold execOp
    rw [ho]
    refine exec_v ?_
    rw [rep_v_inv (opD_ok kt hx)]
    obtain ⟨z1, z2, z3⟩ := z
    simp only [SL, Value.slice.injEq] at e1
    obtain ⟨rfl, rfl, rfl⟩ := e1
    simpa [PE, addr_add] using h5
/-- A store into a row. -/
theorem p_storeR {r kk jn : Nat} {T : TypeId} {x y : Operand} {xs xs' : List D} {z : Z3} {d : D} {ti0 : TI} (j : Nat) (hT : TabOK P tab) (ho : o.op = .store T x y) (hw : wantD ops t o = some true) (hd : o.dst = none)
    (hx : opD t x = some (.v (PE z (jn * kk)))) (hj : h[j]? = some (r, .row kk xs (SL z))) (hti : ti tab T = some ti0) (hy : opD t y = some d) (hs : stor d = true) (hsz : ti0.size = kk) (hdl : Nat.beq (dcells d).length kk = true) (hlt : jn < xs.length) (em : xs.set jn d = xs')
    (g : opsD P C N ops rest ⟨t, h.set j (r, .row kk xs' (SL z)), k⟩ Q) : opsD P C N ops (o :: rest) ⟨t, h, k⟩ Q :=
  ops_unit (s := ⟨t, h, k⟩) hw hd fun H a w core kt => by
    subst em
    have hbl := core.blks _ (List.mem_of_getElem? hj)
    rcases hbl with ⟨ad, _, e2⟩ | ⟨b, m, us, rest', TT, e1, g0, hm, g1, g2, g3, g4⟩
    · subst e2; simp at hlt
    have hry := opD_ok kt hy
    have hv := stor_cells hs hry
    have hlen := reps_length hv
    have hkl := Nat.eq_of_beq_eq_true hdl
    have hul := flat_len g2
    have hvl : (a.eval y).cells.toList.length = kk := by omega
    obtain ⟨z1, z2, z3⟩ := z
    simp only [SL, Value.slice.injEq] at e1
    obtain ⟨rfl, rfl, rfl⟩ := e1
    have hjm : jn * kk + kk ≤ us.length := by
      rw [hul]
      have := Nat.mul_le_mul_right kk (show jn + 1 ≤ xs.length from hlt)
      rw [Nat.add_mul] at this; omega
    have hone := reps_one hv
    obtain ⟨w', s1, s2, s3, s4, s5⟩ := run_storeCells (P := P) (b := b) (off := jn * kk) (T := TT) (a.eval y).cells.toList 0 w (us ++ rest') g1 (by rw [hvl, List.length_append]; omega) hone
    rw [Nat.add_zero, hvl] at s5
    have ecells : (us ++ rest').take (jn * kk) ++ ((a.eval y).cells.toList ++ (us ++ rest').drop (jn * kk + kk)) = (us.take (jn * kk) ++ ((a.eval y).cells.toList ++ us.drop (jn * kk + kk))) ++ rest' := by
      rw [List.take_append_of_le_length (by omega), List.drop_append_of_le_length (by omega)]
      simp
    rw [ecells] at s5
    have hrc : RepC H d (a.eval y).cells.toList := hry.1
    have c1 : Core C H ([(r, .row kk xs (.slice (some ⟨b, 0, none⟩) xs.length z3))] ++ h.eraseIdx j) ([] ++ k) w := core.perm (perm_at hj) (List.Perm.refl _)
    have hclaim : claims [(r, Blk.row kk xs (.slice (some ⟨b, 0, none⟩) xs.length z3))] [] = [b] := by simp [claims, blkClaim, sliceClaim, hm]
    have c2 : Core ⟨H, w, claims [(r, Blk.row kk xs (.slice (some ⟨b, 0, none⟩) xs.length z3))] []⟩ H [(r, .row kk (xs.set jn d) (.slice (some ⟨b, 0, none⟩) xs.length z3))] [] w' := by
      rw [hclaim]
      refine ⟨fun a v0 ea => ?_, Hp.le_refl H, fun _ _ x => .inl x, fun i _ hm => s4 i (by simpa using hm), by show w.heap.size ≤ w'.heap.size; omega, ?_, by simp, ?_, ?_, s2⟩
      · have hcell := core.ag a v0 ea
        by_cases qb : a.block = b
        · obtain ⟨ab, ao, as⟩ := a
          simp only at qb; subst qb
          cases as with
          | some sp => simp [World.cell?, g1] at hcell
          | none => rw [g4 ao] at ea; cases ea
        · simp only [World.cell?] at hcell ⊢
          rw [s4 _ qb]; exact hcell
      · intro p hp
        simp only [List.mem_singleton] at hp; subst hp
        refine .inr ⟨b, z3, _, rest', TT, by simp, by simpa using g0, hm, s5, flat_set hvl hrc hone g2 hlt, ?_, g4⟩
        have := congrArg List.length ecells
        simp only [List.length_append, List.length_take, List.length_drop] at this g3 ⊢
        omega
      · simp [claims, blkClaim, sliceClaim, hm]
      · intro x hx; simp [claims, blkClaim, sliceClaim, hm] at hx; subst hx; exact .inl (by simp)
    refine ⟨w', H, h.set j (r, .row kk (xs.set jn d) (.slice (some ⟨b, 0, none⟩) xs.length z3)), k, ?_, Hp.le_refl H, (Core.call c1 c2).perm (perm_set hj) (List.Perm.refl _), g⟩
    unfold execOp
    rw [ho]
    have hrun : (Instr.storeAt T (a.eval x) (a.eval y)).run P w = .ok () w' := by
      rw [rep_v_inv (opD_ok kt hx)]
      unfold Instr.storeAt
      simp only [PE, Option.map_some, addr_add, Nat.zero_add]
      rw [run_bind_ok (a := (⟨b, jn * kk, none⟩ : Addr)) rfl]
      unfold storeVar
      rw [run_bind_ok (run_sizeOf (ti_ok hT hti)), if_neg (by rw [← Array.length_toList, hvl, hsz]; simp)]
      exact s1
    show ((Instr.storeAt T (a.eval x) (a.eval y)) >>= fun _ => pure Next.skip).run P w = _
    rw [run_bind_ok hrun]; rfl
end
end Go.Proofs.Ytpeimfcmhedjmaa.Ab
/- Loops over lists; two lists place by place. Over any program. -/
namespace Go.Proofs.Ytpeimfcmhedjmaa.Ab
open Go
set_option linter.all false
theorem loop_pre {σ τ α β : Type} {f : σ → Option (Step σ τ)} (l : List β) (g : List β → α) (st : α → Nat → σ) (fin : α → τ)
    (h1 : ∀ pre x post, l = pre ++ x :: post → f (st (g pre) pre.length) = some (.next (st (g (pre ++ [x])) (pre.length + 1))))
    (h2 : f (st (g l) l.length) = some (.done (fin (g l)))) : loopM f (st (g []) 0) = some (fin (g l)) := by
  have key : ∀ (post pre : List β), l = pre ++ post → loopM f (st (g pre) pre.length) = some (fin (g l)) := by
    intro post
    induction post with
    | nil => intro pre h; rw [List.append_nil] at h; subst h; exact loopM_done h2
    | cons x post ih =>
      intro pre h
      rw [loopM_next (h1 pre x post h)]
      have := ih (pre ++ [x]) (by simp [h])
      simpa using this
  simpa using key l [] rfl
/-- The same, with what follows. -/
theorem loop_list {σ τ α β ρ : Type} {f : σ → Option (Step σ τ)} {s0 : σ} {k : τ → Option ρ} {r : Option ρ} (l : List β) (g : List β → α) (st : α → Nat → σ) (fin : α → τ) (h0 : st (g []) 0 = s0)
    (h1 : ∀ pre x post, l = pre ++ x :: post → f (st (g pre) pre.length) = some (.next (st (g (pre ++ [x])) (pre.length + 1))))
    (h2 : f (st (g l) l.length) = some (.done (fin (g l)))) (hk : k (fin (g l)) = r) : Option.bind (loopM f s0) k = r := by
  subst h0
  rw [loop_pre l g st fin h1 h2]; exact hk
theorem idx_pre {β : Type} (pre : List β) (x : β) (post : List β) : idx (pre ++ x :: post) (pre.length : Int) = some x := by
  rw [idx_nat]; simp
theorem lt_pre {β : Type} {l pre : List β} {x : β} {post : List β} (h : l = pre ++ x :: post) : decide ((pre.length : Int) < (l.length : Int)) = true := by
  subst h; simp; omega
theorem lt_end {β : Type} (l : List β) : decide ((l.length : Int) < (l.length : Int)) = false := by simp
theorem inc_pre {β : Type} {l pre : List β} {x : β} {post : List β} (h : l = pre ++ x :: post) (hb : l.length ≤ 4611686018427387904) : IntKind.i64.wrap ((pre.length : Int) + 1) = ((pre.length + 1 : Nat) : Int) := by
  have : pre.length < l.length := by subst h; simp
  rw [IntKind.wrap_i64]; omega
theorem wrap_id {n : Int} (h : -9223372036854775808 ≤ n) (k : n < 9223372036854775808) : IntKind.i64.wrap n = n := by rw [IntKind.wrap_i64]; omega
theorem wrap_nat {n : Nat} (k : n < 4611686018427387904) : IntKind.i64.wrap (n : Int) = (n : Int) := wrap_id (by omega) (by omega)
theorem pre_mem {β : Type} {l pre : List β} {x : β} {post : List β} (h : l = pre ++ x :: post) : x ∈ l := by subst h; simp
theorem app_len {β : Type} {bb : Nat} {xs ys : List β} (hb : bb ≤ 4096) (h : xs.length + ys.length ≤ 8388608) : app bb xs ys = some (xs ++ ys) := by
  refine app_of ?_
  have := Nat.mul_le_mul h hb
  omega
def all2 {β γ : Type} (t : β → γ → Bool) : List β → List γ → Bool
  | [], [] => true
  | x :: l, y :: m => t x y && all2 t l m
  | _, _ => false
theorem all2_len {β γ : Type} {t : β → γ → Bool} : ∀ {l : List β} {m : List γ}, l.length ≠ m.length → all2 t l m = false
  | [], [], h => absurd rfl h
  | [], _ :: _, _ => rfl
  | _ :: _, [], _ => rfl
  | x :: l, y :: m, h => by
    show (t x y && all2 t l m) = false
    rw [all2_len (by simpa using h), Bool.and_false]
theorem loop_all2 {β γ : Type} (t : β → γ → Bool) {l : List β} {m : List γ} (hl : l.length = m.length) {f : Int → Option (Step Int (Unit ⊕ Bool))}
    (h1 : ∀ p x q p' y q', l = p ++ x :: q → m = p' ++ y :: q' → p.length = p'.length → f (p.length : Int) = some (bif t x y then .next ((p.length + 1 : Nat) : Int) else .done (.inr false)))
    (h2 : f (l.length : Int) = some (.done (.inl ()))) : loopM f (0 : Int) = some (bif all2 t l m then .inl () else .inr false) := by
  have key : ∀ (q p : List β) (q' p' : List γ), l = p ++ q → m = p' ++ q' → p.length = p'.length → loopM f (p.length : Int) = some (bif all2 t q q' then .inl () else .inr false) := by
    intro q
    induction q with
    | nil =>
      intro p q' p' e e' hp
      have : q' = [] := by
        subst e e'
        simp only [List.append_nil, List.length_append] at hl
        exact List.eq_nil_of_length_eq_zero (by omega)
      subst this
      rw [List.append_nil] at e; subst e
      rw [loopM_done h2]; rfl
    | cons x q ih =>
      intro p q' p' e e' hp
      cases q' with
      | nil =>
        subst e e'
        simp only [List.append_nil, List.length_append, List.length_cons] at hl
        omega
      | cons y q' =>
        have h := h1 p x q p' y q' e e' hp
        show _ = some (bif (t x y && all2 t q q') then _ else _)
        cases ht : t x y
        · rw [ht, cond_false] at h
          rw [loopM_done h, Bool.false_and]; rfl
        · rw [ht, cond_true] at h
          rw [loopM_next h, Bool.true_and]
          have := ih (p ++ [x]) q' (p' ++ [y]) (by simp [e]) (by simp [e']) (by simp [hp])
          simpa using this
  exact key l [] m [] rfl rfl rfl
theorem pairs {β γ : Type} (t : β → γ → Bool) (l : List β) (m : List γ) {f : Int → Option (Step Int (Unit ⊕ Bool))}
    (h1 : ∀ p x q p' y q', l = p ++ x :: q → m = p' ++ y :: q' → p.length = p'.length → f (p.length : Int) = some (bif t x y then .next ((p.length + 1 : Nat) : Int) else .done (.inr false)))
    (h2 : f (l.length : Int) = some (.done (.inl ()))) :
    (bif ((l.length : Int) != (m.length : Int)) then some false else (Option.bind (α := (Unit) ⊕ (Bool)) (loopM f (0 : Int)) (Sum.elim (fun _ => some true) (fun r => some r)))) = some (all2 t l m) := by
  by_cases hl : l.length = m.length
  · rw [show ((l.length : Int) != (m.length : Int)) = false by simp [hl], cond_false, loop_all2 t hl h1 h2, Option.bind_some]
    cases all2 t l m <;> rfl
  · rw [show ((l.length : Int) != (m.length : Int)) = true by simpa using fun h => hl (by omega), cond_true, all2_len hl]
theorem idx_pre2 {β : Type} {m p : List β} {x : β} {q : List β} {n : Nat} (h : m = p ++ x :: q) (hn : n = p.length) : idx m (n : Int) = some x := by
  subst h hn; exact idx_pre _ _ _
theorem all2_refl {β : Type} {t : β → β → Bool} : ∀ {l : List β}, (∀ x ∈ l, t x x = true) → all2 t l l = true
  | [], _ => rfl
  | x :: l, h => by
    show (t x x && all2 t l l) = true
    rw [h x (by simp), all2_refl fun y hy => h y (List.mem_cons_of_mem _ hy)]; rfl
/-- A loop that looks at each of a list. -/
theorem loop_all {β : Type} {l : List β} {f : Int → Option (Step Int (Unit ⊕ Bool))} (h1 : ∀ p x q, l = p ++ x :: q → f (p.length : Int) = some (.next ((p.length + 1 : Nat) : Int))) (h2 : f (l.length : Int) = some (.done (.inl ()))) : loopM f (0 : Int) = some (.inl ()) :=
  loop_pre l (fun _ => ()) (fun _ n => (n : Int)) (fun _ => .inl ()) (fun p x q h => h1 p x q h) h2
end Go.Proofs.Ytpeimfcmhedjmaa.Ab
/- Twins that reckon: loops of so many rounds. Over any program. -/
namespace Go.Proofs.Ytpeimfcmhedjmaa.Ab
open Go
set_option linter.all false
def loopC {σ τ : Type} (n : Nat) (f : σ → Option (Step σ τ)) (s : σ) : Option τ := loopN f n s
theorem Le.loopC {σ τ : Type} {n : Nat} {f f' : σ → Option (Step σ τ)} {s : σ} (h : ∀ s, Le (f s) (f' s)) : Le (loopC n f s) (loopM f' s) := fun r e => by
  have key : ∀ n s, loopN f n s = some r → loopN f' n s = some r := by
    intro n
    induction n with
    | zero => intro s e; cases e
    | succ n ih =>
      intro s e
      unfold loopN at e ⊢
      cases q : f s with
      | none => rw [q] at e; cases e
      | some x =>
        rw [q] at e
        rw [h s x q]
        cases x with
        | next s' => exact ih s' e
        | done t => exact e
  exact loopM_of (key n s e)
theorem Le.of {α : Type} {m m' : Option α} {r : α} (h : Le m m') (e : m = some r) : m' = some r := h r e
end Go.Proofs.Ytpeimfcmhedjmaa.Ab
/- Drawn regions whose events give rows. Over any program. -/
namespace Go.Proofs.Ytpeimfcmhedjmaa.Ab
open Go
set_option linter.all false
abbrev RL := List (Nat × Nat × List D)
def isR (rl : RL) (e : Nat) : Bool := rl.any fun x => x.1 == e
/-- The tokens that are there. -/
def rws (rl : RL) (S : Nat → Bool) (vals : Nat → Value) : List (Nat × Blk) :=
  match rl with
  | [] => []
  | (e, kk, xs) :: rl => bif S e then (0, .row kk xs (vals e)) :: rws rl S vals else rws rl S vals
theorem rws_congr {S S' : Nat → Bool} {vals vals' : Nat → Value} : ∀ {rl : RL}, (∀ e, isR rl e = true → S e = S' e ∧ (S e = true → vals e = vals' e)) → rws rl S vals = rws rl S' vals'
  | [], _ => rfl
  | (e, kk, xs) :: rl, h => by
    have h1 := h e (by simp [isR])
    have h2 := rws_congr (rl := rl) (S := S) (S' := S') (vals := vals) (vals' := vals') fun x hx => h x (by simp only [isR, List.any_cons, Bool.or_eq_true] at hx ⊢; exact .inr hx)
    simp only [rws, h1.1, h2]
    cases hs : S' e with
    | true => rw [h1.2 (h1.1.trans hs)]
    | false => rfl
theorem rws_none {vals : Nat → Value} : ∀ {rl : RL}, rws rl (fun _ => false) vals = []
  | [] => rfl
  | (e, kk, xs) :: rl => by simp only [rws, cond_false]; exact rws_none
theorem rws_all {S : Nat → Bool} {vals : Nat → Value} : ∀ {rl : RL}, (∀ e, isR rl e = true → S e = true) → rws rl S vals = rl.map fun x => (0, .row x.2.1 x.2.2 (vals x.1))
  | [], _ => rfl
  | (e, kk, xs) :: rl, h => by
    have h2 := rws_all (rl := rl) (S := S) (vals := vals) fun x hx => h x (by simp only [isR, List.any_cons, Bool.or_eq_true] at hx ⊢; exact .inr hx)
    simp only [rws, h e (by simp [isR]), cond_true, h2, List.map_cons]
theorem rws_new {S : Nat → Bool} {vals : Nat → Value} {i : Nat} {v : Value} {kk : Nat} {xs : List D} (hS : S i = false) : ∀ {rl : RL}, (i, kk, xs) ∈ rl → (rl.map (·.1)).Nodup →
    (rws rl (Jx.upd S i true) (Jx.upd vals i v)).Perm (rws rl S vals ++ [(0, .row kk xs v)])
  | [], h, _ => by cases h
  | (e, k', xs') :: rl, h, hn => by
    simp only [List.map_cons, List.nodup_cons] at hn
    by_cases he : e = i
    · subst he
      have hin : (k', xs') = (kk, xs) := by
        rcases List.mem_cons.1 h with h1 | h1
        · simp only [Prod.mk.injEq, true_and] at h1 ⊢; exact ⟨h1.1.symm, h1.2.symm⟩
        · exact absurd (List.mem_map.2 ⟨_, h1, rfl⟩) hn.1
      simp only [Prod.mk.injEq] at hin
      obtain ⟨rfl, rfl⟩ := hin
      have hrest : rws rl (Jx.upd S e true) (Jx.upd vals e v) = rws rl S vals := rws_congr fun x hx => by
        have : x ≠ e := fun q => by
          subst q
          obtain ⟨y, hy, hq⟩ := List.any_eq_true.1 hx
          exact hn.1 (List.mem_map.2 ⟨y, hy, by simpa using hq⟩)
        exact ⟨Jx.upd_ne _ _ this, fun _ => Jx.upd_ne _ _ this⟩
      simp only [rws, Jx.upd_same, cond_true, hS, cond_false, hrest]
      exact (List.perm_append_singleton _ _).symm
    · have ih := rws_new (v := v) (vals := vals) hS (rl := rl) (by
        rcases List.mem_cons.1 h with h1 | h1
        · simp only [Prod.mk.injEq] at h1; exact absurd h1.1.symm he
        · exact h1) hn.2
      simp only [rws, Jx.upd_ne _ _ he]
      cases S e with
      | true => simp only [cond_true, List.cons_append]; exact ih.cons _
      | false => simpa using ih
def dR (rl : RL) (e : Nat) (d : D) (v : Value) : D := bif isR rl e then .v v else d
theorem dR_no {rl : RL} {e : Nat} {d : D} {v : Value} (h : isR rl e = false) : dR rl e d v = d := by unfold dR; rw [h]; rfl
theorem dR_yes {rl : RL} {e : Nat} {d : D} {v : Value} (h : isR rl e = true) : dR rl e d v = .v v := by unfold dR; rw [h]; rfl
section
variable (P : Program) (C : Ctx) (N : Nat) (l : List Oper) (m : Nat) (De : Nat → D) (al : AL) (rl : RL) (pre : List (List Nat)) (ev : List Nat) (h : List (Nat × Blk)) (k : List (Nat × Value)) (Q : Exit → S → Prop)
def Cr (H0 : Hp) (S : Nat → Bool) (vals : Nat → Value) (w : World) : Prop :=
  ∃ H, H0.le H ∧ Core C H (h ++ (allocs al S vals ++ rws rl S vals)) k w ∧ (∀ e, S e = true → isR rl e = true → ∃ z : Z3, vals e = SL z) ∧ ∀ e, S e = true → ev.contains e = true → (isAl al e = true → vals e = .pointer (some ⟨blk (vals e), 0, none⟩)) ∧ (isAl al e = false → Rep H (dR rl e (De e) (vals e)) (vals e))
def dEr (bs : Nat → Value) (e : Nat) : D := bif isAl al e then .ptr (blk (bs e)) 0 else dR rl e (De e) (bs e)
def TOKr (H0 : Hp) (bs : Nat → Value) (vals : Nat → Value) (te : TE) (a : Act) : Prop :=
  ∀ j d o, look3 te j = some (d, o) → ∃ v, a.tmps[j]? = some v ∧ (o = none → ∀ H, H0.le H → Rep H d v) ∧ ∀ e, o = some e → v = vals e ∧ d = dEr De al rl bs e ∧ ev.contains e = true
def finR (H0 : Hp) (vals : Nat → Value) (a : Act) : Prop := ∀ S w, (∀ i, ev.contains i = true → S i = true) → Cr C De al rl ev h k H0 S vals w → wpList P l.toArray (QD C N Q) (l.drop m) a w
def Zr (bs : Nat → Value) (i : Nat) (rest : List Oper) (te : TE) : Prop :=
  ∀ H0 vals a, (∀ e, bs e = vals e) → TOKr De al rl ev H0 bs vals te a → a.tmps.size = N → a.defers = [] →
    Jx.Lx P l.toArray (Cr C De al rl ev h k H0) (fun i => pre.getD i []) (fun i => ev.contains i) vals (finR P C N l m De al rl ev h k Q H0 vals) i rest a
end
section
variable {P : Program} {C : Ctx} {N : Nat} {l : List Oper} {m : Nat} {De : Nat → D} {al : AL} {rl : RL} {pre : List (List Nat)} {ev : List Nat} {h : List (Nat × Blk)} {k : List (Nat × Value)} {Q : Exit → S → Prop} {tab : List (Option TI)} {bs : Nat → Value} {i : Nat} {o : Oper} {rest : List Oper} {te : TE}
theorem vis_tokr {H0 H : Hp} {vals : Nat → Value} {a : Act} {p : List Nat} (hbs : ∀ e, bs e = vals e) (kt : TOKr De al rl ev H0 bs vals te a) (hle : H0.le H)
    (hev : ∀ e, p.contains e = true → ev.contains e = true → (isAl al e = true → vals e = .pointer (some ⟨blk (vals e), 0, none⟩)) ∧ (isAl al e = false → Rep H (dR rl e (De e) (vals e)) (vals e))) : TOK H (vis p te) a := by
  obtain rfl : bs = vals := funext hbs
  intro j d e
  obtain ⟨d', o, h1, h2⟩ := look_vis e
  obtain ⟨v, h3, h4, h5⟩ := kt j d' o h1
  refine ⟨v, h3, ?_⟩
  rcases h2 with ⟨rfl, rfl⟩ | ⟨e0, rfl, hp, rfl⟩ | rfl
  · exact h4 rfl H hle
  · obtain ⟨rfl, rfl, h6⟩ := h5 e0 rfl
    have h7 := hev e0 hp h6
    unfold dEr
    cases ha : isAl al e0 with
    | true => simp only [cond_true]; rw [h7.1 ha]; exact rep_cell (by simp [RepC, blk]) rfl rfl
    | false => simp only [cond_false]; exact h7.2 ha
  · exact ⟨by simp [RepC], by cases v <;> rfl⟩
theorem TOKr.put {H0 : Hp} {vals : Nat → Value} {a : Act} (kt : TOKr De al rl ev H0 bs vals te a) {j : Nat} {d : D} {o : Option Nat} {v : Value} (hj : j < a.tmps.size) (h1 : o = none → ∀ H, H0.le H → Rep H d v) (h2 : ∀ e, o = some e → v = vals e ∧ d = dEr De al rl bs e ∧ ev.contains e = true) :
    TOKr De al rl ev H0 bs vals ((j, d, o) :: te) (a.put (some j) v) := by
  intro j' d' o' e
  simp only [look3] at e
  simp only [Act.put]
  cases hb : Nat.beq j j' with
  | true =>
    rw [hb] at e; simp at e
    obtain ⟨rfl, rfl⟩ := e
    have := Nat.eq_of_beq_eq_true hb; subst this
    exact ⟨v, by simp [hj], h1, h2⟩
  | false =>
    rw [hb] at e; simp at e
    have hne : j ≠ j' := Nat.ne_of_beq_eq_false hb
    obtain ⟨u, h3, h4⟩ := kt j' d' o' e
    exact ⟨u, by rw [Array.getElem?_setIfInBounds_ne hne]; exact h3, h4⟩
theorem vis_nilr {H0 : Hp} {vals : Nat → Value} {a : Act} (hbs : ∀ e, bs e = vals e) (kt : TOKr De al rl ev H0 bs vals te a) : TOK H0 (vis [] te) a := vis_tokr hbs kt (Hp.le_refl _) fun e he => by simp at he
theorem zr_nil {t' : List (Nat × D)} {h' : List (Nat × Blk)} (htl : ∀ e, isR rl e = true → ev.contains e = true) (e1 : vis ev te = t') (e2 : (h ++ ((al.map fun x => (blk (bs x.1), Blk.cells x.2.1 x.2.2)) ++ rl.map fun x => (0, Blk.row x.2.1 x.2.2 (bs x.1)))) = h') (hal : ∀ e, isAl al e = true → ev.contains e = true) (g : (∀ e, isR rl e = true → ∃ z : Z3, bs e = SL z) → opsD P C N l (l.drop m) ⟨t', h', k⟩ Q) : Zr P C N l m De al rl pre ev h k Q bs i [] te := by
  intro H0 vals a hbs kt hN hdf S w hS hC
  obtain rfl : bs = vals := funext hbs
  obtain ⟨H, hle, c, hz, hev⟩ := hC
  subst e1; subst e2
  refine g (fun e he => hz e (hS e (htl e he)) he) a w ⟨H, ?_, vis_tokr hbs kt hle fun e _ he => hev e (hS e he) he, hN, hdf⟩
  rw [allocs_all fun e he => hS e (hal e he), rws_all fun e he => hS e (htl e he)] at c
  exact c
theorem zr_skip {j : Nat} (hw : wantD l (vis [] te) o = some false) (hd : o.dst = some j) (hi : Nat.blt j N = true) (hne : ev.contains i = false) (g : Zr P C N l m De al rl pre ev h k Q bs (i + 1) rest ((j, .v (.tuple #[]), none) :: te)) : Zr P C N l m De al rl pre ev h k Q bs i (o :: rest) te := by
  intro H0 vals a hbs kt hN hdf
  refine ⟨undef, ?_, ?_⟩
  · unfold Jx.OK
    rw [wantD_ok (vis_nilr hbs kt) hw, if_neg (by simp)]
    exact ⟨rfl, fun he => by have he' : ev.contains i = true := he; rw [hne] at he'; cases he'⟩
  · rw [hd]
    refine g H0 vals _ hbs (kt.put (by rw [hN]; simpa using hi) (fun _ H _ => ⟨by simp [RepC, undef, Value.cells], rfl⟩) (fun e he => by cases he)) ?_ hdf
    simp only [Act.put, Array.size_setIfInBounds]; exact hN
/-- An operation that gives a plain value, whatever came ahead. -/
theorem zr_quiet {j : Nat} {x : Value} {p : List Nat} (hp : pre.getD i [] = p) (hw : wantD l (vis [] te) o = some true) (hd : o.dst = some j) (hi : Nat.blt j N = true) (hne : ev.contains i = false) (hone : one x = true) (_hpe : p.all ev.contains = true)
    (hx : ∀ hh H a w, Core C H (h ++ hh) k w → TOK H (vis p te) a → ∃ v, (execOp a.eval o).run P w = .ok (.value v) w ∧ Rep H (.v x) v)
    (g : Zr P C N l m De al rl pre ev h k Q bs (i + 1) rest ((j, .v x, none) :: te)) : Zr P C N l m De al rl pre ev h k Q bs i (o :: rest) te := by
  intro H0 vals a hbs kt hN hdf
  refine ⟨x, ?_, ?_⟩
  · unfold Jx.OK
    rw [wantD_ok (vis_nilr hbs kt) hw, if_pos rfl, if_neg (by show ¬ ev.contains i = true; rw [hne]; exact Bool.false_ne_true)]
    rintro S w ⟨H, hle, c, hz, hev⟩ hpS
    replace hpS : ∀ k ∈ pre.getD i [], S k = true := hpS
    rw [hp] at hpS
    obtain ⟨v, h1, h2⟩ := hx _ H a w c (vis_tokr hbs kt hle fun e he he2 => hev e (hpS e (by simpa using he)) he2)
    rw [rep_v_inv h2] at h1
    exact h1
  · rw [hd]
    refine g H0 vals _ hbs (kt.put (by rw [hN]; simpa using hi) (fun _ H _ => rep_v hone) (fun e he => by cases he)) ?_ hdf
    simp only [Act.put, Array.size_setIfInBounds]; exact hN
/-- An event. -/
theorem zr_event {j : Nat} {p : List Nat} {d : D} (hp : pre.getD i [] = p) (hw : wantD l (vis [] te) o = some true) (hd : o.dst = some j) (hi : Nat.blt j N = true) (he : ev.contains i = true) (hna : isAl al i = false) (hnt : isR rl i = false) (hDe : De i = d)
    (hx : ∀ hh H a w, Core C H (h ++ hh) k w → TOK H (vis p te) a → Jx.Gives P o a w fun v w' => ∃ H', H.le H' ∧ Core ⟨H, w, []⟩ H' [] [] w' ∧ Rep H' d v)
    (g : Zr P C N l m De al rl pre ev h k Q bs (i + 1) rest ((j, d, some i) :: te)) : Zr P C N l m De al rl pre ev h k Q bs i (o :: rest) te := by
  intro H0 vals a hbs kt hN hdf
  subst hDe
  refine ⟨vals i, ?_, ?_⟩
  · unfold Jx.OK
    rw [wantD_ok (vis_nilr hbs kt) hw, if_pos rfl, if_pos he]
    refine ⟨rfl, ?_⟩
    rintro S w ⟨H, hle, c, hz, hev⟩ hSi hpS
    replace hpS : ∀ k ∈ pre.getD i [], S k = true := hpS
    rw [hp] at hpS
    refine (hx _ H a w c (vis_tokr hbs kt hle fun e he he2 => hev e (hpS e (by simpa using he)) he2)).mono ?_
    rintro v w' ⟨H', hle', c', hr⟩
    have hal : allocs al (Jx.upd S i true) (Jx.upd vals i v) = allocs al S vals := allocs_congr fun e hea => by
      have : e ≠ i := fun q => by rw [q, hna] at hea; cases hea
      exact ⟨Jx.upd_ne _ _ this, fun _ => Jx.upd_ne _ _ this⟩
    have htk : rws rl (Jx.upd S i true) (Jx.upd vals i v) = rws rl S vals := rws_congr fun e hea => by
      have : e ≠ i := fun q => by rw [q, hnt] at hea; cases hea
      exact ⟨Jx.upd_ne _ _ this, fun _ => Jx.upd_ne _ _ this⟩
    refine ⟨H', Hp.le_trans hle hle', ?_, fun e hes hee => ?_, fun e hes hee => ?_⟩
    · rw [hal, htk]
      have := Core.call (h1 := []) (k1 := []) (h2 := h ++ (allocs al S vals ++ rws rl S vals)) (k2 := k) c c'
      simpa using this
    · have hei : e ≠ i := fun q => by rw [q, hnt] at hee; cases hee
      rw [Jx.upd_ne _ _ hei] at hes ⊢
      exact hz e hes hee
    · by_cases hei : e = i
      · subst hei
        rw [Jx.upd_same]
        exact ⟨fun q => (by rw [hna] at q; cases q), fun _ => by rw [dR_no hnt]; exact hr⟩
      · rw [Jx.upd_ne _ _ hei] at hes ⊢
        exact ⟨(hev e hes hee).1, fun q => ((hev e hes hee).2 q).mono hle'⟩
  · rw [hd]
    refine g H0 vals _ hbs (kt.put (by rw [hN]; simpa using hi) (fun q => by cases q) (fun e q => ?_)) ?_ hdf
    · cases q
      exact ⟨rfl, by unfold dEr; rw [hna, dR_no hnt]; rfl, he⟩
    · simp only [Act.put, Array.size_setIfInBounds]; exact hN
/-- An event that gives a row. -/
theorem zr_eventT {j : Nat} {p : List Nat} (hp : pre.getD i [] = p) (hw : wantD l (vis [] te) o = some true) (hd : o.dst = some j) (hi : Nat.blt j N = true) (he : ev.contains i = true) (hna : isAl al i = false) {kk : Nat} {xs : List D} (hit : (i, kk, xs) ∈ rl) (hnd : (rl.map (·.1)).Nodup)
    (hx : ∀ hh H a w, Core C H (h ++ hh) k w → TOK H (vis p te) a → Jx.Gives P o a w fun v w' => ∃ H', H.le H' ∧ Core ⟨H, w, []⟩ H' [(0, .row kk xs v)] [] w' ∧ ∃ z : Z3, v = SL z)
    (g : Zr P C N l m De al rl pre ev h k Q bs (i + 1) rest ((j, .v (bs i), some i) :: te)) : Zr P C N l m De al rl pre ev h k Q bs i (o :: rest) te := by
  intro H0 vals a hbs kt hN hdf
  obtain rfl : bs = vals := funext hbs
  have hist : isR rl i = true := List.any_eq_true.2 ⟨_, hit, by simp⟩
  refine ⟨bs i, ?_, ?_⟩
  · unfold Jx.OK
    rw [wantD_ok (vis_nilr hbs kt) hw, if_pos rfl, if_pos he]
    refine ⟨rfl, ?_⟩
    rintro S w ⟨H, hle, c, hz, hev⟩ hSi hpS
    replace hpS : ∀ k ∈ pre.getD i [], S k = true := hpS
    rw [hp] at hpS
    refine (hx _ H a w c (vis_tokr hbs kt hle fun e he he2 => hev e (hpS e (by simpa using he)) he2)).mono ?_
    rintro v w' ⟨H', hle', c', z, hzv⟩
    have hal : allocs al (Jx.upd S i true) (Jx.upd bs i v) = allocs al S bs := allocs_congr fun e hea => by
      have : e ≠ i := fun q => by rw [q, hna] at hea; cases hea
      exact ⟨Jx.upd_ne _ _ this, fun _ => Jx.upd_ne _ _ this⟩
    refine ⟨H', Hp.le_trans hle hle', ?_, fun e hes hee => ?_, fun e hes hee => ?_⟩
    · rw [hal]
      have := Core.call (h1 := []) (k1 := []) (h2 := h ++ (allocs al S bs ++ rws rl S bs)) (k2 := k) c c'
      refine this.perm ?_ (List.Perm.refl _)
      have hp := rws_new (S := S) (vals := bs) (v := v) hSi hit hnd
      refine List.Perm.trans ?_ (List.Perm.append_left h (List.Perm.append_left _ hp.symm))
      have hq : ((0, Blk.row kk xs v) :: (h ++ (allocs al S bs ++ rws rl S bs))).Perm ((h ++ (allocs al S bs ++ rws rl S bs)) ++ [(0, Blk.row kk xs v)]) := (List.perm_append_singleton _ _).symm
      rw [List.append_assoc, List.append_assoc] at hq
      exact hq
    · by_cases hei : e = i
      · subst hei
        rw [Jx.upd_same]; exact ⟨z, hzv⟩
      · rw [Jx.upd_ne _ _ hei] at hes ⊢
        exact hz e hes hee
    · by_cases hei : e = i
      · subst hei
        rw [Jx.upd_same]
        exact ⟨fun q => (by rw [hna] at q; cases q), fun _ => by rw [dR_yes hist, hzv]; exact rep_v rfl⟩
      · rw [Jx.upd_ne _ _ hei] at hes ⊢
        exact ⟨(hev e hes hee).1, fun q => ((hev e hes hee).2 q).mono hle'⟩
  · rw [hd]
    refine g H0 bs _ hbs (kt.put (by rw [hN]; simpa using hi) (fun q => by cases q) (fun e q => ?_)) ?_ hdf
    · cases q
      exact ⟨rfl, by unfold dEr dR; rw [hna, hist]; rfl, he⟩
    · simp only [Act.put, Array.size_setIfInBounds]; exact hN
/-- A new variable. -/
theorem zr_new {j : Nat} {p : List Nat} {ds : List D} {T : TypeId} (hp : pre.getD i [] = p) (hw : wantD l (vis [] te) o = some true) (hd : o.dst = some j) (hi : Nat.blt j N = true) (he : ev.contains i = true) (hnt : isR rl i = false) (hia : (i, ds, T) ∈ al) (hnd : (al.map (·.1)).Nodup)
    (hx : ∀ hh H a w, Core C H (h ++ hh) k w → TOK H (vis p te) a → ∃ us, (execOp a.eval o).run P w = .ok (.value (.pointer (some ⟨w.heap.size, 0, none⟩))) (w.alloc (.cells (List.toArray us) T)) ∧ Reps H ds us)
    (g : Zr P C N l m De al rl pre ev h k Q bs (i + 1) rest ((j, .ptr (blk (bs i)) 0, some i) :: te)) : Zr P C N l m De al rl pre ev h k Q bs i (o :: rest) te := by
  intro H0 vals a hbs kt hN hdf
  have hisal : isAl al i = true := List.any_eq_true.2 ⟨_, hia, by simp⟩
  refine ⟨vals i, ?_, ?_⟩
  · unfold Jx.OK
    rw [wantD_ok (vis_nilr hbs kt) hw, if_pos rfl, if_pos he]
    refine ⟨rfl, ?_⟩
    rintro S w ⟨H, hle, c, hz, hev⟩ hSi hpS
    replace hpS : ∀ k ∈ pre.getD i [], S k = true := hpS
    rw [hp] at hpS
    obtain ⟨us, h1, h2⟩ := hx _ H a w c (vis_tokr hbs kt hle fun e he he2 => hev e (hpS e (by simpa using he)) he2)
    unfold Jx.Gives
    rw [h1]
    refine ⟨H, hle, ?_, fun e hes hee => ?_, fun e hes hee => ?_⟩
    · have c' := c.alloc T h2
      have htk : rws rl (Jx.upd S i true) (Jx.upd vals i (.pointer (some ⟨w.heap.size, 0, none⟩))) = rws rl S vals := rws_congr fun e hea => by
        have : e ≠ i := fun q => by rw [q, hnt] at hea; cases hea
        exact ⟨Jx.upd_ne _ _ this, fun _ => Jx.upd_ne _ _ this⟩
      rw [htk]
      refine c'.perm ?_ (List.Perm.refl _)
      have hp := allocs_new (v := .pointer (some ⟨w.heap.size, 0, none⟩)) (vals := vals) hSi hia hnd
      have hq : ((h ++ (allocs al S vals ++ rws rl S vals)) ++ [(w.heap.size, Blk.cells ds T)]).Perm (h ++ ((allocs al S vals ++ [(w.heap.size, Blk.cells ds T)]) ++ rws rl S vals)) := by
        rw [List.append_assoc, List.append_assoc, List.append_assoc]
        exact List.Perm.append_left h (List.Perm.append_left _ List.perm_append_comm)
      exact hq.trans (List.Perm.append_left h (List.Perm.append_right _ hp.symm))
    · have hei : e ≠ i := fun q => by rw [q, hnt] at hee; cases hee
      rw [Jx.upd_ne _ _ hei] at hes ⊢
      exact hz e hes hee
    · by_cases hei : e = i
      · subst hei
        rw [Jx.upd_same]
        exact ⟨fun _ => rfl, fun q => (by rw [hisal] at q; cases q)⟩
      · rw [Jx.upd_ne _ _ hei] at hes ⊢
        exact hev e hes hee
  · rw [hd]
    refine g H0 vals _ hbs (kt.put (by rw [hN]; simpa using hi) (fun q => by cases q) (fun e q => ?_)) ?_ hdf
    · cases q
      exact ⟨rfl, by unfold dEr; rw [hisal]; rfl, he⟩
    · simp only [Act.put, Array.size_setIfInBounds]; exact hN
theorem wpD_drawnR {id : Nat} {t : List (Nat × D)} (m : Nat) (De : Nat → D) (al : AL) (rl : RL) (pre : List (List Nat)) (ev : List Nat) (tp : List (List Nat)) (hfo : P.follows .mixedOrders = true) (hsl : Jx.slotsB l.toArray = true)
    (hp : Jx.preB l.toArray (fun i => pre.getD i []) = true) (hpe : pre.all (·.all ev.contains) = true) (hev : ev.all (· < (l.take m).length) = true) (hsuf : Jx.sufB l.toArray tp (l.take m).length = true)
    (hwalk : ∀ bs, Zr P C N l m De al rl pre ev h k Q bs 0 (l.take m) (startE t)) : wpD P C N (.region id l.toArray true) ⟨t, h, k⟩ Q := by
  rintro a w ⟨H, c, kt, hN, hdf⟩
  have key := Jx.region_any (P := P) (Q := QD C N Q) (id := id) (w := w) (a0 := a) (l1 := l.take m) (l2 := l.drop m) (Cr C De al rl ev h k H) (fun i => pre.getD i []) (fun i => ev.contains i) tp hfo (by rw [List.take_append_drop]; exact hsl) (by rw [List.take_append_drop]; exact hp) ?_ ?_
    (by rw [List.take_append_drop]; exact hsuf) ?_ ?_ ?_
  · rw [List.take_append_drop] at key; exact key
  · intro i k hk
    rw [List.all_eq_true] at hpe
    by_cases hi : i < pre.length
    · have e : pre.getD i [] = pre[i] := by simp [hi]
      rw [e] at hk
      exact List.all_eq_true.1 (hpe _ (List.getElem_mem hi)) k hk
    · have e : pre.getD i [] = [] := by simp [Nat.le_of_not_lt hi]
      rw [e] at hk; cases hk
  · intro i hi
    rw [List.all_eq_true] at hev
    simpa using hev i (by simpa using hi)
  · rintro S vals vals' w hv ⟨H', hle, c', hz, hr⟩
    refine ⟨H', hle, ?_, fun e hes hee => by rw [← hv e hes]; exact hz e hes hee, fun e hes hee => ?_⟩
    · rw [← allocs_congr (S := S) (S' := S) (vals := vals) (vals' := vals') fun e _ => ⟨rfl, hv e⟩, ← rws_congr (S := S) (S' := S) (vals := vals) (vals' := vals') fun e _ => ⟨rfl, hv e⟩]; exact c'
    · rw [← hv e hes]; exact hr e hes hee
  · intro vals
    refine ⟨H, Hp.le_refl H, ?_, (fun e he => by cases he), fun e he => by cases he⟩
    rw [allocs_none, rws_none, List.append_nil, List.append_nil]
    exact c.drew
  · intro vals
    rw [List.take_append_drop]
    exact hwalk vals H vals a (fun _ => rfl) (fun j d o e => by
      obtain ⟨h1, h2⟩ := look_start e
      obtain ⟨v, h3, h4⟩ := kt j d h1
      exact ⟨v, h3, fun _ H' hle => h4.mono hle, fun e he => by rw [h2] at he; cases he⟩) hN hdf
end
section
variable {P : Program} {C : Ctx} {N : Nat} {l : List Oper} {m : Nat} {De : Nat → D} {al : AL} {rl : RL} {pre : List (List Nat)} {ev : List Nat} {h : List (Nat × Blk)} {k : List (Nat × Value)} {Q : Exit → S → Prop} {tab : List (Option TI)} {bs : Nat → Value} {i : Nat} {o : Oper} {rest : List Oper} {te : TE}
theorem wpD_drawsR {id : Nat} {t : List (Nat × D)} (m : Nat) (al : AL) (rl : RL) (pre : List (List Nat)) (ev : List Nat) (tp : List (List Nat)) (hfo : P.follows .mixedOrders = true) (hsl : Jx.slotsB l.toArray = true)
    (hp : Jx.preB l.toArray (fun i => pre.getD i []) = true) (hpe : pre.all (·.all ev.contains) = true) (hev : ev.all (· < (l.take m).length) = true) (hsuf : Jx.sufB l.toArray tp (l.take m).length = true)
    (hwalk : ExDs ev fun De => ∀ bs, Zr P C N l m De al rl pre ev h k Q bs 0 (l.take m) (startE t)) : wpD P C N (.region id l.toArray true) ⟨t, h, k⟩ Q := by
  obtain ⟨De, hw⟩ := exDs_ok hwalk
  exact wpD_drawnR m De al rl pre ev tp hfo hsl hp hpe hev hsuf hw
/-- A plain value. -/
theorem zr_q {j : Nat} {x : Value} {p : List Nat} {t : List (Nat × D)} (hp : pre.getD i [] = p) (ht : vis p te = t) (hx : Ex P o t (.v x)) (hw : wantD l (vis [] te) o = some true) (hd : o.dst = some j) (hi : Nat.blt j N = true) (hne : ev.contains i = false) (hone : one x = true) (hpe : p.all ev.contains = true)
    (g : Zr P C N l m De al rl pre ev h k Q bs (i + 1) rest ((j, .v x, none) :: te)) : Zr P C N l m De al rl pre ev h k Q bs i (o :: rest) te :=
  zr_quiet hp hw hd hi hne hone hpe (fun _ H a w _ kt => hx H a w (ht ▸ kt)) g
/-- Another one. -/
theorem zr_e {j : Nat} {p : List Nat} {t : List (Nat × D)} {d : D} (hp : pre.getD i [] = p) (ht : vis p te = t) (hx : Ex P o t d) (hw : wantD l (vis [] te) o = some true) (hd : o.dst = some j) (hi : Nat.blt j N = true) (he : ev.contains i = true) (hna : isAl al i = false) (hnt : isR rl i = false) (hDe : De i = d)
    (g : Zr P C N l m De al rl pre ev h k Q bs (i + 1) rest ((j, d, some i) :: te)) : Zr P C N l m De al rl pre ev h k Q bs i (o :: rest) te :=
  zr_event hp hw hd hi he hna hnt hDe (fun _ H a w c kt => by
    obtain ⟨v, h1, h2⟩ := hx H a w (ht ▸ kt)
    unfold Jx.Gives
    rw [h1]
    exact ⟨H, Hp.le_refl H, Core.here c.ag, h2⟩) g
theorem zr_qM {j : Nat} {x : Value} {p : List Nat} {t : List (Nat × D)} (hp : pre.getD i [] = p) (ht : vis p te = t) (hx : ExM P C h k o t (.v x)) (hw : wantD l (vis [] te) o = some true) (hd : o.dst = some j) (hi : Nat.blt j N = true) (hne : ev.contains i = false) (hone : one x = true) (hpe : p.all ev.contains = true)
    (g : Zr P C N l m De al rl pre ev h k Q bs (i + 1) rest ((j, .v x, none) :: te)) : Zr P C N l m De al rl pre ev h k Q bs i (o :: rest) te :=
  zr_quiet hp hw hd hi hne hone hpe (fun hh H a w c kt => hx hh H a w c (ht ▸ kt)) g
theorem zr_eM {j : Nat} {p : List Nat} {t : List (Nat × D)} {d : D} (hp : pre.getD i [] = p) (ht : vis p te = t) (hx : ExM P C h k o t d) (hw : wantD l (vis [] te) o = some true) (hd : o.dst = some j) (hi : Nat.blt j N = true) (he : ev.contains i = true) (hna : isAl al i = false) (hnt : isR rl i = false) (hDe : De i = d)
    (g : Zr P C N l m De al rl pre ev h k Q bs (i + 1) rest ((j, d, some i) :: te)) : Zr P C N l m De al rl pre ev h k Q bs i (o :: rest) te :=
  zr_event hp hw hd hi he hna hnt hDe (fun hh H a w c kt => by
    obtain ⟨v, h1, h2⟩ := hx hh H a w c (ht ▸ kt)
    unfold Jx.Gives
    rw [h1]
    exact ⟨H, Hp.le_refl H, Core.here c.ag, h2⟩) g
/-- A call that is given no block and gives none back. -/
theorem zr_call {f : FuncId} {args : List Operand} {ts : Array TypeId} {j : Nat} {p : List Nat} {t : List (Nat × D)} {ds ds' : List D} {d : D} (hp : pre.getD i [] = p) (ht : vis p te = t) (hc : CallsD P f ds' [] [] (fun d' h k => d' = d ∧ h = [] ∧ k = [])) (ho : o.op = .call ⟨.value (.func f), args.toArray, ts⟩)
    (ha : someMap args (opD t) = some ds) (hwk : WkL ds ds') (hw : wantD l (vis [] te) o = some true) (hd : o.dst = some j) (hi : Nat.blt j N = true) (he : ev.contains i = true) (hna : isAl al i = false) (hnt : isR rl i = false) (hDe : De i = d)
    (g : Zr P C N l m De al rl pre ev h k Q bs (i + 1) rest ((j, d, some i) :: te)) : Zr P C N l m De al rl pre ev h k Q bs i (o :: rest) te :=
  zr_event hp hw hd hi he hna hnt hDe (fun hh H a w c kt => by
    subst ht
    unfold Jx.Gives
    rw [call_run ho hc.1]
    simp only []
    have hv := hwk H _ (someMap_ok kt ha)
    rw [List.map_toArray]
    refine (hc.2 H w _ hv c.ag (by simp) (by simp) (by simp [claims, blkClaim])).mono ?_
    rintro e w' ⟨v, H', d', h', k', rfl, hr, hcore, rfl, rfl, rfl⟩
    exact ⟨v, rfl, H', hcore.le, hcore, hr⟩) g
theorem zr_alloc {j : Nat} {p : List Nat} {T : TypeId} {ti0 : TI} {zs : List D} (hp : pre.getD i [] = p) (hT : TabOK P tab) (ho : o.op = .alloc T) (hw : wantD l (vis [] te) o = some true) (hd : o.dst = some j) (hi : Nat.blt j N = true) (he : ev.contains i = true) (hti : ti tab T = some ti0) (hz : ti0.zero.all one = true) (ez : ti0.zero.map dOf = zs)
    (hnt : isR rl i = false) (hia : (i, zs, T) ∈ al) (hnd : (al.map (·.1)).Nodup) (g : Zr P C N l m De al rl pre ev h k Q bs (i + 1) rest ((j, .ptr (blk (bs i)) 0, some i) :: te)) : Zr P C N l m De al rl pre ev h k Q bs i (o :: rest) te :=
  zr_new hp hw hd hi he hnt hia hnd (fun hh H a w c kt => by
    obtain ⟨z, h1, h2⟩ := run_zeroValue (w := w) (ti_ok hT hti)
    refine ⟨z.cells.toList, ?_, ?_⟩
    · unfold execOp
      rw [ho]
      refine exec_v ?_
      unfold Instr.alloc
      rw [run_bind_ok h1]
      simp only []
      rw [run_bind_ok run_newVar]
      simp
      first | done | rfl
    · rw [h2, ← ez]
      rw [List.all_eq_true] at hz
      revert hz
      generalize ti0.zero = l0
      intro hz
      induction l0 with
      | nil => simp [Reps]
      | cons u l0 ih =>
        simp only [List.map_cons, Reps]
        exact ⟨u, l0, rfl, ⟨(dOf_ok H u).1, hz u (by simp), (dOf_ok H u).2⟩, ih (fun x hx => hz x (by simp [hx]))⟩) g
/-- A test's outcome is known. -/
theorem zr_known {j : Nat} {b b' : Bool} (hl : look3 te j = some (.v (.bool b), none)) (e : b = b') (g : Zr P C N l m De al rl pre ev h k Q bs i rest ((j, .v (.bool b'), none) :: te)) : Zr P C N l m De al rl pre ev h k Q bs i rest te := by
  subst e
  intro H0 vals a hbs kt hN hdf
  refine g H0 vals a hbs (fun j' d o e => ?_) hN hdf
  simp only [look3] at e
  cases hb : Nat.beq j j' with
  | true =>
    rw [hb] at e; simp at e
    obtain ⟨rfl, rfl⟩ := e
    have := Nat.eq_of_beq_eq_true hb; subst this
    exact kt _ _ _ hl
  | false => rw [hb] at e; exact kt j' d o (by simpa using e)
/-- One that may make what is told. -/
theorem zr_E {j : Nat} {p : List Nat} {t : List (Nat × D)} {d : D} (hp : pre.getD i [] = p) (ht : vis p te = t) (hx : ExE P o t d) (hw : wantD l (vis [] te) o = some true) (hd : o.dst = some j) (hi : Nat.blt j N = true) (he : ev.contains i = true) (hna : isAl al i = false) (hnt : isR rl i = false) (hDe : De i = d)
    (g : Zr P C N l m De al rl pre ev h k Q bs (i + 1) rest ((j, d, some i) :: te)) : Zr P C N l m De al rl pre ev h k Q bs i (o :: rest) te :=
  zr_event hp hw hd hi he hna hnt hDe (fun _ H a w c kt => let ⟨_, _, H', h1, h2, h3⟩ := hx H a w c.ag (ht ▸ kt); gives_ok h1 ⟨H', h2.le, h2, h3⟩) g
/-- A call that gives a row. -/
theorem zr_callR {f : FuncId} {args : List Operand} {ts : Array TypeId} {j : Nat} {p : List Nat} {t : List (Nat × D)} {ds ds' : List D} {kk : Nat} {xs : List D} (hp : pre.getD i [] = p) (ht : vis p te = t) (hc : CallsD P f ds' [] [] (fun d' h k => ∃ y : Z3, d' = .v (SL y) ∧ h = [(0, .row kk xs (SL y))] ∧ k = [])) (ho : o.op = .call ⟨.value (.func f), args.toArray, ts⟩)
    (ha : someMap args (opD t) = some ds) (hwk : WkL ds ds') (hw : wantD l (vis [] te) o = some true) (hd : o.dst = some j) (hi : Nat.blt j N = true) (he : ev.contains i = true) (hna : isAl al i = false) (hit : (i, kk, xs) ∈ rl) (hnd : (rl.map (·.1)).Nodup)
    (g : Zr P C N l m De al rl pre ev h k Q bs (i + 1) rest ((j, .v (bs i), some i) :: te)) : Zr P C N l m De al rl pre ev h k Q bs i (o :: rest) te :=
  zr_eventT hp hw hd hi he hna hit hnd (fun hh H a w c kt => by
    subst ht
    unfold Jx.Gives
    rw [call_run ho hc.1]
    simp only []
    have hv := hwk H _ (someMap_ok kt ha)
    rw [List.map_toArray]
    refine (hc.2 H w _ hv c.ag (by simp) (by simp) (by simp [claims, blkClaim])).mono ?_
    rintro e w' ⟨v, H', d', h', k', rfl, hr, hcore, y, rfl, rfl, rfl⟩
    have hy := rep_v_inv hr
    subst hy
    exact ⟨_, rfl, H', hcore.le, hcore, y, rfl⟩) g
end
end Go.Proofs.Ytpeimfcmhedjmaa.Ab
