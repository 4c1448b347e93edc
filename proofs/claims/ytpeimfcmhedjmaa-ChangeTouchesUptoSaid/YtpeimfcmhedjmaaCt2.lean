/- The texts that changeTouchesUpto_holds leans on, part 2. -/
import Derived.Test.YtpeimfcmhedjmaaCt1
namespace Go.Proofs.Ytpeimfcmhedjmaa.Ab
open Go
set_option linter.all false
inductive Step (σ τ : Type) where
  | next (s : σ)
  | done (t : τ)
def loopN {σ τ : Type} (f : σ → Option (Step σ τ)) : Nat → σ → Option τ
  | 0, _ => none
  | n + 1, s => match f s with
    | none => none
    | some (.next s') => loopN f n s'
    | some (.done t) => some t
theorem loopN_one {σ τ : Type} {f : σ → Option (Step σ τ)} : ∀ {n m : Nat} {s : σ} {t t' : τ}, loopN f n s = some t → loopN f m s = some t' → t = t'
  | 0, _, _, _, _, h, _ => by simp [loopN] at h
  | _ + 1, 0, _, _, _, _, h => by simp [loopN] at h
  | n + 1, m + 1, s, t, t', h, k => by
    simp only [loopN] at h k
    cases hf : f s with
    | none => rw [hf] at h; cases h
    | some x =>
      rw [hf] at h k
      cases x with
      | next s' => exact loopN_one h k
      | done u => simp at h k; rw [← h, ← k]
open Classical in
noncomputable def loopM {σ τ : Type} (f : σ → Option (Step σ τ)) (s : σ) : Option τ := if h : ∃ n t, loopN f n s = some t then some h.choose_spec.choose else none
theorem loopM_of {σ τ : Type} {f : σ → Option (Step σ τ)} {n : Nat} {s : σ} {t : τ} (h : loopN f n s = some t) : loopM f s = some t := by
  have hx : ∃ n t, loopN f n s = some t := ⟨n, t, h⟩
  unfold loopM
  rw [dif_pos hx]
  exact congrArg some (loopN_one hx.choose_spec.choose_spec h)
theorem loopM_inv {σ τ : Type} {f : σ → Option (Step σ τ)} {s : σ} {t : τ} (h : loopM f s = some t) : ∃ n, loopN f n s = some t := by
  unfold loopM at h
  split at h
  · rename_i hx
    simp only [Option.some.injEq] at h
    exact ⟨_, h ▸ hx.choose_spec.choose_spec⟩
  · cases h
theorem loopM_done {σ τ : Type} {f : σ → Option (Step σ τ)} {s : σ} {t : τ} (h : f s = some (.done t)) : loopM f s = some t := loopM_of (n := 1) (by simp [loopN, h])
theorem loopM_next {σ τ : Type} {f : σ → Option (Step σ τ)} {s s' : σ} (h : f s = some (.next s')) : loopM f s = loopM f s' := by
  cases e : loopM f s' with
  | some t =>
    obtain ⟨n, hn⟩ := loopM_inv e
    exact loopM_of (n := n + 1) (by simp [loopN, h, hn])
  | none =>
    cases e2 : loopM f s with
    | none => rfl
    | some t =>
      obtain ⟨n, hn⟩ := loopM_inv e2
      cases n with
      | zero => simp [loopN] at hn
      | succ n =>
        simp only [loopN, h] at hn
        rw [loopM_of hn] at e; cases e
theorem loopM_some {σ τ : Type} {f : σ → Option (Step σ τ)} (I : σ → Prop) (μ : σ → Nat) (p : τ → Prop)
    (h : ∀ s, I s → (∃ s', f s = some (.next s') ∧ I s' ∧ μ s' < μ s) ∨ ∃ t, f s = some (.done t) ∧ p t) (s : σ) (hs : I s) : ∃ t, loopM f s = some t ∧ p t := by
  have key : ∀ n s, μ s < n → I s → ∃ t, loopM f s = some t ∧ p t := by
    intro n
    induction n with
    | zero => intro s hn; omega
    | succ n ih =>
      intro s hn hs
      rcases h s hs with ⟨s', h1, h2, h3⟩ | ⟨t, h1, h2⟩
      · rw [loopM_next h1]; exact ih s' (by omega) h2
      · exact ⟨t, loopM_done h1, h2⟩
  exact key (μ s + 1) s (Nat.lt_succ_self _) hs
def Yes {α : Type} (m : Option α) (φ : α → Prop) : Prop := ∃ x, m = some x ∧ φ x
section
variable {α β : Type} {φ : α → Prop} {ψ : β → Prop}
theorem yes_bind {m : Option α} {f : α → Option β} (h : Yes (m.bind f) ψ) : ∃ a, m = some a ∧ Yes (f a) ψ := by
  obtain ⟨x, h1, h2⟩ := h
  rw [Option.bind_eq_some_iff] at h1
  obtain ⟨a, h3, h4⟩ := h1
  exact ⟨a, h3, x, h4, h2⟩
theorem yes_t {c : Bool} {a b : Option α} (hc : c = true) (h : Yes (bif c then a else b) φ) : Yes a φ := by subst hc; exact h
theorem yes_f {c : Bool} {a b : Option α} (hc : c = false) (h : Yes (bif c then a else b) φ) : Yes b φ := by subst hc; exact h
theorem yes_of {m : Option α} {r : α} (h : m = some r) : Yes m (fun x => x = r) := ⟨r, h, rfl⟩
theorem yes_eq {a r : α} (h : Yes (some a) (fun x => x = r)) : a = r := by obtain ⟨x, h1, h2⟩ := h; cases h1; exact h2
theorem yes_m {m : Option α} (h : Yes m φ) : ∃ a, m = some a ∧ Yes (some a) φ := by
  obtain ⟨x, h1, h2⟩ := h
  exact ⟨x, h1, x, rfl, h2⟩
theorem yes_none (h : Yes none φ) : False := by obtain ⟨x, h1, _⟩ := h; cases h1
def need (p : Bool) : Option Unit := bif p then some () else none
theorem need_ok {p : Bool} {u : Unit} (h : need p = some u) : p = true := by
  cases p with
  | true => rfl
  | false => cases h
theorem need_bind {p : Bool} (h : p = true) (f : Unit → Option α) : (need p).bind f = f () := by subst h; rfl
def idx (xs : List α) (i : Int) : Option α := bif decide (0 ≤ i) then xs[i.toNat]? else none
theorem idx_ok {xs : List α} {i : Int} {x : α} (h : idx xs i = some x) : 0 ≤ i ∧ xs[i.toNat]? = some x := by
  unfold idx at h
  by_cases hi : 0 ≤ i
  · rw [decide_eq_true hi] at h; exact ⟨hi, h⟩
  · rw [decide_eq_false hi] at h; cases h
theorem idx_nonneg {xs : List α} {i : Int} {x : α} (h : idx xs i = some x) : 0 ≤ i := (idx_ok h).1
theorem idx_map {xs : List α} {i : Int} {x : α} {e : α → D} (h : idx xs i = some x) : (xs.map e)[i.toNat]? = some (e x) := by
  rw [List.getElem?_map, (idx_ok h).2]; rfl
theorem idx_nat (xs : List α) (n : Nat) : idx xs (n : Int) = xs[n]? := by simp [idx]
def cutL (xs : List α) (l h : Int) : Option (List α) := bif decide (0 ≤ l) && decide (l ≤ h) && decide (h ≤ (xs.length : Int)) then some ((xs.drop l.toNat).take (h.toNat - l.toNat)) else none
theorem cutL_ok {xs ys : List α} {l h : Int} (e : cutL xs l h = some ys) : ys = (xs.drop l.toNat).take (h.toNat - l.toNat) ∧ l = (l.toNat : Int) ∧ h = (h.toNat : Int) ∧ l.toNat ≤ h.toNat ∧ h.toNat ≤ xs.length := by
  unfold cutL at e
  cases hc : decide (0 ≤ l) && decide (l ≤ h) && decide (h ≤ (xs.length : Int)) with
  | false => rw [hc] at e; cases e
  | true =>
    rw [hc] at e
    simp only [Bool.and_eq_true, decide_eq_true_eq] at hc
    obtain ⟨⟨h1, h2⟩, h3⟩ := hc
    simp only [cond_true, Option.some.injEq] at e
    exact ⟨e.symm, by omega, by omega, by omega, by omega⟩
theorem cutL_nat {xs : List α} {l h : Nat} (h1 : l ≤ h) (h2 : h ≤ xs.length) : cutL xs (l : Int) (h : Int) = some ((xs.drop l).take (h - l)) := by
  unfold cutL
  rw [show (decide ((0 : Int) ≤ (l : Int)) && decide ((l : Int) ≤ (h : Int)) && decide ((h : Int) ≤ (xs.length : Int))) = true by simp; omega]
  simp
def app (bb : Nat) (xs ys : List α) : Option (List α) := bif decide ((xs.length + ys.length) * bb ≤ 140737488355328) then some (xs ++ ys) else none
theorem app_ok {bb : Nat} {xs ys zs : List α} (h : app bb xs ys = some zs) : zs = xs ++ ys ∧ (xs.length + ys.length) * bb ≤ 140737488355328 := by
  unfold app at h
  cases hc : decide ((xs.length + ys.length) * bb ≤ 140737488355328) with
  | false => rw [hc] at h; cases h
  | true =>
    rw [hc] at h
    simp only [cond_true, Option.some.injEq] at h
    exact ⟨h.symm, of_decide_eq_true hc⟩
theorem app_of {bb : Nat} {xs ys : List α} (h : (xs.length + ys.length) * bb ≤ 140737488355328) : app bb xs ys = some (xs ++ ys) := by
  unfold app; rw [decide_eq_true h]; rfl
theorem app_bound {bb : Nat} {xs ys zs : List α} {e : α → D} (h : app bb xs ys = some zs) : ((xs.map e).length + (ys.map e).length) * bb ≤ 140737488355328 := by
  simpa using (app_ok h).2
theorem app_map {bb : Nat} {xs ys zs : List α} {e : α → D} (h : app bb xs ys = some zs) : xs.map e ++ ys.map e = zs.map e := by
  rw [(app_ok h).1, List.map_append]
theorem map_len {xs : List α} {e : α → D} : (xs.map e).length = xs.length := List.length_map _
end
def WkC (d d' : D) : Prop := ∀ H us, RepC H d us → RepC H d' us
def WkR (ds ds' : List D) : Prop := ∀ H us, Reps H ds us → Reps H ds' us
theorem WkC.refl (d : D) : WkC d d := fun _ _ h => h
theorem WkC.no {k : Nat} {xs : List D} {c : Cap} : WkC (.lst k xs c) (.lst k xs .no) := fun H us h => by
  simp only [RepC] at h ⊢
  obtain ⟨y, e, _, h⟩ := h
  exact ⟨y, e, trivial, h⟩
theorem WkC.nil {k k' : Nat} {c : Cap} : WkC (.lst k [] c) (.lst k' [] .no) := fun H us h => by
  simp only [RepC] at h ⊢
  obtain ⟨y, e, _, h⟩ := h
  rcases h with ⟨_, h⟩ | ⟨b, off, m, e1, e2, e3⟩
  · exact ⟨y, e, trivial, .inl ⟨by trivial, h⟩⟩
  · exact ⟨y, e, trivial, .inr ⟨b, off, m, e1, e2, by simp [Els]⟩⟩
theorem WkC.agg {ds ds' : List D} (h : WkR ds ds') : WkC (.agg ds) (.agg ds') := fun H us k => by
  simp only [RepC] at k ⊢; exact h H us k
theorem WkC.of_eq {d d' : D} (h : d = d') : WkC d d' := h ▸ WkC.refl d
theorem WkR.refl (ds : List D) : WkR ds ds := fun _ _ h => h
theorem WkR.nil : WkR [] [] := WkR.refl _
theorem WkR.cons {d d' : D} {ds ds' : List D} (h : WkC d d') (hf : d'.flat = d.flat) (k : WkR ds ds') : WkR (d :: ds) (d' :: ds') := fun H us q => by
  simp only [Reps] at q ⊢
  obtain ⟨u, us', e, ⟨h1, h2, h3⟩, h4⟩ := q
  exact ⟨u, us', e, ⟨h H _ h1, h2, hf.trans h3⟩, k H _ h4⟩
inductive WkE : List D → List D → Prop
  | nil : WkE [] []
  | cons {d d' : D} {ds ds' : List D} (h : WkC d d') (k : WkE ds ds') : WkE (d :: ds) (d' :: ds')
theorem WkE.refl : ∀ ds : List D, WkE ds ds
  | [] => .nil
  | _ :: ds => .cons (WkC.refl _) (WkE.refl ds)
theorem WkE.els {H : Hp} {k b : Nat} : ∀ {ds ds' : List D} {off : Nat}, WkE ds ds' → Els H k b off ds → Els H k b off ds'
  | _, _, _, .nil, h => h
  | _, _, _, .cons h1 h2, h => by
    simp only [Els] at h ⊢
    obtain ⟨⟨us, e1, e2, e3⟩, h3⟩ := h
    exact ⟨⟨us, e1, h1 H us e2, e3⟩, h2.els h3⟩
theorem WkE.length {ds ds' : List D} (h : WkE ds ds') : ds.length = ds'.length := by
  induction h with
  | nil => rfl
  | cons _ _ ih => simp [ih]
theorem WkE.append {ds ds' es es' : List D} (h : WkE ds ds') (k : WkE es es') : WkE (ds ++ es) (ds' ++ es') := by
  induction h with
  | nil => exact k
  | cons h1 _ ih => exact .cons h1 ih
theorem WkC.lst {k : Nat} {xs ys : List D} {c : Cap} (h : WkE xs ys) : WkC (.lst k xs c) (.lst k ys c) := fun H us q => by
  simp only [RepC] at q ⊢
  obtain ⟨y, e, hc, q⟩ := q
  refine ⟨y, e, hc, ?_⟩
  rcases q with ⟨q1, q2⟩ | ⟨b, off, m, e1, e2, e3⟩
  · subst q1
    cases h; exact .inl ⟨rfl, q2⟩
  · exact .inr ⟨b, off, m, by rw [← h.length]; exact e1, by rw [← h.length]; exact e2, h.els e3⟩
theorem WkC.trans {a b c : D} (h : WkC a b) (k : WkC b c) : WkC a c := fun H us q => k H us (h H us q)
theorem WkC.wk {d d' : D} (h : WkC d d') (hs : ∀ y, d.shape y = true → d'.shape y = true) : Wk d d' := fun H y q => ⟨h H _ q.1, hs y q.2⟩
theorem shape_agg {l l' : List D} : ∀ y, (D.agg l).shape y = true → (D.agg l').shape y = true := fun y h => by cases y <;> first | rfl | cases h
theorem shape_lst {k k' : Nat} {l l' : List D} {c c' : Cap} : ∀ y, (D.lst k l c).shape y = true → (D.lst k' l' c').shape y = true := fun y h => by cases y <;> first | rfl | cases h
theorem Wk.agg {ds ds' : List D} (h : WkR ds ds') : Wk (.agg ds) (.agg ds') := (WkC.agg h).wk shape_agg
theorem Wk.lst0 {k : Nat} {xs ys : List D} {c : Cap} (h : WkE xs ys) : Wk (.lst k xs c) (.lst k ys c) := (WkC.lst h).wk shape_lst
theorem Wk.lst {k : Nat} {xs ys : List D} {c : Cap} (h : WkE xs ys) : Wk (.lst k xs c) (.lst k ys .no) := ((WkC.lst h).trans WkC.no).wk shape_lst
theorem Wk.trans {a b c : D} (h : Wk a b) (k : Wk b c) : Wk a c := fun H y q => k H y (h H y q)
theorem WkS.trans {C : Ctx} {a b c : S} (h : WkS C a b) (k : WkS C b c) : WkS C a c := fun H x w c1 t1 => by
  obtain ⟨H1, l1, c2, t2⟩ := h H x w c1 t1
  obtain ⟨H2, l2, c3, t3⟩ := k H1 x w c2 t2
  exact ⟨H2, Hp.le_trans l1 l2, c3, t3⟩
theorem WkS.refl {C : Ctx} (s : S) : WkS C s s := fun H _ _ c t => ⟨H, Hp.le_refl H, c, t⟩
theorem WkS.blk {C : Ctx} {t : List (Nat × D)} {h h' : List (Nat × Blk)} {k : List (Nat × Value)} {b : Nat} {ds ds' : List D} {T : TypeId} (j : Nat) (hb : h[j]? = some (b, .cells ds T)) (hw : WkR ds ds') (e : h.set j (b, .cells ds' T) = h') : WkS C ⟨t, h, k⟩ ⟨t, h', k⟩ := fun H a w c kt => by
  subst e
  refine ⟨H, Hp.le_refl H, ?_, kt⟩
  obtain ⟨us, h1, h2, h3⟩ := c.blks _ (List.mem_of_getElem? hb)
  have hlt := (List.getElem?_eq_some_iff.1 hb).1
  have hget := (List.getElem?_eq_some_iff.1 hb).2
  have hcl : claims (h.set j (b, Blk.cells ds' T)) k = claims h k := by
    exact claims_set hb rfl
  refine ⟨c.ag, c.le, c.new, c.same, c.size, ?_, c.toks, by rw [hcl]; exact c.nd, by rw [hcl]; exact c.own, c.env⟩
  intro p hp
  rcases List.mem_or_eq_of_mem_set hp with hp | hp
  · exact c.blks p hp
  · subst hp; exact ⟨us, h1, hw H us h2, h3⟩
theorem TokOK.full {H : Hp} {w : World} {k : Nat} {y : Value} (h : CapOK .full y) : TokOK H w (k, y) := fun a n m e hlt => by
  subst e
  simp only [CapOK] at h; omega
theorem tokClaim_full {k : Nat} {y : Value} (h : CapOK .full y) : tokClaim (k, y) = [] := by
  unfold tokClaim
  split
  · rename_i k0 a n m e
    simp only [Prod.mk.injEq] at e
    obtain ⟨_, e⟩ := e
    subst e
    simp only [CapOK] at h
    rw [if_neg (by omega)]
  · rfl
theorem Core.tokFull {C : Ctx} {H : Hp} {h : List (Nat × Blk)} {k : List (Nat × Value)} {w : World} (c : Core C H h k w) (kk : Nat) {y : Value} (hy : CapOK .full y) : Core C H h ((kk, y) :: k) w := by
  have hcl : claims h ((kk, y) :: k) = claims h k := by unfold claims; rw [List.flatMap_cons, tokClaim_full hy]; rfl
  refine ⟨c.ag, c.le, c.new, c.same, c.size, c.blks, ?_, by rw [hcl]; exact c.nd, by rw [hcl]; exact c.own, c.env⟩
  intro p hp
  rcases List.mem_cons.1 hp with rfl | hp
  · exact TokOK.full hy
  · exact c.toks p hp
theorem lst_cur {H : Hp} {k : Nat} {xs : List D} {y : Value} (h : Rep H (.lst k xs .full) y) : CapOK .full y ∧ Rep H (.lst k xs (.cur y)) y := by
  obtain ⟨hc, hr⟩ := rep_lst_inv h
  refine ⟨hc, ?_, by have := h.2; cases y <;> first | rfl | cases this⟩
  have h1 := h.1
  simp only [RepC] at h1 ⊢
  obtain ⟨y', e, _, h3⟩ := h1
  have : y' = y := by
    have hs := h.2
    cases y <;> simp [D.shape] at hs <;> simp [Value.cells] at e <;> exact e.symm
  subst this
  exact ⟨y', e, rfl, h3⟩
section
variable {P : Program} {C : Ctx} {N : Nat} {ops rest : List Oper} {o : Oper} {t : List (Nat × D)} {h : List (Nat × Blk)} {k : List (Nat × Value)} {Q : Exit → S → Prop} {tab : List (Option TI)}
def WkX {Y : Type} (C : Ctx) (s : S) (S1 : Y → S) : Prop := ∀ H a w, Core C H s.h s.k w → TOK H s.t a → ∃ y H', H.le H' ∧ Core C H' (S1 y).h (S1 y).k w ∧ TOK H' (S1 y).t a
theorem WkX.of {Y : Type} {s : S} {S1 : Y → S} (y : Y) (h : WkS C s (S1 y)) : WkX C s S1 := fun H a w c t => by
  obtain ⟨H', h1, h2, h3⟩ := h H a w c t
  exact ⟨y, H', h1, h2, h3⟩
theorem WkX.wk {Y : Type} {s s' : S} {S1 : Y → S} (h : WkS C s s') (g : WkX C s' S1) : WkX C s S1 := fun H a w c t => by
  obtain ⟨H', h1, h2, h3⟩ := h H a w c t
  obtain ⟨y, H2, g1, g2, g3⟩ := g H' a w h2 h3
  exact ⟨y, H2, Hp.le_trans h1 g1, g2, g3⟩
theorem look_put {t : List (Nat × D)} {H : Hp} {a : Act} (kt : TOK H t a) {i : Nat} {d : D} {v : Value} (h1 : a.tmps[i]? = some v) (h2 : Rep H d v) : TOK H ((i, d) :: t) a := by
  intro j d' e
  simp only [look] at e
  cases hb : Nat.beq i j with
  | true =>
    rw [hb] at e; simp at e; subst e
    have := Nat.eq_of_beq_eq_true hb; subst this
    exact ⟨v, h1, h2⟩
  | false => rw [hb] at e; exact kt j d' (by simpa using e)
theorem WkX.tokF {Y : Type} {S1 : Y → S} {i kk : Nat} {xs : List D} (hx : look t i = some (.lst kk xs .full)) (g : ∀ y, WkX C ⟨(i, .lst kk xs (.cur y)) :: t, h, (kk, y) :: k⟩ S1) : WkX C ⟨t, h, k⟩ S1 := fun H a w c kt => by
  obtain ⟨v, h1, h2⟩ := kt i _ hx
  obtain ⟨h3, h4⟩ := lst_cur h2
  exact g v H a w (c.tokFull kk h3) (look_put kt h1 h4)
theorem rep_nil {H : Hp} {k k' : Nat} {c : Cap} {y : Value} (h : Rep H (.lst k [] c) y) (hc : CapOK c y) : Rep H (.lst k' [] c) y := by
  obtain ⟨h1, h2⟩ := h
  refine ⟨?_, by cases y <;> first | rfl | cases h2⟩
  simp only [RepC] at h1 ⊢
  obtain ⟨z, e, h3, h4⟩ := h1
  refine ⟨z, e, h3, ?_⟩
  rcases h4 with ⟨_, h4⟩ | ⟨b, off, m, e1, e2, e3⟩
  · exact .inl ⟨by trivial, h4⟩
  · exact .inr ⟨b, off, m, e1, e2, by simp [Els]⟩
theorem WkX.tokN {Y : Type} {S1 : Y → S} {i k0 : Nat} (kk : Nat) (hx : look t i = some (.lst k0 [] .full)) (g : ∀ y, WkX C ⟨(i, .lst kk [] (.cur y)) :: t, h, (kk, y) :: k⟩ S1) : WkX C ⟨t, h, k⟩ S1 := fun H a w c kt => by
  obtain ⟨v, h1, h2⟩ := kt i _ hx
  have h5 := rep_nil (k' := kk) h2 (rep_lst_inv h2).1
  obtain ⟨h3, h4⟩ := lst_cur h5
  exact g v H a w (c.tokFull kk h3) (look_put kt h1 h4)
theorem WkS.perm {t t' : List (Nat × D)} {h' hj : List (Nat × Blk)} {k' kj : List (Nat × Value)} (e : ∀ i d, look t' i = some d → ∃ d0, look t i = some d0 ∧ Wk d0 d) (hh : h.Perm (h' ++ hj)) (kk : k.Perm (k' ++ kj)) : WkS C ⟨t, h, k⟩ ⟨t', h', k'⟩ := fun H a w c kt => by
  refine ⟨H, Hp.le_refl H, (c.perm hh kk).drop (List.sublist_append_left _ _) (List.sublist_append_left _ _), ?_⟩
  intro i d hd
  obtain ⟨d0, h1, h2⟩ := e i d hd
  obtain ⟨v, h3, h4⟩ := kt i d0 h1
  exact ⟨v, h3, h2 H v h4⟩
theorem wpD_wkX {Y : Type} {c : Code} {s : S} {S1 : Y → S} (hs : WkX C s S1) (g : ∀ y, wpD P C N c (S1 y) Q) : wpD P C N c s Q := by
  rintro a w ⟨H, c0, kt, hN, hdf⟩
  obtain ⟨y, H', hle, c', kt'⟩ := hs H a w c0 kt
  exact g y a w ⟨H', c', kt', hN, hdf⟩
theorem wpD_mid {Y : Type} {c : Code} {s : S} (S1 : Y → S) (h1 : wpD P C N c s (fun x s' => x = .normal ∧ WkX C s' S1)) (h2 : ∀ s', WkX C s' S1 → Q .normal s') : wpD P C N c s Q :=
  wpD_mono h1 fun _ s' ⟨e, hw⟩ => by subst e; exact h2 s' hw
def midX {τ ρ Y : Type} (C : Ctx) (S1 : τ → Y → S) (Q : Exit → S → Prop) (x : τ ⊕ ρ) : Exit → S → Prop := fun e s =>
  match x with
  | .inl v => e = .normal ∧ WkX C s (S1 v)
  | .inr _ => e = .ret ∧ Q .ret s
theorem wpD_midX {τ ρ Y : Type} {c : Code} {s : S} (S1 : τ → Y → S) (x : τ ⊕ ρ) (h1 : wpD P C N c s (midX C S1 Q x)) (h2 : ∀ v s', x = .inl v → WkX C s' (S1 v) → Q .normal s') : wpD P C N c s Q := by
  refine wpD_mono h1 fun e s' hm => ?_
  cases x with
  | inl v =>
    obtain ⟨e1, hw⟩ := hm
    subst e1
    exact h2 v s' rfl hw
  | inr r =>
    obtain ⟨e1, hq⟩ := hm
    subst e1
    exact hq
theorem WkX.trans {Y Z : Type} {s : S} {S1 : Y → S} {S2 : Z → S} (h : WkX C s S1) (g : ∀ y, WkX C (S1 y) S2) : WkX C s S2 := fun H a w c kt => by
  obtain ⟨y, H1, l1, c1, t1⟩ := h H a w c kt
  obtain ⟨z, H2, l2, c2, t2⟩ := g y H1 a w c1 t1
  exact ⟨z, H2, Hp.le_trans l1 l2, c2, t2⟩
def LP {σ τ : Type} (t : τ) (G : σ → Prop) : Step σ τ → Prop
  | .next s => G s
  | .done u => u = t
theorem lp_next {σ τ : Type} {t : τ} {G : σ → Prop} {s : σ} (h : Yes (some (Step.next s)) (LP t G)) : G s := by obtain ⟨x, h1, h2⟩ := h; cases h1; exact h2
theorem lp_done {σ τ : Type} {t u : τ} {G : σ → Prop} (h : Yes (some (Step.done (σ := σ) u)) (LP t G)) : u = t := by obtain ⟨x, h1, h2⟩ := h; cases h1; exact h2
theorem yes_loop {σ τ : Type} {f : σ → Option (Step σ τ)} {t : τ} {n : Nat} {x : σ} (h : loopN f (n + 1) x = some t) : Yes (f x) (LP t fun x' => loopN f n x' = some t) := by
  simp only [loopN] at h
  cases e : f x with
  | none => rw [e] at h; cases h
  | some st =>
    rw [e] at h
    cases st with
    | next s' => exact ⟨_, rfl, h⟩
    | done u => exact ⟨_, rfl, by simpa [LP] using h⟩
theorem loop_M {σ τ Y : Type} {f : σ → Option (Step σ τ)} {x0 : σ} {u : τ} {s : S} {c : Code} (hl : loopM f x0 = some u) (St : σ → Y → S) (hw : WkX C s (St x0))
    (hb : ∀ (G : σ → Prop) x y, Yes (f x) (LP u G) → wpD P C N c (St x y) (thenD (fun s' => ∃ x', G x' ∧ WkX C s' (St x')) Q)) : wpD P C N (.loop c) s Q := by
  obtain ⟨n, hn⟩ := loopM_inv hl
  have key : ∀ n x y, loopN f n x = some u → roundsD P C N c Q n (St x y) := by
    intro n
    induction n with
    | zero => intro x y h; simp [loopN] at h
    | succ n ih =>
      intro x y h
      refine roundsD_succ (wpD_mono (hb _ x y (yes_loop h)) ?_)
      intro e s' q
      cases e with
      | normal =>
        obtain ⟨x', h1, h2⟩ := q
        rintro a w ⟨H, c0, kt, hN, hdf⟩
        obtain ⟨y', H', hle, c', kt'⟩ := h2 H a w c0 kt
        exact ih x' y' h1 a w ⟨H', c', kt', hN, hdf⟩
      | _ => exact q
  exact wpD_wkX hw (fun y => wpD_loop n (key n x0 y hn))
def retX (C : Ctx) (tab : List (Option TI)) (rs : List ResultVar) (R : D → List (Nat × Blk) → List (Nat × Value) → Prop) (x : Exit) (s : S) : Prop := ∀ H a w, Core C H s.h s.k w → TOK H s.t a → ∃ s' H', H.le H' ∧ Core C H' s'.h s'.k w ∧ TOK H' s'.t a ∧ retD tab rs R x s'
theorem retX.of {rs : List ResultVar} {R : D → List (Nat × Blk) → List (Nat × Value) → Prop} {x : Exit} {s s' : S} (h : WkS C s s') (g : retD tab rs R x s') : retX C tab rs R x s := fun H a w c kt => by
  obtain ⟨H', h1, h2, h3⟩ := h H a w c kt
  exact ⟨s', H', h1, h2, h3, g⟩
theorem retX.wk {rs : List ResultVar} {R : D → List (Nat × Blk) → List (Nat × Value) → Prop} {x : Exit} {s s' : S} (h : WkS C s s') (g : retX C tab rs R x s') : retX C tab rs R x s := fun H a w c kt => by
  obtain ⟨H', h1, h2, h3⟩ := h H a w c kt
  obtain ⟨s2, H2, g1, g2⟩ := g H' a w h2 h3
  exact ⟨s2, H2, Hp.le_trans h1 g1, g2⟩
theorem retX.wkX {Y : Type} {S1 : Y → S} {rs : List ResultVar} {R : D → List (Nat × Blk) → List (Nat × Value) → Prop} {x : Exit} {s : S} (h : WkX C s S1) (g : ∀ y, retX C tab rs R x (S1 y)) : retX C tab rs R x s := fun H a w c kt => by
  obtain ⟨y, H', h1, h2, h3⟩ := h H a w c kt
  obtain ⟨s2, H2, g1, g2⟩ := g y H' a w h2 h3
  exact ⟨s2, H2, Hp.le_trans h1 g1, g2⟩
theorem retX.tokF {rs : List ResultVar} {R : D → List (Nat × Blk) → List (Nat × Value) → Prop} {x : Exit} {i kk : Nat} {xs : List D} (hx : look t i = some (.lst kk xs .full)) (g : ∀ y, retX C tab rs R x ⟨(i, .lst kk xs (.cur y)) :: t, h, (kk, y) :: k⟩) : retX C tab rs R x ⟨t, h, k⟩ := fun H a w c kt => by
  obtain ⟨v, h1, h2⟩ := kt i _ hx
  obtain ⟨h3, h4⟩ := lst_cur h2
  exact g v H a w (c.tokFull kk h3) (look_put kt h1 h4)
theorem retX.tokN {rs : List ResultVar} {R : D → List (Nat × Blk) → List (Nat × Value) → Prop} {x : Exit} {i k0 : Nat} (kk : Nat) (hx : look t i = some (.lst k0 [] .full)) (g : ∀ y, retX C tab rs R x ⟨(i, .lst kk [] (.cur y)) :: t, h, (kk, y) :: k⟩) : retX C tab rs R x ⟨t, h, k⟩ := fun H a w c kt => by
  obtain ⟨v, h1, h2⟩ := kt i _ hx
  have h5 := rep_nil (k' := kk) h2 (rep_lst_inv h2).1
  obtain ⟨h3, h4⟩ := lst_cur h5
  exact g v H a w (c.tokFull kk h3) (look_put kt h1 h4)
theorem enterX {f : FuncId} {fn : Func} {c : Code} {ds : List D} {R : D → List (Nat × Blk) → List (Nat × Value) → Prop} {rs : List ResultVar} (ht : TabOK P tab)
    (hf : P.funcs[f]? = some fn) (hb : fn.body = some c) (hn : (fn.name == "runtime.NumGoroutine") = false) {N : Nat} (hN : fn.ntmps = N) (hl : Nat.ble ds.length N = true) (hrs : fn.results.toList = rs)
    (hw : ∀ C, wpD P C N c ⟨argT 0 ds, h, k⟩ (retX C tab rs R)) : CallsD P f ds h k R := by
  refine enter ht hf hb hn hN hl hrs fun C => ?_
  intro a w r
  refine wp_mono (hw C a w r) ?_
  rintro x a' w' ⟨s, ⟨H, c0, kt, hN, hdf⟩, hk⟩
  obtain ⟨s', H', hle, c', kt', hr⟩ := hk H a' w' c0 kt
  exact ⟨s', ⟨H', c', kt', hN, hdf⟩, hr⟩
theorem resL_cons {s : S} {r : ResultVar} {rs : List ResultVar} {d : D} {ds : List D} (h1 : resOne tab s r d) (h2 : resL tab s rs ds) : resL tab s (r :: rs) (d :: ds) := ⟨d, ds, rfl, h1, h2⟩
theorem resOne_tmp {s : S} {i : Nat} {d : D} (h1 : look s.t i = some d) : resOne tab s (.tmp i) d := h1
theorem resOne_cell {s : S} {a b off : Nat} {T T' : TypeId} {ds : List D} {i : TI} {d : D} (j : Nat) (h1 : look s.t a = some (.ptr b off)) (h2 : s.h[j]? = some (b, Blk.cells ds T')) (h3 : ti tab T = some i) (h4 : partD i ds off = some d) : resOne tab s (.cell a T) d := ⟨j, b, off, ds, T', i, h1, h2, h3, h4⟩
theorem retD_mk {R : D → List (Nat × Blk) → List (Nat × Value) → Prop} {rs : List ResultVar} {x : Exit} {s : S} {ds : List D} {hh : List (Nat × Blk)} {kk : List (Nat × Value)} (hx : x = .ret ∨ x = .normal) (hr : resL tab s rs ds) (hs : hh.Sublist s.h) (ks : kk.Sublist s.k) (g : R (wrapD ds) hh kk) : retD tab rs R x s := ⟨hx, ds, hh, kk, hr, hs, ks, g⟩
theorem p_mapD {α : Type} {e0 : α → D} {i kk : Nat} {xs ys zs : List α} {bb : Nat} {c : Cap} (q : app bb xs ys = some zs) (hx : look t i = some (.lst kk (xs.map e0 ++ ys.map e0) c)) (g : opsD P C N ops rest ⟨(i, .lst kk (zs.map e0) c) :: t, h, k⟩ Q) : opsD P C N ops rest ⟨t, h, k⟩ Q :=
  p_eq hx (Wk.of_eq (by rw [app_map q])) g
theorem p_mapD0 {α : Type} {e0 : α → D} {i kk : Nat} {ys zs : List α} {bb : Nat} {c : Cap} (q : app bb [] ys = some zs) (hx : look t i = some (.lst kk (ys.map e0) c)) (g : opsD P C N ops rest ⟨(i, .lst kk (zs.map e0) c) :: t, h, k⟩ Q) : opsD P C N ops rest ⟨t, h, k⟩ Q :=
  p_eq hx (Wk.of_eq (by rw [(app_ok q).1]; simp)) g
theorem perm_set {α : Type} : ∀ {l : List α} {j : Nat} {x y : α}, l[j]? = some x → (y :: l.eraseIdx j).Perm (l.set j y)
  | [], j, x, y, h => by simp at h
  | a :: l, 0, x, y, h => by simp
  | a :: l, j + 1, x, y, h => by
    simp at h
    simp only [List.eraseIdx_cons_succ, List.set_cons_succ]
    exact (List.Perm.swap a y _).trans ((perm_set h).cons a)
end
section
variable {P : Program} {C : Ctx} {N : Nat} {ops rest : List Oper} {o : Oper} {t : List (Nat × D)} {h : List (Nat × Blk)} {k : List (Nat × Value)} {Q : Exit → S → Prop} {tab : List (Option TI)}
theorem midX_inl {τ ρ Y : Type} {S1 : τ → Y → S} {s : S} {v : τ} (g : WkX C s (S1 v)) : midX (ρ := ρ) C S1 Q (.inl v) .normal s := ⟨rfl, g⟩
theorem midX_inr {τ ρ Y : Type} {S1 : τ → Y → S} {s : S} {r : ρ} (g : Q .ret s) : midX C S1 Q (.inr r) .ret s := ⟨rfl, g⟩
theorem CallsD.drop {f : FuncId} {ds : List D} {R : D → List (Nat × Blk) → List (Nat × Value) → Prop} {d1 : D} (c : CallsD P f ds h k R) (hr : ∀ d h k, R d h k → Wk d d1) : CallsD P f ds h k (fun d h k => d = d1 ∧ h = [] ∧ k = []) := by
  refine ⟨c.1, fun H w vs h1 h2 h3 h4 h5 => (c.2 H w vs h1 h2 h3 h4 h5).mono ?_⟩
  rintro e w' ⟨v, H', d, h', k', e1, e2, e3, e4⟩
  exact ⟨v, H', d1, [], [], e1, hr d h' k' e4 H' v e2, e3.drop (List.nil_sublist _) (List.nil_sublist _), rfl, rfl, rfl⟩
theorem Ex.wk {d d' : D} (h : Ex P o t d) (k : Wk d d') : Ex P o t d' := fun H a w kt => let ⟨v, h1, h2⟩ := h H a w kt; ⟨v, h1, k H v h2⟩
theorem ExE.wk {d d' : D} (h : ExE P o t d) (k : Wk d d') : ExE P o t d' := fun H a w hA kt => let ⟨v, w', H', h1, h2, h3⟩ := h H a w hA kt; ⟨v, w', H', h1, h2, k H' v h3⟩
theorem w_eq {c : Code} {i : Nat} {d d' : D} (hx : look t i = some d) (e : Wk d d') (g : wpD P C N c ⟨(i, d') :: t, h, k⟩ Q) : wpD P C N c ⟨t, h, k⟩ Q := by
  rintro a w ⟨H, c0, kt, hN, hdf⟩
  obtain ⟨v, h1, h2⟩ := kt i _ hx
  exact g a w ⟨H, c0, look_put kt h1 (e H v h2), hN, hdf⟩
end
def eI64 (n : Int) : D := .v (.int .i64 n)
def eStr (s : ByteArray) : D := .v (.string s)
def eList {α : Type} (k : Nat) (e : α → D) (l : List α) : D := .lst k (l.map e) .no
end Go.Proofs.Ytpeimfcmhedjmaa.Ab
namespace Go.Proofs.Ytpeimfcmhedjmaa.Ab
open Go
set_option linter.all false
def Le {α : Type} (m m' : Option α) : Prop := ∀ r, m = some r → m' = some r
theorem Le.refl {α : Type} (m : Option α) : Le m m := fun _ h => h
theorem Le.none {α : Type} (m : Option α) : Le Option.none m := fun _ h => by cases h
theorem Le.bind {α β : Type} {m m' : Option α} {f f' : α → Option β} (h : Le m m') (k : ∀ x, Le (f x) (f' x)) : Le (m.bind f) (m'.bind f') := fun r e => by
  rw [Option.bind_eq_some_iff] at e ⊢
  obtain ⟨a, h1, h2⟩ := e
  exact ⟨a, h a h1, k a r h2⟩
theorem Le.cond {α : Type} {c : Bool} {m m' n n' : Option α} (h : Le m m') (k : Le n n') : Le (bif c then m else n) (bif c then m' else n') := by
  cases c
  · exact k
  · exact h
theorem Le.elim {α β γ : Type} {f f' : α → Option γ} {g g' : β → Option γ} {x : α ⊕ β} (h : ∀ a, Le (f a) (f' a)) (k : ∀ b, Le (g b) (g' b)) : Le (Sum.elim f g x) (Sum.elim f' g' x) := by
  cases x
  · exact h _
  · exact k _
theorem Le.loop {σ τ : Type} {f f' : σ → Option (Step σ τ)} {s : σ} (h : ∀ s, Le (f s) (f' s)) : Le (loopM f s) (loopM f' s) := fun r e => by
  obtain ⟨n, hn⟩ := loopM_inv e
  have key : ∀ n s, loopN f n s = some r → loopN f' n s = some r := by
    intro n
    induction n with
    | zero => intro s h; simp [loopN] at h
    | succ n ih =>
      intro s e
      simp only [loopN] at e ⊢
      cases hf : f s with
      | none => rw [hf] at e; cases e
      | some x =>
        rw [hf] at e
        rw [h s x hf]
        cases x with
        | next s' => exact ih s' e
        | done t => exact e
  exact loopM_of (key n s hn)
open Classical in
noncomputable def anyN {α : Type} (f : Nat → Option α) : Option α := if h : ∃ n r, f n = some r then some h.choose_spec.choose else Option.none
theorem anyN_inv {α : Type} {f : Nat → Option α} {r : α} (h : anyN f = some r) : ∃ n, f n = some r := by
  unfold anyN at h
  split at h
  · rename_i hx
    simp only [Option.some.injEq] at h
    exact ⟨_, h ▸ hx.choose_spec.choose_spec⟩
  · cases h
theorem anyN_of {α : Type} {f : Nat → Option α} (hle : ∀ n, Le (f n) (f (n + 1))) {r : α} {n : Nat} (h : f n = some r) : anyN f = some r := by
  have up : ∀ (k n : Nat) (r : α), f n = some r → f (n + k) = some r := by
    intro k
    induction k with
    | zero => intro n r e; exact e
    | succ k ih => intro n r e; exact hle _ _ (ih n r e)
  have hx : ∃ n r, f n = some r := ⟨n, r, h⟩
  unfold anyN
  rw [dif_pos hx]
  have h1 := hx.choose_spec.choose_spec
  have h2 := up n _ _ h1
  have h3 := up hx.choose _ _ h
  rw [Nat.add_comm] at h3
  exact h2.symm.trans h3
def ltB (a b : ByteArray) : Bool := Op.bytesLess a.toList b.toList
section
variable {P : Program} {C : Ctx} {N : Nat} {ops rest : List Oper} {o : Oper} {t : List (Nat × D)} {h : List (Nat × Blk)} {k : List (Nat × Value)} {Q : Exit → S → Prop} {tab : List (Option TI)}
def strLV (op : BinOp) (a b : ByteArray) : Option Bool :=
  match op with
  | .lss => some (ltB a b)
  | .geq => some (!ltB a b)
  | .leq => some (ltB a b || a.toList == b.toList)
  | .gtr => some (!(ltB a b || a.toList == b.toList))
  | _ => none
theorem x_ltS {op : BinOp} {xt yt : TypeId} {x y : Operand} {a b : ByteArray} {r : Bool} (ho : o.op = .binOp op xt x y yt) (hx : opD t x = some (.v (.string a))) (hy : opD t y = some (.v (.string b))) (e : strLV op a b = some r) : Ex P o t (.v (.bool r)) := fun H ac w kt => by
  refine ⟨.bool r, ?_, rep_v rfl⟩
  unfold execOp
  rw [ho]
  refine exec_v ?_
  rw [rep_v_inv (opD_ok kt hx), rep_v_inv (opD_ok kt hy)]
  cases op <;> simp only [strLV, Option.some.injEq, reduceCtorEq] at e <;> subst e <;> simp [eqGuard, binOp, Op.stringOp, ltB] <;> rfl
theorem p_ltS {i : Nat} {op : BinOp} {xt yt : TypeId} {x y : Operand} {a b : ByteArray} {r : Bool} (ho : o.op = .binOp op xt x y yt) (hw : wantD ops t o = some true) (hd : o.dst = some i) (hi : Nat.blt i N = true) (hx : opD t x = some (.v (.string a))) (hy : opD t y = some (.v (.string b))) (e : strLV op a b = some r)
    (g : opsD P C N ops rest ⟨(i, .v (.bool r)) :: t, h, k⟩ Q) : opsD P C N ops (o :: rest) ⟨t, h, k⟩ Q := ops_run (s := ⟨t, h, k⟩) hw hd hi (x_ltS ho hx hy e) g
theorem repsV_append {H : Hp} : ∀ {l m : List D} {us vs : List Value}, RepsV H l us → RepsV H m vs → RepsV H (l ++ m) (us ++ vs)
  | [], m, us, vs, h, k => by simp only [RepsV] at h; subst h; simpa using k
  | d :: l, m, us, vs, h, k => by
    simp only [RepsV] at h
    obtain ⟨u, us', rfl, h1, h2⟩ := h
    simp only [List.cons_append, RepsV]
    exact ⟨u, _, rfl, h1, repsV_append h2 k⟩
theorem rep_fn_inv {H : Hp} {f : Fn} {as_ cs : List D} {y : Value} (h : Rep H (.fn f as_ cs) y) : ∃ vs ws, y = .func f vs.toArray ws.toArray ∧ RepsV H as_ vs ∧ RepsV H cs ws := by
  obtain ⟨h1, h2⟩ := h
  cases y <;> simp [D.shape] at h2 <;> simp [RepC, Value.cells] at h1 <;> simp [h1]
theorem callV_run {f : FuncId} {args : List Operand} {ts : Array TypeId} {x : Operand} {a : Act} {w : World} {vs ws : List Value} (ho : o.op = .call ⟨.value x, args.toArray, ts⟩) (hx : a.eval x = .func (.func f) vs.toArray ws.toArray) (h : Goes P f) : (execOp a.eval o).run P w = .ok (.enter f (vs ++ args.map a.eval ++ ws).toArray) w := by
  unfold execOp
  rw [ho]
  simp only []
  have : (resolve a.eval ⟨.value x, args.toArray, ts⟩ o.type).run P w = .ok ⟨.fn (.func f) ws.toArray, vs.toArray ++ (args.map a.eval).toArray⟩ w := by
    simp [resolve, Deferred.ofValue, hx]
    first | done | rfl
  rw [run_bind_ok this]
  show (callFunc f (vs.toArray ++ (args.map a.eval).toArray ++ ws.toArray)).run P w = _
  rw [callFunc_run h]
  simp
theorem p_callV {f : FuncId} {x : Operand} {args : List Operand} {ts : Array TypeId} {i : Nat} {as_ cs ds da ds' : List D} {h1 h2 : List (Nat × Blk)} {k1 k2 : List (Nat × Value)} {R : D → List (Nat × Blk) → List (Nat × Value) → Prop}
    (hc : CallsD P f ds' h1 k1 R) (hx : opD t x = some (.fn (.func f) as_ cs)) (ho : o.op = .call ⟨.value x, args.toArray, ts⟩) (hw : wantD ops t o = some true) (hd : o.dst = some i) (hi : Nat.blt i N = true) (ha : someMap args (opD t) = some ds) (hda : as_ ++ ds ++ cs = da) (hwk : WkL da ds')
    (hh : h.Perm (h1 ++ h2)) (hk : k.Perm (k1 ++ k2)) (g : ∀ d h' k', R d h' k' → opsD P C N ops rest ⟨(i, d) :: t, h' ++ h2, k' ++ k2⟩ Q) : opsD P C N ops (o :: rest) ⟨t, h, k⟩ Q := by
  subst hda
  rintro a w ⟨H, c, kt, hN, hdf⟩
  obtain ⟨vs, ws, ex, r1, r2⟩ := rep_fn_inv (opD_ok kt hx)
  unfold wpList
  rw [wantD_ok kt hw, if_pos rfl]
  refine .inl ?_
  unfold Oper.wp
  rw [callV_run ho ex hc.1, Oper.upon_enter]
  have c0 := c.perm hh hk
  have nd := (claims_append h1 h2 k1 k2).nodup_iff.1 c0.nd
  rw [List.nodup_append] at nd
  have hv := hwk H _ (repsV_append (repsV_append r1 (someMap_ok kt ha)) r2)
  have := hc.2 H w _ hv c.ag (fun p hp => c0.blks p (List.mem_append_left _ hp)) (fun p hp => c0.toks p (List.mem_append_left _ hp)) nd.1
  refine this.mono ?_
  rintro e w' ⟨v, H', d, h', k', rfl, hr, hcore, hR⟩
  simp only []
  rw [hd]
  refine g d h' k' hR _ _ ⟨H', Core.call c0 hcore, TOK.put (kt.mono hcore.le) (by rw [hN]; simpa using hi) hr, ?_, hdf⟩
  simp only [Act.put, Array.size_setIfInBounds]; exact hN
theorem p_callV0 {f : FuncId} {x : Operand} {args : List Operand} {ts : Array TypeId} {i : Nat} {as_ cs ds da ds' : List D} {R : D → Prop}
    (hc : CallsD P f ds' [] [] (fun d h k => R d ∧ h = [] ∧ k = [])) (hx : opD t x = some (.fn (.func f) as_ cs)) (ho : o.op = .call ⟨.value x, args.toArray, ts⟩) (hw : wantD ops t o = some true) (hd : o.dst = some i) (hi : Nat.blt i N = true) (ha : someMap args (opD t) = some ds) (hda : as_ ++ ds ++ cs = da) (hwk : WkL da ds')
    (g : ∀ d, R d → opsD P C N ops rest ⟨(i, d) :: t, h, k⟩ Q) : opsD P C N ops (o :: rest) ⟨t, h, k⟩ Q :=
  p_callV (h1 := []) (k1 := []) (h2 := h) (k2 := k) hc hx ho hw hd hi ha hda hwk (List.Perm.refl _) (List.Perm.refl _) fun d h' k' ⟨r, e1, e2⟩ => by subst e1; subst e2; exact g d r
end
end Go.Proofs.Ytpeimfcmhedjmaa.Ab
namespace Go.Proofs.Ytpeimfcmhedjmaa.Ab
open Go
set_option linter.all false
section
variable {P : Program} {C : Ctx} {N : Nat} {ops rest : List Oper} {o : Oper} {t : List (Nat × D)} {h : List (Nat × Blk)} {k : List (Nat × Value)} {Q : Exit → S → Prop} {tab : List (Option TI)}
end
end Go.Proofs.Ytpeimfcmhedjmaa.Ab
namespace Go.Proofs.Ytpeimfcmhedjmaa.Ab
open Go
set_option linter.all false
section
variable {P : Program} {C : Ctx} {N : Nat} {ops rest : List Oper} {o : Oper} {t : List (Nat × D)} {h : List (Nat × Blk)} {k : List (Nat × Value)} {Q : Exit → S → Prop} {tab : List (Option TI)}
end
end Go.Proofs.Ytpeimfcmhedjmaa.Ab
namespace Go.Proofs.Ytpeimfcmhedjmaa.Ab
open Go
set_option linter.all false
section
variable {P : Program} {C : Ctx} {N : Nat} {l : List Oper} {m : Nat} {De : Nat → D} {al : AL} {pre : List (List Nat)} {ev : List Nat} {h : List (Nat × Blk)} {k : List (Nat × Value)} {Q : Exit → S → Prop} {bs : Nat → Nat} {i : Nat} {o : Oper} {rest : List Oper} {te : TE}
end
end Go.Proofs.Ytpeimfcmhedjmaa.Ab
namespace Go.Proofs.Ytpeimfcmhedjmaa.Ab
open Go
set_option linter.all false
section
variable {P : Program} {C : Ctx} {N : Nat} {ops rest : List Oper} {o : Oper} {t : List (Nat × D)} {h : List (Nat × Blk)} {k : List (Nat × Value)} {Q : Exit → S → Prop} {tab : List (Option TI)}
end
end Go.Proofs.Ytpeimfcmhedjmaa.Ab
namespace Go.Proofs.Ytpeimfcmhedjmaa.Ab
open Go
set_option linter.all false
abbrev SL (z : Option Addr × Nat × Nat) : Value := .slice z.1 z.2.1 z.2.2
abbrev Z3 := Option Addr × Nat × Nat
theorem flat_els {H H' : Hp} {k b : Nat} : ∀ {xs : List D} {us : List Value} {off : Nat}, H.le H' → FlatR H k xs us → Told H' b off us → Els H' k b off xs
  | [], us, off, _, _, _ => by simp [Els]
  | x :: xs, us, off, hle, h, ht => by
    obtain ⟨u1, u2, rfl, hl, ⟨h1, h2⟩, h3⟩ := h
    simp only [Els]
    refine ⟨⟨u1, hl, RepC.mono hle x u1 h1, fun j u e => ht j u (by rw [List.getElem?_append_left (List.getElem?_eq_some_iff.1 e).1]; exact e), h2⟩, flat_els hle h3 fun j u e => ?_⟩
    have := ht (k + j) u (by rw [List.getElem?_append_right (by omega)]; rw [hl]; simpa using e)
    rw [show off + k + j = off + (k + j) by omega]; exact this
theorem flat_len {H : Hp} {k : Nat} : ∀ {xs : List D} {us : List Value}, FlatR H k xs us → us.length = xs.length * k
  | [], us, h => by
    have : us = [] := h
    subst this; simp
  | x :: xs, us, h => by
    obtain ⟨u1, u2, rfl, hl, _, h3⟩ := h
    simp [hl, flat_len h3, Nat.add_mul]; omega
theorem flat_one {H : Hp} {k : Nat} : ∀ {xs : List D} {us : List Value}, FlatR H k xs us → ∀ u ∈ us, one u = true
  | [], us, h, u, hu => by
    have : us = [] := h
    subst this; cases hu
  | x :: xs, us, h, u, hu => by
    obtain ⟨u1, u2, rfl, hl, ⟨_, h2⟩, h3⟩ := h
    rcases List.mem_append.1 hu with x | x
    · exact h2 u x
    · exact flat_one h3 u x
theorem flat_append {H : Hp} {k : Nat} : ∀ {xs ys : List D} {us vs : List Value}, FlatR H k xs us → FlatR H k ys vs → FlatR H k (xs ++ ys) (us ++ vs)
  | [], ys, us, vs, h, g => by
    have : us = [] := h
    subst this; simpa using g
  | x :: xs, ys, us, vs, h, g => by
    obtain ⟨u1, u2, rfl, hl, h1, h3⟩ := h
    exact ⟨u1, u2 ++ vs, by simp, hl, h1, flat_append h3 g⟩
theorem els_flatR {H : Hp} {k b : Nat} : ∀ {xs : List D} {off : Nat}, Els H k b off xs → ∃ us : List Value, us.length = xs.length * k ∧ Told H b off us ∧ FlatR H k xs us
  | [], off, _ => ⟨[], by simp, fun j u e => by simp at e, rfl⟩
  | x :: xs, off, h => by
    simp only [Els] at h
    obtain ⟨⟨us, h1, h2, h3, h4⟩, h5⟩ := h
    obtain ⟨vs, g1, g2, g3⟩ := els_flatR h5
    refine ⟨us ++ vs, by simp [h1, g1, Nat.add_mul]; omega, fun j u e => ?_, us, vs, rfl, h1, ⟨h2, h4⟩, g3⟩
    rw [List.getElem?_append] at e
    split at e
    · exact h3 j u e
    · have := g2 _ _ e
      rw [show off + k + (j - us.length) = off + j by omega] at this
      exact this
theorem told_sl {H : Hp} {k : Nat} {xs : List D} {y : Value} (h : RepC H (.lst k xs (.cur y)) [y]) : Rep H (.lst k xs (.cur y)) y := by
  have h0 := h
  simp only [RepC] at h
  obtain ⟨z, e, _, h⟩ := h
  simp at e
  subst e
  have h1 : one y = true := by
    rcases h with ⟨_, a, m, rfl, _⟩ | ⟨b, off, m, rfl, _⟩ <;> rfl
  exact rep_cell h0 h1 rfl
section
variable {C : Ctx} {t : List (Nat × D)} {h : List (Nat × Blk)} {k : List (Nat × Value)}
theorem row_told {H : Hp} {w : World} {r kk : Nat} {xs : List D} {y : Value} (hA : Ag H w) (hb : BlkOK H w (r, .row kk xs y)) :
    ∃ H', H.le H' ∧ Core ⟨H, w, claims [(r, .row kk xs y)] []⟩ H' [(r, .told kk xs y)] [(kk, y)] w := by
  rcases hb with ⟨a, rfl, rfl⟩ | ⟨b, m, us, rest, T, rfl, h0, hm, h1, h2, h3, h4⟩
  · refine ⟨H, Hp.le_refl H, hA, Hp.le_refl H, fun _ _ x => .inl x, fun _ _ _ => rfl, Nat.le_refl _, ?_, ?_, ?_, ?_, Env.refl w⟩
    · intro p hp
      simp only [List.mem_singleton] at hp; subst hp
      show RepC H _ _
      simp only [RepC, CapOK]
      exact ⟨_, rfl, by trivial, .inl ⟨by trivial, a, 0, rfl, fun _ => rfl⟩⟩
    · intro p hp
      simp only [List.mem_singleton] at hp; subst hp
      intro a n m e hlt
      simp only [Value.slice.injEq] at e
      omega
    · cases a <;> simp [claims, blkClaim, tokClaim]
    · cases a <;> simp [claims, blkClaim, tokClaim]
  · have hl := flat_len h2
    let H' : Hp := tell H b us
    have hle : H.le H' := fun a v e => by
      show (if a.block = b ∧ a.spot = none then us[a.off]? else H a) = some v
      rw [if_neg]
      · exact e
      · rintro ⟨q1, q2⟩
        obtain ⟨ab, ao, as_⟩ := a
        simp only at q1 q2; subst q1; subst q2
        rw [h4 ao] at e; cases e
    have htold : Told H' b 0 us := fun j u e => by
      show (if b = b ∧ (none : Option Nat) = none then us[0 + j]? else H _) = some u
      rw [if_pos ⟨rfl, rfl⟩, Nat.zero_add]; exact e
    have hcl : claims [(r, Blk.row kk xs (.slice (some ⟨b, 0, none⟩) xs.length m))] [] = [b] := by simp [claims, blkClaim, sliceClaim, hm]
    refine ⟨H', hle, ?_⟩
    rw [hcl]
    refine ⟨fun a v e => ?_, hle, fun a v e => ?_, fun _ _ _ => rfl, Nat.le_refl _, ?_, ?_, ?_, ?_, Env.refl w⟩
    · by_cases q : a.block = b ∧ a.spot = none
      · have : H' a = us[a.off]? := if_pos q
        rw [this] at e
        obtain ⟨ab, ao, as_⟩ := a
        simp only at q e
        obtain ⟨rfl, rfl⟩ := q
        simp only [World.cell?, h1, Option.isSome_none, Bool.false_eq_true, if_false, List.getElem?_toArray]
        rw [List.getElem?_append_left (List.getElem?_eq_some_iff.1 e).1]; exact e
      · have : H' a = H a := if_neg q
        rw [this] at e; exact hA a v e
    · by_cases q : a.block = b ∧ a.spot = none
      · exact .inr (.inr (by simp [q.1]))
      · have : H' a = H a := if_neg q
        rw [this] at e; exact .inl e
    · intro p hp
      simp only [List.mem_singleton] at hp; subst hp
      show RepC H' _ _
      simp only [RepC, CapOK]
      exact ⟨_, rfl, by trivial, .inr ⟨b, 0, m, rfl, h0, flat_els hle h2 htold⟩⟩
    · intro p hp
      simp only [List.mem_singleton] at hp; subst hp
      intro a n m' e hlt
      simp only [Value.slice.injEq, Option.some.injEq] at e
      obtain ⟨rfl, rfl, rfl⟩ := e
      refine ⟨_, T, h1, rfl, by simpa using h3, fun o ho => ?_⟩
      show (if b = b ∧ (none : Option Nat) = none then us[o]? else H _) = none
      rw [if_pos ⟨rfl, rfl⟩, List.getElem?_eq_none]
      simp only at ho; omega
    · simp only [claims, blkClaim, tokClaim, List.flatMap_cons, List.flatMap_nil, List.append_nil, List.nil_append]
      split <;> simp
    · intro x hx
      simp only [claims, blkClaim, tokClaim, List.flatMap_cons, List.flatMap_nil, List.append_nil, List.nil_append] at hx
      split at hx
      · exact .inl (by simpa using hx)
      · cases hx
theorem WkS.frz {h' : List (Nat × Blk)} {r kk : Nat} {xs : List D} {y : Value} (j : Nat) (hj : h[j]? = some (r, .row kk xs y)) (e : h.set j (r, .told kk xs y) = h') : WkS C ⟨t, h, k⟩ ⟨t, h', (kk, y) :: k⟩ := fun H a w c kt => by
  subst e
  have hb := c.blks _ (List.mem_of_getElem? hj)
  obtain ⟨H', hle, c'⟩ := row_told c.ag hb
  have c1 : Core C H ([(r, .row kk xs y)] ++ h.eraseIdx j) ([] ++ k) w := c.perm (perm_at hj) (List.Perm.refl _)
  exact ⟨H', hle, (Core.call c1 c').perm (perm_set hj) (List.Perm.refl _), kt.mono hle⟩
theorem WkS.tld {r kk : Nat} {xs : List D} {y : Value} (i j : Nat) (hx : look t i = some (.v y)) (hj : h[j]? = some (r, .told kk xs y)) : WkS C ⟨t, h, k⟩ ⟨(i, .lst kk xs (.cur y)) :: t, h, k⟩ := fun H a w c kt => by
  have hb := told_sl (c.blks _ (List.mem_of_getElem? hj))
  obtain ⟨v, h1, h2⟩ := kt i _ hx
  rw [rep_v_inv h2] at h1
  exact ⟨H, Hp.le_refl H, c, look_put kt h1 hb⟩
theorem WkS.tldC {b off r kk : Nat} {ds : List D} {T : TypeId} {xs : List D} {y : Value} {h' : List (Nat × Blk)} (jb j : Nat) (hb : h[jb]? = some (b, .cells ds T)) (hd : ds[off]? = some (.v y)) (hj : h[j]? = some (r, .told kk xs y)) (e : h.set jb (b, .cells (ds.set off (.lst kk xs (.cur y))) T) = h') : WkS C ⟨t, h, k⟩ ⟨t, h', k⟩ := fun H a w c kt => by
  subst e
  have ht : RepC H (.lst kk xs (.cur y)) [y] := c.blks _ (List.mem_of_getElem? hj)
  have hts := told_sl ht
  obtain ⟨us, h1, h2, h3⟩ := c.blks _ (List.mem_of_getElem? hb)
  obtain ⟨u, e1, e2, e3, e4⟩ := reps_get h2 hd
  have hu : u = y := by simp only [RepC] at e2; simpa using e2
  subst hu
  have hcl : claims (h.set jb (b, Blk.cells (ds.set off (.lst kk xs (.cur u))) T)) k = claims h k := claims_set hb rfl
  refine ⟨H, Hp.le_refl H, ⟨c.ag, c.le, c.new, c.same, c.size, ?_, c.toks, by rw [hcl]; exact c.nd, by rw [hcl]; exact c.own, c.env⟩, kt⟩
  intro p hp
  rcases List.mem_or_eq_of_mem_set hp with hp | hp
  · exact c.blks p hp
  · subst hp
    exact ⟨us, h1, reps_set off h2 e1 ⟨ht, rfl⟩, h3⟩
theorem WkS.drop {h' : List (Nat × Blk)} (j : Nat) (e : h.eraseIdx j = h') : WkS C ⟨t, h, k⟩ ⟨t, h', k⟩ := fun H a w c kt => by
  subst e
  exact ⟨H, Hp.le_refl H, c.drop (List.eraseIdx_sublist _ _) (List.Sublist.refl _), kt⟩
theorem row_nil {H : Hp} {w : World} {k0 kk : Nat} {v : Value} (c : Core C H h k w) (hr : Rep H (.lst k0 [] .full) v) : ∃ z : Z3, v = SL z ∧ Core C H ((0, .row kk [] (SL z)) :: h) k w := by
  obtain ⟨hc, hx⟩ := rep_lst_inv hr
  have : ∃ a, v = .slice a 0 0 := by
    rcases hx with ⟨_, a, m, rfl, _⟩ | ⟨b, off, m, rfl, hm, _⟩
    · simp only [CapOK] at hc; subst hc; exact ⟨a, rfl⟩
    · simp only [CapOK, List.length_nil] at hc; subst hc; exact ⟨_, rfl⟩
  obtain ⟨a, rfl⟩ := this
  refine ⟨(a, 0, 0), rfl, c.ag, c.le, c.new, c.same, c.size, ?_, c.toks, ?_, ?_, c.env⟩
  · intro p hp
    rcases List.mem_cons.1 hp with rfl | hp
    · exact .inl ⟨a, rfl, rfl⟩
    · exact c.blks p hp
  · have : claims ((0, Blk.row kk [] (SL (a, 0, 0))) :: h) k = claims h k := by cases a <;> simp [claims, blkClaim, sliceClaim]
    rw [this]; exact c.nd
  · have : claims ((0, Blk.row kk [] (SL (a, 0, 0))) :: h) k = claims h k := by cases a <;> simp [claims, blkClaim, sliceClaim]
    rw [this]; exact c.own
theorem WkX.rowN {Y : Type} {S1 : Y → S} {i k0 : Nat} (kk : Nat) (hx : look t i = some (.lst k0 [] .full)) (g : ∀ z : Z3, WkX C ⟨(i, .v (SL z)) :: t, (0, .row kk [] (SL z)) :: h, k⟩ S1) : WkX C ⟨t, h, k⟩ S1 := fun H a w c kt => by
  obtain ⟨v, h1, h2⟩ := kt i _ hx
  obtain ⟨z, rfl, c'⟩ := row_nil (kk := kk) c h2
  exact g z H a w c' (look_put kt h1 (rep_v rfl))
theorem row_nilC {H : Hp} {w : World} {b off k0 : Nat} {ds : List D} {T : TypeId} (kk j : Nat) (hb : h[j]? = some (b, .cells ds T)) (hd : ds[off]? = some (.lst k0 [] .full)) (c : Core C H h k w) : ∃ z : Z3, Core C H ((0, .row kk [] (SL z)) :: h.set j (b, .cells (ds.set off (.v (SL z))) T)) k w := by
  obtain ⟨us, h1, h2, h3⟩ := c.blks _ (List.mem_of_getElem? hb)
  obtain ⟨u, e1, e2, e3, e4⟩ := reps_get h2 hd
  obtain ⟨z, rfl, c'⟩ := row_nil (kk := kk) c (rep_cell e2 e3 e4)
  have hcl : claims ((0, .row kk [] (SL z)) :: h.set j (b, Blk.cells (ds.set off (.v (SL z))) T)) k = claims ((0, .row kk [] (SL z)) :: h) k := by
    have := claims_set (h := h) (k := k) (y := (b, Blk.cells (ds.set off (.v (SL z))) T)) hb rfl
    simp only [claims, List.flatMap_cons] at this ⊢
    rw [List.append_assoc, this, List.append_assoc]
  refine ⟨z, c'.ag, c'.le, c'.new, c'.same, c'.size, ?_, c'.toks, by rw [hcl]; exact c'.nd, by rw [hcl]; exact c'.own, c'.env⟩
  intro p hp
  rcases List.mem_cons.1 hp with rfl | hp
  · exact c'.blks _ (by simp)
  · rcases List.mem_or_eq_of_mem_set hp with hp | hp
    · exact c.blks p hp
    · subst hp
      exact ⟨us, h1, reps_set off h2 e1 ⟨by simp [RepC], rfl⟩, h3⟩
end
section
variable {P : Program} {C : Ctx} {N : Nat} {ops rest : List Oper} {o : Oper} {t : List (Nat × D)} {h : List (Nat × Blk)} {k : List (Nat × Value)} {Q : Exit → S → Prop} {tab : List (Option TI)}
theorem o_rowC {b off k0 : Nat} {ds : List D} {T : TypeId} (kk j : Nat) (hb : h[j]? = some (b, .cells ds T)) (hd : ds[off]? = some (.lst k0 [] .full)) (g : ∀ z : Z3, opsD P C N ops rest ⟨t, (0, .row kk [] (SL z)) :: h.set j (b, .cells (ds.set off (.v (SL z))) T), k⟩ Q) : opsD P C N ops rest ⟨t, h, k⟩ Q := fun a w ⟨H, c, kt, hn, hd'⟩ => by
  obtain ⟨z, c'⟩ := row_nilC kk j hb hd c
  exact g z a w ⟨H, c', kt, hn, hd'⟩
theorem retX.rowN {rs : List ResultVar} {R : D → List (Nat × Blk) → List (Nat × Value) → Prop} {x : Exit} {i k0 : Nat} (kk : Nat) (hx : look t i = some (.lst k0 [] .full)) (g : ∀ z : Z3, retX C tab rs R x ⟨(i, .v (SL z)) :: t, (0, .row kk [] (SL z)) :: h, k⟩) : retX C tab rs R x ⟨t, h, k⟩ := fun H a w c kt => by
  obtain ⟨v, h1, h2⟩ := kt i _ hx
  obtain ⟨z, rfl, c'⟩ := row_nil (kk := kk) c h2
  exact g z H a w c' (look_put kt h1 (rep_v rfl))
theorem row_len {H : Hp} {w : World} {r kk : Nat} {xs : List D} {y : Value} (h : BlkOK H w (r, .row kk xs y)) : ∃ a m, y = .slice a xs.length m := by
  rcases h with ⟨a, rfl, rfl⟩ | ⟨b, m, us, rest, T, rfl, _⟩
  · exact ⟨a, 0, rfl⟩
  · exact ⟨_, m, rfl⟩
theorem p_lenR {i r kk : Nat} {T e : TypeId} {x : Operand} {xs : List D} {z : Z3} {ti0 : TI} (j : Nat) (hT : TabOK P tab) (ho : o.op = .call ⟨.builtin .len, [x].toArray, #[T]⟩) (hw : wantD ops t o = some true) (hd : o.dst = some i) (hi : Nat.blt i N = true)
    (hx : opD t x = some (.v (SL z))) (hj : h[j]? = some (r, .row kk xs (SL z))) (hti : ti tab T = some ti0) (hs : ti0.d = .slice e) {n : Nat} (hn : xs.length = n) (g : opsD P C N ops rest ⟨(i, .v (.int .i64 n)) :: t, h, k⟩ Q) : opsD P C N ops (o :: rest) ⟨t, h, k⟩ Q :=
  ops_val (s := ⟨t, h, k⟩) hw hd hi fun H a w core kt => by
    obtain ⟨ad, m, hy⟩ := row_len (core.blks _ (List.mem_of_getElem? hj))
    refine ⟨.int .i64 n, w, H, .v (.int .i64 n), h, k, exec_builtin (s := Builtin.len_) ho (fun _ _ => rfl) ?_, Hp.le_refl H, core, rep_v rfl, g⟩
    have e := rep_v_inv (opD_ok kt hx)
    simp only [List.map_cons, List.map_nil, e, hy, hn]
    exact run_len_slice (ti_ok hT hti) hs
end
end Go.Proofs.Ytpeimfcmhedjmaa.Ab
namespace Go.Proofs.Ytpeimfcmhedjmaa.Ab
open Go
set_option linter.all false
theorem first_row {P : Program} {w : World} {H : Hp} {r kk : Nat} {xs : List D} {y : Value} (hb : BlkOK H w (r, .row kk xs y)) :
    ∃ us : List Value, us.length = xs.length * kk ∧ FlatR H kk xs us ∧ (Builtin.firstCells kk xs.length y).run P w = .ok us.toArray w := by
  rcases hb with ⟨a, rfl, rfl⟩ | ⟨b, m, us, rest, T, rfl, h0, hm, h1, h2, h3, h4⟩
  · refine ⟨[], by simp, rfl, ?_⟩
    cases a with
    | none => rfl
    | some a => simp only [Builtin.firstCells, List.length_nil, Nat.zero_mul]; rfl
  · have hl := flat_len h2
    refine ⟨us, hl, h2, ?_⟩
    have hr : RowAt w b 0 us := fun j u e => by
      have := row_block h1 j u (by rw [List.getElem?_append_left (List.getElem?_eq_some_iff.1 e).1]; exact e)
      exact this
    have := run_loadCells (P := P) (xs.length * kk) hr (by omega)
    rw [← hl, List.take_length] at this
    simp only [Builtin.firstCells]
    rw [← hl]; exact this
theorem first_told {P : Program} {w : World} {H : Hp} (hA : Ag H w) {kk : Nat} {xs : List D} {c : Cap} {v : Value} (hr : Rep H (.lst kk xs c) v) :
    ∃ us : List Value, us.length = xs.length * kk ∧ FlatR H kk xs us ∧ (Builtin.firstCells kk xs.length v).run P w = .ok us.toArray w := by
  obtain ⟨_, h⟩ := rep_lst_inv hr
  rcases h with ⟨rfl, a, m, rfl, _⟩ | ⟨b, off, m, rfl, hm, hE⟩
  · refine ⟨[], by simp, rfl, ?_⟩
    cases a with
    | none => rfl
    | some a => simp only [Builtin.firstCells, List.length_nil, Nat.zero_mul]; rfl
  · obtain ⟨us, h1, h2, h3⟩ := els_flatR hE
    refine ⟨us, h1, h3, ?_⟩
    have := run_loadCells (P := P) (xs.length * kk) (h2.row hA) (by omega)
    rw [← h1, List.take_length] at this
    simp only [Builtin.firstCells]
    rw [← h1]; exact this
theorem blk_drew {H : Hp} {w : World} {p : Nat × Blk} (h : BlkOK H w p) : BlkOK H (wDrew w) p := by
  obtain ⟨b, bl⟩ := p
  cases bl <;> exact h
theorem app_runR {P : Program} {tab : List (Option TI)} (hT : TabOK P tab) {H : Hp} {w : World} {r kk bb : Nat} {T T' e e' : TypeId} {ty : TypeId} {i0 i1 ie : TI} {xs ys : List D} {v1 v2 : Value}
    (hA : Ag H w) (hrow : BlkOK H w (r, .row kk xs v1)) (hown : ∀ b ∈ claims [(r, .row kk xs v1)] [], b < w.heap.size)
    (hl2 : (Builtin.lenOf v2).run P w = .ok ys.length w) (hf2 : ∀ w', (∀ b, b < w.heap.size → w'.heap[b]? = w.heap[b]?) → ∃ us : List Value, us.length = ys.length * kk ∧ FlatR H kk ys us ∧ (Builtin.firstCells kk ys.length v2).run P w' = .ok us.toArray w')
    (hi0 : ti tab T = some i0) (hd0 : i0.d = .slice e) (hi1 : ti tab T' = some i1) (hd1 : i1.d = .slice e') (hie : ti tab e = some ie) (hks : ie.size = kk) (hbb : ie.bytes = bb) (hz : ie.zero.length = kk) (hb1 : 1 ≤ bb) (hbound : (xs.length + ys.length) * bb ≤ 140737488355328) :
    ∃ (z : Z3) (w' : World), (Builtin.append_ #[T, T'] ty #[v1, v2]).run P w = .ok (SL z) w' ∧ Core ⟨H, w, claims [(r, .row kk xs v1)] []⟩ H [(0, .row kk (xs ++ ys) (SL z))] [] w' := by
  subst hks; subst hbb
  have hTe := ti_ok hT hie
  obtain ⟨d0, u0, u1⟩ := run_underlying (w := w) (ti_ok hT hi0)
  have e0 := td_slice (u1.trans hd0); subst e0
  obtain ⟨d1, u2, u3⟩ := run_underlying (w := w) (ti_ok hT hi1)
  have e1 := td_slice (u3.trans hd1); subst e1
  obtain ⟨tif, z, t1, t2, t3, t4, t5⟩ := run_typeInfo (w := w) hTe
  have hneed : xs.length + ys.length ≤ 140737488355328 := Nat.le_trans (Nat.le_mul_of_pos_right _ hb1) hbound
  have start : ∀ base cap, v1 = .slice base xs.length cap → (Builtin.append_ #[T, T'] ty #[v1, v2]).run P w =
      (if xs.length + ys.length ≤ cap then (do
          let new ← Builtin.firstCells ie.size ys.length v2
          if let some a := base then storeCells (a.add (xs.length * ie.size)) new.toList
          pure (.slice base (xs.length + ys.length) cap) : Sem Value)
       else (do
          if ((xs.length + ys.length : Nat) : Int) > IntKind.i64.max ∧ ((false = true) ∨ (← Go.typeInfo e).bytes = 0) then runtimePanic (.error "growslice: len out of range")
          if Builtin.nextslicecap (xs.length + ys.length) cap * (← Go.typeInfo e).bytes > 2 ^ 48 then (if false then runtimePanic (.error "growslice: len out of range") else do
            if !(← Builtin.mayShare ie.size xs.length ys.length base v2) then mark .noRoom
            unsupported (.resourceLimit "append: a slice or a string whose bytes no memory bears"))
          let newCap ← choose (.appendCap (xs.length + ys.length) cap e)
          askRoom (newCap * (← Go.typeInfo e).bytes)
          let old ← Builtin.firstCells ie.size xs.length v1
          let new ← Builtin.firstCells ie.size ys.length v2
          let rest := Builtin.zeroCells (← Go.zeroValue e).cells (newCap - (xs.length + ys.length))
          pure (.slice (some (← newRow e (old ++ new ++ rest))) (xs.length + ys.length) newCap) : Sem Value)).run P w := by
    intro base cap hv
    subst hv
    unfold Builtin.append_
    simp only [List.getElem?_toArray, List.getElem?_cons_zero, List.getElem?_cons_succ]
    rw [run_bind_ok u0]
    simp only []
    rw [run_bind_ok (run_sizeOf hTe)]
    rw [run_bind_ok u2]
    simp only []
    rw [run_bind_ok (a := false) (w' := w) rfl]
    simp only [Bool.false_eq_true, if_false]
    rw [run_bind_ok hl2]
    simp only [Bool.not_false, if_true]
    rfl
  obtain ⟨base, cap, hv⟩ := row_len hrow
  by_cases hle : xs.length + ys.length ≤ cap
  · obtain ⟨us2, g1, g2, g3⟩ := hf2 w (fun _ _ => rfl)
    rw [start base cap hv, if_pos hle, run_bind_ok g3]
    rcases hrow with ⟨a, e1, e2⟩ | ⟨b, m, us, rest, TT, e1, h0, hm, h1, h2, h3, h4⟩
    · -- no room at all: nothing is added
      rw [hv] at e1
      simp only [Value.slice.injEq] at e1
      obtain ⟨rfl, e3, rfl⟩ := e1
      have hy : ys = [] := List.eq_nil_of_length_eq_zero (by omega)
      subst hy; subst e2
      have hu2 : us2 = [] := List.eq_nil_of_length_eq_zero (by simpa using g1)
      subst hu2
      refine ⟨(base, 0, 0), w, ?_, hA, Hp.le_refl H, fun _ _ x => .inl x, fun _ _ _ => rfl, Nat.le_refl _, ?_, by simp, ?_, ?_, Env.refl w⟩
      · cases base with
        | none => rfl
        | some a => simp only [storeCells]; rfl
      · intro p hp
        simp only [List.mem_singleton] at hp; subst hp
        exact .inl ⟨base, rfl, rfl⟩
      · cases base <;> simp [claims, blkClaim, sliceClaim]
      · cases base <;> simp [claims, blkClaim, sliceClaim]
    · rw [hv] at e1
      simp only [Value.slice.injEq] at e1
      obtain ⟨rfl, _, rfl⟩ := e1
      have hul := flat_len h2
      have hclaim : claims [(r, Blk.row ie.size xs v1)] [] = [b] := by rw [hv]; simp [claims, blkClaim, sliceClaim, hm]
      have hmk : (xs.length + ys.length) * ie.size ≤ cap * ie.size := Nat.mul_le_mul_right _ hle
      rw [Nat.add_mul] at hmk
      have hsz : 0 + xs.length * ie.size + us2.length ≤ (us ++ rest).length := by rw [g1]; omega
      obtain ⟨w', s1, s2, s3, s4, s5⟩ := run_storeCells (P := P) (b := b) (off := xs.length * ie.size) (T := TT) us2 0 w (us ++ rest) h1 (by omega) (flat_one g2)
      simp only [Nat.add_zero] at s5
      have ecells : (us ++ rest).take (xs.length * ie.size) ++ (us2 ++ (us ++ rest).drop (xs.length * ie.size + us2.length)) = (us ++ us2) ++ rest.drop us2.length := by
        rw [List.take_append_of_le_length (by omega), List.take_of_length_le (by omega), List.drop_append, List.drop_of_length_le (by omega), List.nil_append, List.append_assoc]
        congr 3; omega
      rw [ecells] at s5
      refine ⟨(some ⟨b, 0, none⟩, xs.length + ys.length, cap), w', ?_, ?_⟩
      · simp only [addr_add, Nat.zero_add]
        rw [run_bind_ok s1]; rfl
      · rw [hclaim]
        refine ⟨fun a v0 ea => ?_, Hp.le_refl H, fun _ _ x => .inl x, fun i _ hm => s4 i (by simpa using hm), by show w.heap.size ≤ w'.heap.size; omega, ?_, by simp, ?_, ?_, s2⟩
        · have hcell := hA a v0 ea
          by_cases qb : a.block = b
          · obtain ⟨ab, ao, as_⟩ := a
            simp only at qb; subst qb
            cases as_ with
            | some sp => simp [World.cell?, h1] at hcell
            | none => rw [h4 ao] at ea; cases ea
          · simp only [World.cell?] at hcell ⊢
            rw [s4 _ qb]; exact hcell
        · intro p hp
          simp only [List.mem_singleton] at hp; subst hp
          refine .inr ⟨b, cap, us ++ us2, rest.drop us2.length, TT, by simp [SL], by simpa using hle, hm, by simpa using s5, flat_append h2 g2, ?_, h4⟩
          have := congrArg List.length ecells
          simp only [List.length_append, List.length_take, List.length_drop] at this h3 ⊢
          omega
        · simp [claims, blkClaim, sliceClaim, hm]
        · intro x hx; simp [claims, blkClaim, sliceClaim, hm] at hx; subst hx; exact .inl (by simp)
  · have hgt : ¬ xs.length + ys.length ≤ cap := hle
    rw [start base cap hv, if_neg hgt]
    have hti : (Go.typeInfo e).run P w = .ok tif w := t1
    have hbytes : tif.bytes = ie.bytes := t3
    have hno1 : ¬ (((xs.length + ys.length : Nat) : Int) > IntKind.i64.max ∧ ((false = true) ∨ tif.bytes = 0)) := by
      rintro ⟨_, q | q⟩
      · cases q
      · omega
    have hno2 : ¬ (Builtin.nextslicecap (xs.length + ys.length) cap * tif.bytes > 2 ^ 48) := by
      have h5 := next_le (Nat.lt_of_not_le hgt)
      have h6 : Builtin.nextslicecap (xs.length + ys.length) cap * ie.bytes ≤ 2 * (xs.length + ys.length) * ie.bytes := Nat.mul_le_mul_right _ h5
      rw [Nat.mul_assoc] at h6
      rw [hbytes]
      omega
    have hforced : ∀ need, (Question.appendCap need cap e).forced = false := fun _ => rfl
    obtain ⟨newCap, hcap, hchoose⟩ : ∃ newCap, xs.length + ys.length ≤ newCap ∧ (choose (.appendCap (xs.length + ys.length) cap e)).run P w = .ok newCap (wDrew w) := by
      refine ⟨_, ?_, by simp only [choose, Sem.run, hforced]; rfl⟩
      simp only [Question.cut]; omega
    obtain ⟨zz, hz1, hz2⟩ := run_zeroValue (w := wDrew w) hTe
    obtain ⟨tif2, _, hti2, _⟩ := run_typeInfo (w := wDrew w) hTe
    obtain ⟨us1, f1, f2, f3⟩ := first_row (P := P) (blk_drew hrow)
    obtain ⟨us2, g1, g2, g3⟩ := hf2 (wDrew w) (fun _ _ => rfl)
    let restA := Builtin.zeroCells zz.cells (newCap - (xs.length + ys.length))
    have hrest : restA.size = (newCap - (xs.length + ys.length)) * ie.size := by
      show (Builtin.zeroCells zz.cells _).size = _
      unfold Builtin.zeroCells
      simp only [Array.size_map, Array.size_range]
      have : zz.cells.size = ie.size := by rw [← Array.length_toList, hz2, hz]
      rw [this]
    refine ⟨(some ⟨w.heap.size, 0, none⟩, xs.length + ys.length, newCap), (wDrew w).alloc (.cells (us1.toArray ++ us2.toArray ++ restA) e), ?_, ?_⟩
    · rw [run_bind_ok hti]
      rw [if_neg hno1]
      rw [run_bind_ok hti]
      rw [if_neg hno2]
      rw [run_bind_ok hchoose, run_bind_ok hti2, run_bind_ok askRoom_run, run_bind_ok f3, run_bind_ok g3, run_bind_ok hz1]
      rfl
    · have earr : us1.toArray ++ us2.toArray ++ restA = ((us1 ++ us2) ++ restA.toList).toArray := by simp
      rw [earr]
      have hsizew : (wDrew w).heap.size = w.heap.size := rfl
      have hcells : ((wDrew w).alloc (.cells ((us1 ++ us2) ++ restA.toList).toArray e)).heap[w.heap.size]? = some (.cells ((us1 ++ us2) ++ restA.toList).toArray e (0, 0)) := by
        rw [heap_alloc, hsizew, if_pos rfl]
      have hm0 : 0 < newCap := by omega
      refine ⟨fun a v e' => cell_alloc _ (hA a v e'), Hp.le_refl H, fun _ _ x => .inl x, fun b hb _ => ?_, ?_, ?_, by simp, ?_, ?_, ⟨rfl, rfl, rfl⟩⟩
      · rw [heap_alloc, hsizew, if_neg (by exact Nat.ne_of_lt hb)]; rfl
      · rw [size_alloc, hsizew]; exact Nat.le_succ _
      · intro p hp
        simp only [List.mem_singleton] at hp; subst hp
        refine .inr ⟨w.heap.size, newCap, us1 ++ us2, restA.toList, e, by simp [SL], by simpa using hcap, hm0, hcells, flat_append f2 g2, ?_, fun o => ?_⟩
        · simp only [List.length_append, Array.length_toList, hrest, f1, g1]
          rw [← Nat.add_mul, ← Nat.add_mul]
          exact Nat.mul_le_mul_right _ (by omega)
        · cases q : H ⟨w.heap.size, o, none⟩ with
          | none => rfl
          | some v => exact absurd (hA.lt q) (Nat.lt_irrefl _)
      · simp [claims, blkClaim, sliceClaim, hm0]
      · intro x hx; simp [claims, blkClaim, sliceClaim, hm0] at hx; subst hx; exact .inr (Nat.le_refl _)
section
variable {P : Program} {C : Ctx} {N : Nat} {ops rest : List Oper} {o : Oper} {t : List (Nat × D)} {h : List (Nat × Blk)} {k : List (Nat × Value)} {Q : Exit → S → Prop} {tab : List (Option TI)}
theorem p_appR {i r kk bb : Nat} {T T' e e' : TypeId} {x y : Operand} {xs ys : List D} {c' : Cap} {z : Z3} {i0 i1 ie : TI} (j : Nat) (hT : TabOK P tab) (ho : o.op = .call ⟨.builtin .append, [x, y].toArray, #[T, T']⟩) (hw : wantD ops t o = some true) (hd : o.dst = some i) (hi : Nat.blt i N = true)
    (hx : opD t x = some (.v (SL z))) (hj : h[j]? = some (r, .row kk xs (SL z))) (hy : opD t y = some (.lst kk ys c'))
    (hi0 : ti tab T = some i0) (hd0 : i0.d = .slice e) (hi1 : ti tab T' = some i1) (hd1 : i1.d = .slice e') (hie : ti tab e = some ie) (hks : ie.size = kk) (hbb : ie.bytes = bb) (hz : ie.zero.length = kk) (hb1 : Nat.ble 1 bb = true) (hbound : (xs.length + ys.length) * bb ≤ 140737488355328)
    (g : ∀ z' : Z3, opsD P C N ops rest ⟨(i, .v (SL z')) :: t, h.set j (0, .row kk (xs ++ ys) (SL z')), k⟩ Q) : opsD P C N ops (o :: rest) ⟨t, h, k⟩ Q :=
  ops_val (s := ⟨t, h, k⟩) hw hd hi fun H a w core kt => by
    have hry := opD_ok kt hy
    obtain ⟨a2, m2, ey⟩ := rep_slice_len hry
    have c1 : Core C H ([(r, .row kk xs (SL z))] ++ h.eraseIdx j) ([] ++ k) w := core.perm (perm_at hj) (List.Perm.refl _)
    have hbl := core.blks _ (List.mem_of_getElem? hj)
    obtain ⟨z', w', h1, h2⟩ := app_runR (P := P) (ty := o.type) (v1 := SL z) (v2 := a.eval y) hT core.ag hbl (fun b hb => c1.lt b (by
      have := (claims_append [(r, Blk.row kk xs (SL z))] (h.eraseIdx j) [] k).mem_iff (a := b)
      exact this.2 (List.mem_append_left _ hb))) (by rw [ey]; rfl) (fun w2 hw2 => first_told (fun a' v e' => by
        have := core.ag a' v e'
        have hlt := core.ag.lt e'
        unfold World.cell? at this ⊢
        rw [hw2 _ hlt]; exact this) hry) hi0 hd0 hi1 hd1 hie hks hbb hz (Nat.le_of_ble_eq_true hb1) hbound
    have c2 := Core.call c1 h2
    refine ⟨SL z', w', H, .v (SL z'), h.set j (0, .row kk (xs ++ ys) (SL z')), k, exec_builtin (s := Builtin.append_) ho (fun _ _ => rfl) ?_, Hp.le_refl H, c2.perm (perm_set hj) (List.Perm.refl _), rep_v rfl, g z'⟩
    have e := rep_v_inv (opD_ok kt hx)
    simpa [e] using h1
end
end Go.Proofs.Ytpeimfcmhedjmaa.Ab
namespace Go.Proofs.Ytpeimfcmhedjmaa.Ab
open Go
set_option linter.all false
section
variable {P : Program} {C : Ctx} {N : Nat} {ops rest : List Oper} {o : Oper} {t : List (Nat × D)} {h : List (Nat × Blk)} {k : List (Nat × Value)} {Q : Exit → S → Prop} {tab : List (Option TI)}
theorem p_appR2 {i r kk bb : Nat} {T T' e e' : TypeId} {x y : Operand} {xs ys zs : List D} {c' : Cap} {z : Z3} {i0 i1 ie : TI} (j : Nat) (hT : TabOK P tab) (ho : o.op = .call ⟨.builtin .append, [x, y].toArray, #[T, T']⟩) (hw : wantD ops t o = some true) (hd : o.dst = some i) (hi : Nat.blt i N = true)
    (hx : opD t x = some (.v (SL z))) (hj : h[j]? = some (r, .row kk xs (SL z))) (hy : opD t y = some (.lst kk ys c'))
    (hi0 : ti tab T = some i0) (hd0 : i0.d = .slice e) (hi1 : ti tab T' = some i1) (hd1 : i1.d = .slice e') (hie : ti tab e = some ie) (hks : ie.size = kk) (hbb : ie.bytes = bb) (hz : ie.zero.length = kk) (hb1 : Nat.ble 1 bb = true) (hbound : (xs.length + ys.length) * bb ≤ 140737488355328) (em : xs ++ ys = zs)
    (g : ∀ z' : Z3, opsD P C N ops rest ⟨(i, .v (SL z')) :: t, h.set j (0, .row kk zs (SL z')), k⟩ Q) : opsD P C N ops (o :: rest) ⟨t, h, k⟩ Q := by
  subst em
  exact p_appR j hT ho hw hd hi hx hj hy hi0 hd0 hi1 hd1 hie hks hbb hz hb1 hbound g
theorem p_callG {f : FuncId} {args : List Operand} {ts : Array TypeId} {i : Nat} {ds ds' : List D} {h1 h2 : List (Nat × Blk)} {k1 k2 : List (Nat × Value)} {R : D → List (Nat × Blk) → List (Nat × Value) → Prop}
    (hc : CallsD P f ds' h1 k1 R) (ho : o.op = .call ⟨.value (.func f), args.toArray, ts⟩) (hw : wantD ops t o = some true) (hd : o.dst = some i) (hi : Nat.blt i N = true) (ha : someMap args (opD t) = some ds) (hwk : WkL ds ds')
    (hh : h.Perm (h1 ++ h2)) (hk : k.Perm (k1 ++ k2)) (g : ∀ d h' k', R d h' k' → opsD P C N ops rest ⟨(i, d) :: t, h' ++ h2, k' ++ k2⟩ Q) : opsD P C N ops (o :: rest) ⟨t, h, k⟩ Q :=
  ops_call (s := ⟨t, h, k⟩) hc ho hw hd hi ha hwk hh hk g
theorem WkC.any {d : D} : WkC d .any := fun _ _ _ => by simp only [RepC]
end
end Go.Proofs.Ytpeimfcmhedjmaa.Ab
namespace Go.Proofs.Ytpeimfcmhedjmaa.Ab
open Go
set_option linter.all false
theorem Core.newRow {C : Ctx} {H : Hp} {h : List (Nat × Blk)} {k : List (Nat × Value)} {w : World} (c : Core C H h k w) {xs : List D} {us rest : List Value} {kk m : Nat} {T : TypeId} (hf : FlatR H kk xs us) (hm : xs.length ≤ m) (hl : m * kk ≤ (us ++ rest).length) (z : m = 0 → xs = []) :
    Core C H ((0, .row kk xs (SL (some ⟨w.heap.size, 0, none⟩, xs.length, m))) :: h) k (w.alloc (.cells (us ++ rest).toArray T)) := by
  have c0 : Core ⟨H, w, []⟩ H [(0, .row kk xs (SL (some ⟨w.heap.size, 0, none⟩, xs.length, m)))] [] (w.alloc (.cells (us ++ rest).toArray T)) := by
    refine ⟨fun a v e => cell_alloc _ (c.ag a v e), Hp.le_refl H, fun _ _ x => .inl x, fun b hb _ => ?_, ?_, ?_, by simp, ?_, ?_, ⟨rfl, rfl, rfl⟩⟩
    · rw [heap_alloc, if_neg (by exact Nat.ne_of_lt hb)]
    · rw [size_alloc]; exact Nat.le_succ _
    · intro p hp
      simp only [List.mem_singleton] at hp; subst hp
      by_cases q : m = 0
      · subst q
        have := z rfl
        subst this
        exact .inl ⟨_, rfl, rfl⟩
      · refine .inr ⟨w.heap.size, m, us, rest, T, rfl, hm, by omega, by rw [heap_alloc, if_pos rfl], hf, hl, fun o => ?_⟩
        cases e : H ⟨w.heap.size, o, none⟩ with
        | none => rfl
        | some v => exact absurd (c.ag.lt e) (Nat.lt_irrefl _)
    · simp only [claims, blkClaim, sliceClaim, List.flatMap_cons, List.flatMap_nil, List.append_nil]
      split <;> simp
    · intro b hb
      simp only [claims, blkClaim, sliceClaim, List.flatMap_cons, List.flatMap_nil, List.append_nil] at hb
      split at hb
      · simp at hb; subst hb
        exact .inr (Nat.le_refl _)
      · cases hb
  have := Core.call (h1 := []) (k1 := []) (h2 := h) (k2 := k) c c0
  simpa using this
section
variable {P : Program} {C : Ctx} {N : Nat} {ops rest : List Oper} {o : Oper} {t : List (Nat × D)} {h : List (Nat × Blk)} {k : List (Nat × Value)} {Q : Exit → S → Prop} {tab : List (Option TI)}
end
end Go.Proofs.Ytpeimfcmhedjmaa.Ab
namespace Go.Proofs.Ytpeimfcmhedjmaa.Ab
open Go
set_option linter.all false
theorem loop_pre {σ τ α β : Type} {f : σ → Option (Step σ τ)} (l : List β) (g : List β → α) (st : α → Nat → σ) (fin : α → τ)
    (h1 : ∀ pre x post, l = pre ++ x :: post → f (st (g pre) pre.length) = some (.next (st (g (pre ++ [x])) (pre.length + 1))))
    (h2 : f (st (g l) l.length) = some (.done (fin (g l)))) : loopM f (st (g []) 0) = some (fin (g l)) := by
  have key : ∀ (post pre : List β), l = pre ++ post → loopM f (st (g pre) pre.length) = some (fin (g l)) := by
    intro post
    induction post with
    | nil => intro pre h; rw [List.append_nil] at h; subst h; exact loopM_done h2
    | cons x post ih =>
      intro pre h
      rw [loopM_next (h1 pre x post h)]
      have := ih (pre ++ [x]) (by simp [h])
      simpa using this
  simpa using key l [] rfl
theorem loop_list {σ τ α β ρ : Type} {f : σ → Option (Step σ τ)} {s0 : σ} {k : τ → Option ρ} {r : Option ρ} (l : List β) (g : List β → α) (st : α → Nat → σ) (fin : α → τ) (h0 : st (g []) 0 = s0)
    (h1 : ∀ pre x post, l = pre ++ x :: post → f (st (g pre) pre.length) = some (.next (st (g (pre ++ [x])) (pre.length + 1))))
    (h2 : f (st (g l) l.length) = some (.done (fin (g l)))) (hk : k (fin (g l)) = r) : Option.bind (loopM f s0) k = r := by
  subst h0
  rw [loop_pre l g st fin h1 h2]; exact hk
theorem idx_pre {β : Type} (pre : List β) (x : β) (post : List β) : idx (pre ++ x :: post) (pre.length : Int) = some x := by
  rw [idx_nat]; simp
theorem lt_pre {β : Type} {l pre : List β} {x : β} {post : List β} (h : l = pre ++ x :: post) : decide ((pre.length : Int) < (l.length : Int)) = true := by
  subst h; simp; omega
theorem lt_end {β : Type} (l : List β) : decide ((l.length : Int) < (l.length : Int)) = false := by simp
theorem inc_pre {β : Type} {l pre : List β} {x : β} {post : List β} (h : l = pre ++ x :: post) (hb : l.length ≤ 4611686018427387904) : IntKind.i64.wrap ((pre.length : Int) + 1) = ((pre.length + 1 : Nat) : Int) := by
  have : pre.length < l.length := by subst h; simp
  rw [IntKind.wrap_i64]; omega
theorem wrap_id {n : Int} (h : -9223372036854775808 ≤ n) (k : n < 9223372036854775808) : IntKind.i64.wrap n = n := by rw [IntKind.wrap_i64]; omega
theorem pre_mem {β : Type} {l pre : List β} {x : β} {post : List β} (h : l = pre ++ x :: post) : x ∈ l := by subst h; simp
theorem app_len {β : Type} {bb : Nat} {xs ys : List β} (hb : bb ≤ 4096) (h : xs.length + ys.length ≤ 8388608) : app bb xs ys = some (xs ++ ys) := by
  refine app_of ?_
  have := Nat.mul_le_mul h hb
  omega
def all2 {β γ : Type} (t : β → γ → Bool) : List β → List γ → Bool
  | [], [] => true
  | x :: l, y :: m => t x y && all2 t l m
  | _, _ => false
theorem all2_len {β γ : Type} {t : β → γ → Bool} : ∀ {l : List β} {m : List γ}, l.length ≠ m.length → all2 t l m = false
  | [], [], h => absurd rfl h
  | [], _ :: _, _ => rfl
  | _ :: _, [], _ => rfl
  | x :: l, y :: m, h => by
    show (t x y && all2 t l m) = false
    rw [all2_len (by simpa using h), Bool.and_false]
theorem loop_all2 {β γ : Type} (t : β → γ → Bool) {l : List β} {m : List γ} (hl : l.length = m.length) {f : Int → Option (Step Int (Unit ⊕ Bool))}
    (h1 : ∀ p x q p' y q', l = p ++ x :: q → m = p' ++ y :: q' → p.length = p'.length → f (p.length : Int) = some (bif t x y then .next ((p.length + 1 : Nat) : Int) else .done (.inr false)))
    (h2 : f (l.length : Int) = some (.done (.inl ()))) : loopM f (0 : Int) = some (bif all2 t l m then .inl () else .inr false) := by
  have key : ∀ (q p : List β) (q' p' : List γ), l = p ++ q → m = p' ++ q' → p.length = p'.length → loopM f (p.length : Int) = some (bif all2 t q q' then .inl () else .inr false) := by
    intro q
    induction q with
    | nil =>
      intro p q' p' e e' hp
      have : q' = [] := by
        subst e e'
        simp only [List.append_nil, List.length_append] at hl
        exact List.eq_nil_of_length_eq_zero (by omega)
      subst this
      rw [List.append_nil] at e; subst e
      rw [loopM_done h2]; rfl
    | cons x q ih =>
      intro p q' p' e e' hp
      cases q' with
      | nil =>
        subst e e'
        simp only [List.append_nil, List.length_append, List.length_cons] at hl
        omega
      | cons y q' =>
        have h := h1 p x q p' y q' e e' hp
        show _ = some (bif (t x y && all2 t q q') then _ else _)
        cases ht : t x y
        · rw [ht, cond_false] at h
          rw [loopM_done h, Bool.false_and]; rfl
        · rw [ht, cond_true] at h
          rw [loopM_next h, Bool.true_and]
          have := ih (p ++ [x]) q' (p' ++ [y]) (by simp [e]) (by simp [e']) (by simp [hp])
          simpa using this
  exact key l [] m [] rfl rfl rfl
theorem pairs {β γ : Type} (t : β → γ → Bool) (l : List β) (m : List γ) {f : Int → Option (Step Int (Unit ⊕ Bool))}
    (h1 : ∀ p x q p' y q', l = p ++ x :: q → m = p' ++ y :: q' → p.length = p'.length → f (p.length : Int) = some (bif t x y then .next ((p.length + 1 : Nat) : Int) else .done (.inr false)))
    (h2 : f (l.length : Int) = some (.done (.inl ()))) :
    (bif ((l.length : Int) != (m.length : Int)) then some false else (Option.bind (α := (Unit) ⊕ (Bool)) (loopM f (0 : Int)) (Sum.elim (fun _ => some true) (fun r => some r)))) = some (all2 t l m) := by
  by_cases hl : l.length = m.length
  · rw [show ((l.length : Int) != (m.length : Int)) = false by simp [hl], cond_false, loop_all2 t hl h1 h2, Option.bind_some]
    cases all2 t l m <;> rfl
  · rw [show ((l.length : Int) != (m.length : Int)) = true by simpa using fun h => hl (by omega), cond_true, all2_len hl]
theorem idx_pre2 {β : Type} {m p : List β} {x : β} {q : List β} {n : Nat} (h : m = p ++ x :: q) (hn : n = p.length) : idx m (n : Int) = some x := by
  subst h hn; exact idx_pre _ _ _
theorem all2_refl {β : Type} {t : β → β → Bool} : ∀ {l : List β}, (∀ x ∈ l, t x x = true) → all2 t l l = true
  | [], _ => rfl
  | x :: l, h => by
    show (t x x && all2 t l l) = true
    rw [h x (by simp), all2_refl fun y hy => h y (List.mem_cons_of_mem _ hy)]; rfl
end Go.Proofs.Ytpeimfcmhedjmaa.Ab
namespace Go.Proofs.Ytpeimfcmhedjmaa.Ab
open Go
set_option linter.all false
theorem Le.of {α : Type} {m m' : Option α} {r : α} (h : Le m m') (e : m = some r) : m' = some r := h r e
end Go.Proofs.Ytpeimfcmhedjmaa.Ab
namespace Go.Proofs.Ytpeimfcmhedjmaa.Ab
open Go
set_option linter.all false
abbrev RL := List (Nat × Nat × List D)
def isR (rl : RL) (e : Nat) : Bool := rl.any fun x => x.1 == e
def rws (rl : RL) (S : Nat → Bool) (vals : Nat → Value) : List (Nat × Blk) :=
  match rl with
  | [] => []
  | (e, kk, xs) :: rl => bif S e then (0, .row kk xs (vals e)) :: rws rl S vals else rws rl S vals
theorem rws_congr {S S' : Nat → Bool} {vals vals' : Nat → Value} : ∀ {rl : RL}, (∀ e, isR rl e = true → S e = S' e ∧ (S e = true → vals e = vals' e)) → rws rl S vals = rws rl S' vals'
  | [], _ => rfl
  | (e, kk, xs) :: rl, h => by
    have h1 := h e (by simp [isR])
    have h2 := rws_congr (rl := rl) (S := S) (S' := S') (vals := vals) (vals' := vals') fun x hx => h x (by simp only [isR, List.any_cons, Bool.or_eq_true] at hx ⊢; exact .inr hx)
    simp only [rws, h1.1, h2]
    cases hs : S' e with
    | true => rw [h1.2 (h1.1.trans hs)]
    | false => rfl
theorem rws_none {vals : Nat → Value} : ∀ {rl : RL}, rws rl (fun _ => false) vals = []
  | [] => rfl
  | (e, kk, xs) :: rl => by simp only [rws, cond_false]; exact rws_none
theorem rws_all {S : Nat → Bool} {vals : Nat → Value} : ∀ {rl : RL}, (∀ e, isR rl e = true → S e = true) → rws rl S vals = rl.map fun x => (0, .row x.2.1 x.2.2 (vals x.1))
  | [], _ => rfl
  | (e, kk, xs) :: rl, h => by
    have h2 := rws_all (rl := rl) (S := S) (vals := vals) fun x hx => h x (by simp only [isR, List.any_cons, Bool.or_eq_true] at hx ⊢; exact .inr hx)
    simp only [rws, h e (by simp [isR]), cond_true, h2, List.map_cons]
theorem rws_new {S : Nat → Bool} {vals : Nat → Value} {i : Nat} {v : Value} {kk : Nat} {xs : List D} (hS : S i = false) : ∀ {rl : RL}, (i, kk, xs) ∈ rl → (rl.map (·.1)).Nodup →
    (rws rl (Jx.upd S i true) (Jx.upd vals i v)).Perm (rws rl S vals ++ [(0, .row kk xs v)])
  | [], h, _ => by cases h
  | (e, k', xs') :: rl, h, hn => by
    simp only [List.map_cons, List.nodup_cons] at hn
    by_cases he : e = i
    · subst he
      have hin : (k', xs') = (kk, xs) := by
        rcases List.mem_cons.1 h with h1 | h1
        · simp only [Prod.mk.injEq, true_and] at h1 ⊢; exact ⟨h1.1.symm, h1.2.symm⟩
        · exact absurd (List.mem_map.2 ⟨_, h1, rfl⟩) hn.1
      simp only [Prod.mk.injEq] at hin
      obtain ⟨rfl, rfl⟩ := hin
      have hrest : rws rl (Jx.upd S e true) (Jx.upd vals e v) = rws rl S vals := rws_congr fun x hx => by
        have : x ≠ e := fun q => by
          subst q
          obtain ⟨y, hy, hq⟩ := List.any_eq_true.1 hx
          exact hn.1 (List.mem_map.2 ⟨y, hy, by simpa using hq⟩)
        exact ⟨Jx.upd_ne _ _ this, fun _ => Jx.upd_ne _ _ this⟩
      simp only [rws, Jx.upd_same, cond_true, hS, cond_false, hrest]
      exact (List.perm_append_singleton _ _).symm
    · have ih := rws_new (v := v) (vals := vals) hS (rl := rl) (by
        rcases List.mem_cons.1 h with h1 | h1
        · simp only [Prod.mk.injEq] at h1; exact absurd h1.1.symm he
        · exact h1) hn.2
      simp only [rws, Jx.upd_ne _ _ he]
      cases S e with
      | true => simp only [cond_true, List.cons_append]; exact ih.cons _
      | false => simpa using ih
def dR (rl : RL) (e : Nat) (d : D) (v : Value) : D := bif isR rl e then .v v else d
theorem dR_no {rl : RL} {e : Nat} {d : D} {v : Value} (h : isR rl e = false) : dR rl e d v = d := by unfold dR; rw [h]; rfl
theorem dR_yes {rl : RL} {e : Nat} {d : D} {v : Value} (h : isR rl e = true) : dR rl e d v = .v v := by unfold dR; rw [h]; rfl
section
variable (P : Program) (C : Ctx) (N : Nat) (l : List Oper) (m : Nat) (De : Nat → D) (al : AL) (rl : RL) (pre : List (List Nat)) (ev : List Nat) (h : List (Nat × Blk)) (k : List (Nat × Value)) (Q : Exit → S → Prop)
def Cr (H0 : Hp) (S : Nat → Bool) (vals : Nat → Value) (w : World) : Prop :=
  ∃ H, H0.le H ∧ Core C H (h ++ (allocs al S vals ++ rws rl S vals)) k w ∧ (∀ e, S e = true → isR rl e = true → ∃ z : Z3, vals e = SL z) ∧ ∀ e, S e = true → ev.contains e = true → (isAl al e = true → vals e = .pointer (some ⟨blk (vals e), 0, none⟩)) ∧ (isAl al e = false → Rep H (dR rl e (De e) (vals e)) (vals e))
def dEr (bs : Nat → Value) (e : Nat) : D := bif isAl al e then .ptr (blk (bs e)) 0 else dR rl e (De e) (bs e)
def TOKr (H0 : Hp) (bs : Nat → Value) (vals : Nat → Value) (te : TE) (a : Act) : Prop :=
  ∀ j d o, look3 te j = some (d, o) → ∃ v, a.tmps[j]? = some v ∧ (o = none → ∀ H, H0.le H → Rep H d v) ∧ ∀ e, o = some e → v = vals e ∧ d = dEr De al rl bs e ∧ ev.contains e = true
def finR (H0 : Hp) (vals : Nat → Value) (a : Act) : Prop := ∀ S w, (∀ i, ev.contains i = true → S i = true) → Cr C De al rl ev h k H0 S vals w → wpList P l.toArray (QD C N Q) (l.drop m) a w
def Zr (bs : Nat → Value) (i : Nat) (rest : List Oper) (te : TE) : Prop :=
  ∀ H0 vals a, (∀ e, bs e = vals e) → TOKr De al rl ev H0 bs vals te a → a.tmps.size = N → a.defers = [] →
    Jx.Lx P l.toArray (Cr C De al rl ev h k H0) (fun i => pre.getD i []) (fun i => ev.contains i) vals (finR P C N l m De al rl ev h k Q H0 vals) i rest a
end
section
variable {P : Program} {C : Ctx} {N : Nat} {l : List Oper} {m : Nat} {De : Nat → D} {al : AL} {rl : RL} {pre : List (List Nat)} {ev : List Nat} {h : List (Nat × Blk)} {k : List (Nat × Value)} {Q : Exit → S → Prop} {tab : List (Option TI)} {bs : Nat → Value} {i : Nat} {o : Oper} {rest : List Oper} {te : TE}
theorem vis_tokr {H0 H : Hp} {vals : Nat → Value} {a : Act} {p : List Nat} (hbs : ∀ e, bs e = vals e) (kt : TOKr De al rl ev H0 bs vals te a) (hle : H0.le H)
    (hev : ∀ e, p.contains e = true → ev.contains e = true → (isAl al e = true → vals e = .pointer (some ⟨blk (vals e), 0, none⟩)) ∧ (isAl al e = false → Rep H (dR rl e (De e) (vals e)) (vals e))) : TOK H (vis p te) a := by
  obtain rfl : bs = vals := funext hbs
  intro j d e
  obtain ⟨d', o, h1, h2⟩ := look_vis e
  obtain ⟨v, h3, h4, h5⟩ := kt j d' o h1
  refine ⟨v, h3, ?_⟩
  rcases h2 with ⟨rfl, rfl⟩ | ⟨e0, rfl, hp, rfl⟩ | rfl
  · exact h4 rfl H hle
  · obtain ⟨rfl, rfl, h6⟩ := h5 e0 rfl
    have h7 := hev e0 hp h6
    unfold dEr
    cases ha : isAl al e0 with
    | true => simp only [cond_true]; rw [h7.1 ha]; exact rep_cell (by simp [RepC, blk]) rfl rfl
    | false => simp only [cond_false]; exact h7.2 ha
  · exact ⟨by simp [RepC], by cases v <;> rfl⟩
theorem TOKr.put {H0 : Hp} {vals : Nat → Value} {a : Act} (kt : TOKr De al rl ev H0 bs vals te a) {j : Nat} {d : D} {o : Option Nat} {v : Value} (hj : j < a.tmps.size) (h1 : o = none → ∀ H, H0.le H → Rep H d v) (h2 : ∀ e, o = some e → v = vals e ∧ d = dEr De al rl bs e ∧ ev.contains e = true) :
    TOKr De al rl ev H0 bs vals ((j, d, o) :: te) (a.put (some j) v) := by
  intro j' d' o' e
  simp only [look3] at e
  simp only [Act.put]
  cases hb : Nat.beq j j' with
  | true =>
    rw [hb] at e; simp at e
    obtain ⟨rfl, rfl⟩ := e
    have := Nat.eq_of_beq_eq_true hb; subst this
    exact ⟨v, by simp [hj], h1, h2⟩
  | false =>
    rw [hb] at e; simp at e
    have hne : j ≠ j' := Nat.ne_of_beq_eq_false hb
    obtain ⟨u, h3, h4⟩ := kt j' d' o' e
    exact ⟨u, by rw [Array.getElem?_setIfInBounds_ne hne]; exact h3, h4⟩
theorem vis_nilr {H0 : Hp} {vals : Nat → Value} {a : Act} (hbs : ∀ e, bs e = vals e) (kt : TOKr De al rl ev H0 bs vals te a) : TOK H0 (vis [] te) a := vis_tokr hbs kt (Hp.le_refl _) fun e he => by simp at he
theorem zr_nil {t' : List (Nat × D)} {h' : List (Nat × Blk)} (htl : ∀ e, isR rl e = true → ev.contains e = true) (e1 : vis ev te = t') (e2 : (h ++ ((al.map fun x => (blk (bs x.1), Blk.cells x.2.1 x.2.2)) ++ rl.map fun x => (0, Blk.row x.2.1 x.2.2 (bs x.1)))) = h') (hal : ∀ e, isAl al e = true → ev.contains e = true) (g : (∀ e, isR rl e = true → ∃ z : Z3, bs e = SL z) → opsD P C N l (l.drop m) ⟨t', h', k⟩ Q) : Zr P C N l m De al rl pre ev h k Q bs i [] te := by
  intro H0 vals a hbs kt hN hdf S w hS hC
  obtain rfl : bs = vals := funext hbs
  obtain ⟨H, hle, c, hz, hev⟩ := hC
  subst e1; subst e2
  refine g (fun e he => hz e (hS e (htl e he)) he) a w ⟨H, ?_, vis_tokr hbs kt hle fun e _ he => hev e (hS e he) he, hN, hdf⟩
  rw [allocs_all fun e he => hS e (hal e he), rws_all fun e he => hS e (htl e he)] at c
  exact c
theorem zr_event {j : Nat} {p : List Nat} {d : D} (hp : pre.getD i [] = p) (hw : wantD l (vis [] te) o = some true) (hd : o.dst = some j) (hi : Nat.blt j N = true) (he : ev.contains i = true) (hna : isAl al i = false) (hnt : isR rl i = false) (hDe : De i = d)
    (hx : ∀ hh H a w, Core C H (h ++ hh) k w → TOK H (vis p te) a → Jx.Gives P o a w fun v w' => ∃ H', H.le H' ∧ Core ⟨H, w, []⟩ H' [] [] w' ∧ Rep H' d v)
    (g : Zr P C N l m De al rl pre ev h k Q bs (i + 1) rest ((j, d, some i) :: te)) : Zr P C N l m De al rl pre ev h k Q bs i (o :: rest) te := by
  intro H0 vals a hbs kt hN hdf
  subst hDe
  refine ⟨vals i, ?_, ?_⟩
  · unfold Jx.OK
    rw [wantD_ok (vis_nilr hbs kt) hw, if_pos rfl, if_pos he]
    refine ⟨rfl, ?_⟩
    rintro S w ⟨H, hle, c, hz, hev⟩ hSi hpS
    replace hpS : ∀ k ∈ pre.getD i [], S k = true := hpS
    rw [hp] at hpS
    refine (hx _ H a w c (vis_tokr hbs kt hle fun e he he2 => hev e (hpS e (by simpa using he)) he2)).mono ?_
    rintro v w' ⟨H', hle', c', hr⟩
    have hal : allocs al (Jx.upd S i true) (Jx.upd vals i v) = allocs al S vals := allocs_congr fun e hea => by
      have : e ≠ i := fun q => by rw [q, hna] at hea; cases hea
      exact ⟨Jx.upd_ne _ _ this, fun _ => Jx.upd_ne _ _ this⟩
    have htk : rws rl (Jx.upd S i true) (Jx.upd vals i v) = rws rl S vals := rws_congr fun e hea => by
      have : e ≠ i := fun q => by rw [q, hnt] at hea; cases hea
      exact ⟨Jx.upd_ne _ _ this, fun _ => Jx.upd_ne _ _ this⟩
    refine ⟨H', Hp.le_trans hle hle', ?_, fun e hes hee => ?_, fun e hes hee => ?_⟩
    · rw [hal, htk]
      have := Core.call (h1 := []) (k1 := []) (h2 := h ++ (allocs al S vals ++ rws rl S vals)) (k2 := k) c c'
      simpa using this
    · have hei : e ≠ i := fun q => by rw [q, hnt] at hee; cases hee
      rw [Jx.upd_ne _ _ hei] at hes ⊢
      exact hz e hes hee
    · by_cases hei : e = i
      · subst hei
        rw [Jx.upd_same]
        exact ⟨fun q => (by rw [hna] at q; cases q), fun _ => by rw [dR_no hnt]; exact hr⟩
      · rw [Jx.upd_ne _ _ hei] at hes ⊢
        exact ⟨(hev e hes hee).1, fun q => ((hev e hes hee).2 q).mono hle'⟩
  · rw [hd]
    refine g H0 vals _ hbs (kt.put (by rw [hN]; simpa using hi) (fun q => by cases q) (fun e q => ?_)) ?_ hdf
    · cases q
      exact ⟨rfl, by unfold dEr; rw [hna, dR_no hnt]; rfl, he⟩
    · simp only [Act.put, Array.size_setIfInBounds]; exact hN
theorem zr_eventT {j : Nat} {p : List Nat} (hp : pre.getD i [] = p) (hw : wantD l (vis [] te) o = some true) (hd : o.dst = some j) (hi : Nat.blt j N = true) (he : ev.contains i = true) (hna : isAl al i = false) {kk : Nat} {xs : List D} (hit : (i, kk, xs) ∈ rl) (hnd : (rl.map (·.1)).Nodup)
    (hx : ∀ hh H a w, Core C H (h ++ hh) k w → TOK H (vis p te) a → Jx.Gives P o a w fun v w' => ∃ H', H.le H' ∧ Core ⟨H, w, []⟩ H' [(0, .row kk xs v)] [] w' ∧ ∃ z : Z3, v = SL z)
    (g : Zr P C N l m De al rl pre ev h k Q bs (i + 1) rest ((j, .v (bs i), some i) :: te)) : Zr P C N l m De al rl pre ev h k Q bs i (o :: rest) te := by
  intro H0 vals a hbs kt hN hdf
  obtain rfl : bs = vals := funext hbs
  have hist : isR rl i = true := List.any_eq_true.2 ⟨_, hit, by simp⟩
  refine ⟨bs i, ?_, ?_⟩
  · unfold Jx.OK
    rw [wantD_ok (vis_nilr hbs kt) hw, if_pos rfl, if_pos he]
    refine ⟨rfl, ?_⟩
    rintro S w ⟨H, hle, c, hz, hev⟩ hSi hpS
    replace hpS : ∀ k ∈ pre.getD i [], S k = true := hpS
    rw [hp] at hpS
    refine (hx _ H a w c (vis_tokr hbs kt hle fun e he he2 => hev e (hpS e (by simpa using he)) he2)).mono ?_
    rintro v w' ⟨H', hle', c', z, hzv⟩
    have hal : allocs al (Jx.upd S i true) (Jx.upd bs i v) = allocs al S bs := allocs_congr fun e hea => by
      have : e ≠ i := fun q => by rw [q, hna] at hea; cases hea
      exact ⟨Jx.upd_ne _ _ this, fun _ => Jx.upd_ne _ _ this⟩
    refine ⟨H', Hp.le_trans hle hle', ?_, fun e hes hee => ?_, fun e hes hee => ?_⟩
    · rw [hal]
      have := Core.call (h1 := []) (k1 := []) (h2 := h ++ (allocs al S bs ++ rws rl S bs)) (k2 := k) c c'
      refine this.perm ?_ (List.Perm.refl _)
      have hp := rws_new (S := S) (vals := bs) (v := v) hSi hit hnd
      refine List.Perm.trans ?_ (List.Perm.append_left h (List.Perm.append_left _ hp.symm))
      have hq : ((0, Blk.row kk xs v) :: (h ++ (allocs al S bs ++ rws rl S bs))).Perm ((h ++ (allocs al S bs ++ rws rl S bs)) ++ [(0, Blk.row kk xs v)]) := (List.perm_append_singleton _ _).symm
      rw [List.append_assoc, List.append_assoc] at hq
      exact hq
    · by_cases hei : e = i
      · subst hei
        rw [Jx.upd_same]; exact ⟨z, hzv⟩
      · rw [Jx.upd_ne _ _ hei] at hes ⊢
        exact hz e hes hee
    · by_cases hei : e = i
      · subst hei
        rw [Jx.upd_same]
        exact ⟨fun q => (by rw [hna] at q; cases q), fun _ => by rw [dR_yes hist, hzv]; exact rep_v rfl⟩
      · rw [Jx.upd_ne _ _ hei] at hes ⊢
        exact ⟨(hev e hes hee).1, fun q => ((hev e hes hee).2 q).mono hle'⟩
  · rw [hd]
    refine g H0 bs _ hbs (kt.put (by rw [hN]; simpa using hi) (fun q => by cases q) (fun e q => ?_)) ?_ hdf
    · cases q
      exact ⟨rfl, by unfold dEr dR; rw [hna, hist]; rfl, he⟩
    · simp only [Act.put, Array.size_setIfInBounds]; exact hN
theorem wpD_drawnR {id : Nat} {t : List (Nat × D)} (m : Nat) (De : Nat → D) (al : AL) (rl : RL) (pre : List (List Nat)) (ev : List Nat) (tp : List (List Nat)) (hfo : P.follows .mixedOrders = true) (hsl : Jx.slotsB l.toArray = true)
    (hp : Jx.preB l.toArray (fun i => pre.getD i []) = true) (hpe : pre.all (·.all ev.contains) = true) (hev : ev.all (· < (l.take m).length) = true) (hsuf : Jx.sufB l.toArray tp (l.take m).length = true)
    (hwalk : ∀ bs, Zr P C N l m De al rl pre ev h k Q bs 0 (l.take m) (startE t)) : wpD P C N (.region id l.toArray true) ⟨t, h, k⟩ Q := by
  rintro a w ⟨H, c, kt, hN, hdf⟩
  have key := Jx.region_any (P := P) (Q := QD C N Q) (id := id) (w := w) (a0 := a) (l1 := l.take m) (l2 := l.drop m) (Cr C De al rl ev h k H) (fun i => pre.getD i []) (fun i => ev.contains i) tp hfo (by rw [List.take_append_drop]; exact hsl) (by rw [List.take_append_drop]; exact hp) ?_ ?_
    (by rw [List.take_append_drop]; exact hsuf) ?_ ?_ ?_
  · rw [List.take_append_drop] at key; exact key
  · intro i k hk
    rw [List.all_eq_true] at hpe
    by_cases hi : i < pre.length
    · have e : pre.getD i [] = pre[i] := by simp [hi]
      rw [e] at hk
      exact List.all_eq_true.1 (hpe _ (List.getElem_mem hi)) k hk
    · have e : pre.getD i [] = [] := by simp [Nat.le_of_not_lt hi]
      rw [e] at hk; cases hk
  · intro i hi
    rw [List.all_eq_true] at hev
    simpa using hev i (by simpa using hi)
  · rintro S vals vals' w hv ⟨H', hle, c', hz, hr⟩
    refine ⟨H', hle, ?_, fun e hes hee => by rw [← hv e hes]; exact hz e hes hee, fun e hes hee => ?_⟩
    · rw [← allocs_congr (S := S) (S' := S) (vals := vals) (vals' := vals') fun e _ => ⟨rfl, hv e⟩, ← rws_congr (S := S) (S' := S) (vals := vals) (vals' := vals') fun e _ => ⟨rfl, hv e⟩]; exact c'
    · rw [← hv e hes]; exact hr e hes hee
  · intro vals
    refine ⟨H, Hp.le_refl H, ?_, (fun e he => by cases he), fun e he => by cases he⟩
    rw [allocs_none, rws_none, List.append_nil, List.append_nil]
    exact c.drew
  · intro vals
    rw [List.take_append_drop]
    exact hwalk vals H vals a (fun _ => rfl) (fun j d o e => by
      obtain ⟨h1, h2⟩ := look_start e
      obtain ⟨v, h3, h4⟩ := kt j d h1
      exact ⟨v, h3, fun _ H' hle => h4.mono hle, fun e he => by rw [h2] at he; cases he⟩) hN hdf
end
section
variable {P : Program} {C : Ctx} {N : Nat} {l : List Oper} {m : Nat} {De : Nat → D} {al : AL} {rl : RL} {pre : List (List Nat)} {ev : List Nat} {h : List (Nat × Blk)} {k : List (Nat × Value)} {Q : Exit → S → Prop} {tab : List (Option TI)} {bs : Nat → Value} {i : Nat} {o : Oper} {rest : List Oper} {te : TE}
theorem wpD_drawsR {id : Nat} {t : List (Nat × D)} (m : Nat) (al : AL) (rl : RL) (pre : List (List Nat)) (ev : List Nat) (tp : List (List Nat)) (hfo : P.follows .mixedOrders = true) (hsl : Jx.slotsB l.toArray = true)
    (hp : Jx.preB l.toArray (fun i => pre.getD i []) = true) (hpe : pre.all (·.all ev.contains) = true) (hev : ev.all (· < (l.take m).length) = true) (hsuf : Jx.sufB l.toArray tp (l.take m).length = true)
    (hwalk : ExDs ev fun De => ∀ bs, Zr P C N l m De al rl pre ev h k Q bs 0 (l.take m) (startE t)) : wpD P C N (.region id l.toArray true) ⟨t, h, k⟩ Q := by
  obtain ⟨De, hw⟩ := exDs_ok hwalk
  exact wpD_drawnR m De al rl pre ev tp hfo hsl hp hpe hev hsuf hw
theorem zr_eM {j : Nat} {p : List Nat} {t : List (Nat × D)} {d : D} (hp : pre.getD i [] = p) (ht : vis p te = t) (hx : ExM P C h k o t d) (hw : wantD l (vis [] te) o = some true) (hd : o.dst = some j) (hi : Nat.blt j N = true) (he : ev.contains i = true) (hna : isAl al i = false) (hnt : isR rl i = false) (hDe : De i = d)
    (g : Zr P C N l m De al rl pre ev h k Q bs (i + 1) rest ((j, d, some i) :: te)) : Zr P C N l m De al rl pre ev h k Q bs i (o :: rest) te :=
  zr_event hp hw hd hi he hna hnt hDe (fun hh H a w c kt => by
    obtain ⟨v, h1, h2⟩ := hx hh H a w c (ht ▸ kt)
    unfold Jx.Gives
    rw [h1]
    exact ⟨H, Hp.le_refl H, Core.here c.ag, h2⟩) g
theorem zr_callR {f : FuncId} {args : List Operand} {ts : Array TypeId} {j : Nat} {p : List Nat} {t : List (Nat × D)} {ds ds' : List D} {kk : Nat} {xs : List D} (hp : pre.getD i [] = p) (ht : vis p te = t) (hc : CallsD P f ds' [] [] (fun d' h k => ∃ y : Z3, d' = .v (SL y) ∧ h = [(0, .row kk xs (SL y))] ∧ k = [])) (ho : o.op = .call ⟨.value (.func f), args.toArray, ts⟩)
    (ha : someMap args (opD t) = some ds) (hwk : WkL ds ds') (hw : wantD l (vis [] te) o = some true) (hd : o.dst = some j) (hi : Nat.blt j N = true) (he : ev.contains i = true) (hna : isAl al i = false) (hit : (i, kk, xs) ∈ rl) (hnd : (rl.map (·.1)).Nodup)
    (g : Zr P C N l m De al rl pre ev h k Q bs (i + 1) rest ((j, .v (bs i), some i) :: te)) : Zr P C N l m De al rl pre ev h k Q bs i (o :: rest) te :=
  zr_eventT hp hw hd hi he hna hit hnd (fun hh H a w c kt => by
    subst ht
    unfold Jx.Gives
    rw [call_run ho hc.1]
    simp only []
    have hv := hwk H _ (someMap_ok kt ha)
    rw [List.map_toArray]
    refine (hc.2 H w _ hv c.ag (by simp) (by simp) (by simp [claims, blkClaim])).mono ?_
    rintro e w' ⟨v, H', d', h', k', rfl, hr, hcore, y, rfl, rfl, rfl⟩
    have hy := rep_v_inv hr
    subst hy
    exact ⟨_, rfl, H', hcore.le, hcore, y, rfl⟩) g
end
end Go.Proofs.Ytpeimfcmhedjmaa.Ab
namespace Go.Proofs.Ytpeimfcmhedjmaa.Ab
open Go
set_option linter.all false
section
variable {α : Type} [Inhabited α]
def rowE (enc : α → Value) (xs : List α) : List D := xs.map fun x => .v (enc x)
theorem flat_v {H : Hp} {enc : α → Value} : ∀ {xs : List α} {us : List Value}, FlatR H 1 (rowE enc xs) us → us = xs.map enc
  | [], us, h => h
  | x :: xs, us, h => by
    obtain ⟨u1, u2, rfl, hl, ⟨h1, h2⟩, h3⟩ := h
    simp only [RepC] at h1
    subst h1
    rw [flat_v h3]; rfl
theorem v_flat {H : Hp} {enc : α → Value} (he : ∀ x, one (enc x) = true) : ∀ (xs : List α), FlatR H 1 (rowE enc xs) (xs.map enc)
  | [] => rfl
  | x :: xs => ⟨[enc x], xs.map enc, rfl, rfl, ⟨by simp [RepC], by simp [he]⟩, v_flat he xs⟩
theorem row_holds {H : Hp} {w : World} {r : Nat} {enc : α → Value} {xs : List α} {z : Z3} (h : BlkOK H w (r, .row 1 (rowE enc xs) (SL z))) :
    (xs = [] ∧ z.2.1 = 0) ∨ ∃ b m T rest, z = (some ⟨b, 0, none⟩, xs.length, m) ∧ xs.length ≤ m ∧ 0 < m ∧ w.heap[b]? = some (.cells (xs.map enc ++ rest).toArray T (0, 0)) ∧ m ≤ (xs.map enc ++ rest).length ∧ (∀ o, H ⟨b, o, none⟩ = none) ∧ claims [(r, Blk.row 1 (rowE enc xs) (SL z))] [] = [b] ∧ Sort.Holds enc w b 0 xs.toArray := by
  rcases h with ⟨a, e, h⟩ | ⟨b, m, us, rest, T, e, h0, hm, h1, h2, h3, h4⟩
  · left
    simp only [Value.slice.injEq] at e
    exact ⟨by simpa [rowE] using h, e.2.1⟩
  · right
    have hu := flat_v h2
    subst hu
    simp only [rowE, List.length_map] at h0 e
    obtain ⟨z1, z2, z3⟩ := z
    simp only [Value.slice.injEq] at e
    obtain ⟨rfl, rfl, rfl⟩ := e
    refine ⟨b, z3, T, rest, rfl, h0, hm, h1, by simpa using h3, h4, by simp [claims, blkClaim, sliceClaim, hm], fun j hj => ?_⟩
    have hj' : j < xs.length := by simpa using hj
    constructor
    · simp only [World.cell?, h1, Option.isSome_none, Bool.false_eq_true, if_false, List.getElem?_toArray, Nat.zero_add]
      rw [List.getElem?_append_left (by simpa using hj'), List.getElem?_map, List.getElem?_eq_getElem hj']
      simp [hj']
    · simp [World.frozen?, h1]
theorem put_heap {w : World} {enc : α → Value} {b n : Nat} {fs xs : List α} {rest : List Value} {T : TypeId} {os : Array Obj} (h1 : w.heap[b]? = some (.cells (xs.map enc ++ rest).toArray T (0, 0))) (hl : fs.length = xs.length) :
    (Sort.grow (Sort.putRow enc (Sort.ahead w n) b 0 fs.toArray) os).heap[b]? = some (.cells (fs.map enc ++ rest).toArray T (0, 0)) ∧ (∀ i, i < w.heap.size → i ≠ b → (Sort.grow (Sort.putRow enc (Sort.ahead w n) b 0 fs.toArray) os).heap[i]? = w.heap[i]?) ∧ w.heap.size ≤ (Sort.grow (Sort.putRow enc (Sort.ahead w n) b 0 fs.toArray) os).heap.size ∧ Env w (Sort.grow (Sort.putRow enc (Sort.ahead w n) b 0 fs.toArray) os) := by
  have hb := (Array.getElem?_eq_some_iff.1 h1).1
  have hsz : (Sort.putRow enc (Sort.ahead w n) b 0 fs.toArray).heap.size = w.heap.size := by simp [Sort.putRow, Sort.mapBlock, Sort.ahead]
  refine ⟨?_, fun i hi hne => ?_, by simp [Sort.grow, hsz], ⟨rfl, rfl, rfl⟩⟩
  · show ((Sort.putRow enc (Sort.ahead w n) b 0 fs.toArray).heap ++ os)[b]? = _
    rw [Array.getElem?_append_left (by rw [hsz]; exact hb)]
    simp only [Sort.putRow, Sort.mapBlock, Sort.ahead, Array.getElem?_modify, if_true, h1, Option.map_some, Sort.onCells]
    congr 2
    unfold Sort.putCells
    apply Array.ext_getElem?
    intro k
    simp only [Array.getElem?_mapIdx, List.getElem?_toArray, List.size_toArray, Nat.zero_le, true_and, Nat.zero_add, Nat.sub_zero]
    by_cases hk : k < fs.length
    · rw [List.getElem?_append_left (by simpa [← hl] using hk), List.getElem?_append_left (by simpa using hk)]
      simp only [List.getElem?_map, List.getElem?_eq_getElem hk, List.getElem?_eq_getElem (show k < xs.length by omega), Option.map_some, if_pos hk]
      congr 1
      rw [getElem!_pos fs.toArray k (by simpa using hk)]
      simp
    · rw [List.getElem?_append_right (by simp; omega), List.getElem?_append_right (by simp; omega)]
      simp only [List.length_map, hl]
      cases rest[k - xs.length]? with
      | none => rfl
      | some v => simp only [Option.map_some]; rw [if_neg (by omega)]
  · show ((Sort.putRow enc (Sort.ahead w n) b 0 fs.toArray).heap ++ os)[i]? = _
    rw [Array.getElem?_append_left (by rw [hsz]; exact hi)]
    simp only [Sort.putRow, Sort.mapBlock, Sort.ahead, Array.getElem?_modify]
    rw [if_neg (Ne.symm hne)]
theorem row_put {H : Hp} {w : World} {enc : α → Value} (he : ∀ x, one (enc x) = true) {b m n n' : Nat} {fs xs : List α} {rest : List Value} {T : TypeId} {os : Array Obj} (hA : Ag H w) (h1 : w.heap[b]? = some (.cells (xs.map enc ++ rest).toArray T (0, 0))) (h0 : xs.length ≤ m) (hm : 0 < m) (h3 : m ≤ (xs.map enc ++ rest).length) (h4 : ∀ o, H ⟨b, o, none⟩ = none) (hl : fs.length = xs.length) (hn : n' ≤ fs.length) :
    Core ⟨H, w, [b]⟩ H [(0, .row 1 (rowE enc (fs.take n')) (SL (some ⟨b, 0, none⟩, n', m)))] [] (Sort.grow (Sort.putRow enc (Sort.ahead w n) b 0 fs.toArray) os) := by
  obtain ⟨p1, p2, p3, p4⟩ := put_heap (n := n) (os := os) h1 hl
  refine ⟨fun a v e => ?_, Hp.le_refl H, fun _ _ x => .inl x, fun i hi hne => p2 i hi (by simpa using hne), p3, ?_, by simp, ?_, ?_, p4⟩
  · have hc := hA a v e
    have hlt := hA.lt e
    by_cases q : a.block = b
    · obtain ⟨ab, ao, as_⟩ := a
      simp only at q; subst q
      cases as_ with
      | some sp => simp [World.cell?, h1] at hc
      | none => rw [h4 ao] at e; cases e
    · simp only [World.cell?] at hc ⊢
      rw [p2 _ hlt q]; exact hc
  · intro p hp
    simp only [List.mem_singleton] at hp; subst hp
    refine .inr ⟨b, m, (fs.take n').map enc, (fs.drop n').map enc ++ rest, T, by simp [SL, rowE]; omega, by simp [rowE]; omega, hm, ?_, v_flat he _, ?_, h4⟩
    · rw [p1, ← List.append_assoc, ← List.map_append, List.take_append_drop]
    · rw [← List.append_assoc, ← List.map_append, List.take_append_drop]
      simp only [List.length_append, List.length_map] at h3 ⊢
      omega
  · simp [claims, blkClaim, sliceClaim, hm]
  · intro x hx; simp [claims, blkClaim, sliceClaim, hm] at hx; subst hx; exact .inl (by simp)
theorem row_same {H : Hp} {w : World} {r : Nat} {kk : Nat} {xs : List D} {y : Value} (hA : Ag H w) (h : BlkOK H w (r, .row kk xs y)) (nd : (claims [(r, Blk.row kk xs y)] []).Nodup) : Core ⟨H, w, claims [(r, Blk.row kk xs y)] []⟩ H [(0, .row kk xs y)] [] w := by
  refine ⟨hA, Hp.le_refl H, fun _ _ x => .inl x, fun _ _ _ => rfl, Nat.le_refl _, ?_, by simp, ?_, ?_, Env.refl w⟩
  · intro p hp
    simp only [List.mem_singleton] at hp; subst hp
    exact h
  · have e : claims [(0, Blk.row kk xs y)] [] = claims [(r, Blk.row kk xs y)] [] := rfl
    rw [e]; exact nd
  · intro x hx
    exact .inl (by simpa [claims, blkClaim] using hx)
theorem sort_row {P : Program} {f : FuncId} {enc : α → Value} (he : ∀ x, one (enc x) = true) {S : List α → List α} (hS : ∀ xs, (S xs).length = xs.length) (hg : Goes P f) (ex : List Value) (dx : List D) (hdx : ∀ H vs, RepsV H dx vs → vs = ex)
    (hc : ∀ (b m : Nat) (xs : List α) (w : World), Sort.Holds enc w b 0 xs.toArray → b < w.heap.size → xs.length < 4611686018427387904 → Calls P f (.slice (some ⟨b, 0, none⟩) xs.length m :: ex).toArray w fun e w' => e = .returned (.tuple #[]) ∧ ∃ n os, w' = Sort.grow (Sort.putRow enc (Sort.ahead w n) b 0 (S xs).toArray) os)
    (hn : ∀ (a : Option Addr) (m : Nat) (w : World), Calls P f (.slice a 0 m :: ex).toArray w fun e w' => e = .returned (.tuple #[]) ∧ w' = w)
    (xs : List α) (z : Z3) (hb : xs.length < 4611686018427387904) : CallsD P f (.v (SL z) :: dx) [(0, .row 1 (rowE enc xs) (SL z))] [] (fun d h k => d = .tup [] ∧ h = [(0, .row 1 (rowE enc (S xs)) (SL z))] ∧ k = []) := by
  refine ⟨hg, fun H w vs hv hA hblk _ nd => ?_⟩
  simp only [RepsV] at hv
  obtain ⟨u, us, rfl, hu, hus⟩ := hv
  have := rep_v_inv hu
  subst this
  have := hdx H us hus
  subst this
  have hrow := hblk _ (List.mem_singleton.2 rfl)
  have unit : ∀ H', Rep H' (.tup []) (.tuple #[]) := fun H' => ⟨by simp only [Value.cells, RepC]; exact ⟨[], rfl, by simp [RepsV]⟩, rfl⟩
  rcases row_holds hrow with ⟨rfl, h0⟩ | ⟨b, m, T, rest, rfl, h0, hm, h1, h3, h4, hcl, hH⟩
  · obtain ⟨z1, z2, z3⟩ := z
    simp only at h0; subst h0
    have hS0 : S [] = [] := List.eq_nil_of_length_eq_zero (by rw [hS]; rfl)
    refine (hn z1 z3 w).mono fun e w' ⟨he', hw⟩ => ?_
    subst hw
    exact ⟨_, H, .tup [], _, [], he', unit H, row_same hA hrow nd, rfl, by rw [hS0], rfl⟩
  · refine (hc b m xs w hH (Array.getElem?_eq_some_iff.1 h1).1 hb).mono fun e w' ⟨he', n, os, hw⟩ => ?_
    subst hw
    have hp := row_put (n := n) (n' := (S xs).length) (os := os) he hA h1 h0 hm h3 h4 (hS xs) (Nat.le_refl _)
    rw [List.take_length, hS] at hp
    refine ⟨_, H, .tup [], _, [], he', unit H, ?_, rfl, rfl, rfl⟩
    rw [hcl]; exact hp
theorem cut_row {P : Program} {f : FuncId} {enc : α → Value} (he : ∀ x, one (enc x) = true) {S : List α → List α} (hS : ∀ xs, (S xs).length ≤ xs.length) (hg : Goes P f) (ex : List Value) (dx : List D) (hdx : ∀ H vs, RepsV H dx vs → vs = ex) (zr : α)
    (hc : ∀ (b m : Nat) (xs : List α) (w : World), Sort.Holds enc w b 0 xs.toArray → xs.length < 4611686018427387904 → xs.length ≤ m → Calls P f (.slice (some ⟨b, 0, none⟩) xs.length m :: ex).toArray w fun e w' => e = .returned (.slice (some ⟨b, 0, none⟩) (S xs).length m) ∧ ∃ n, w' = Sort.putRow enc (Sort.ahead w n) b 0 (S xs ++ List.replicate (xs.length - (S xs).length) zr).toArray)
    (hn : ∀ (a : Option Addr) (m : Nat) (w : World), Calls P f (.slice a 0 m :: ex).toArray w fun e w' => e = .returned (.slice a 0 m) ∧ w' = w)
    (xs : List α) (z : Z3) (hb : xs.length < 4611686018427387904) : CallsD P f (.v (SL z) :: dx) [(0, .row 1 (rowE enc xs) (SL z))] [] (fun d h k => ∃ z' : Z3, d = .v (SL z') ∧ h = [(0, .row 1 (rowE enc (S xs)) (SL z'))] ∧ k = []) := by
  refine ⟨hg, fun H w vs hv hA hblk _ nd => ?_⟩
  simp only [RepsV] at hv
  obtain ⟨u, us, rfl, hu, hus⟩ := hv
  have := rep_v_inv hu
  subst this
  have := hdx H us hus
  subst this
  have hrow := hblk _ (List.mem_singleton.2 rfl)
  rcases row_holds hrow with ⟨rfl, h0⟩ | ⟨b, m, T, rest, rfl, h0, hm, h1, h3, h4, hcl, hH⟩
  · obtain ⟨z1, z2, z3⟩ := z
    simp only at h0; subst h0
    have hS0 : S [] = [] := List.eq_nil_of_length_eq_zero (by have := hS []; simpa using this)
    refine (hn z1 z3 w).mono fun e w' ⟨he', hw⟩ => ?_
    subst hw
    exact ⟨SL (z1, 0, z3), H, .v (SL (z1, 0, z3)), _, [], he', rep_v rfl, row_same hA hrow nd, (z1, 0, z3), rfl, by rw [hS0], rfl⟩
  · refine (hc b m xs w hH hb h0).mono fun e w' ⟨he', n, hw⟩ => ?_
    have hl : (S xs ++ List.replicate (xs.length - (S xs).length) zr).length = xs.length := by
      have := hS xs; simp; omega
    have hp := row_put (n := n) (n' := (S xs).length) (os := #[]) (fs := S xs ++ List.replicate (xs.length - (S xs).length) zr) he hA h1 h0 hm h3 h4 hl (by simp)
    rw [List.take_left, Sort.grow_empty, ← hw] at hp
    refine ⟨SL (some ⟨b, 0, none⟩, (S xs).length, m), H, .v (SL (some ⟨b, 0, none⟩, (S xs).length, m)), _, [], he', rep_v rfl, ?_, (some ⟨b, 0, none⟩, (S xs).length, m), rfl, rfl, rfl⟩
    rw [hcl]; exact hp
end
end Go.Proofs.Ytpeimfcmhedjmaa.Ab
namespace Go.Proofs.Ytpeimfcmhedjmaa.Ab
open Go Go.RowKit
set_option linter.all false
def bsOf (l : List UInt8) : ByteArray := ⟨l.toArray⟩
def lsOf (b : ByteArray) : List UInt8 := b.data.toList
theorem bs_ls (b : ByteArray) : bsOf (lsOf b) = b := by cases b; simp [bsOf, lsOf]
theorem ls_bs (l : List UInt8) : lsOf (bsOf l) = l := by simp [bsOf, lsOf]
theorem map_bs_ls (xs : List ByteArray) : (xs.map lsOf).map bsOf = xs := by
  rw [List.map_map]; simp [Function.comp_def, bs_ls]
theorem row_ls (ls : List (List UInt8)) : rowE encStr ls = (ls.map bsOf).map eStr := by
  unfold rowE; rw [List.map_map]; rfl
theorem row_bs (xs : List ByteArray) : rowE encStr (xs.map lsOf) = xs.map eStr := by rw [row_ls, map_bs_ls]
theorem compactUp_le {α : Type} [Inhabited α] [DecidableEq α] (d : Array α) : ∀ m, (Lib.compactUpTo d m).length ≤ m
  | 0 => by simp [Lib.compactUpTo]
  | m + 1 => by
    have := compactUp_le d m
    rw [Lib.compactUpTo_succ, List.length_append]
    split <;> simp <;> omega
theorem compact_le {α : Type} [Inhabited α] [DecidableEq α] (xs : List α) : (Lib.compact xs).length ≤ xs.length := compactUp_le _ _
def len62B (xs : List ByteArray) : Bool := decide (xs.length < 4611686018427387904)
def sortB (xs : List ByteArray) : List ByteArray := ((xs.map lsOf).mergeSort fun x y => decide (x ≤ y)).map bsOf
def compactB (xs : List ByteArray) : List ByteArray := (Lib.compact (xs.map lsOf)).map bsOf
end Go.Proofs.Ytpeimfcmhedjmaa.Ab
namespace Go.Proofs.Ytpeimfcmhedjmaa.Ab
open Go
set_option linter.all false
def tab : List (Option TI) := [none,
  some ⟨.other, 1, 8, [.nilFunc]⟩,
  some ⟨.int .i64, 1, 8, [.int .i64 0]⟩,
  some ⟨.int .i64, 1, 8, [.int .i64 0]⟩,
  some ⟨.bool, 1, 1, [.bool false]⟩,
  some ⟨.int .u8, 1, 1, [.int .u8 0]⟩,
  some ⟨.int .u8, 1, 1, [.int .u8 0]⟩,
  some ⟨.struct [(2, 0), (3, 1), (4, 2), (6, 3)], 4, 24, [.int .i64 0, .int .i64 0, .bool false, .int .u8 0]⟩,
  some ⟨.struct [(2, 0), (3, 1), (4, 2), (6, 3)], 4, 24, [.int .i64 0, .int .i64 0, .bool false, .int .u8 0]⟩,
  some ⟨.str, 1, 16, [.string ByteArray.empty]⟩,
  some ⟨.str, 1, 16, [.string ByteArray.empty]⟩,
  some ⟨.str, 1, 16, [.string ByteArray.empty]⟩,
  some ⟨.int .u64, 1, 8, [.int .u64 0]⟩,
  some ⟨.struct [(9, 0), (12, 1)], 2, 24, [.string ByteArray.empty, .int .u64 0]⟩,
  some ⟨.struct [(9, 0), (12, 1)], 2, 24, [.string ByteArray.empty, .int .u64 0]⟩,
  some ⟨.ptr 127, 1, 8, [.pointer none]⟩,
  some ⟨.ptr 130, 1, 8, [.pointer none]⟩,
  some ⟨.ptr 139, 1, 8, [.pointer none]⟩,
  some ⟨.struct [(17, 0)], 1, 8, [.pointer none]⟩,
  some ⟨.struct [(17, 0)], 1, 8, [.pointer none]⟩,
  none,
  some ⟨.int .i32, 1, 4, [.int .i32 0]⟩,
  some ⟨.slice 61, 1, 24, [.slice none 0 0]⟩,
  some ⟨.slice 41, 1, 24, [.slice none 0 0]⟩,
  some ⟨.struct [(22, 0), (23, 1)], 2, 48, [.slice none 0 0, .slice none 0 0]⟩,
  some ⟨.struct [(22, 0), (23, 1)], 2, 48, [.slice none 0 0, .slice none 0 0]⟩,
  some ⟨.other, 1, 8, [.nilFunc]⟩,
  some ⟨.other, 1, 8, [.nilFunc]⟩,
  some ⟨.slice 9, 1, 24, [.slice none 0 0]⟩,
  some ⟨.struct [(28, 0), (28, 1)], 2, 48, [.slice none 0 0, .slice none 0 0]⟩,
  some ⟨.struct [(28, 0), (28, 1)], 2, 48, [.slice none 0 0, .slice none 0 0]⟩,
  some ⟨.other, 1, 8, [.nilFunc]⟩,
  some ⟨.other, 1, 8, [.nilFunc]⟩,
  some ⟨.other, 1, 8, [.nilFunc]⟩,
  some ⟨.other, 1, 8, [.nilFunc]⟩,
  some ⟨.other, 1, 8, [.nilFunc]⟩,
  some ⟨.other, 1, 8, [.nilFunc]⟩,
  some ⟨.other, 1, 8, [.nilFunc]⟩,
  some ⟨.slice 43, 1, 24, [.slice none 0 0]⟩,
  some ⟨.slice 73, 1, 24, [.slice none 0 0]⟩,
  some ⟨.struct [(9, 0), (38, 1), (38, 2), (39, 3), (3, 4)], 5, 96, [.string ByteArray.empty, .slice none 0 0, .slice none 0 0, .slice none 0 0, .int .i64 0]⟩,
  some ⟨.struct [(9, 0), (38, 1), (38, 2), (39, 3), (3, 4)], 5, 96, [.string ByteArray.empty, .slice none 0 0, .slice none 0 0, .slice none 0 0, .int .i64 0]⟩,
  some ⟨.struct [(9, 0), (4, 1)], 2, 24, [.string ByteArray.empty, .bool false]⟩,
  some ⟨.struct [(9, 0), (4, 1)], 2, 24, [.string ByteArray.empty, .bool false]⟩,
  some ⟨.other, 1, 8, [.nilFunc]⟩,
  some ⟨.other, 1, 8, [.nilFunc]⟩,
  some ⟨.other, 1, 8, [.nilFunc]⟩,
  some ⟨.other, 1, 8, [.nilFunc]⟩,
  some ⟨.other, 1, 8, [.nilFunc]⟩,
  some ⟨.other, 1, 8, [.nilFunc]⟩,
  some ⟨.other, 1, 8, [.nilFunc]⟩,
  some ⟨.other, 1, 8, [.nilFunc]⟩,
  some ⟨.other, 1, 8, [.nilFunc]⟩,
  some ⟨.other, 1, 8, [.nilFunc]⟩,
  some ⟨.map 9 3, 1, 8, [.map none]⟩,
  none,
  some ⟨.other, 1, 8, [.nilFunc]⟩,
  some ⟨.other, 1, 8, [.nilFunc]⟩,
  some ⟨.other, 1, 8, [.nilFunc]⟩,
  some ⟨.other, 1, 8, [.nilFunc]⟩,
  some ⟨.struct [(9, 0), (4, 1), (3, 2), (3, 3)], 4, 40, [.string ByteArray.empty, .bool false, .int .i64 0, .int .i64 0]⟩,
  some ⟨.struct [(9, 0), (4, 1), (3, 2), (3, 3)], 4, 40, [.string ByteArray.empty, .bool false, .int .i64 0, .int .i64 0]⟩,
  none,
  some ⟨.other, 1, 8, [.nilFunc]⟩,
  some ⟨.other, 1, 8, [.nilFunc]⟩,
  some ⟨.slice 23, 1, 24, [.slice none 0 0]⟩,
  some ⟨.other, 1, 8, [.nilFunc]⟩,
  some ⟨.struct [(28, 0)], 1, 24, [.slice none 0 0]⟩,
  some ⟨.struct [(28, 0)], 1, 24, [.slice none 0 0]⟩,
  some ⟨.other, 1, 8, [.nilFunc]⟩,
  some ⟨.other, 1, 8, [.nilFunc]⟩,
  some ⟨.slice 76, 1, 24, [.slice none 0 0]⟩,
  some ⟨.struct [(3, 0), (9, 1), (9, 2), (71, 3), (39, 4), (39, 5), (3, 6)], 7, 120, [.int .i64 0, .string ByteArray.empty, .string ByteArray.empty, .slice none 0 0, .slice none 0 0, .slice none 0 0, .int .i64 0]⟩,
  some ⟨.struct [(3, 0), (9, 1), (9, 2), (71, 3), (39, 4), (39, 5), (3, 6)], 7, 120, [.int .i64 0, .string ByteArray.empty, .string ByteArray.empty, .slice none 0 0, .slice none 0 0, .slice none 0 0, .int .i64 0]⟩,
  some ⟨.other, 1, 8, [.nilFunc]⟩,
  some ⟨.struct [(3, 0), (3, 1), (9, 2), (71, 3), (3, 4)], 5, 64, [.int .i64 0, .int .i64 0, .string ByteArray.empty, .slice none 0 0, .int .i64 0]⟩,
  some ⟨.struct [(3, 0), (3, 1), (9, 2), (71, 3), (3, 4)], 5, 64, [.int .i64 0, .int .i64 0, .string ByteArray.empty, .slice none 0 0, .int .i64 0]⟩,
  some ⟨.other, 1, 8, [.nilFunc]⟩,
  some ⟨.other, 1, 8, [.nilFunc]⟩,
  some ⟨.other, 1, 8, [.nilFunc]⟩,
  some ⟨.other, 1, 8, [.nilFunc]⟩,
  some ⟨.other, 1, 8, [.nilFunc]⟩,
  some ⟨.other, 1, 8, [.nilFunc]⟩,
  some ⟨.other, 1, 8, [.nilFunc]⟩,
  some ⟨.other, 1, 8, [.nilFunc]⟩,
  some ⟨.other, 1, 8, [.nilFunc]⟩,
  some ⟨.other, 1, 8, [.nilFunc]⟩,
  some ⟨.other, 1, 8, [.nilFunc]⟩,
  some ⟨.slice 22, 1, 24, [.slice none 0 0]⟩,
  some ⟨.other, 1, 8, [.nilFunc]⟩,
  some ⟨.other, 1, 8, [.nilFunc]⟩,
  some ⟨.other, 1, 8, [.nilFunc]⟩,
  some ⟨.other, 1, 8, [.nilFunc]⟩,
  some ⟨.ptr 68, 1, 8, [.pointer none]⟩,
  some ⟨.other, 1, 8, [.nilFunc]⟩,
  some ⟨.other, 1, 8, [.nilFunc]⟩,
  some ⟨.int .u64, 1, 8, [.int .u64 0]⟩,
  some ⟨.other, 1, 8, [.nilFunc]⟩,
  some ⟨.other, 1, 8, [.nilFunc]⟩,
  some ⟨.other, 1, 8, [.nilFunc]⟩,
  some ⟨.other, 1, 8, [.nilFunc]⟩,
  some ⟨.other, 1, 8, [.nilFunc]⟩,
  some ⟨.int .i64, 1, 8, [.int .i64 0]⟩,
  none,
  some ⟨.other, 1, 8, [.nilFunc]⟩,
  some ⟨.other, 1, 8, [.nilFunc]⟩,
  some ⟨.other, 1, 8, [.nilFunc]⟩,
  some ⟨.other, 1, 8, [.nilFunc]⟩,
  none,
  some ⟨.other, 1, 8, [.nilFunc]⟩,
  some ⟨.other, 1, 8, [.nilFunc]⟩,
  some ⟨.int .u32, 1, 4, [.int .u32 0]⟩,
  some ⟨.other, 1, 8, [.nilFunc]⟩,
  some ⟨.int .u64, 1, 8, [.int .u64 0]⟩,
  some ⟨.other, 1, 8, [.nilFunc]⟩,
  some ⟨.other, 1, 8, [.nilFunc]⟩,
  some ⟨.int .u64, 1, 8, [.int .u64 0]⟩,
  some ⟨.other, 1, 8, [.nilFunc]⟩,
  some ⟨.other, 1, 8, [.nilFunc]⟩,
  some ⟨.other, 1, 8, [.nilFunc]⟩,
  some ⟨.ptr 3, 1, 8, [.pointer none]⟩,
  some ⟨.other, 1, 8, [.nilFunc]⟩,
  some ⟨.ptr 116, 1, 8, [.pointer none]⟩,
  none,
  some ⟨.other, 1, 8, [.nilFunc]⟩,
  some ⟨.other, 1, 8, [.nilFunc]⟩,
  some ⟨.struct [(17, 0), (17, 1), (17, 2), (9, 3)], 4, 40, [.pointer none, .pointer none, .pointer none, .string ByteArray.empty]⟩,
  some ⟨.struct [(17, 0), (17, 1), (17, 2), (9, 3)], 4, 40, [.pointer none, .pointer none, .pointer none, .string ByteArray.empty]⟩,
  some ⟨.array 0 16, 0, 0, []⟩,
  some ⟨.struct [(128, 0)], 0, 0, []⟩,
  some ⟨.struct [(128, 0)], 0, 0, []⟩,
  some ⟨.other, 1, 8, [.nilFunc]⟩,
  some ⟨.int .u8, 1, 1, [.int .u8 0]⟩,
  some ⟨.int .u8, 1, 1, [.int .u8 0]⟩,
  some ⟨.other, 1, 8, [.nilFunc]⟩,
  some ⟨.ptr 5, 1, 8, [.pointer none]⟩,
  some ⟨.int .i32, 1, 4, [.int .i32 0]⟩,
  some ⟨.int .i32, 1, 4, [.int .i32 0]⟩,
  some ⟨.struct [(12, 0), (12, 1), (111, 2), (132, 3), (5, 4), (5, 5), (133, 6), (134, 7), (135, 8), (136, 9), (137, 10)], 11, 48, [.int .u64 0, .int .u64 0, .int .u32 0, .int .u8 0, .int .u8 0, .int .u8 0, .int .u8 0, .nilFunc, .pointer none, .int .i32 0, .int .i32 0]⟩,
  some ⟨.struct [(12, 0), (12, 1), (111, 2), (132, 3), (5, 4), (5, 5), (133, 6), (134, 7), (135, 8), (136, 9), (137, 10)], 11, 48, [.int .u64 0, .int .u64 0, .int .u32 0, .int .u8 0, .int .u8 0, .int .u8 0, .int .u8 0, .nilFunc, .pointer none, .int .i32 0, .int .i32 0]⟩,
  none]
theorem htab : TabOK Try.prog tab := tab_ok (P := Try.prog) (by kernel_rfl)
theorem eqt43 : EqT Try.prog 43 := ⟨by kernel_rfl, by kernel_rfl, by kernel_rfl⟩
theorem ti3 : ti tab 3 = some ⟨.int .i64, 1, 8, [.int .i64 0]⟩ := rfl
theorem ti4 : ti tab 4 = some ⟨.bool, 1, 1, [.bool false]⟩ := rfl
theorem ti9 : ti tab 9 = some ⟨.str, 1, 16, [.string ByteArray.empty]⟩ := rfl
theorem ti22 : ti tab 22 = some ⟨.slice 61, 1, 24, [.slice none 0 0]⟩ := rfl
theorem ti23 : ti tab 23 = some ⟨.slice 41, 1, 24, [.slice none 0 0]⟩ := rfl
theorem ti25 : ti tab 25 = some ⟨.struct [(22, 0), (23, 1)], 2, 48, [.slice none 0 0, .slice none 0 0]⟩ := rfl
theorem ti38 : ti tab 38 = some ⟨.slice 43, 1, 24, [.slice none 0 0]⟩ := rfl
theorem ti39 : ti tab 39 = some ⟨.slice 73, 1, 24, [.slice none 0 0]⟩ := rfl
theorem ti41 : ti tab 41 = some ⟨.struct [(9, 0), (38, 1), (38, 2), (39, 3), (3, 4)], 5, 96, [.string ByteArray.empty, .slice none 0 0, .slice none 0 0, .slice none 0 0, .int .i64 0]⟩ := rfl
theorem ti43 : ti tab 43 = some ⟨.struct [(9, 0), (4, 1)], 2, 24, [.string ByteArray.empty, .bool false]⟩ := rfl
theorem ti61 : ti tab 61 = some ⟨.struct [(9, 0), (4, 1), (3, 2), (3, 3)], 4, 40, [.string ByteArray.empty, .bool false, .int .i64 0, .int .i64 0]⟩ := rfl
theorem ti71 : ti tab 71 = some ⟨.slice 76, 1, 24, [.slice none 0 0]⟩ := rfl
theorem ti73 : ti tab 73 = some ⟨.struct [(3, 0), (9, 1), (9, 2), (71, 3), (39, 4), (39, 5), (3, 6)], 7, 120, [.int .i64 0, .string ByteArray.empty, .string ByteArray.empty, .slice none 0 0, .slice none 0 0, .slice none 0 0, .int .i64 0]⟩ := rfl
theorem ti76 : ti tab 76 = some ⟨.struct [(3, 0), (3, 1), (9, 2), (71, 3), (3, 4)], 5, 64, [.int .i64 0, .int .i64 0, .string ByteArray.empty, .slice none 0 0, .int .i64 0]⟩ := rfl
end Go.Proofs.Ytpeimfcmhedjmaa.Ab
namespace Go.Proofs.Ytpeimfcmhedjmaa.Ab
open Go Go.RowKit Go.Shelf Go.Proofs.Ytpeimfcmhedjmaa
set_option linter.all false
theorem sortB_ok (a0 : List ByteArray) (z : Z3) (h : len62B a0 = true) : CallsD Try.prog 47 [.v (SL z)] [(0, .row 1 (a0.map eStr) (SL z))] [] (fun d h k => d = .tup [] ∧ h = [(0, .row 1 ((sortB a0).map eStr) (SL z))] ∧ k = []) := by
  have := sort_row (P := Try.prog) (f := 47) (enc := encStr) (fun _ => rfl) (S := fun xs => xs.mergeSort fun x y => decide (x ≤ y)) (fun xs => List.length_mergeSort _) ⟨_, Try.func47, rfl, rfl⟩ [] [] (fun H vs h => by simpa [RepsV] using h)
    (fun b m xs w hH hb hl => by simpa using Try.slices_Sort_string b 0 m xs w hH hb hl) (fun a m w => Try.slices_Sort_string_none a m w) (a0.map lsOf) z (by simpa [len62B] using h)
  rw [row_bs, row_ls] at this
  exact this
theorem compactB_ok (a0 : List ByteArray) (z : Z3) (h : len62B a0 = true) : CallsD Try.prog 48 [.v (SL z)] [(0, .row 1 (a0.map eStr) (SL z))] [] (fun d h k => ∃ y0, d = .v (SL y0) ∧ h = [(0, .row 1 ((compactB a0).map eStr) (SL y0))] ∧ k = []) := by
  have := cut_row (P := Try.prog) (f := 48) (enc := encStr) (fun _ => rfl) (S := Lib.compact) compact_le ⟨_, Try.func48, rfl, rfl⟩ [] [] (fun H vs h => by simpa [RepsV] using h) []
    (fun b m xs w hH hl hm => Try.slices_Compact_string b 0 m xs w hH (by omega) hm) (fun a m w => Try.slices_Compact_string_empty a m w) (a0.map lsOf) z (by simpa [len62B] using h)
  rw [row_bs, row_ls] at this
  exact this
end Go.Proofs.Ytpeimfcmhedjmaa.Ab
namespace Go.Proofs.Ytpeimfcmhedjmaa.Ab
open Go
set_option linter.all false
theorem rep_full0 {H : Hp} {k0 : Nat} {v : Value} (hr : Rep H (.lst k0 [] .full) v) : ∃ a, v = .slice a 0 0 := by
  obtain ⟨hc, hx⟩ := rep_lst_inv hr
  rcases hx with ⟨_, a, m, rfl, _⟩ | ⟨b, off, m, rfl, hm, _⟩
  · simp only [CapOK] at hc; subst hc; exact ⟨a, rfl⟩
  · simp only [CapOK, List.length_nil] at hc; subst hc; exact ⟨_, rfl⟩
theorem grow_nil {P : Program} {f : FuncId} {e : TypeId} {kk bb k0 : Nat} (hg : Goes P f)
    (hi : ∃ i0 z, P.info? e = some i0 ∧ i0.zero = some z ∧ i0.size = kk ∧ i0.bytes = bb ∧ z.cells.size = kk) (hkk : 0 < kk)
    (hroom : ∀ (a : Option Addr) (w : World), Calls P f #[.slice a 0 0, .int .i64 ((0 : Nat) : Int)] w fun e' w' => e' = .returned (.slice a 0 0) ∧ w' = w)
    (hgrow : ∀ (i0 : TypeInfo) (z : Value) (hi0 : P.info? e = some i0) (hz0 : i0.zero = some z) (hs0 : 0 < i0.size) (a : Option Addr) (n : Nat) (w : World), 0 < n → n * i0.bytes ≤ 140737488355328 → n ≤ 4611686018427387904 →
      Calls P f #[.slice a 0 0, .int .i64 (n : Int)] w fun e' w' => e' = .returned (.slice (some ⟨w.heap.size, 0, none⟩) 0 (grownCap w n 0 e)) ∧
        w' = w.drew.alloc (.cells (#[] ++ Builtin.zeroCells z.cells n ++ Builtin.zeroCells z.cells (grownCap w n 0 e - n)) e))
    (n : Int) (hn : 0 ≤ n) (hb : n * bb ≤ 140737488355328) (h62 : n ≤ 4611686018427387904) :
    CallsD P f [.lst k0 [] .full, .v (.int .i64 n)] [] [] (fun d h k => ∃ z : Z3, d = .v (SL z) ∧ h = [(0, .row kk [] (SL z))] ∧ k = []) := by
  refine ⟨hg, fun H w vs hv hA _ _ _ => ?_⟩
  simp only [RepsV] at hv
  obtain ⟨u, us, rfl, hu, u2, us2, rfl, hu2, rfl⟩ := hv
  have := rep_v_inv hu2
  subst this
  obtain ⟨a, rfl⟩ := rep_full0 hu
  obtain ⟨m, rfl⟩ := Int.eq_ofNat_of_zero_le hn
  by_cases h0 : m = 0
  · subst h0
    refine (hroom a w).mono fun e' w' ⟨he', hw⟩ => ?_
    subst hw
    refine ⟨_, H, .v (SL (a, 0, 0)), [(0, .row kk [] (SL (a, 0, 0)))], [], he', rep_v rfl, ?_, (a, 0, 0), rfl, rfl, rfl⟩
    refine ⟨hA, Hp.le_refl H, fun _ _ x => .inl x, fun _ _ _ => rfl, Nat.le_refl _, ?_, by simp, ?_, ?_, Env.refl _⟩
    · intro p hp
      simp only [List.mem_singleton] at hp; subst hp
      exact .inl ⟨a, rfl, rfl⟩
    · cases a <;> simp [claims, blkClaim, sliceClaim]
    · cases a <;> simp [claims, blkClaim, sliceClaim]
  · obtain ⟨i0, z, hi0, hz0, hs, hbb, hzs⟩ := hi
    have hgc := grownCap_ge w m 0 e
    refine (hgrow i0 z hi0 hz0 (by omega) a m w (by omega) (by rw [hbb]; omega) (by omega)).mono fun e' w' ⟨he', hw⟩ => ?_
    generalize grownCap w m 0 e = gc at hgc he' hw
    have earr : #[] ++ Builtin.zeroCells z.cells m ++ Builtin.zeroCells z.cells (gc - m) = ((Builtin.zeroCells z.cells m).toList ++ (Builtin.zeroCells z.cells (gc - m)).toList).toArray := by simp
    rw [earr] at hw
    have hlen : ((Builtin.zeroCells z.cells m).toList ++ (Builtin.zeroCells z.cells (gc - m)).toList).length = gc * kk := by
      simp only [List.length_append, Array.length_toList, size_zeroCells, hzs]
      rw [← Nat.add_mul]; congr 1; omega
    generalize (Builtin.zeroCells z.cells m).toList ++ (Builtin.zeroCells z.cells (gc - m)).toList = cs at hlen hw
    subst hw
    have hsizew : w.drew.heap.size = w.heap.size := rfl
    have hcells : (w.drew.alloc (.cells cs.toArray e)).heap[w.heap.size]? = some (.cells cs.toArray e (0, 0)) := by
      rw [heap_alloc, hsizew, if_pos rfl]
    have hm0 : 0 < gc := by omega
    refine ⟨_, H, .v (SL (some ⟨w.heap.size, 0, none⟩, 0, gc)), [(0, .row kk [] (SL (some ⟨w.heap.size, 0, none⟩, 0, gc)))], [], he', rep_v rfl, ?_, (some ⟨w.heap.size, 0, none⟩, 0, gc), rfl, rfl, rfl⟩
    refine ⟨fun a v e' => cell_alloc _ (hA a v e'), Hp.le_refl H, fun _ _ x => .inl x, fun b hb _ => ?_, ?_, ?_, by simp, ?_, ?_, ⟨rfl, rfl, rfl⟩⟩
    · rw [heap_alloc, hsizew, if_neg (by exact Nat.ne_of_lt hb)]; rfl
    · rw [size_alloc, hsizew]; exact Nat.le_succ _
    · intro p hp
      simp only [List.mem_singleton] at hp; subst hp
      refine .inr ⟨w.heap.size, gc, [], cs, e, by simp [SL], by simp, hm0, by simpa using hcells, rfl, ?_, fun o => ?_⟩
      · simp only [List.nil_append]; omega
      · cases q : H ⟨w.heap.size, o, none⟩ with
        | none => rfl
        | some v => exact absurd (hA.lt q) (Nat.lt_irrefl _)
    · simp [claims, blkClaim, sliceClaim, hm0]
    · intro x hx; simp [claims, blkClaim, sliceClaim, hm0] at hx; subst hx; exact .inr (Nat.le_refl _)
end Go.Proofs.Ytpeimfcmhedjmaa.Ab
namespace Go.Proofs.Ytpeimfcmhedjmaa.Ab
open Go
set_option linter.all false
section
variable {P : Program} {C : Ctx} {N : Nat} {ops rest : List Oper} {o : Oper} {t : List (Nat × D)} {h : List (Nat × Blk)} {k : List (Nat × Value)} {Q : Exit → S → Prop}
theorem wpD_sr {id : Nat} {ops : List Oper} {y : Code} {s : S} (g : opsD P C N ops ops s (thenD (fun s' => wpD P C N y s' Q) Q)) : wpD P C N (.seq (.region id ops.toArray false) y) s Q := wpD_seq (wpD_region g)
theorem ops_nt {next : S → Prop} {s : S} (g : next s) : opsD P C N ops [] s (thenD next Q) := ops_nil (then_normal g)
theorem ops_n2 {id : Nat} {ops2 : List Oper} {y : Code} {s : S} {Q' : Exit → S → Prop} (g : opsD P C N ops2 ops2 s (thenD (fun s' => wpD P C N y s' Q) Q)) : opsD P C N ops [] s (thenD (fun s' => wpD P C N (.seq (.region id ops2.toArray false) y) s' Q) Q') := ops_nt (wpD_sr g)
theorem pu {i : Nat} {d : D} (g : opsD Try.prog C N ops rest ⟨(i, d) :: t, h, k⟩ Q) (hw : wantD ops t o = some true := by rfl) (hd : o.dst = some i := by rfl) (hi : Nat.blt i N = true := by rfl) (e : evP tab t o.op = some d := by rfl) : opsD Try.prog C N ops (o :: rest) ⟨t, h, k⟩ Q := p_pure htab hw hd hi e g
theorem p_st0 {hr : List (Nat × Blk)} {b off : Nat} {T T' : TypeId} {x y : Operand} {ds ds' : List D} {ti0 : TI} {d : D} (ho : o.op = .store T x y) (hw : wantD ops t o = some true) (hd : o.dst = none) (hx : opD t x = some (.ptr b off)) (hT : ti tab T = some ti0) (hy : opD t y = some d) (hs : stor d = true) (hsz : Nat.beq (dcells d).length ti0.size = true) (hle : Nat.ble (off + ti0.size) ds.length = true) (e : lay ds off (dcells d) = ds') (g : opsD Try.prog C N ops rest ⟨t, (b, .cells ds' T') :: hr, k⟩ Q) : opsD Try.prog C N ops (o :: rest) ⟨t, (b, .cells ds T') :: hr, k⟩ Q := p_store 0 htab ho hw hd hx rfl hT hy hs hsz hle e rfl g
theorem p_st1 {a0 : Nat × Blk} {hr : List (Nat × Blk)} {b off : Nat} {T T' : TypeId} {x y : Operand} {ds ds' : List D} {ti0 : TI} {d : D} (ho : o.op = .store T x y) (hw : wantD ops t o = some true) (hd : o.dst = none) (hx : opD t x = some (.ptr b off)) (hT : ti tab T = some ti0) (hy : opD t y = some d) (hs : stor d = true) (hsz : Nat.beq (dcells d).length ti0.size = true) (hle : Nat.ble (off + ti0.size) ds.length = true) (e : lay ds off (dcells d) = ds') (g : opsD Try.prog C N ops rest ⟨t, a0 :: (b, .cells ds' T') :: hr, k⟩ Q) : opsD Try.prog C N ops (o :: rest) ⟨t, a0 :: (b, .cells ds T') :: hr, k⟩ Q := p_store 1 htab ho hw hd hx rfl hT hy hs hsz hle e rfl g
theorem WkS.bl1 {a0 : Nat × Blk} {hr : List (Nat × Blk)} {b : Nat} {ds ds' : List D} {T : TypeId} (hw : WkR ds ds') : WkS C ⟨t, a0 :: (b, .cells ds T) :: hr, k⟩ ⟨t, a0 :: (b, .cells ds' T) :: hr, k⟩ := WkS.blk 1 rfl hw rfl
theorem p_st2 {a0 a1 : Nat × Blk} {hr : List (Nat × Blk)} {b off : Nat} {T T' : TypeId} {x y : Operand} {ds ds' : List D} {ti0 : TI} {d : D} (ho : o.op = .store T x y) (hw : wantD ops t o = some true) (hd : o.dst = none) (hx : opD t x = some (.ptr b off)) (hT : ti tab T = some ti0) (hy : opD t y = some d) (hs : stor d = true) (hsz : Nat.beq (dcells d).length ti0.size = true) (hle : Nat.ble (off + ti0.size) ds.length = true) (e : lay ds off (dcells d) = ds') (g : opsD Try.prog C N ops rest ⟨t, a0 :: a1 :: (b, .cells ds' T') :: hr, k⟩ Q) : opsD Try.prog C N ops (o :: rest) ⟨t, a0 :: a1 :: (b, .cells ds T') :: hr, k⟩ Q := p_store 2 htab ho hw hd hx rfl hT hy hs hsz hle e rfl g
theorem WkS.bl2 {a0 a1 : Nat × Blk} {hr : List (Nat × Blk)} {b : Nat} {ds ds' : List D} {T : TypeId} (hw : WkR ds ds') : WkS C ⟨t, a0 :: a1 :: (b, .cells ds T) :: hr, k⟩ ⟨t, a0 :: a1 :: (b, .cells ds' T) :: hr, k⟩ := WkS.blk 2 rfl hw rfl
theorem p_st3 {a0 a1 a2 : Nat × Blk} {hr : List (Nat × Blk)} {b off : Nat} {T T' : TypeId} {x y : Operand} {ds ds' : List D} {ti0 : TI} {d : D} (ho : o.op = .store T x y) (hw : wantD ops t o = some true) (hd : o.dst = none) (hx : opD t x = some (.ptr b off)) (hT : ti tab T = some ti0) (hy : opD t y = some d) (hs : stor d = true) (hsz : Nat.beq (dcells d).length ti0.size = true) (hle : Nat.ble (off + ti0.size) ds.length = true) (e : lay ds off (dcells d) = ds') (g : opsD Try.prog C N ops rest ⟨t, a0 :: a1 :: a2 :: (b, .cells ds' T') :: hr, k⟩ Q) : opsD Try.prog C N ops (o :: rest) ⟨t, a0 :: a1 :: a2 :: (b, .cells ds T') :: hr, k⟩ Q := p_store 3 htab ho hw hd hx rfl hT hy hs hsz hle e rfl g
theorem WkS.bl3 {a0 a1 a2 : Nat × Blk} {hr : List (Nat × Blk)} {b : Nat} {ds ds' : List D} {T : TypeId} (hw : WkR ds ds') : WkS C ⟨t, a0 :: a1 :: a2 :: (b, .cells ds T) :: hr, k⟩ ⟨t, a0 :: a1 :: a2 :: (b, .cells ds' T) :: hr, k⟩ := WkS.blk 3 rfl hw rfl
theorem p_st4 {a0 a1 a2 a3 : Nat × Blk} {hr : List (Nat × Blk)} {b off : Nat} {T T' : TypeId} {x y : Operand} {ds ds' : List D} {ti0 : TI} {d : D} (ho : o.op = .store T x y) (hw : wantD ops t o = some true) (hd : o.dst = none) (hx : opD t x = some (.ptr b off)) (hT : ti tab T = some ti0) (hy : opD t y = some d) (hs : stor d = true) (hsz : Nat.beq (dcells d).length ti0.size = true) (hle : Nat.ble (off + ti0.size) ds.length = true) (e : lay ds off (dcells d) = ds') (g : opsD Try.prog C N ops rest ⟨t, a0 :: a1 :: a2 :: a3 :: (b, .cells ds' T') :: hr, k⟩ Q) : opsD Try.prog C N ops (o :: rest) ⟨t, a0 :: a1 :: a2 :: a3 :: (b, .cells ds T') :: hr, k⟩ Q := p_store 4 htab ho hw hd hx rfl hT hy hs hsz hle e rfl g
theorem p_st5 {a0 a1 a2 a3 a4 : Nat × Blk} {hr : List (Nat × Blk)} {b off : Nat} {T T' : TypeId} {x y : Operand} {ds ds' : List D} {ti0 : TI} {d : D} (ho : o.op = .store T x y) (hw : wantD ops t o = some true) (hd : o.dst = none) (hx : opD t x = some (.ptr b off)) (hT : ti tab T = some ti0) (hy : opD t y = some d) (hs : stor d = true) (hsz : Nat.beq (dcells d).length ti0.size = true) (hle : Nat.ble (off + ti0.size) ds.length = true) (e : lay ds off (dcells d) = ds') (g : opsD Try.prog C N ops rest ⟨t, a0 :: a1 :: a2 :: a3 :: a4 :: (b, .cells ds' T') :: hr, k⟩ Q) : opsD Try.prog C N ops (o :: rest) ⟨t, a0 :: a1 :: a2 :: a3 :: a4 :: (b, .cells ds T') :: hr, k⟩ Q := p_store 5 htab ho hw hd hx rfl hT hy hs hsz hle e rfl g
theorem p_st6 {a0 a1 a2 a3 a4 a5 : Nat × Blk} {hr : List (Nat × Blk)} {b off : Nat} {T T' : TypeId} {x y : Operand} {ds ds' : List D} {ti0 : TI} {d : D} (ho : o.op = .store T x y) (hw : wantD ops t o = some true) (hd : o.dst = none) (hx : opD t x = some (.ptr b off)) (hT : ti tab T = some ti0) (hy : opD t y = some d) (hs : stor d = true) (hsz : Nat.beq (dcells d).length ti0.size = true) (hle : Nat.ble (off + ti0.size) ds.length = true) (e : lay ds off (dcells d) = ds') (g : opsD Try.prog C N ops rest ⟨t, a0 :: a1 :: a2 :: a3 :: a4 :: a5 :: (b, .cells ds' T') :: hr, k⟩ Q) : opsD Try.prog C N ops (o :: rest) ⟨t, a0 :: a1 :: a2 :: a3 :: a4 :: a5 :: (b, .cells ds T') :: hr, k⟩ Q := p_store 6 htab ho hw hd hx rfl hT hy hs hsz hle e rfl g
end
section
variable {P : Program} {C : Ctx} {N : Nat} {l : List Oper} {m : Nat} {De : Nat → D} {al : AL} {pre : List (List Nat)} {ev : List Nat} {h : List (Nat × Blk)} {k : List (Nat × Value)} {Q : Exit → S → Prop} {bs : Nat → Nat} {i : Nat} {o : Oper} {rest : List Oper} {te : TE}
theorem zqp {j : Nat} {x : Value} {p : List Nat} {t : List (Nat × D)} (g : Zw Try.prog C N l m De al pre ev h k Q bs (i + 1) rest ((j, .v x, none) :: te)) (hp : pre.getD i [] = p := by rfl) (ht : vis p te = t := by rfl) (hx : evP tab t o.op = some (.v x) := by rfl) (hw : wantD l (vis [] te) o = some true := by rfl) (hd : o.dst = some j := by rfl) (hi : Nat.blt j N = true := by rfl) (hne : ev.contains i = false := by rfl) (hone : one x = true := by rfl) (hpe : p.all ev.contains = true := by rfl) : Zw Try.prog C N l m De al pre ev h k Q bs i (o :: rest) te :=
  z_q hp ht (ex_pure htab hx) hw hd hi hne hone hpe g
theorem zep {j : Nat} {p : List Nat} {t : List (Nat × D)} {d : D} (g : Zw Try.prog C N l m De al pre ev h k Q bs (i + 1) rest ((j, d, some i) :: te)) (hp : pre.getD i [] = p := by rfl) (ht : vis p te = t := by rfl) (hx : evP tab t o.op = some d := by rfl) (hw : wantD l (vis [] te) o = some true := by rfl) (hd : o.dst = some j := by rfl) (hi : Nat.blt j N = true := by rfl) (he : ev.contains i = true := by rfl) (hna : isAl al i = false := by rfl) (hDe : De i = d := by rfl) : Zw Try.prog C N l m De al pre ev h k Q bs i (o :: rest) te :=
  z_e hp ht (ex_pure htab hx) hw hd hi he hna hDe g
end
def pickE {α : Type} : List Nat → List α → List α
  | [], _ => []
  | j :: js, l => match l[j]? with
    | some x => x :: pickE js (l.eraseIdx j)
    | none => []
def restE {α : Type} : List Nat → List α → List α
  | [], l => l
  | j :: js, l => match l[j]? with
    | some _ => restE js (l.eraseIdx j)
    | none => l
theorem pickE_perm {α : Type} : ∀ (js : List Nat) (l : List α), l.Perm (pickE js l ++ restE js l)
  | [], l => List.Perm.refl _
  | j :: js, l => by
    unfold pickE restE
    cases h : l[j]? with
    | none => exact List.Perm.refl _
    | some x => exact (perm_at h).trans ((pickE_perm js (l.eraseIdx j)).cons x)
section
variable {P : Program} {C : Ctx} {N : Nat} {ops rest : List Oper} {o : Oper} {t : List (Nat × D)} {h : List (Nat × Blk)} {k : List (Nat × Value)} {Q : Exit → S → Prop}
theorem rP {rs : List ResultVar} {R : D → List (Nat × Blk) → List (Nat × Value) → Prop} {x : Exit} {t' : List (Nat × D)} {ds : List D} (js ks : List Nat) (n : Nat) (e : ∀ i d, look t' i = some d → ∃ d0, look t i = some d0 ∧ Wk d0 d) (hr : resL tab ⟨t', pickE js h, pickE ks k⟩ rs ds) (g : R (wrapD ds) ((pickE js h).take n) (pickE ks k)) (hx : x = .ret ∨ x = .normal := by first | exact .inl rfl | exact .inr rfl) : retX C tab rs R x ⟨t, h, k⟩ :=
  retX.of (s' := ⟨t', pickE js h, pickE ks k⟩) (WkS.perm e (pickE_perm js h) (pickE_perm ks k)) (retD_mk hx hr (List.take_sublist n _) (List.Sublist.refl _) g)
theorem wC {t t' : List (Nat × D)} {j : Nat} {d0 : D} (g : ∀ i d, look t' i = some d → ∃ d1, look t i = some d1 ∧ Wk d1 d) (h0 : look t j = some d0 := by rfl) : ∀ i d, look ((j, d0) :: t') i = some d → ∃ d1, look t i = some d1 ∧ Wk d1 d := WkS.cons h0 (Wk.refl _) g
theorem wN {t : List (Nat × D)} : ∀ i d, look [] i = some d → ∃ d0, look t i = some d0 ∧ Wk d0 d := WkS.nil
theorem lN {s : S} : resL tab s [] [] := rfl
theorem lT {s : S} {i : Nat} {rs : List ResultVar} {d : D} {ds : List D} (h2 : resL tab s rs ds) (h1 : look s.t i = some d := by rfl) : resL tab s (.tmp i :: rs) (d :: ds) := resL_cons (resOne_tmp h1) h2
theorem lC {s : S} {a b off : Nat} {T T' : TypeId} {ds : List D} {i : TI} {d : D} {rs : List ResultVar} {ds' : List D} (j : Nat) (hr : resL tab s rs ds') (h1 : look s.t a = some (.ptr b off) := by rfl) (h2 : s.h[j]? = some (b, Blk.cells ds T') := by rfl) (h3 : ti tab T = some i := by rfl) (h4 : partD i ds off = some d := by rfl) : resL tab s (.cell a T :: rs) (d :: ds') := resL_cons (resOne_cell j h1 h2 h3 h4) hr
theorem rC {d : D} {ds ds' : List D} (g : WkR ds ds') : WkR (d :: ds) (d :: ds') := WkR.cons (WkC.refl _) rfl g
theorem rO {ds ds' : List D} {kk : Nat} {xs : List D} {c : Cap} (g : WkR ds ds') : WkR (.lst kk xs c :: ds) (.lst kk xs .no :: ds') := WkR.cons WkC.no rfl g
theorem Pf {α : Type} {l : List α} : l.Perm l := List.Perm.refl l
theorem Wl {ds : List D} : WkL ds ds := WkL.refl ds
theorem pL {i b off : Nat} {T T' : TypeId} {x : Operand} {ds : List D} {ti0 : TI} {d : D} (j : Nat) (g : opsD Try.prog C N ops rest ⟨(i, d) :: t, h, k⟩ Q) (ho : o.op = .load T x := by rfl) (hw : wantD ops t o = some true := by rfl) (hd : o.dst = some i := by rfl) (hi : Nat.blt i N = true := by rfl) (hx : opD t x = some (.ptr b off) := by rfl) (hb : h[j]? = some (b, .cells ds T') := by rfl) (hT : ti tab T = some ti0 := by rfl) (e : partD ti0 ds off = some d := by rfl) : opsD Try.prog C N ops (o :: rest) ⟨t, h, k⟩ Q := p_load j htab ho hw hd hi hx hb hT e g
theorem pG {f : FuncId} {args : List Operand} {ts : Array TypeId} {i : Nat} {ds ds' : List D} {h1 h2 : List (Nat × Blk)} {k1 k2 : List (Nat × Value)} {R : D → List (Nat × Blk) → List (Nat × Value) → Prop} (hc : CallsD Try.prog f ds' h1 k1 R) (hwk : WkL ds ds') (hh : h.Perm (h1 ++ h2)) (hk : k.Perm (k1 ++ k2)) (g : ∀ d h' k', R d h' k' → opsD Try.prog C N ops rest ⟨(i, d) :: t, h' ++ h2, k' ++ k2⟩ Q) (ho : o.op = .call ⟨.value (.func f), args.toArray, ts⟩ := by rfl) (hw : wantD ops t o = some true := by rfl) (hd : o.dst = some i := by rfl) (hi : Nat.blt i N = true := by rfl) (ha : someMap args (opD t) = some ds := by rfl) : opsD Try.prog C N ops (o :: rest) ⟨t, h, k⟩ Q := p_callG hc ho hw hd hi ha hwk hh hk g
theorem pK {i : Nat} (g : opsD Try.prog C N ops rest ⟨(i, .v (.tuple #[])) :: t, h, k⟩ Q) (hw : wantD ops t o = some false := by rfl) (hd : o.dst = some i := by rfl) (hi : Nat.blt i N = true := by rfl) : opsD Try.prog C N ops (o :: rest) ⟨t, h, k⟩ Q := p_skip hw hd hi g
theorem pS0 {hr : List (Nat × Blk)} {b off : Nat} {T T' : TypeId} {x y : Operand} {ds ds' : List D} {ti0 : TI} {d : D} (g : opsD Try.prog C N ops rest ⟨t, (b, .cells ds' T') :: hr, k⟩ Q) (ho : o.op = .store T x y := by rfl) (hw : wantD ops t o = some true := by rfl) (hd : o.dst = none := by rfl) (hx : opD t x = some (.ptr b off) := by rfl) (hT : ti tab T = some ti0 := by rfl) (hy : opD t y = some d := by rfl) (hs : stor d = true := by rfl) (hsz : Nat.beq (dcells d).length ti0.size = true := by rfl) (hle : Nat.ble (off + ti0.size) ds.length = true := by rfl) (e : lay ds off (dcells d) = ds' := by rfl) : opsD Try.prog C N ops (o :: rest) ⟨t, (b, .cells ds T') :: hr, k⟩ Q := p_st0 ho hw hd hx hT hy hs hsz hle e g
theorem pS1 {a0 : Nat × Blk} {hr : List (Nat × Blk)} {b off : Nat} {T T' : TypeId} {x y : Operand} {ds ds' : List D} {ti0 : TI} {d : D} (g : opsD Try.prog C N ops rest ⟨t, a0 :: (b, .cells ds' T') :: hr, k⟩ Q) (ho : o.op = .store T x y := by rfl) (hw : wantD ops t o = some true := by rfl) (hd : o.dst = none := by rfl) (hx : opD t x = some (.ptr b off) := by rfl) (hT : ti tab T = some ti0 := by rfl) (hy : opD t y = some d := by rfl) (hs : stor d = true := by rfl) (hsz : Nat.beq (dcells d).length ti0.size = true := by rfl) (hle : Nat.ble (off + ti0.size) ds.length = true := by rfl) (e : lay ds off (dcells d) = ds' := by rfl) : opsD Try.prog C N ops (o :: rest) ⟨t, a0 :: (b, .cells ds T') :: hr, k⟩ Q := p_st1 ho hw hd hx hT hy hs hsz hle e g
theorem pS2 {a0 a1 : Nat × Blk} {hr : List (Nat × Blk)} {b off : Nat} {T T' : TypeId} {x y : Operand} {ds ds' : List D} {ti0 : TI} {d : D} (g : opsD Try.prog C N ops rest ⟨t, a0 :: a1 :: (b, .cells ds' T') :: hr, k⟩ Q) (ho : o.op = .store T x y := by rfl) (hw : wantD ops t o = some true := by rfl) (hd : o.dst = none := by rfl) (hx : opD t x = some (.ptr b off) := by rfl) (hT : ti tab T = some ti0 := by rfl) (hy : opD t y = some d := by rfl) (hs : stor d = true := by rfl) (hsz : Nat.beq (dcells d).length ti0.size = true := by rfl) (hle : Nat.ble (off + ti0.size) ds.length = true := by rfl) (e : lay ds off (dcells d) = ds' := by rfl) : opsD Try.prog C N ops (o :: rest) ⟨t, a0 :: a1 :: (b, .cells ds T') :: hr, k⟩ Q := p_st2 ho hw hd hx hT hy hs hsz hle e g
theorem pS3 {a0 a1 a2 : Nat × Blk} {hr : List (Nat × Blk)} {b off : Nat} {T T' : TypeId} {x y : Operand} {ds ds' : List D} {ti0 : TI} {d : D} (g : opsD Try.prog C N ops rest ⟨t, a0 :: a1 :: a2 :: (b, .cells ds' T') :: hr, k⟩ Q) (ho : o.op = .store T x y := by rfl) (hw : wantD ops t o = some true := by rfl) (hd : o.dst = none := by rfl) (hx : opD t x = some (.ptr b off) := by rfl) (hT : ti tab T = some ti0 := by rfl) (hy : opD t y = some d := by rfl) (hs : stor d = true := by rfl) (hsz : Nat.beq (dcells d).length ti0.size = true := by rfl) (hle : Nat.ble (off + ti0.size) ds.length = true := by rfl) (e : lay ds off (dcells d) = ds' := by rfl) : opsD Try.prog C N ops (o :: rest) ⟨t, a0 :: a1 :: a2 :: (b, .cells ds T') :: hr, k⟩ Q := p_st3 ho hw hd hx hT hy hs hsz hle e g
theorem pS4 {a0 a1 a2 a3 : Nat × Blk} {hr : List (Nat × Blk)} {b off : Nat} {T T' : TypeId} {x y : Operand} {ds ds' : List D} {ti0 : TI} {d : D} (g : opsD Try.prog C N ops rest ⟨t, a0 :: a1 :: a2 :: a3 :: (b, .cells ds' T') :: hr, k⟩ Q) (ho : o.op = .store T x y := by rfl) (hw : wantD ops t o = some true := by rfl) (hd : o.dst = none := by rfl) (hx : opD t x = some (.ptr b off) := by rfl) (hT : ti tab T = some ti0 := by rfl) (hy : opD t y = some d := by rfl) (hs : stor d = true := by rfl) (hsz : Nat.beq (dcells d).length ti0.size = true := by rfl) (hle : Nat.ble (off + ti0.size) ds.length = true := by rfl) (e : lay ds off (dcells d) = ds' := by rfl) : opsD Try.prog C N ops (o :: rest) ⟨t, a0 :: a1 :: a2 :: a3 :: (b, .cells ds T') :: hr, k⟩ Q := p_st4 ho hw hd hx hT hy hs hsz hle e g
theorem pS5 {a0 a1 a2 a3 a4 : Nat × Blk} {hr : List (Nat × Blk)} {b off : Nat} {T T' : TypeId} {x y : Operand} {ds ds' : List D} {ti0 : TI} {d : D} (g : opsD Try.prog C N ops rest ⟨t, a0 :: a1 :: a2 :: a3 :: a4 :: (b, .cells ds' T') :: hr, k⟩ Q) (ho : o.op = .store T x y := by rfl) (hw : wantD ops t o = some true := by rfl) (hd : o.dst = none := by rfl) (hx : opD t x = some (.ptr b off) := by rfl) (hT : ti tab T = some ti0 := by rfl) (hy : opD t y = some d := by rfl) (hs : stor d = true := by rfl) (hsz : Nat.beq (dcells d).length ti0.size = true := by rfl) (hle : Nat.ble (off + ti0.size) ds.length = true := by rfl) (e : lay ds off (dcells d) = ds' := by rfl) : opsD Try.prog C N ops (o :: rest) ⟨t, a0 :: a1 :: a2 :: a3 :: a4 :: (b, .cells ds T') :: hr, k⟩ Q := p_st5 ho hw hd hx hT hy hs hsz hle e g
theorem pS6 {a0 a1 a2 a3 a4 a5 : Nat × Blk} {hr : List (Nat × Blk)} {b off : Nat} {T T' : TypeId} {x y : Operand} {ds ds' : List D} {ti0 : TI} {d : D} (g : opsD Try.prog C N ops rest ⟨t, a0 :: a1 :: a2 :: a3 :: a4 :: a5 :: (b, .cells ds' T') :: hr, k⟩ Q) (ho : o.op = .store T x y := by rfl) (hw : wantD ops t o = some true := by rfl) (hd : o.dst = none := by rfl) (hx : opD t x = some (.ptr b off) := by rfl) (hT : ti tab T = some ti0 := by rfl) (hy : opD t y = some d := by rfl) (hs : stor d = true := by rfl) (hsz : Nat.beq (dcells d).length ti0.size = true := by rfl) (hle : Nat.ble (off + ti0.size) ds.length = true := by rfl) (e : lay ds off (dcells d) = ds' := by rfl) : opsD Try.prog C N ops (o :: rest) ⟨t, a0 :: a1 :: a2 :: a3 :: a4 :: a5 :: (b, .cells ds T') :: hr, k⟩ Q := p_st6 ho hw hd hx hT hy hs hsz hle e g
end
section
variable {P : Program} {C : Ctx} {N : Nat} {l : List Oper} {m : Nat} {De : Nat → D} {al : AL} {pre : List (List Nat)} {ev : List Nat} {h : List (Nat × Blk)} {k : List (Nat × Value)} {Q : Exit → S → Prop} {bs : Nat → Nat} {i : Nat} {o : Oper} {rest : List Oper} {te : TE}
theorem zK {j : Nat} (g : Zw Try.prog C N l m De al pre ev h k Q bs (i + 1) rest ((j, .v (.tuple #[]), none) :: te)) (hw : wantD l (vis [] te) o = some false := by rfl) (hd : o.dst = some j := by rfl) (hi : Nat.blt j N = true := by rfl) (hne : ev.contains i = false := by rfl) : Zw Try.prog C N l m De al pre ev h k Q bs i (o :: rest) te := z_skip hw hd hi hne g
end
end Go.Proofs.Ytpeimfcmhedjmaa.Ab
namespace Go.Proofs.Ytpeimfcmhedjmaa.Ab
open Go
set_option linter.all false
def fieldsOK (tab : List (Option TI)) (ts : List Nat) : Nat → List (Nat × Nat) → Option Nat
  | off, [] => some off
  | off, (ty, o) :: fs => match ti tab ty with
    | some i => bif Nat.beq o off && ts.contains ty then fieldsOK tab ts (off + i.size) fs else none
    | none => none
def typeOK (tab : List (Option TI)) (ts : List Nat) (t : Nat) : Bool :=
  match ti tab t with
  | some i => match i.d with
    | .bool => Nat.beq i.size 1
    | .int _ => Nat.beq i.size 1
    | .str => Nat.beq i.size 1
    | .slice e => ts.contains e && Nat.beq i.size 1 && (match ti tab e with | some ie => Nat.ble 1 ie.size | none => false)
    | .struct fs => match fieldsOK tab ts 0 fs with
      | some n => Nat.beq n i.size
      | none => false
    | .array n e => ts.contains e && (match ti tab e with | some ie => Nat.beq i.size (n * ie.size) | none => false)
    | _ => false
  | none => false
def closedT (tab : List (Option TI)) (ts : List Nat) : Bool := ts.all (typeOK tab ts)
def GoodT (tab : List (Option TI)) : Nat → Nat → D → Prop
  | 0, _, _ => False
  | n + 1, t, d => ∃ i, ti tab t = some i ∧ match i.d with
    | .bool => ∃ b, d = .v (.bool b)
    | .int k => ∃ m, d = .v (.int k m) ∧ (Lit.int k m).wf = true
    | .str => ∃ s : ByteArray, d = .v (.string s) ∧ s.size ≤ maxLen
    | .slice e => ∃ ie xs, ti tab e = some ie ∧ d = .lst ie.size xs .no ∧ xs.length ≤ maxLen ∧ ∀ x ∈ xs, GoodT tab n e x
    | .struct fs => ∃ ds : List D, d = .agg (ds.flatMap dcells) ∧ ds.length = fs.length ∧ ∀ (j : Nat) (f : Nat × Nat) (d0 : D), fs[j]? = some f → ds[j]? = some d0 → GoodT tab n f.1 d0
    | .array m e => ∃ ds : List D, d = .agg (ds.flatMap dcells) ∧ ds.length = m ∧ ∀ x ∈ ds, GoodT tab n e x
    | _ => False
section
variable {H : Type} {enc : TypeId × Value → H} {P : Program} {w : World} {base : Nat} {spare : Nat → Bool} {held : Bool} {tab : List (Option TI)} {ts : List Nat}
theorem cellsOf_ti (hT : TabOK P tab) {t : TypeId} {i : TI} (h : ti tab t = some i) : P.cellsOf t = i.size := by
  obtain ⟨tf, z, dd, h1, _, _, h2, _⟩ := tiOf_inv (ti_ok hT h)
  simp [Program.cellsOf, h1, h2]
def allOf (w : World) : Hp := fun a => w.cell? a
theorem ag_all (w : World) : Ag (allOf w) w := fun _ _ h => h
end
end Go.Proofs.Ytpeimfcmhedjmaa.Ab
namespace Go.Proofs.Ytpeimfcmhedjmaa.Ab
open Go
set_option linter.all false
section
variable {P : Program} {tab : List (Option TI)} {n t : Nat} {i : TI} {d : D}
theorem good_int {k : IntKind} (hi : ti tab t = some i) (hd : i.d = .int k) (g : GoodT tab n t d) : ∃ m, d = .v (.int k m) ∧ (Lit.int k m).wf = true := by
  cases n with
  | zero => simp [GoodT] at g
  | succ n =>
    unfold GoodT at g
    obtain ⟨i', h1, h2⟩ := g
    rw [hi] at h1; cases h1
    rw [hd] at h2; exact h2
theorem good_bool (hi : ti tab t = some i) (hd : i.d = .bool) (g : GoodT tab n t d) : ∃ b, d = .v (.bool b) := by
  cases n with
  | zero => simp [GoodT] at g
  | succ n =>
    unfold GoodT at g
    obtain ⟨i', h1, h2⟩ := g
    rw [hi] at h1; cases h1
    rw [hd] at h2; exact h2
theorem good_str (hi : ti tab t = some i) (hd : i.d = .str) (g : GoodT tab n t d) : ∃ s : ByteArray, d = .v (.string s) ∧ s.size ≤ maxLen := by
  cases n with
  | zero => simp [GoodT] at g
  | succ n =>
    unfold GoodT at g
    obtain ⟨i', h1, h2⟩ := g
    rw [hi] at h1; cases h1
    rw [hd] at h2; exact h2
theorem good_slice {e : Nat} {ie : TI} (hi : ti tab t = some i) (hd : i.d = .slice e) (he : ti tab e = some ie) (g : GoodT tab n t d) : ∃ (n' : Nat) (xs : List D), n = n' + 1 ∧ d = .lst ie.size xs .no ∧ xs.length ≤ maxLen ∧ ∀ x ∈ xs, GoodT tab n' e x := by
  cases n with
  | zero => simp [GoodT] at g
  | succ n =>
    unfold GoodT at g
    obtain ⟨i', h1, h2⟩ := g
    rw [hi] at h1; cases h1
    rw [hd] at h2
    obtain ⟨ie', xs, h3, h4, h5, h6⟩ := h2
    rw [he] at h3; cases h3
    exact ⟨n, xs, rfl, h4, h5, h6⟩
theorem good_struct {fs : List (Nat × Nat)} (hi : ti tab t = some i) (hd : i.d = .struct fs) (g : GoodT tab n t d) : ∃ (n' : Nat) (ds : List D), n = n' + 1 ∧ d = .agg (ds.flatMap dcells) ∧ ds.length = fs.length ∧ ∀ (j : Nat) (f : Nat × Nat) (d0 : D), fs[j]? = some f → ds[j]? = some d0 → GoodT tab n' f.1 d0 := by
  cases n with
  | zero => simp [GoodT] at g
  | succ n =>
    unfold GoodT at g
    obtain ⟨i', h1, h2⟩ := g
    rw [hi] at h1; cases h1
    rw [hd] at h2
    obtain ⟨ds, h4, h5, h6⟩ := h2
    exact ⟨n, ds, rfl, h4, h5, h6⟩
theorem good_list {α : Type} {f : α → D} {K : α → Prop} {p : D → Prop} (h : ∀ x, p x → ∃ y, x = f y ∧ K y) : ∀ (xs : List D), (∀ x ∈ xs, p x) → ∃ ys : List α, xs = ys.map f ∧ ∀ y ∈ ys, K y
  | [], _ => ⟨[], rfl, by simp⟩
  | x :: xs, hx => by
    obtain ⟨y, rfl, hy⟩ := h x (hx x (by simp))
    obtain ⟨ys, rfl, hys⟩ := good_list h xs fun z hz => hx z (by simp [hz])
    refine ⟨y :: ys, rfl, fun z hz => ?_⟩
    rcases List.mem_cons.1 hz with rfl | hz
    · exact hy
    · exact hys z hz
theorem shape_of {w : World} {r : Reach} {base : Nat} {v : Value} (hT : TabOK P tab) (hv : Value.okWide P w r base t v) (g : GoodT tab n t d) : d.shape v = true := by
  cases n with
  | zero => simp [GoodT] at g
  | succ n =>
    unfold GoodT at g
    obtain ⟨i, hi, g⟩ := g
    obtain ⟨tf, z, dd, h1, h2, h3, _⟩ := tiOf_inv (ti_ok hT hi)
    unfold Value.okWide at hv
    rw [h2] at hv
    split at g
    · rename_i hd
      have := td_bool (h3.trans hd); subst this
      obtain ⟨b, rfl⟩ := g
      cases v <;> first | rfl | (simp [Cell.okWide, Cell.ok, h2] at hv)
    · rename_i k hd
      have := td_int (h3.trans hd); subst this
      obtain ⟨b, rfl, _⟩ := g
      cases v <;> first | rfl | (simp [Cell.okWide, Cell.ok, h2] at hv)
    · rename_i hd
      have := td_str (h3.trans hd); subst this
      obtain ⟨b, rfl, _⟩ := g
      cases v <;> first | rfl | (simp [Cell.okWide, Cell.ok, h2] at hv)
    · rename_i e hd
      have := td_slice (h3.trans hd); subst this
      obtain ⟨ie, xs, _, rfl, _⟩ := g
      cases v <;> first | rfl | (simp [Cell.okWide, Cell.ok, h2] at hv)
    · rename_i fs hd
      obtain ⟨gs, rfl, _⟩ := td_struct (h3.trans hd)
      obtain ⟨ds, rfl, _⟩ := g
      simp only at hv
      obtain ⟨cs, rfl, _⟩ := hv
      rfl
    · rename_i m e hd
      have := td_array (h3.trans hd); subst this
      obtain ⟨ds, rfl, _⟩ := g
      simp only at hv
      obtain ⟨cs, rfl, _⟩ := hv
      rfl
    · exact g.elim
end
end Go.Proofs.Ytpeimfcmhedjmaa.Ab
namespace Go.Proofs.Ytpeimfcmhedjmaa
open Go.ChangeShapes Go.WideShapes Go.ChangeAt Go.RowKit Go.Joins
set_option linter.all false
theorem own : ownKnob Try.prog.godebug = none := by kernel_rfl
theorem laidOut' : laidOutB Try.prog = true := by kernel_rfl
theorem args_back {H : Type} {enc : TypeId × Value → H} {P : Program} {W : World} (hl : laidOutB P = true) : ∀ {ts : List TypeId} {vs : List Value} {ds : List (DataW H)} {ps : List MemPlace},
    (ts.all fun t => P.readableRec t && decide (t < P.types.size)) = true → DataW.TrodAll enc P W 0 (fun _ => true) true ts vs ds ps → (∀ x ∈ ps, x.block < W.heap.size) → ∀ W', Below W.heap.size W W' →
    ∀ sp : Nat → Bool, (∀ x ∈ ps, sp x.block = true) → DataW.TrodAll enc P W' 0 sp true ts vs ds ps
  | [], vs, ds, ps, _, h, _, W', hb, sp, hsp => by
    obtain ⟨rfl, rfl, rfl⟩ := trodAll_nil h
    exact trodAll_mk0
  | t :: ts, vs, ds, ps, hr, h, hlt, W', hb, sp, hsp => by
    obtain ⟨v, vs', d, ds', p, q, rfl, rfl, rfl, h0, h1⟩ := trodAll_cons h
    simp only [List.all_cons, Bool.and_eq_true, decide_eq_true_eq] at hr
    exact trodAll_cons_mk (WideElems.Trod_stays hl hr.1.1 hr.1.2 h0 (fun x hx => hb.same (hlt x (by simp [hx]))) (fun x hx => hsp x (by simp [hx])))
      (args_back hl hr.2 h1 (fun x hx => hlt x (by simp [hx])) W' hb sp (fun x hx => hsp x (by simp [hx])))
end Go.Proofs.Ytpeimfcmhedjmaa
namespace Go.Proofs.Ytpeimfcmhedjmaa.Ab
open Go
set_option linter.all false
mutual
def bulk {H : Type} : DataW H → Nat
  | .lit (.string bytes) => bytes.length + 1
  | .lit _ => 1
  | .nil => 1
  | .ptr d => bulk d + 1
  | .slice elems spare => bulkAll elems + bulkAll spare + 1
  | .agg parts => bulkAll parts + 1
  | .iface _ d => bulk d + 1
  | .map _ => 1
  | .held _ => 1
def bulkAll {H : Type} : List (DataW H) → Nat
  | [] => 0
  | d :: r => bulk d + bulkAll r
end
def wtv : Value → Nat
  | .string s => s.size + 1
  | _ => 1
mutual
def wt : D → Nat
  | .any => 0
  | .v x => wtv x
  | .agg l => wts l
  | .lst _ xs _ => wts xs + 1
  | .el _ => 0
  | .ptr _ _ => 0
  | .fn _ _ _ => 0
  | .tup _ => 0
def wts : List D → Nat
  | [] => 0
  | d :: l => wt d + wts l
end
theorem wts_append : ∀ (l m : List D), wts (l ++ m) = wts l + wts m
  | [], m => by simp [wts]
  | d :: l, m => by simp only [List.cons_append, wts, wts_append l m]; omega
theorem wts_cells (d : D) : wts (dcells d) = wt d := by
  cases d <;> simp [dcells, wts, wt]
section
variable {H : Type} {enc : TypeId × Value → H} {P : Program} {w : World} {base : Nat} {spare : Nat → Bool} {held : Bool} {tab : List (Option TI)} {ts : List Nat}
def RdW (tab : List (Option TI)) (w : World) (n t : Nat) (cs : List Value) (d : D) (m : Nat) : Prop :=
  wt d ≤ m ∧ ∃ i, ti tab t = some i ∧ RepC (allOf w) d cs ∧ Reps (allOf w) (dcells d) cs ∧ cs.length = i.size ∧ (dcells d).length = i.size ∧ GoodT tab n t d
theorem rdw_fields (hT : TabOK P tab) {n : Nat} {cs : List Value} (ih : ∀ t cs x, ts.contains t = true → DataW.trod enc P w base spare held n t cs = some x → ∃ d, RdW tab w n t cs d (bulk x.1)) :
    ∀ (gs : List Field) (ys : List (DataW H × List MemPlace)) (off total : Nat), fieldsOK tab ts off (gs.map fun f => (f.type, f.offset)) = some total → total ≤ cs.length → gs.length = ys.length → (∀ (j : Nat) f y, gs[j]? = some f → ys[j]? = some y → DataW.trod enc P w base spare held n f.type ((cs.drop f.offset).take (P.cellsOf f.type)) = some y) →
      off ≤ total ∧ ∃ ds : List D, wts (ds.flatMap dcells) ≤ bulkAll (ys.map (·.1)) ∧ ds.length = gs.length ∧ Reps (allOf w) (ds.flatMap dcells) ((cs.drop off).take (total - off)) ∧ (ds.flatMap dcells).length = total - off ∧ ∀ (j : Nat) (f : Nat × Nat) (d0 : D), (gs.map fun f => (f.type, f.offset))[j]? = some f → ds[j]? = some d0 → GoodT tab n f.1 d0
  | [], ys, off, total, h, _, _, _ => by
    simp [fieldsOK] at h; subst h
    exact ⟨Nat.le_refl _, [], by simp [wts], rfl, by simp [Reps], by simp, fun j f d0 e => by simp at e⟩
  | g :: gs, [], off, total, h, hl, hlen, hy => by simp at hlen
  | g :: gs, y :: ys, off, total, h, hl, hlen, hy => by
    simp only [List.map_cons, fieldsOK] at h
    split at h
    · rename_i i hi
      cases hb : (Nat.beq g.offset off && ts.contains g.type) with
      | false => rw [hb] at h; cases h
      | true =>
        rw [hb] at h
        simp only [cond_true] at h
        simp only [Bool.and_eq_true] at hb
        have ho := Nat.eq_of_beq_eq_true hb.1
        have hy0 := hy 0 g y rfl rfl
        obtain ⟨d, hw, i', hi', h1, h2, h3, h4, h5⟩ := ih _ _ y hb.2 hy0
        rw [hi] at hi'; cases hi'
        obtain ⟨hle, ds, ew, e1, e2, e3, e4⟩ := rdw_fields hT ih gs ys (off + i.size) total h hl (by simpa using hlen) fun j f y' hf hy' => hy (j + 1) f y' (by simpa using hf) (by simpa using hy')
        rw [cellsOf_ti hT hi, ho] at h2
        refine ⟨by omega, d :: ds, by simp only [List.flatMap_cons, wts_append, wts_cells, List.map_cons, bulkAll]; omega, by simp [e1], ?_, by simp [h4, e3]; omega, ?_⟩
        · simp only [List.flatMap_cons]
          have := reps_append h2 e2
          have e : (cs.drop off).take i.size ++ (cs.drop (off + i.size)).take (total - (off + i.size)) = (cs.drop off).take (total - off) := by
            rw [show total - off = i.size + (total - (off + i.size)) by omega, List.take_add, List.drop_drop]
          rwa [e] at this
        · intro j f d0 hf hd
          cases j with
          | zero => simp at hf hd; subst hf; subst hd; exact h5
          | succ j => exact e4 j f d0 (by simpa using hf) (by simpa using hd)
    · cases h
theorem rdw_elems {n e sz b off : Nat} {ie : TI} (hie : ti tab e = some ie) (hsz : ie.size = sz) (he : ts.contains e = true) (ih : ∀ t cs x, ts.contains t = true → DataW.trod enc P w base spare held n t cs = some x → ∃ d, RdW tab w n t cs d (bulk x.1)) :
    ∀ (ys : List (DataW H × List MemPlace)) (i0 : Nat), (∀ (j : Nat) y, ys[j]? = some y → ∃ cs, w.cells? base ((⟨b, off, none⟩ : Addr).add ((i0 + j) * sz)) sz = some cs ∧ DataW.trod enc P w base spare held n e cs = some y) →
      ∃ xs : List D, wts xs ≤ bulkAll (ys.map (·.1)) ∧ xs.length = ys.length ∧ Els (allOf w) sz b (off + i0 * sz) xs ∧ ∀ x ∈ xs, GoodT tab n e x
  | [], i0, _ => ⟨[], by simp [wts], rfl, by simp [Els], by simp⟩
  | y :: ys, i0, h => by
    obtain ⟨cs, h1, h2⟩ := h 0 y rfl
    rw [Nat.add_zero] at h1
    obtain ⟨d, hw, i', hi', g1, g2, g3, g4, g5⟩ := ih e cs y he h2
    rw [hie] at hi'; cases hi'
    obtain ⟨xs, fw, f1, f2, f3⟩ := rdw_elems hie hsz he ih ys (i0 + 1) fun j y' hj => by
      have := h (j + 1) y' (by simpa using hj)
      rwa [show i0 + (j + 1) = i0 + 1 + j by omega] at this
    refine ⟨d :: xs, by simp only [wts, List.map_cons, bulkAll]; omega, by simp [f1], ?_, ?_⟩
    · simp only [Els]
      refine ⟨⟨cs, by rw [g3, hsz], g1, fun j u hj => ?_, reps_one g2⟩, ?_⟩
      · obtain ⟨_, hlen, hc⟩ := World.cells?_some h1
        have hjl : j < sz := by rw [← hlen]; exact (List.getElem?_eq_some_iff.1 hj).1
        have := hc j hjl
        rw [addr_add, addr_add] at this
        show w.cell? _ = _
        rw [this]; exact hj
      · rw [show off + i0 * sz + sz = off + (i0 + 1) * sz by rw [Nat.add_mul]; omega]; exact f2
    · intro x hx
      rcases List.mem_cons.1 hx with rfl | hx
      · exact g5
      · exact f3 x hx
theorem rdw_arr {n e sz : Nat} {ie : TI} {cs : List Value} (hie : ti tab e = some ie) (hsz : ie.size = sz) (he : ts.contains e = true) (ih : ∀ t cs x, ts.contains t = true → DataW.trod enc P w base spare held n t cs = some x → ∃ d, RdW tab w n t cs d (bulk x.1)) :
    ∀ (ys : List (DataW H × List MemPlace)) (i0 : Nat), (∀ (j : Nat) y, ys[j]? = some y → DataW.trod enc P w base spare held n e ((cs.drop ((i0 + j) * sz)).take sz) = some y) →
      ∃ ds : List D, wts (ds.flatMap dcells) ≤ bulkAll (ys.map (·.1)) ∧ ds.length = ys.length ∧ Reps (allOf w) (ds.flatMap dcells) ((cs.drop (i0 * sz)).take (ys.length * sz)) ∧ (ds.flatMap dcells).length = ys.length * sz ∧ ∀ x ∈ ds, GoodT tab n e x
  | [], i0, _ => ⟨[], by simp [wts], rfl, by simp [Reps], by simp, by simp⟩
  | y :: ys, i0, h => by
    have h2 := h 0 y rfl
    rw [Nat.add_zero] at h2
    obtain ⟨d, hw, i', hi', g1, g2, g3, g4, g5⟩ := ih e _ y he h2
    rw [hie] at hi'; cases hi'
    obtain ⟨ds, fw, f1, f2, f3, f4⟩ := rdw_arr hie hsz he ih ys (i0 + 1) fun j y' hj => by
      have := h (j + 1) y' (by simpa using hj)
      rwa [show i0 + (j + 1) = i0 + 1 + j by omega] at this
    refine ⟨d :: ds, by simp only [List.flatMap_cons, wts_append, wts_cells, List.map_cons, bulkAll]; omega, by simp [f1], ?_, ?_, ?_⟩
    · simp only [List.flatMap_cons]
      have := reps_append g2 f2
      have e2 : (cs.drop (i0 * sz)).take sz ++ (cs.drop ((i0 + 1) * sz)).take (ys.length * sz) = (cs.drop (i0 * sz)).take ((ys.length + 1) * sz) := by
        rw [show (ys.length + 1) * sz = sz + ys.length * sz by rw [Nat.add_mul]; omega, List.take_add, List.drop_drop, show i0 * sz + sz = (i0 + 1) * sz by rw [Nat.add_mul]; omega]
      rwa [e2] at this
    · simp only [List.flatMap_cons, List.length_append, f3, g4, hsz]
      show sz + ys.length * sz = (ys.length + 1) * sz
      rw [Nat.add_mul]; omega
    · intro x hx
      rcases List.mem_cons.1 hx with rfl | hx
      · exact g5
      · exact f4 x hx
theorem rdw (hT : TabOK P tab) (hc : closedT tab ts = true) : ∀ (n : Nat) (t : TypeId) (cs : List Value) (x : DataW H × List MemPlace), ts.contains t = true → DataW.trod enc P w base spare held n t cs = some x → ∃ d, RdW tab w n t cs d (bulk x.1) := by
  intro n
  induction n with
  | zero => intro t cs x _ h; simp [DataW.trod] at h
  | succ n ih =>
    intro t cs x ht h
    have hok : typeOK tab ts t = true := by
      unfold closedT at hc
      rw [List.all_eq_true] at hc
      exact hc t (by simpa using ht)
    unfold typeOK at hok
    split at hok
    · rename_i i hi
      obtain ⟨tf, z, dd, h1, h2, h3, h4, _⟩ := tiOf_inv (ti_ok hT hi)
      split at hok
      · rename_i hd
        have hs := Nat.eq_of_beq_eq_true hok
        obtain ⟨b, rfl, rfl⟩ := DataW.trod_bool (by rw [h2, td_bool (h3.trans hd)]) h
        refine ⟨.v (.bool b), by simp [wt, wtv, bulk], i, hi, by simp [RepC], ?_, by simp [hs], by simp [dcells, hs], ?_⟩
        · simp only [dcells, Reps]; exact ⟨_, _, rfl, ⟨by simp [RepC], rfl, rfl⟩, rfl⟩
        · unfold GoodT; exact ⟨i, hi, by rw [hd]; exact ⟨b, rfl⟩⟩
      · rename_i k hd
        have hs := Nat.eq_of_beq_eq_true hok
        obtain ⟨m, rfl, rfl, hwf⟩ := DataW.trod_int (by rw [h2, td_int (h3.trans hd)]) h
        refine ⟨.v (.int k m), by simp [wt, wtv, bulk], i, hi, by simp [RepC], ?_, by simp [hs], by simp [dcells, hs], ?_⟩
        · simp only [dcells, Reps]; exact ⟨_, _, rfl, ⟨by simp [RepC], rfl, rfl⟩, rfl⟩
        · unfold GoodT; exact ⟨i, hi, by rw [hd]; exact ⟨m, rfl, hwf⟩⟩
      · rename_i hd
        have hs := Nat.eq_of_beq_eq_true hok
        obtain ⟨s, rfl, rfl, hwf⟩ := DataW.trod_string (by rw [h2, td_str (h3.trans hd)]) h
        refine ⟨.v (.string s), by simp [wt, wtv, bulk], i, hi, by simp [RepC], ?_, by simp [hs], by simp [dcells, hs], ?_⟩
        · simp only [dcells, Reps]; exact ⟨_, _, rfl, ⟨by simp [RepC], rfl, rfl⟩, rfl⟩
        · unfold GoodT; exact ⟨i, hi, by rw [hd]; exact ⟨s, rfl, hwf⟩⟩
      · rename_i e hd
        simp only [Bool.and_eq_true] at hok
        obtain ⟨⟨he, hs⟩, hsz⟩ := hok
        have hs := Nat.eq_of_beq_eq_true hs
        split at hsz
        · rename_i ie hie
          have hsz := Nat.le_of_ble_eq_true hsz
          rcases DataW.trod_slice (by rw [h2, td_slice (h3.trans hd)]) h with ⟨rfl, rfl⟩ | ⟨a, len, cap, elems, rest, n', hf, rfl, rfl, hb, hlc, hcm, hel, hcells, _, _⟩
          · have hr : RepC (allOf w) (.lst ie.size [] .no) [.slice none 0 0] := by
              simp only [RepC, CapOK]; exact ⟨_, rfl, trivial, .inl ⟨by trivial, none, 0, rfl, fun _ => rfl⟩⟩
            refine ⟨.lst ie.size [] .no, by simp [wt, wts, bulk], i, hi, hr, ?_, by simp [hs], by simp [dcells, hs], ?_⟩
            · simp only [dcells, Reps]; exact ⟨_, _, rfl, ⟨hr, rfl, rfl⟩, rfl⟩
            · unfold GoodT; exact ⟨i, hi, by rw [hd]; exact ⟨ie, [], hie, rfl, by simp, by simp⟩⟩
          · have : n' = n := by omega
            subst this
            rw [cellsOf_ti hT hie] at hcells
            rcases Nat.eq_zero_or_pos len with hz | hpos
            · subst hz
              have hr : RepC (allOf w) (.lst ie.size [] .no) [.slice (some a) 0 cap] := by
                simp only [RepC, CapOK]; exact ⟨_, rfl, trivial, .inl ⟨by trivial, some a, cap, rfl, fun q => by cases q⟩⟩
              refine ⟨.lst ie.size [] .no, by simp [wt, wts, bulk], i, hi, hr, ?_, by simp [hs], by simp [dcells, hs], ?_⟩
              · simp only [dcells, Reps]; exact ⟨_, _, rfl, ⟨hr, rfl, rfl⟩, rfl⟩
              · unfold GoodT; exact ⟨i, hi, by rw [hd]; exact ⟨ie, [], hie, rfl, by simp, by simp⟩⟩
            · have hsome : ∀ j, j < len → ∃ cs y, w.cells? base (a.add (j * ie.size)) ie.size = some cs ∧ DataW.trod enc P w base spare held n' e cs = some y := by
                intro j hj
                have hj2 := hcells j hj
                rw [List.getElem?_eq_getElem (by omega)] at hj2
                rw [Option.bind_eq_some_iff] at hj2
                obtain ⟨cs, q1, q2⟩ := hj2
                exact ⟨cs, _, q1, q2⟩
              have hspot : a.spot = none := by
                obtain ⟨cs, y, q1, _⟩ := hsome 0 hpos
                obtain ⟨_, hlen, hcc⟩ := World.cells?_some q1
                have q2 := hcc 0 (by omega)
                rw [List.getElem?_eq_getElem (by omega)] at q2
                have q3 : (a.add (0 * ie.size)).add 0 = a := by simp [Addr.add]
                rw [q3] at q2
                cases hsp : a.spot with
                | none => rfl
                | some s =>
                  unfold World.cell? at q2
                  split at q2
                  · simp [hsp] at q2
                  · cases q2
              obtain ⟨b, off, sp⟩ := a
              simp only at hspot; subst hspot
              have hel2 : elems.length = len := hel
              obtain ⟨xs, fw, f1, f2, f3⟩ := rdw_elems (spare := spare) (held := held) (enc := enc) (P := P) (base := base) (b := b) (off := off) hie rfl he ih elems 0 fun j y hj => by
                have hjl := (List.getElem?_eq_some_iff.1 hj).1
                have hj2 := hcells j (by omega)
                rw [hj, Option.bind_eq_some_iff] at hj2
                obtain ⟨cs, q1, q2⟩ := hj2
                rw [Nat.zero_add]
                exact ⟨cs, q1, q2⟩
              rw [hel2] at f1
              have hr : RepC (allOf w) (.lst ie.size xs .no) [.slice (some ⟨b, off, none⟩) len cap] := by
                simp only [RepC, CapOK]
                refine ⟨_, rfl, trivial, .inr ⟨b, off, cap, by rw [f1], by rw [f1]; exact hlc, by simpa using f2⟩⟩
              refine ⟨.lst ie.size xs .no, by simp only [wt, bulk]; omega, i, hi, hr, ?_, by simp [hs], by simp [dcells, hs], ?_⟩
              · simp only [dcells, Reps]; exact ⟨_, _, rfl, ⟨hr, rfl, rfl⟩, rfl⟩
              · unfold GoodT; exact ⟨i, hi, by rw [hd]; exact ⟨ie, xs, hie, rfl, by rw [f1]; omega, f3⟩⟩
        · cases hsz
      · rename_i fs hd
        split at hok
        · rename_i tot hfo
          have hs := Nat.eq_of_beq_eq_true hok
          obtain ⟨gs, e1, e2⟩ := td_struct (h3.trans hd)
          obtain ⟨xs, n', hf, rfl, hl, hxl, hx⟩ := DataW.trod_struct (by rw [h2, e1]) h
          have : n' = n := by omega
          subst this
          rw [cellsOf_ti hT hi] at hl
          obtain ⟨_, ds, fw, f1, f2, f3, f4⟩ := rdw_fields hT (cs := cs) ih gs.toList xs 0 tot (by rw [e2]; exact hfo) (by omega) (by rw [hxl]; simp) fun j f y hj hy => by
            have hj' : gs[j]? = some f := by simpa using hj
            rw [hx j f hj', hy]
          simp only [List.drop_zero, Nat.sub_zero] at f2 f3
          rw [List.take_of_length_le (by omega)] at f2
          refine ⟨.agg (ds.flatMap dcells), by simp only [wt, bulk]; omega, i, hi, by simp only [RepC]; exact f2, f2, hl, by simp only [dcells]; omega, ?_⟩
          unfold GoodT
          exact ⟨i, hi, by rw [hd]; exact ⟨ds, rfl, by rw [f1, ← e2]; simp, fun j f d0 q1 q2 => f4 j f d0 (by rw [e2]; exact q1) q2⟩⟩
        · cases hok
      · rename_i m e hd
        simp only [Bool.and_eq_true] at hok
        obtain ⟨he, hsz⟩ := hok
        split at hsz
        · rename_i ie hie
          have hsz := Nat.eq_of_beq_eq_true hsz
          obtain ⟨xs, n', hf, rfl, hl, hxl, hx⟩ := DataW.trod_array (by rw [h2, td_array (h3.trans hd)]) h
          have : n' = n := by omega
          subst this
          rw [cellsOf_ti hT hi] at hl
          rw [cellsOf_ti hT hie] at hx
          obtain ⟨ds, fw, f1, f2, f3, f4⟩ := rdw_arr (cs := cs) hie rfl he ih xs 0 fun j y hj => by
            have hjl := (List.getElem?_eq_some_iff.1 hj).1
            rw [Nat.zero_add, hx j (by omega), hj]
          rw [hxl] at f1 f2 f3
          simp only [Nat.zero_mul, List.drop_zero] at f2
          rw [List.take_of_length_le (by omega)] at f2
          refine ⟨.agg (ds.flatMap dcells), by simp only [wt, bulk]; omega, i, hi, by simp only [RepC]; exact f2, f2, hl, by simp only [dcells]; omega, ?_⟩
          unfold GoodT
          exact ⟨i, hi, by rw [hd]; exact ⟨ds, rfl, f1, f4⟩⟩
        · cases hsz
      · cases hok
    · cases hok
theorem rdw_arg {v : Value} {x : DataW H} {ps : List MemPlace} {r : Reach} {b0 t : Nat} (hT : TabOK P tab) (ts : List Nat) (hc : closedT tab ts = true) (ht : ts.contains t = true)
    (hv : Value.okWide P w r b0 t v) (h : DataW.Trod enc P w base spare held t v x ps) : ∃ n d, GoodT tab n t d ∧ Rep (allOf w) d v ∧ wt d ≤ bulk x := by
  obtain ⟨n, hn⟩ := h
  obtain ⟨d, hw, i, h1, h2, h3, h4, h5, h6⟩ := rdw hT hc n t _ _ ht hn
  exact ⟨n, d, h6, ⟨h2, shape_of hT hv h6⟩, hw⟩
end
end Go.Proofs.Ytpeimfcmhedjmaa.Ab
namespace Go.Proofs.Ytpeimfcmhedjmaa.Ab
open Go
set_option linter.all false
section
variable {α β : Type} [DecidableEq α]
def mget : List (α × β) → α → Option β
  | [], _ => none
  | (a, b) :: l, k => if a = k then some b else mget l k
def mput : List (α × β) → α → β → List (α × β)
  | [], k, v => [(k, v)]
  | (a, b) :: l, k, v => if a = k then (k, v) :: l else (a, b) :: mput l k v
def mgetD (l : List (α × β)) (k : α) (z : β) : β := (mget l k).getD z
def ffind : List α → α → List MapEntry → Nat → Option (Nat × Value)
  | a :: ks, k, e :: me, i => if a = k then some (i, e.val) else ffind ks k me (i + 1)
  | _, _, _, _ => none
end
structure KeyOK (P : Program) (kt : TypeId) {α : Type} [DecidableEq α] (f : α → Value) : Prop where
  find : ∀ (w : World) (k : α) (me : List MapEntry) (ks : List α), me.map (·.key) = ks.map f → (Instr.findKey kt (f k) me).run P w = .ok (ffind ks k me 0) w
  check : ∀ (w : World) (e : Bool) (k : α), (Instr.checkKey e 10000 kt (f k)).run P w = .ok () w
  stays : ∀ (w : World) (k : α), (Instr.keyThatStays (f k) (f k)).run P w = .ok (f k) w
theorem str_key {P : Program} {kt : TypeId} (h : P.underlying kt = some .string) : KeyOK P kt (fun s : ByteArray => Value.string s) where
  find w k me ks e := by
    refine MapKept.run_findKey h ?_
    have : ∀ (ks : List ByteArray) (me : List MapEntry) (i : Nat), me.map (·.key) = ks.map (fun s => Value.string s) → Instr.findNow .string (.string k) me i = some (ffind ks k me i) := by
      intro ks
      induction ks with
      | nil => intro me i e; simp at e; subst e; rfl
      | cons a ks ih =>
        intro me i e
        cases me with
        | nil => cases e
        | cons m me =>
          simp only [List.map_cons, List.cons.injEq] at e
          have hb : (k == a) = decide (a = k) := by
            by_cases q : a = k
            · subst q; rw [decide_eq_true rfl]; exact (MapKept.bytes_beq _ _).2 rfl
            · rw [decide_eq_false q]
              cases hq : k == a with
              | false => rfl
              | true => exact absurd ((MapKept.bytes_beq _ _).1 hq).symm q
          unfold Instr.findNow ffind
          rw [e.1]
          simp only [Instr.sameNow, hb]
          by_cases q : a = k
          · rw [decide_eq_true q, if_pos q]
          · rw [decide_eq_false q, if_neg q]; exact ih me (i + 1) e.2
    exact this ks me 0 e
  check w e k := by
    have := MapKept.run_checkKey (w := w) h (k := .string k) (by simp [MapKept.IsKey]) e 9999
    exact this
  stays w k := MapKept.run_keyThatStays (d := .string) (by simp [MapKept.IsKey])
section
variable {α β : Type} [DecidableEq α] {f : α → Value} {e : β → D} {H : Hp}
theorem mapR_keys : ∀ {l : List (α × β)} {me : List MapEntry}, MapR H (l.map fun p => (f p.1, e p.2)) me → me.map (·.key) = (l.map (·.1)).map f
  | [], me, h => by simp [MapR] at h; subst h; rfl
  | p :: l, me, h => by
    simp only [List.map_cons, MapR] at h
    obtain ⟨m, me', rfl, h1, _, h2⟩ := h
    simp only [List.map_cons, h1, mapR_keys h2]
theorem mapR_find (k : α) : ∀ {l : List (α × β)} {me : List MapEntry} (i : Nat), MapR H (l.map fun p => (f p.1, e p.2)) me →
    (mget l k = none ∧ ffind (l.map (·.1)) k me i = none ∧ ∀ (v : β) (y : Value) (b : Nat), Rep H (e v) y → MapR H ((mput l k v).map fun p => (f p.1, e p.2)) (me ++ [⟨f k, y, b⟩])) ∨
    ∃ j b m, mget l k = some b ∧ ffind (l.map (·.1)) k me i = some (i + j, m.val) ∧ Rep H (e b) m.val ∧ me[j]? = some m ∧ m.key = f k ∧ ∀ (v : β) (y : Value), Rep H (e v) y → MapR H ((mput l k v).map fun p => (f p.1, e p.2)) (me.modify j fun x => { x with key := f k, val := y })
  | [], me, i, h => by
    simp [MapR] at h; subst h
    refine .inl ⟨rfl, rfl, fun v y b hy => ?_⟩
    simp only [mput, List.map_cons, List.map_nil, MapR, List.nil_append]
    exact ⟨_, _, rfl, rfl, hy, rfl⟩
  | p :: l, me, i, h => by
    simp only [List.map_cons, MapR] at h
    obtain ⟨m, me', rfl, h1, h2, h3⟩ := h
    by_cases q : p.1 = k
    · refine .inr ⟨0, p.2, m, by unfold mget; rw [if_pos q], by simp only [List.map_cons, ffind]; rw [if_pos q]; rfl, h2, rfl, by rw [h1, q], fun v y hy => ?_⟩
      simp only [mput, if_pos q, List.map_cons, MapR, List.modify_zero_cons]
      exact ⟨_, _, rfl, rfl, hy, h3⟩
    · rcases mapR_find k (i + 1) h3 with ⟨g1, g2, g3⟩ | ⟨j, b, m', g1, g2, g3, g4, g5, g6⟩
      · refine .inl ⟨by unfold mget; rw [if_neg q]; exact g1, by simp only [List.map_cons, ffind]; rw [if_neg q]; exact g2, fun v y b hy => ?_⟩
        simp only [mput, if_neg q, List.map_cons, MapR, List.cons_append]
        exact ⟨_, _, rfl, h1, h2, g3 v y b hy⟩
      · refine .inr ⟨j + 1, b, m', by unfold mget; rw [if_neg q]; exact g1, by simp only [List.map_cons, ffind]; rw [if_neg q, g2]; congr 2; omega, g3, by simpa using g4, g5, fun v y hy => ?_⟩
        simp only [mput, if_neg q, List.map_cons, MapR, List.modify_succ_cons]
        exact ⟨_, _, rfl, h1, h2, g6 v y hy⟩
end
theorem Core.allocMap {C : Ctx} {H : Hp} {h : List (Nat × Blk)} {k : List (Nat × Value)} {w : World} (c : Core C H h k w) :
    Core C H ((w.heap.size, .mp []) :: h) k (w.alloc (.map #[] 0)) := by
  have c0 : Core ⟨H, w, []⟩ H [(w.heap.size, .mp [])] [] (w.alloc (.map #[] 0)) := by
    refine ⟨fun a v e => cell_alloc _ (c.ag a v e), Hp.le_refl H, fun _ _ x => .inl x, fun b hb _ => ?_, ?_, ?_, by simp, ?_, ?_, ⟨rfl, rfl, rfl⟩⟩
    · rw [heap_alloc, if_neg (by exact Nat.ne_of_lt hb)]
    · rw [size_alloc]; exact Nat.le_succ _
    · intro p hp
      simp only [List.mem_singleton] at hp; subst hp
      refine ⟨#[], 0, by rw [heap_alloc, if_pos rfl], rfl, fun o => ?_⟩
      cases e : H ⟨w.heap.size, o, none⟩ with
      | none => rfl
      | some v => exact absurd (c.ag.lt e) (Nat.lt_irrefl _)
    · simp [claims, blkClaim]
    · intro b hb
      simp [claims, blkClaim] at hb; subst hb
      exact .inr (Nat.le_refl _)
  exact Core.call (h1 := []) (k1 := []) (h2 := h) (k2 := k) c c0
theorem Core.setMap {C : Ctx} {H : Hp} {h : List (Nat × Blk)} {k : List (Nat × Value)} {w : World} (c : Core C H h k w) {j b : Nat} {es es' : List (Value × D)} {me : Array MapEntry} {ck : Nat} (hj : h[j]? = some (b, .mp es))
    (hr : MapR H es' me.toList) : Core C H (h.set j (b, .mp es')) k { w with heap := w.heap.setIfInBounds b (.map me ck) } := by
  have hlt : j < h.length := (List.getElem?_eq_some_iff.1 hj).1
  have p1 : h.Perm ([(b, .mp es)] ++ h.eraseIdx j) := perm_at hj
  have c1 := c.perm p1 (List.Perm.refl k)
  obtain ⟨me0, ck0, h1, h2, h3⟩ := c.blks _ (List.mem_of_getElem? hj)
  have hs := MapKept.heap_set (w := w) (o' := .map me ck) h1
  have c2 : Core ⟨H, w, claims [(b, Blk.mp es)] []⟩ H [(b, .mp es')] [] { w with heap := w.heap.setIfInBounds b (.map me ck) } := by
    refine ⟨fun a v e => ?_, Hp.le_refl H, fun _ _ x => .inl x, fun i _ hm => hs.2 i (by simpa [claims, blkClaim] using hm), by simp, ?_, by simp, by simp [claims, blkClaim], ?_, ⟨rfl, rfl, rfl⟩⟩
    · have hne : a.block ≠ b := fun e2 => by
        obtain ⟨ab, ao, sp0⟩ := a
        simp only at e2; subst e2
        have hc := c.ag _ _ e
        cases sp0 with
        | none => rw [h3] at e; cases e
        | some s => simp [World.cell?, h1] at hc
      have := c.ag a v e
      simp only [World.cell?] at this ⊢
      rw [hs.2 _ hne]; exact this
    · intro p hp
      simp only [List.mem_singleton] at hp; subst hp
      exact ⟨me, ck, hs.1, hr, h3⟩
    · intro x hx
      exact .inl (by simpa [claims, blkClaim] using hx)
  have c3 := Core.call (h1 := [(b, .mp es)]) (k1 := []) (h2 := h.eraseIdx j) (k2 := k) (by simpa using c1) c2
  refine c3.perm ?_ (by simp)
  have p2 : (h.set j (b, Blk.mp es'))[j]? = some (b, Blk.mp es') := by rw [List.getElem?_set_self hlt]
  have p3 := perm_at p2
  rw [List.eraseIdx_set_eq] at p3
  exact p3.symm
section
variable {P : Program} {C : Ctx} {N : Nat} {ops rest : List Oper} {o : Oper} {t : List (Nat × D)} {h : List (Nat × Blk)} {k : List (Nat × Value)} {Q : Exit → S → Prop} {tab : List (Option TI)}
theorem p_makeMap {i : Nat} {T : TypeId} (ho : o.op = .makeMap T none) (hw : wantD ops t o = some true) (hd : o.dst = some i) (hi : Nat.blt i N = true)
    (g : ∀ b : Nat, opsD P C N ops rest ⟨(i, .v (.map (some b))) :: t, (b, .mp []) :: h, k⟩ Q) : opsD P C N ops (o :: rest) ⟨t, h, k⟩ Q :=
  ops_val (s := ⟨t, h, k⟩) hw hd hi fun H a w c kt => by
    refine ⟨.map (some w.heap.size), _, H, .v (.map (some w.heap.size)), _, k, ?_, Hp.le_refl H, c.allocMap, rep_v rfl, g w.heap.size⟩
    unfold execOp
    rw [ho]
    refine exec_v ?_
    rfl
theorem run_zv {w : World} {t : TypeId} {z : Value} (h : (P.info? t).bind (·.zero) = some z) : (Go.zeroValue t).run P w = .ok z w := by
  cases hi : P.info? t with
  | none => rw [hi] at h; cases h
  | some i =>
    rw [hi] at h
    have ht : (Go.typeInfo t).run P w = .ok i w := by
      unfold Go.typeInfo Go.program
      rw [run_bind_ok (a := P) rfl, hi]; rfl
    unfold Go.zeroValue
    rw [run_bind_ok ht]
    simp only [Option.bind_some] at h
    rw [h]; rfl
section
variable {α β : Type} [DecidableEq α] {f : α → Value} {e : β → D}
theorem p_lookup {i b kt et : Nat} {T : TypeId} {x ix : Operand} {l : List (α × β)} {es : List (Value × D)} {kk : α} {dk dr : D} {z : β} {zv : Value} {ti0 : TI} (j : Nat) (hT : TabOK P tab) (ho : o.op = .lookup T x ix false) (hw : wantD ops t o = some true) (hd : o.dst = some i) (hi : Nat.blt i N = true)
    (hx : opD t x = some (.v (.map (some b)))) (hj : h[j]? = some (b, .mp es)) (hes : es = l.map fun p => (f p.1, e p.2)) (hix : opD t ix = some dk) (hti : ti tab T = some ti0) (hs : ti0.d = .map kt et) (K : KeyOK P kt f) (hk : ∀ H v, Rep H dk v → v = f kk)
    (hz : (P.info? et).bind (·.zero) = some zv) (hzr : ∀ H, Rep H (e z) zv) (hr : dr = e (mgetD l kk z))
    (g : opsD P C N ops rest ⟨(i, dr) :: t, h, k⟩ Q) : opsD P C N ops (o :: rest) ⟨t, h, k⟩ Q :=
  ops_val (s := ⟨t, h, k⟩) hw hd hi fun H a w core kt' => by
    subst hes; subst hr
    obtain ⟨dd, h1, h2⟩ := run_underlying (w := w) (ti_ok hT hti)
    have := td_map (h2.trans hs); subst this
    obtain ⟨me, ck, g1, g2, g3⟩ := core.blks _ (List.mem_of_getElem? hj)
    have hkv := hk H _ (opD_ok kt' hix)
    have hfk := K.find w kk me.toList (l.map (·.1)) (mapR_keys g2)
    have key : ∃ v, (Instr.lookup T (a.eval x) (a.eval ix) false).run P w = .ok v w ∧ Rep H (e (mgetD l kk z)) v := by
      rw [hkv, rep_v_inv (opD_ok kt' hx)]
      unfold Instr.lookup mgetD
      rcases mapR_find kk 0 g2 with ⟨q1, q2, _⟩ | ⟨j', b', m, q1, q2, q3, _⟩
      · refine ⟨zv, ?_, by rw [q1]; exact hzr H⟩
        rw [q2] at hfk
        simp only [run_bind, h1, Result.andThen, MapKept.run_getObj_map g1, run_pure, K.check, hfk, run_zv hz]
        simp
      · refine ⟨m.val, ?_, by rw [q1]; exact q3⟩
        rw [q2] at hfk
        simp only [run_bind, h1, Result.andThen, MapKept.run_getObj_map g1, run_pure, K.check, hfk]
        simp
    obtain ⟨v, e1, e2⟩ := key
    refine ⟨v, w, H, _, h, k, ?_, Hp.le_refl H, core, e2, g⟩
    unfold execOp
    rw [ho]
    exact exec_v e1
theorem p_mapUpdate {b kt et : Nat} {T : TypeId} {x ix y : Operand} {l : List (α × β)} {es : List (Value × D)} {h' : List (Nat × Blk)} {kk : α} {vv : β} {dk dv : D} {ti0 : TI} (j : Nat) (hT : TabOK P tab) (ho : o.op = .mapUpdate T x ix y) (hw : wantD ops t o = some true) (hd : o.dst = none)
    (hx : opD t x = some (.v (.map (some b)))) (hj : h[j]? = some (b, .mp es)) (hes : es = l.map fun p => (f p.1, e p.2)) (hix : opD t ix = some dk) (hy : opD t y = some dv) (hti : ti tab T = some ti0) (hs : ti0.d = .map kt et) (K : KeyOK P kt f) (hk : ∀ H v, Rep H dk v → v = f kk) (hv : Wk dv (e vv))
    (he : h.set j (b, .mp ((mput l kk vv).map fun p => (f p.1, e p.2))) = h')
    (g : opsD P C N ops rest ⟨t, h', k⟩ Q) : opsD P C N ops (o :: rest) ⟨t, h, k⟩ Q :=
  ops_unit (s := ⟨t, h, k⟩) hw hd fun H a w core kt' => by
    subst hes; subst he
    obtain ⟨dd, h1, h2⟩ := run_underlying (w := w) (ti_ok hT hti)
    have := td_map (h2.trans hs); subst this
    obtain ⟨me, ck, g1, g2, g3⟩ := core.blks _ (List.mem_of_getElem? hj)
    have hkv := hk H _ (opD_ok kt' hix)
    have hfk := K.find w kk me.toList (l.map (·.1)) (mapR_keys g2)
    have hyv : Rep H (e vv) (a.eval y) := hv H _ (opD_ok kt' hy)
    have key : ∃ me' ck', (Instr.mapUpdate T (a.eval x) (a.eval ix) (a.eval y)).run P w = .ok () { w with heap := w.heap.setIfInBounds b (.map me' ck') } ∧ MapR H ((mput l kk vv).map fun p => (f p.1, e p.2)) me'.toList := by
      rw [hkv, rep_v_inv (opD_ok kt' hx)]
      unfold Instr.mapUpdate
      rcases mapR_find kk 0 g2 with ⟨q1, q2, q3⟩ | ⟨j', b', m, q1, q2, q3, q4, q5, q6⟩
      · refine ⟨me.push ⟨f kk, a.eval y, ck⟩, ck + 1, ?_, by rw [Array.toList_push]; exact q3 vv _ ck hyv⟩
        rw [q2] at hfk
        simp only [run_bind, h1, Result.andThen, MapKept.run_getObj_map g1, run_pure, K.check, hfk, MapKept.run_setObj_map _ g1]
      · refine ⟨me.modify j' fun x => { x with key := f kk, val := a.eval y }, ck, ?_, by rw [Array.toList_modify]; exact q6 vv _ hyv⟩
        rw [q2] at hfk
        have hm : me[j']? = some m := by rw [← Array.getElem?_toList]; exact q4
        rw [Nat.zero_add] at hfk
        simp only [run_bind, h1, Result.andThen, MapKept.run_getObj_map g1, run_pure, K.check, hfk, hm, Option.map_some, Option.getD_some, q5, K.stays, MapKept.run_setObj_map _ g1]
    obtain ⟨me', ck', e1, e2⟩ := key
    refine ⟨_, H, _, k, ?_, Hp.le_refl H, core.setMap (ck := ck') hj e2, g⟩
    unfold execOp
    rw [ho]
    show ((Instr.mapUpdate T (a.eval x) (a.eval ix) (a.eval y)) >>= fun _ => pure Next.skip).run P w = _
    rw [run_bind_ok e1]; rfl
end
end
end Go.Proofs.Ytpeimfcmhedjmaa.Ab
namespace Go.Proofs.Ytpeimfcmhedjmaa.Ab
open Go
set_option linter.all false
theorem flatMap_set {α β : Type} (f : α → List β) : ∀ (l : List α) (j : Nat) (a b : α), l[j]? = some a → f b = f a → (l.set j b).flatMap f = l.flatMap f
  | [], _, _, _, h, _ => by cases h
  | x :: l, 0, a, b, h, e => by
    simp only [List.getElem?_cons_zero, Option.some.injEq] at h; subst h
    simp only [List.set_cons_zero, List.flatMap_cons, e]
  | x :: l, j + 1, a, b, h, e => by
    simp only [List.getElem?_cons_succ] at h
    simp only [List.set_cons_succ, List.flatMap_cons, flatMap_set f l j a b h e]
section
variable {P : Program} {C : Ctx} {N : Nat} {ops rest : List Oper} {o : Oper} {t : List (Nat × D)} {h : List (Nat × Blk)} {k : List (Nat × Value)} {Q : Exit → S → Prop} {tab : List (Option TI)}
theorem Core.dropTok {H : Hp} {w : World} (c : Core C H h k w) {j kk l n m : Nat} {ad : Option Addr} (hj : k[j]? = some (kk, .slice ad n m)) (h1 : l ≤ n) (h2 : n ≤ m) :
    Core C H h (k.set j (kk, .slice (if m = l then ad else ad.map (·.add (l * kk))) (n - l) (m - l))) w := by
  have ht := c.toks _ (List.mem_of_getElem? hj)
  have hcl : claims h (k.set j (kk, .slice (if m = l then ad else ad.map (·.add (l * kk))) (n - l) (m - l))) = claims h k := by
    unfold claims
    congr 1
    refine flatMap_set _ _ _ _ _ hj ?_
    by_cases e : m = l
    · rw [if_pos e]
      have : ¬ n < m := by omega
      have h4 : ¬ n - l < m - l := by omega
      cases ad with
      | none => rfl
      | some a => simp [tokClaim, this, h4]
    · rw [if_neg e]
      cases ad with
      | none => rfl
      | some a =>
        simp only [Option.map_some, tokClaim]
        by_cases q : n < m
        · have : n - l < m - l := by omega
          rw [if_pos q, if_pos this]
          obtain ⟨_, _, _, g2, _⟩ := ht a n m rfl q
          obtain ⟨b, o, sp⟩ := a
          simp only at g2; subst g2
          simp only [addr_add]
        · have : ¬ n - l < m - l := by omega
          rw [if_neg q, if_neg this]
  refine ⟨c.ag, c.le, c.new, c.same, c.size, c.blks, fun p hp => ?_, by rw [hcl]; exact c.nd, by rw [hcl]; exact c.own, c.env⟩
  rcases List.mem_or_eq_of_mem_set hp with hp | rfl
  · exact c.toks p hp
  · intro a n' m' e hlt
    simp only [Value.slice.injEq] at e
    obtain ⟨e1, rfl, rfl⟩ := e
    rw [if_neg (by omega)] at e1
    cases ad with
    | none => cases e1
    | some a0 =>
      simp only [Option.map_some, Option.some.injEq] at e1
      obtain ⟨cs, T, g1, g2, g3, g4⟩ := ht a0 n m rfl (by omega)
      obtain ⟨b, o, sp⟩ := a0
      simp only at g2; subst g2
      simp only [addr_add] at e1; subst e1
      have hmul : l * kk + (m - l) * kk = m * kk := by rw [← Nat.add_mul]; congr 1; omega
      have hmul2 : l * kk + (n - l) * kk = n * kk := by rw [← Nat.add_mul]; congr 1; omega
      refine ⟨cs, T, g1, rfl, by simp only at g3 ⊢; omega, fun o' ho' => g4 o' (by simp only at ho' ⊢; omega)⟩
theorem p_dropT {α : Type} {e0 : α → D} {i kk : Nat} {T e : TypeId} {x : Operand} {lo : Option Operand} {l' : Option Int} {xs ys : List α} {l n : Int} {y : Value} {ti0 tie : TI} (j : Nat) (q : cutL xs l n = some ys) (hT : TabOK P tab) (ho : o.op = .slice T x lo none none) (hw : wantD ops t o = some true) (hd : o.dst = some i) (hi0 : Nat.blt i N = true)
    (hx : opD t x = some (.lst kk (xs.map e0) (.cur y))) (hj : k[j]? = some (kk, y)) (e1 : optI t lo = some l') (hti : ti tab T = some ti0) (hs : ti0.d = .slice e) (hte : ti tab e = some tie) (hk : tie.size = kk) (h1 : l'.getD 0 = l) (h2 : (xs.length : Int) = n)
    (g : ∀ y', opsD P C N ops rest ⟨(i, .lst kk (ys.map e0) (.cur y')) :: t, h, k.set j (kk, y')⟩ Q) : opsD P C N ops (o :: rest) ⟨t, h, k⟩ Q := by
  obtain ⟨q1, q2, q3, q4, q5⟩ := cutL_ok q
  generalize hl : l.toNat = L at *
  generalize hn : n.toNat = M at *
  subst q2
  have hM : M = xs.length := by omega
  refine ops_val (s := ⟨t, h, k⟩) hw hd hi0 fun H a w c kt => ?_
  obtain ⟨d, h3, h4⟩ := run_underlying (w := w) (ti_ok hT hti)
  have := td_slice (h4.trans hs); subst this
  have hys : ys = xs.drop L := by rw [q1, hM]; exact List.take_of_length_le (by simp)
  have hlen : (ys.map e0).length = xs.length - L := by rw [hys]; simp
  obtain ⟨hc, hr⟩ := rep_lst_inv (opD_ok kt hx)
  have key : ∀ ad m, a.eval x = .slice ad xs.length m → xs.length ≤ m → (execOp a.eval o).run P w = .ok (.value (.slice (if m = L then ad else ad.map (·.add (L * kk))) (xs.length - L) (m - L))) w := by
    intro ad m hy hm
    unfold execOp
    rw [ho]
    refine exec_v ?_
    rw [hy]
    unfold Instr.sliceAt
    rw [run_bind_ok h3]
    simp only [Instr.slice]
    rw [run_bind_ok h3]
    have := bounds_run (P := P) (w := w) kt (isS := true) (cap := m) (mx := none) (m' := none) (m := m) (hi := none) e1 rfl rfl h1 (by simp only [Option.getD_none]; rfl) rfl (fun x => absurd rfl x) (show L ≤ xs.length by omega) (by omega) (Nat.le_refl _)
    simp only [Option.map_none] at this ⊢
    simp only [run_bind, run_pure, this, run_sizeOf (ti_ok hT hte), hk]
  simp only [CapOK] at hc
  rw [List.length_map] at hr
  rcases hr with ⟨hnil, a0, m0, hy, hn0⟩ | ⟨b, off, m, hy, hm, hE⟩
  · have hxs : xs = [] := by simpa using hnil
    have hL : L = 0 := by rw [hxs] at hM; simp at hM; omega
    have hk0 := key a0 m0 (by rw [hy, hxs]; rfl) (by rw [hxs]; simp)
    rw [hy] at hc; subst hc
    have hcore := c.dropTok (l := L) (by simpa using hj) (by omega) (by omega)
    rw [hxs] at hk0
    refine ⟨_, _, H, _, _, _, hk0, Hp.le_refl H, hcore, ?_, g _⟩
    · refine rep_cell ?_ rfl rfl
      simp only [RepC, CapOK]
      refine ⟨_, rfl, by simp, .inl ⟨by rw [hys, hxs]; simp, _, _, by simp; exact ⟨rfl, rfl⟩, fun z => ?_⟩⟩
      subst hL
      split at z
      · rename_i e0; omega
      · cases a0 with
        | none => rw [hn0 rfl]
        | some _ => cases z
  · have hk0 := key _ m hy hm
    rw [hy] at hc; subst hc
    have hcore := c.dropTok (l := L) hj (by omega) hm
    refine ⟨_, _, H, _, _, _, hk0, Hp.le_refl H, hcore, ?_, g _⟩
    refine rep_cell ?_ rfl rfl
    simp only [RepC, CapOK, true_and]
    by_cases hml : m = L
    · rw [if_pos hml]
      refine ⟨_, rfl, rfl, .inr ⟨b, off, m - L, by rw [hlen], by rw [hlen]; omega, ?_⟩⟩
      have : ys = [] := by rw [hys]; exact List.drop_eq_nil_of_le (by omega)
      rw [this]; simp [Els]
    · rw [if_neg hml]
      refine ⟨_, rfl, rfl, .inr ⟨b, off + L * kk, m - L, by simp [addr_add, hlen], by rw [hlen]; omega, ?_⟩⟩
      have := els_drop L hE
      rw [hys, List.map_drop]; exact this
end
end Go.Proofs.Ytpeimfcmhedjmaa.Ab
