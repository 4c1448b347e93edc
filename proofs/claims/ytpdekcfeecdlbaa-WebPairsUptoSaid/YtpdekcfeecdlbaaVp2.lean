/- The texts that webPairsUpto_holds leans on, part 2. -/
import Derived.Test.YtpdekcfeecdlbaaVp1
namespace Go.Proofs.Ytpdekcfeecdlbaa.Ab
open Go
set_option linter.all false
inductive Step (σ τ : Type) where
  | next (s : σ)
  | done (t : τ)
def loopN {σ τ : Type} (f : σ → Option (Step σ τ)) : Nat → σ → Option τ
  | 0, _ => none
  | n + 1, s => match f s with
    | none => none
    | some (.next s') => loopN f n s'
    | some (.done t) => some t
theorem loopN_one {σ τ : Type} {f : σ → Option (Step σ τ)} : ∀ {n m : Nat} {s : σ} {t t' : τ}, loopN f n s = some t → loopN f m s = some t' → t = t'
  | 0, _, _, _, _, h, _ => by simp [loopN] at h
  | _ + 1, 0, _, _, _, _, h => by simp [loopN] at h
  | n + 1, m + 1, s, t, t', h, k => by
    simp only [loopN] at h k
    cases hf : f s with
    | none => rw [hf] at h; cases h
    | some x =>
      rw [hf] at h k
      cases x with
      | next s' => exact loopN_one h k
      | done u => simp at h k; rw [← h, ← k]
open Classical in
noncomputable def loopM {σ τ : Type} (f : σ → Option (Step σ τ)) (s : σ) : Option τ := if h : ∃ n t, loopN f n s = some t then some h.choose_spec.choose else none
theorem loopM_of {σ τ : Type} {f : σ → Option (Step σ τ)} {n : Nat} {s : σ} {t : τ} (h : loopN f n s = some t) : loopM f s = some t := by
  have hx : ∃ n t, loopN f n s = some t := ⟨n, t, h⟩
  unfold loopM
  rw [dif_pos hx]
  exact congrArg some (loopN_one hx.choose_spec.choose_spec h)
theorem loopM_inv {σ τ : Type} {f : σ → Option (Step σ τ)} {s : σ} {t : τ} (h : loopM f s = some t) : ∃ n, loopN f n s = some t := by
  unfold loopM at h
  split at h
  · rename_i hx
    simp only [Option.some.injEq] at h
    exact ⟨_, h ▸ hx.choose_spec.choose_spec⟩
  · cases h
theorem loopM_done {σ τ : Type} {f : σ → Option (Step σ τ)} {s : σ} {t : τ} (h : f s = some (.done t)) : loopM f s = some t := loopM_of (n := 1) (by simp [loopN, h])
theorem loopM_next {σ τ : Type} {f : σ → Option (Step σ τ)} {s s' : σ} (h : f s = some (.next s')) : loopM f s = loopM f s' := by
  cases e : loopM f s' with
  | some t =>
    obtain ⟨n, hn⟩ := loopM_inv e
    exact loopM_of (n := n + 1) (by simp [loopN, h, hn])
  | none =>
    cases e2 : loopM f s with
    | none => rfl
    | some t =>
      obtain ⟨n, hn⟩ := loopM_inv e2
      cases n with
      | zero => simp [loopN] at hn
      | succ n =>
        simp only [loopN, h] at hn
        rw [loopM_of hn] at e; cases e
theorem loopM_some {σ τ : Type} {f : σ → Option (Step σ τ)} (I : σ → Prop) (μ : σ → Nat) (p : τ → Prop)
    (h : ∀ s, I s → (∃ s', f s = some (.next s') ∧ I s' ∧ μ s' < μ s) ∨ ∃ t, f s = some (.done t) ∧ p t) (s : σ) (hs : I s) : ∃ t, loopM f s = some t ∧ p t := by
  have key : ∀ n s, μ s < n → I s → ∃ t, loopM f s = some t ∧ p t := by
    intro n
    induction n with
    | zero => intro s hn; omega
    | succ n ih =>
      intro s hn hs
      rcases h s hs with ⟨s', h1, h2, h3⟩ | ⟨t, h1, h2⟩
      · rw [loopM_next h1]; exact ih s' (by omega) h2
      · exact ⟨t, loopM_done h1, h2⟩
  exact key (μ s + 1) s (Nat.lt_succ_self _) hs
def Yes {α : Type} (m : Option α) (φ : α → Prop) : Prop := ∃ x, m = some x ∧ φ x
section
variable {α β : Type} {φ : α → Prop} {ψ : β → Prop}
theorem yes_bind {m : Option α} {f : α → Option β} (h : Yes (m.bind f) ψ) : ∃ a, m = some a ∧ Yes (f a) ψ := by
  obtain ⟨x, h1, h2⟩ := h
  rw [Option.bind_eq_some_iff] at h1
  obtain ⟨a, h3, h4⟩ := h1
  exact ⟨a, h3, x, h4, h2⟩
theorem yes_t {c : Bool} {a b : Option α} (hc : c = true) (h : Yes (bif c then a else b) φ) : Yes a φ := by subst hc; exact h
theorem yes_f {c : Bool} {a b : Option α} (hc : c = false) (h : Yes (bif c then a else b) φ) : Yes b φ := by subst hc; exact h
theorem yes_of {m : Option α} {r : α} (h : m = some r) : Yes m (fun x => x = r) := ⟨r, h, rfl⟩
theorem yes_eq {a r : α} (h : Yes (some a) (fun x => x = r)) : a = r := by obtain ⟨x, h1, h2⟩ := h; cases h1; exact h2
theorem yes_m {m : Option α} (h : Yes m φ) : ∃ a, m = some a ∧ Yes (some a) φ := by
  obtain ⟨x, h1, h2⟩ := h
  exact ⟨x, h1, x, rfl, h2⟩
def need (p : Bool) : Option Unit := bif p then some () else none
def idx (xs : List α) (i : Int) : Option α := bif decide (0 ≤ i) then xs[i.toNat]? else none
theorem idx_ok {xs : List α} {i : Int} {x : α} (h : idx xs i = some x) : 0 ≤ i ∧ xs[i.toNat]? = some x := by
  unfold idx at h
  by_cases hi : 0 ≤ i
  · rw [decide_eq_true hi] at h; exact ⟨hi, h⟩
  · rw [decide_eq_false hi] at h; cases h
theorem idx_nonneg {xs : List α} {i : Int} {x : α} (h : idx xs i = some x) : 0 ≤ i := (idx_ok h).1
theorem idx_map {xs : List α} {i : Int} {x : α} {e : α → D} (h : idx xs i = some x) : (xs.map e)[i.toNat]? = some (e x) := by
  rw [List.getElem?_map, (idx_ok h).2]; rfl
theorem idx_nat (xs : List α) (n : Nat) : idx xs (n : Int) = xs[n]? := by simp [idx]
def app (bb : Nat) (xs ys : List α) : Option (List α) := bif decide ((xs.length + ys.length) * bb ≤ 140737488355328) then some (xs ++ ys) else none
theorem app_ok {bb : Nat} {xs ys zs : List α} (h : app bb xs ys = some zs) : zs = xs ++ ys ∧ (xs.length + ys.length) * bb ≤ 140737488355328 := by
  unfold app at h
  cases hc : decide ((xs.length + ys.length) * bb ≤ 140737488355328) with
  | false => rw [hc] at h; cases h
  | true =>
    rw [hc] at h
    simp only [cond_true, Option.some.injEq] at h
    exact ⟨h.symm, of_decide_eq_true hc⟩
theorem app_of {bb : Nat} {xs ys : List α} (h : (xs.length + ys.length) * bb ≤ 140737488355328) : app bb xs ys = some (xs ++ ys) := by
  unfold app; rw [decide_eq_true h]; rfl
theorem app_bound {bb : Nat} {xs ys zs : List α} {e : α → D} (h : app bb xs ys = some zs) : ((xs.map e).length + (ys.map e).length) * bb ≤ 140737488355328 := by
  simpa using (app_ok h).2
theorem app_map {bb : Nat} {xs ys zs : List α} {e : α → D} (h : app bb xs ys = some zs) : xs.map e ++ ys.map e = zs.map e := by
  rw [(app_ok h).1, List.map_append]
theorem map_len {xs : List α} {e : α → D} : (xs.map e).length = xs.length := List.length_map _
end
def WkC (d d' : D) : Prop := ∀ H us, RepC H d us → RepC H d' us
def WkR (ds ds' : List D) : Prop := ∀ H us, Reps H ds us → Reps H ds' us
theorem WkC.refl (d : D) : WkC d d := fun _ _ h => h
theorem WkC.no {k : Nat} {xs : List D} {c : Cap} : WkC (.lst k xs c) (.lst k xs .no) := fun H us h => by
  simp only [RepC] at h ⊢
  obtain ⟨y, e, _, h⟩ := h
  exact ⟨y, e, trivial, h⟩
theorem WkC.nil {k k' : Nat} {c : Cap} : WkC (.lst k [] c) (.lst k' [] .no) := fun H us h => by
  simp only [RepC] at h ⊢
  obtain ⟨y, e, _, h⟩ := h
  rcases h with ⟨_, h⟩ | ⟨b, off, m, e1, e2, e3⟩
  · exact ⟨y, e, trivial, .inl ⟨by trivial, h⟩⟩
  · exact ⟨y, e, trivial, .inr ⟨b, off, m, e1, e2, by simp [Els]⟩⟩
theorem WkC.agg {ds ds' : List D} (h : WkR ds ds') : WkC (.agg ds) (.agg ds') := fun H us k => by
  simp only [RepC] at k ⊢; exact h H us k
theorem WkC.of_eq {d d' : D} (h : d = d') : WkC d d' := h ▸ WkC.refl d
theorem WkR.refl (ds : List D) : WkR ds ds := fun _ _ h => h
theorem WkR.nil : WkR [] [] := WkR.refl _
theorem WkR.cons {d d' : D} {ds ds' : List D} (h : WkC d d') (hf : d'.flat = d.flat) (k : WkR ds ds') : WkR (d :: ds) (d' :: ds') := fun H us q => by
  simp only [Reps] at q ⊢
  obtain ⟨u, us', e, ⟨h1, h2, h3⟩, h4⟩ := q
  exact ⟨u, us', e, ⟨h H _ h1, h2, hf.trans h3⟩, k H _ h4⟩
inductive WkE : List D → List D → Prop
  | nil : WkE [] []
  | cons {d d' : D} {ds ds' : List D} (h : WkC d d') (k : WkE ds ds') : WkE (d :: ds) (d' :: ds')
theorem WkE.refl : ∀ ds : List D, WkE ds ds
  | [] => .nil
  | _ :: ds => .cons (WkC.refl _) (WkE.refl ds)
theorem WkE.els {H : Hp} {k b : Nat} : ∀ {ds ds' : List D} {off : Nat}, WkE ds ds' → Els H k b off ds → Els H k b off ds'
  | _, _, _, .nil, h => h
  | _, _, _, .cons h1 h2, h => by
    simp only [Els] at h ⊢
    obtain ⟨⟨us, e1, e2, e3⟩, h3⟩ := h
    exact ⟨⟨us, e1, h1 H us e2, e3⟩, h2.els h3⟩
theorem WkE.length {ds ds' : List D} (h : WkE ds ds') : ds.length = ds'.length := by
  induction h with
  | nil => rfl
  | cons _ _ ih => simp [ih]
theorem WkE.append {ds ds' es es' : List D} (h : WkE ds ds') (k : WkE es es') : WkE (ds ++ es) (ds' ++ es') := by
  induction h with
  | nil => exact k
  | cons h1 _ ih => exact .cons h1 ih
theorem WkC.lst {k : Nat} {xs ys : List D} {c : Cap} (h : WkE xs ys) : WkC (.lst k xs c) (.lst k ys c) := fun H us q => by
  simp only [RepC] at q ⊢
  obtain ⟨y, e, hc, q⟩ := q
  refine ⟨y, e, hc, ?_⟩
  rcases q with ⟨q1, q2⟩ | ⟨b, off, m, e1, e2, e3⟩
  · subst q1
    cases h; exact .inl ⟨rfl, q2⟩
  · exact .inr ⟨b, off, m, by rw [← h.length]; exact e1, by rw [← h.length]; exact e2, h.els e3⟩
theorem WkC.trans {a b c : D} (h : WkC a b) (k : WkC b c) : WkC a c := fun H us q => k H us (h H us q)
theorem WkC.wk {d d' : D} (h : WkC d d') (hs : ∀ y, d.shape y = true → d'.shape y = true) : Wk d d' := fun H y q => ⟨h H _ q.1, hs y q.2⟩
theorem shape_agg {l l' : List D} : ∀ y, (D.agg l).shape y = true → (D.agg l').shape y = true := fun y h => by cases y <;> first | rfl | cases h
theorem shape_lst {k k' : Nat} {l l' : List D} {c c' : Cap} : ∀ y, (D.lst k l c).shape y = true → (D.lst k' l' c').shape y = true := fun y h => by cases y <;> first | rfl | cases h
theorem Wk.agg {ds ds' : List D} (h : WkR ds ds') : Wk (.agg ds) (.agg ds') := (WkC.agg h).wk shape_agg
theorem Wk.lst0 {k : Nat} {xs ys : List D} {c : Cap} (h : WkE xs ys) : Wk (.lst k xs c) (.lst k ys c) := (WkC.lst h).wk shape_lst
theorem Wk.lst {k : Nat} {xs ys : List D} {c : Cap} (h : WkE xs ys) : Wk (.lst k xs c) (.lst k ys .no) := ((WkC.lst h).trans WkC.no).wk shape_lst
theorem Wk.trans {a b c : D} (h : Wk a b) (k : Wk b c) : Wk a c := fun H y q => k H y (h H y q)
theorem WkS.trans {C : Ctx} {a b c : S} (h : WkS C a b) (k : WkS C b c) : WkS C a c := fun H x w c1 t1 => by
  obtain ⟨H1, l1, c2, t2⟩ := h H x w c1 t1
  obtain ⟨H2, l2, c3, t3⟩ := k H1 x w c2 t2
  exact ⟨H2, Hp.le_trans l1 l2, c3, t3⟩
theorem WkS.refl {C : Ctx} (s : S) : WkS C s s := fun H _ _ c t => ⟨H, Hp.le_refl H, c, t⟩
theorem WkS.blk {C : Ctx} {t : List (Nat × D)} {h h' : List (Nat × Blk)} {k : List (Nat × Value)} {b : Nat} {ds ds' : List D} {T : TypeId} (j : Nat) (hb : h[j]? = some (b, .cells ds T)) (hw : WkR ds ds') (e : h.set j (b, .cells ds' T) = h') : WkS C ⟨t, h, k⟩ ⟨t, h', k⟩ := fun H a w c kt => by
  subst e
  refine ⟨H, Hp.le_refl H, ?_, kt⟩
  obtain ⟨us, h1, h2, h3⟩ := c.blks _ (List.mem_of_getElem? hb)
  have hlt := (List.getElem?_eq_some_iff.1 hb).1
  have hget := (List.getElem?_eq_some_iff.1 hb).2
  have hcl : claims (h.set j (b, Blk.cells ds' T)) k = claims h k := by
    exact claims_set hb rfl
  refine ⟨c.ag, c.le, c.new, c.same, c.size, ?_, c.toks, by rw [hcl]; exact c.nd, by rw [hcl]; exact c.own, c.env⟩
  intro p hp
  rcases List.mem_or_eq_of_mem_set hp with hp | hp
  · exact c.blks p hp
  · subst hp; exact ⟨us, h1, hw H us h2, h3⟩
theorem TokOK.full {H : Hp} {w : World} {k : Nat} {y : Value} (h : CapOK .full y) : TokOK H w (k, y) := fun a n m e hlt => by
  subst e
  simp only [CapOK] at h; omega
theorem tokClaim_full {k : Nat} {y : Value} (h : CapOK .full y) : tokClaim (k, y) = [] := by
  unfold tokClaim
  split
  · rename_i k0 a n m e
    simp only [Prod.mk.injEq] at e
    obtain ⟨_, e⟩ := e
    subst e
    simp only [CapOK] at h
    rw [if_neg (by omega)]
  · rfl
theorem Core.tokFull {C : Ctx} {H : Hp} {h : List (Nat × Blk)} {k : List (Nat × Value)} {w : World} (c : Core C H h k w) (kk : Nat) {y : Value} (hy : CapOK .full y) : Core C H h ((kk, y) :: k) w := by
  have hcl : claims h ((kk, y) :: k) = claims h k := by unfold claims; rw [List.flatMap_cons, tokClaim_full hy]; rfl
  refine ⟨c.ag, c.le, c.new, c.same, c.size, c.blks, ?_, by rw [hcl]; exact c.nd, by rw [hcl]; exact c.own, c.env⟩
  intro p hp
  rcases List.mem_cons.1 hp with rfl | hp
  · exact TokOK.full hy
  · exact c.toks p hp
theorem lst_cur {H : Hp} {k : Nat} {xs : List D} {y : Value} (h : Rep H (.lst k xs .full) y) : CapOK .full y ∧ Rep H (.lst k xs (.cur y)) y := by
  obtain ⟨hc, hr⟩ := rep_lst_inv h
  refine ⟨hc, ?_, by have := h.2; cases y <;> first | rfl | cases this⟩
  have h1 := h.1
  simp only [RepC] at h1 ⊢
  obtain ⟨y', e, _, h3⟩ := h1
  have : y' = y := by
    have hs := h.2
    cases y <;> simp [D.shape] at hs <;> simp [Value.cells] at e <;> exact e.symm
  subst this
  exact ⟨y', e, rfl, h3⟩
section
variable {P : Program} {C : Ctx} {N : Nat} {ops rest : List Oper} {o : Oper} {t : List (Nat × D)} {h : List (Nat × Blk)} {k : List (Nat × Value)} {Q : Exit → S → Prop} {tab : List (Option TI)}
def WkX {Y : Type} (C : Ctx) (s : S) (S1 : Y → S) : Prop := ∀ H a w, Core C H s.h s.k w → TOK H s.t a → ∃ y H', H.le H' ∧ Core C H' (S1 y).h (S1 y).k w ∧ TOK H' (S1 y).t a
theorem WkX.of {Y : Type} {s : S} {S1 : Y → S} (y : Y) (h : WkS C s (S1 y)) : WkX C s S1 := fun H a w c t => by
  obtain ⟨H', h1, h2, h3⟩ := h H a w c t
  exact ⟨y, H', h1, h2, h3⟩
theorem WkX.wk {Y : Type} {s s' : S} {S1 : Y → S} (h : WkS C s s') (g : WkX C s' S1) : WkX C s S1 := fun H a w c t => by
  obtain ⟨H', h1, h2, h3⟩ := h H a w c t
  obtain ⟨y, H2, g1, g2, g3⟩ := g H' a w h2 h3
  exact ⟨y, H2, Hp.le_trans h1 g1, g2, g3⟩
theorem look_put {t : List (Nat × D)} {H : Hp} {a : Act} (kt : TOK H t a) {i : Nat} {d : D} {v : Value} (h1 : a.tmps[i]? = some v) (h2 : Rep H d v) : TOK H ((i, d) :: t) a := by
  intro j d' e
  simp only [look] at e
  cases hb : Nat.beq i j with
  | true =>
    rw [hb] at e; simp at e; subst e
    have := Nat.eq_of_beq_eq_true hb; subst this
    exact ⟨v, h1, h2⟩
  | false => rw [hb] at e; exact kt j d' (by simpa using e)
theorem rep_nil {H : Hp} {k k' : Nat} {c : Cap} {y : Value} (h : Rep H (.lst k [] c) y) (hc : CapOK c y) : Rep H (.lst k' [] c) y := by
  obtain ⟨h1, h2⟩ := h
  refine ⟨?_, by cases y <;> first | rfl | cases h2⟩
  simp only [RepC] at h1 ⊢
  obtain ⟨z, e, h3, h4⟩ := h1
  refine ⟨z, e, h3, ?_⟩
  rcases h4 with ⟨_, h4⟩ | ⟨b, off, m, e1, e2, e3⟩
  · exact .inl ⟨by trivial, h4⟩
  · exact .inr ⟨b, off, m, e1, e2, by simp [Els]⟩
theorem WkX.tokN {Y : Type} {S1 : Y → S} {i k0 : Nat} (kk : Nat) (hx : look t i = some (.lst k0 [] .full)) (g : ∀ y, WkX C ⟨(i, .lst kk [] (.cur y)) :: t, h, (kk, y) :: k⟩ S1) : WkX C ⟨t, h, k⟩ S1 := fun H a w c kt => by
  obtain ⟨v, h1, h2⟩ := kt i _ hx
  have h5 := rep_nil (k' := kk) h2 (rep_lst_inv h2).1
  obtain ⟨h3, h4⟩ := lst_cur h5
  exact g v H a w (c.tokFull kk h3) (look_put kt h1 h4)
theorem WkS.perm {t t' : List (Nat × D)} {h' hj : List (Nat × Blk)} {k' kj : List (Nat × Value)} (e : ∀ i d, look t' i = some d → ∃ d0, look t i = some d0 ∧ Wk d0 d) (hh : h.Perm (h' ++ hj)) (kk : k.Perm (k' ++ kj)) : WkS C ⟨t, h, k⟩ ⟨t', h', k'⟩ := fun H a w c kt => by
  refine ⟨H, Hp.le_refl H, (c.perm hh kk).drop (List.sublist_append_left _ _) (List.sublist_append_left _ _), ?_⟩
  intro i d hd
  obtain ⟨d0, h1, h2⟩ := e i d hd
  obtain ⟨v, h3, h4⟩ := kt i d0 h1
  exact ⟨v, h3, h2 H v h4⟩
theorem wpD_wkX {Y : Type} {c : Code} {s : S} {S1 : Y → S} (hs : WkX C s S1) (g : ∀ y, wpD P C N c (S1 y) Q) : wpD P C N c s Q := by
  rintro a w ⟨H, c0, kt, hN, hdf⟩
  obtain ⟨y, H', hle, c', kt'⟩ := hs H a w c0 kt
  exact g y a w ⟨H', c', kt', hN, hdf⟩
theorem wpD_mid {Y : Type} {c : Code} {s : S} (S1 : Y → S) (h1 : wpD P C N c s (fun x s' => x = .normal ∧ WkX C s' S1)) (h2 : ∀ s', WkX C s' S1 → Q .normal s') : wpD P C N c s Q :=
  wpD_mono h1 fun _ s' ⟨e, hw⟩ => by subst e; exact h2 s' hw
def midX {τ ρ Y : Type} (C : Ctx) (S1 : τ → Y → S) (Q : Exit → S → Prop) (x : τ ⊕ ρ) : Exit → S → Prop := fun e s =>
  match x with
  | .inl v => e = .normal ∧ WkX C s (S1 v)
  | .inr _ => e = .ret ∧ Q .ret s
theorem wpD_midX {τ ρ Y : Type} {c : Code} {s : S} (S1 : τ → Y → S) (x : τ ⊕ ρ) (h1 : wpD P C N c s (midX C S1 Q x)) (h2 : ∀ v s', x = .inl v → WkX C s' (S1 v) → Q .normal s') : wpD P C N c s Q := by
  refine wpD_mono h1 fun e s' hm => ?_
  cases x with
  | inl v =>
    obtain ⟨e1, hw⟩ := hm
    subst e1
    exact h2 v s' rfl hw
  | inr r =>
    obtain ⟨e1, hq⟩ := hm
    subst e1
    exact hq
theorem WkX.trans {Y Z : Type} {s : S} {S1 : Y → S} {S2 : Z → S} (h : WkX C s S1) (g : ∀ y, WkX C (S1 y) S2) : WkX C s S2 := fun H a w c kt => by
  obtain ⟨y, H1, l1, c1, t1⟩ := h H a w c kt
  obtain ⟨z, H2, l2, c2, t2⟩ := g y H1 a w c1 t1
  exact ⟨z, H2, Hp.le_trans l1 l2, c2, t2⟩
def LP {σ τ : Type} (t : τ) (G : σ → Prop) : Step σ τ → Prop
  | .next s => G s
  | .done u => u = t
theorem lp_next {σ τ : Type} {t : τ} {G : σ → Prop} {s : σ} (h : Yes (some (Step.next s)) (LP t G)) : G s := by obtain ⟨x, h1, h2⟩ := h; cases h1; exact h2
theorem lp_done {σ τ : Type} {t u : τ} {G : σ → Prop} (h : Yes (some (Step.done (σ := σ) u)) (LP t G)) : u = t := by obtain ⟨x, h1, h2⟩ := h; cases h1; exact h2
theorem yes_loop {σ τ : Type} {f : σ → Option (Step σ τ)} {t : τ} {n : Nat} {x : σ} (h : loopN f (n + 1) x = some t) : Yes (f x) (LP t fun x' => loopN f n x' = some t) := by
  simp only [loopN] at h
  cases e : f x with
  | none => rw [e] at h; cases h
  | some st =>
    rw [e] at h
    cases st with
    | next s' => exact ⟨_, rfl, h⟩
    | done u => exact ⟨_, rfl, by simpa [LP] using h⟩
theorem loop_M {σ τ Y : Type} {f : σ → Option (Step σ τ)} {x0 : σ} {u : τ} {s : S} {c : Code} (hl : loopM f x0 = some u) (St : σ → Y → S) (hw : WkX C s (St x0))
    (hb : ∀ (G : σ → Prop) x y, Yes (f x) (LP u G) → wpD P C N c (St x y) (thenD (fun s' => ∃ x', G x' ∧ WkX C s' (St x')) Q)) : wpD P C N (.loop c) s Q := by
  obtain ⟨n, hn⟩ := loopM_inv hl
  have key : ∀ n x y, loopN f n x = some u → roundsD P C N c Q n (St x y) := by
    intro n
    induction n with
    | zero => intro x y h; simp [loopN] at h
    | succ n ih =>
      intro x y h
      refine roundsD_succ (wpD_mono (hb _ x y (yes_loop h)) ?_)
      intro e s' q
      cases e with
      | normal =>
        obtain ⟨x', h1, h2⟩ := q
        rintro a w ⟨H, c0, kt, hN, hdf⟩
        obtain ⟨y', H', hle, c', kt'⟩ := h2 H a w c0 kt
        exact ih x' y' h1 a w ⟨H', c', kt', hN, hdf⟩
      | _ => exact q
  exact wpD_wkX hw (fun y => wpD_loop n (key n x0 y hn))
def retX (C : Ctx) (tab : List (Option TI)) (rs : List ResultVar) (R : D → List (Nat × Blk) → List (Nat × Value) → Prop) (x : Exit) (s : S) : Prop := ∀ H a w, Core C H s.h s.k w → TOK H s.t a → ∃ s' H', H.le H' ∧ Core C H' s'.h s'.k w ∧ TOK H' s'.t a ∧ retD tab rs R x s'
theorem retX.of {rs : List ResultVar} {R : D → List (Nat × Blk) → List (Nat × Value) → Prop} {x : Exit} {s s' : S} (h : WkS C s s') (g : retD tab rs R x s') : retX C tab rs R x s := fun H a w c kt => by
  obtain ⟨H', h1, h2, h3⟩ := h H a w c kt
  exact ⟨s', H', h1, h2, h3, g⟩
theorem retX.wk {rs : List ResultVar} {R : D → List (Nat × Blk) → List (Nat × Value) → Prop} {x : Exit} {s s' : S} (h : WkS C s s') (g : retX C tab rs R x s') : retX C tab rs R x s := fun H a w c kt => by
  obtain ⟨H', h1, h2, h3⟩ := h H a w c kt
  obtain ⟨s2, H2, g1, g2⟩ := g H' a w h2 h3
  exact ⟨s2, H2, Hp.le_trans h1 g1, g2⟩
theorem retX.tokN {rs : List ResultVar} {R : D → List (Nat × Blk) → List (Nat × Value) → Prop} {x : Exit} {i k0 : Nat} (kk : Nat) (hx : look t i = some (.lst k0 [] .full)) (g : ∀ y, retX C tab rs R x ⟨(i, .lst kk [] (.cur y)) :: t, h, (kk, y) :: k⟩) : retX C tab rs R x ⟨t, h, k⟩ := fun H a w c kt => by
  obtain ⟨v, h1, h2⟩ := kt i _ hx
  have h5 := rep_nil (k' := kk) h2 (rep_lst_inv h2).1
  obtain ⟨h3, h4⟩ := lst_cur h5
  exact g v H a w (c.tokFull kk h3) (look_put kt h1 h4)
theorem enterX {f : FuncId} {fn : Func} {c : Code} {ds : List D} {R : D → List (Nat × Blk) → List (Nat × Value) → Prop} {rs : List ResultVar} (ht : TabOK P tab)
    (hf : P.funcs[f]? = some fn) (hb : fn.body = some c) (hn : (fn.name == "runtime.NumGoroutine") = false) {N : Nat} (hN : fn.ntmps = N) (hl : Nat.ble ds.length N = true) (hrs : fn.results.toList = rs)
    (hw : ∀ C, wpD P C N c ⟨argT 0 ds, h, k⟩ (retX C tab rs R)) : CallsD P f ds h k R := by
  refine enter ht hf hb hn hN hl hrs fun C => ?_
  intro a w r
  refine wp_mono (hw C a w r) ?_
  rintro x a' w' ⟨s, ⟨H, c0, kt, hN, hdf⟩, hk⟩
  obtain ⟨s', H', hle, c', kt', hr⟩ := hk H a' w' c0 kt
  exact ⟨s', ⟨H', c', kt', hN, hdf⟩, hr⟩
theorem resL_cons {s : S} {r : ResultVar} {rs : List ResultVar} {d : D} {ds : List D} (h1 : resOne tab s r d) (h2 : resL tab s rs ds) : resL tab s (r :: rs) (d :: ds) := ⟨d, ds, rfl, h1, h2⟩
theorem resOne_tmp {s : S} {i : Nat} {d : D} (h1 : look s.t i = some d) : resOne tab s (.tmp i) d := h1
theorem resOne_cell {s : S} {a b off : Nat} {T T' : TypeId} {ds : List D} {i : TI} {d : D} (j : Nat) (h1 : look s.t a = some (.ptr b off)) (h2 : s.h[j]? = some (b, Blk.cells ds T')) (h3 : ti tab T = some i) (h4 : partD i ds off = some d) : resOne tab s (.cell a T) d := ⟨j, b, off, ds, T', i, h1, h2, h3, h4⟩
theorem retD_mk {R : D → List (Nat × Blk) → List (Nat × Value) → Prop} {rs : List ResultVar} {x : Exit} {s : S} {ds : List D} {hh : List (Nat × Blk)} {kk : List (Nat × Value)} (hx : x = .ret ∨ x = .normal) (hr : resL tab s rs ds) (hs : hh.Sublist s.h) (ks : kk.Sublist s.k) (g : R (wrapD ds) hh kk) : retD tab rs R x s := ⟨hx, ds, hh, kk, hr, hs, ks, g⟩
theorem p_mapD {α : Type} {e0 : α → D} {i kk : Nat} {xs ys zs : List α} {bb : Nat} {c : Cap} (q : app bb xs ys = some zs) (hx : look t i = some (.lst kk (xs.map e0 ++ ys.map e0) c)) (g : opsD P C N ops rest ⟨(i, .lst kk (zs.map e0) c) :: t, h, k⟩ Q) : opsD P C N ops rest ⟨t, h, k⟩ Q :=
  p_eq hx (Wk.of_eq (by rw [app_map q])) g
end
section
variable {P : Program} {C : Ctx} {N : Nat} {ops rest : List Oper} {o : Oper} {t : List (Nat × D)} {h : List (Nat × Blk)} {k : List (Nat × Value)} {Q : Exit → S → Prop} {tab : List (Option TI)}
theorem midX_inl {τ ρ Y : Type} {S1 : τ → Y → S} {s : S} {v : τ} (g : WkX C s (S1 v)) : midX (ρ := ρ) C S1 Q (.inl v) .normal s := ⟨rfl, g⟩
theorem midX_inr {τ ρ Y : Type} {S1 : τ → Y → S} {s : S} {r : ρ} (g : Q .ret s) : midX C S1 Q (.inr r) .ret s := ⟨rfl, g⟩
theorem CallsD.drop {f : FuncId} {ds : List D} {R : D → List (Nat × Blk) → List (Nat × Value) → Prop} {d1 : D} (c : CallsD P f ds h k R) (hr : ∀ d h k, R d h k → Wk d d1) : CallsD P f ds h k (fun d h k => d = d1 ∧ h = [] ∧ k = []) := by
  refine ⟨c.1, fun H w vs h1 h2 h3 h4 h5 => (c.2 H w vs h1 h2 h3 h4 h5).mono ?_⟩
  rintro e w' ⟨v, H', d, h', k', e1, e2, e3, e4⟩
  exact ⟨v, H', d1, [], [], e1, hr d h' k' e4 H' v e2, e3.drop (List.nil_sublist _) (List.nil_sublist _), rfl, rfl, rfl⟩
theorem Ex.wk {d d' : D} (h : Ex P o t d) (k : Wk d d') : Ex P o t d' := fun H a w kt => let ⟨v, h1, h2⟩ := h H a w kt; ⟨v, h1, k H v h2⟩
theorem ExE.wk {d d' : D} (h : ExE P o t d) (k : Wk d d') : ExE P o t d' := fun H a w hA kt => let ⟨v, w', H', h1, h2, h3⟩ := h H a w hA kt; ⟨v, w', H', h1, h2, k H' v h3⟩
end
def eI64 (n : Int) : D := .v (.int .i64 n)
end Go.Proofs.Ytpdekcfeecdlbaa.Ab
namespace Go.Proofs.Ytpdekcfeecdlbaa.Ab
open Go
set_option linter.all false
def Le {α : Type} (m m' : Option α) : Prop := ∀ r, m = some r → m' = some r
theorem Le.refl {α : Type} (m : Option α) : Le m m := fun _ h => h
theorem Le.none {α : Type} (m : Option α) : Le Option.none m := fun _ h => by cases h
theorem Le.bind {α β : Type} {m m' : Option α} {f f' : α → Option β} (h : Le m m') (k : ∀ x, Le (f x) (f' x)) : Le (m.bind f) (m'.bind f') := fun r e => by
  rw [Option.bind_eq_some_iff] at e ⊢
  obtain ⟨a, h1, h2⟩ := e
  exact ⟨a, h a h1, k a r h2⟩
theorem Le.cond {α : Type} {c : Bool} {m m' n n' : Option α} (h : Le m m') (k : Le n n') : Le (bif c then m else n) (bif c then m' else n') := by
  cases c
  · exact k
  · exact h
theorem Le.elim {α β γ : Type} {f f' : α → Option γ} {g g' : β → Option γ} {x : α ⊕ β} (h : ∀ a, Le (f a) (f' a)) (k : ∀ b, Le (g b) (g' b)) : Le (Sum.elim f g x) (Sum.elim f' g' x) := by
  cases x
  · exact h _
  · exact k _
theorem Le.loop {σ τ : Type} {f f' : σ → Option (Step σ τ)} {s : σ} (h : ∀ s, Le (f s) (f' s)) : Le (loopM f s) (loopM f' s) := fun r e => by
  obtain ⟨n, hn⟩ := loopM_inv e
  have key : ∀ n s, loopN f n s = some r → loopN f' n s = some r := by
    intro n
    induction n with
    | zero => intro s h; simp [loopN] at h
    | succ n ih =>
      intro s e
      simp only [loopN] at e ⊢
      cases hf : f s with
      | none => rw [hf] at e; cases e
      | some x =>
        rw [hf] at e
        rw [h s x hf]
        cases x with
        | next s' => exact ih s' e
        | done t => exact e
  exact loopM_of (key n s hn)
def shI (op : BinOp) (k : IntKind) (a b : Int) : Int :=
  match op with
  | .shl => k.wrap (a * 2 ^ (min b.toNat k.bits))
  | _ => a.fdiv (2 ^ (min b.toNat k.bits))
def isSh : BinOp → Bool
  | .shl => true | .shr => true | _ => false
def ltB (a b : ByteArray) : Bool := Op.bytesLess a.toList b.toList
section
variable {P : Program} {C : Ctx} {N : Nat} {ops rest : List Oper} {o : Oper} {t : List (Nat × D)} {h : List (Nat × Blk)} {k : List (Nat × Value)} {Q : Exit → S → Prop} {tab : List (Option TI)}
theorem x_sh {op : BinOp} {xt yt : TypeId} {x y : Operand} {kk jk : IntKind} {a b : Int} (ho : o.op = .binOp op xt x y yt) (hop : isSh op = true) (hx : opD t x = some (.v (.int kk a))) (hy : opD t y = some (.v (.int jk b))) (hb : 0 ≤ b) : Ex P o t (.v (.int kk (shI op kk a b))) := fun H ac w kt => by
  refine ⟨.int kk (shI op kk a b), ?_, rep_v rfl⟩
  unfold execOp
  rw [ho]
  refine exec_v ?_
  rw [rep_v_inv (opD_ok kt hx), rep_v_inv (opD_ok kt hy)]
  have hn : ¬ b < 0 := by omega
  cases op <;> simp [isSh] at hop <;> simp [eqGuard, binOp, Op.shift, shI, hn] <;> rfl
theorem p_sh {i : Nat} {op : BinOp} {xt yt : TypeId} {x y : Operand} {kk jk : IntKind} {a b : Int} (ho : o.op = .binOp op xt x y yt) (hop : isSh op = true) (hw : wantD ops t o = some true) (hd : o.dst = some i) (hi : Nat.blt i N = true) (hx : opD t x = some (.v (.int kk a))) (hy : opD t y = some (.v (.int jk b))) (hb : 0 ≤ b)
    (g : opsD P C N ops rest ⟨(i, .v (.int kk (shI op kk a b))) :: t, h, k⟩ Q) : opsD P C N ops (o :: rest) ⟨t, h, k⟩ Q := ops_run (s := ⟨t, h, k⟩) hw hd hi (x_sh ho hop hx hy hb) g
def strLV (op : BinOp) (a b : ByteArray) : Option Bool :=
  match op with
  | .lss => some (ltB a b)
  | .geq => some (!ltB a b)
  | .leq => some (ltB a b || a.toList == b.toList)
  | .gtr => some (!(ltB a b || a.toList == b.toList))
  | _ => none
theorem x_ltS {op : BinOp} {xt yt : TypeId} {x y : Operand} {a b : ByteArray} {r : Bool} (ho : o.op = .binOp op xt x y yt) (hx : opD t x = some (.v (.string a))) (hy : opD t y = some (.v (.string b))) (e : strLV op a b = some r) : Ex P o t (.v (.bool r)) := fun H ac w kt => by
  refine ⟨.bool r, ?_, rep_v rfl⟩
  unfold execOp
  rw [ho]
  refine exec_v ?_
  rw [rep_v_inv (opD_ok kt hx), rep_v_inv (opD_ok kt hy)]
  cases op <;> simp only [strLV, Option.some.injEq, reduceCtorEq] at e <;> subst e <;> simp [eqGuard, binOp, Op.stringOp, ltB] <;> rfl
theorem p_ltS {i : Nat} {op : BinOp} {xt yt : TypeId} {x y : Operand} {a b : ByteArray} {r : Bool} (ho : o.op = .binOp op xt x y yt) (hw : wantD ops t o = some true) (hd : o.dst = some i) (hi : Nat.blt i N = true) (hx : opD t x = some (.v (.string a))) (hy : opD t y = some (.v (.string b))) (e : strLV op a b = some r)
    (g : opsD P C N ops rest ⟨(i, .v (.bool r)) :: t, h, k⟩ Q) : opsD P C N ops (o :: rest) ⟨t, h, k⟩ Q := ops_run (s := ⟨t, h, k⟩) hw hd hi (x_ltS ho hx hy e) g
theorem x_max {T T' : TypeId} {x y : Operand} {kk : IntKind} {a b : Int} (ho : o.op = .call ⟨.builtin .max, [x, y].toArray, #[T, T']⟩) (hx : opD t x = some (.v (.int kk a))) (hy : opD t y = some (.v (.int kk b))) : Ex P o t (.v (.int kk (max a b))) := fun H ac w kt => by
  refine ⟨.int kk (max a b), exec_builtin (s := Builtin.max_) ho (fun _ _ => rfl) ?_, rep_v rfl⟩
  simp only [List.map_cons, List.map_nil, rep_v_inv (opD_ok kt hx), rep_v_inv (opD_ok kt hy)]
  show (pure (.int kk (if b > a then b else a)) : Sem Value).run P w = _
  have : max a b = if b > a then b else a := by split <;> omega
  rw [this]; rfl
theorem p_max {i : Nat} {T T' : TypeId} {x y : Operand} {kk : IntKind} {a b : Int} (ho : o.op = .call ⟨.builtin .max, [x, y].toArray, #[T, T']⟩) (hw : wantD ops t o = some true) (hd : o.dst = some i) (hi : Nat.blt i N = true) (hx : opD t x = some (.v (.int kk a))) (hy : opD t y = some (.v (.int kk b)))
    (g : opsD P C N ops rest ⟨(i, .v (.int kk (max a b))) :: t, h, k⟩ Q) : opsD P C N ops (o :: rest) ⟨t, h, k⟩ Q := ops_run (s := ⟨t, h, k⟩) hw hd hi (x_max ho hx hy) g
theorem repsV_append {H : Hp} : ∀ {l m : List D} {us vs : List Value}, RepsV H l us → RepsV H m vs → RepsV H (l ++ m) (us ++ vs)
  | [], m, us, vs, h, k => by simp only [RepsV] at h; subst h; simpa using k
  | d :: l, m, us, vs, h, k => by
    simp only [RepsV] at h
    obtain ⟨u, us', rfl, h1, h2⟩ := h
    simp only [List.cons_append, RepsV]
    exact ⟨u, _, rfl, h1, repsV_append h2 k⟩
theorem rep_fn_inv {H : Hp} {f : Fn} {as_ cs : List D} {y : Value} (h : Rep H (.fn f as_ cs) y) : ∃ vs ws, y = .func f vs.toArray ws.toArray ∧ RepsV H as_ vs ∧ RepsV H cs ws := by
  obtain ⟨h1, h2⟩ := h
  cases y <;> simp [D.shape] at h2 <;> simp [RepC, Value.cells] at h1 <;> simp [h1]
theorem callV_run {f : FuncId} {args : List Operand} {ts : Array TypeId} {x : Operand} {a : Act} {w : World} {vs ws : List Value} (ho : o.op = .call ⟨.value x, args.toArray, ts⟩) (hx : a.eval x = .func (.func f) vs.toArray ws.toArray) (h : Goes P f) : (execOp a.eval o).run P w = .ok (.enter f (vs ++ args.map a.eval ++ ws).toArray) w := by
  unfold execOp
  rw [ho]
  simp only []
  have : (resolve a.eval ⟨.value x, args.toArray, ts⟩ o.type).run P w = .ok ⟨.fn (.func f) ws.toArray, vs.toArray ++ (args.map a.eval).toArray⟩ w := by
    simp [resolve, Deferred.ofValue, hx]
    first | done | rfl
  rw [run_bind_ok this]
  show (callFunc f (vs.toArray ++ (args.map a.eval).toArray ++ ws.toArray)).run P w = _
  rw [callFunc_run h]
  simp
theorem p_callV {f : FuncId} {x : Operand} {args : List Operand} {ts : Array TypeId} {i : Nat} {as_ cs ds da ds' : List D} {h1 h2 : List (Nat × Blk)} {k1 k2 : List (Nat × Value)} {R : D → List (Nat × Blk) → List (Nat × Value) → Prop}
    (hc : CallsD P f ds' h1 k1 R) (hx : opD t x = some (.fn (.func f) as_ cs)) (ho : o.op = .call ⟨.value x, args.toArray, ts⟩) (hw : wantD ops t o = some true) (hd : o.dst = some i) (hi : Nat.blt i N = true) (ha : someMap args (opD t) = some ds) (hda : as_ ++ ds ++ cs = da) (hwk : WkL da ds')
    (hh : h.Perm (h1 ++ h2)) (hk : k.Perm (k1 ++ k2)) (g : ∀ d h' k', R d h' k' → opsD P C N ops rest ⟨(i, d) :: t, h' ++ h2, k' ++ k2⟩ Q) : opsD P C N ops (o :: rest) ⟨t, h, k⟩ Q := by
  subst hda
  rintro a w ⟨H, c, kt, hN, hdf⟩
  obtain ⟨vs, ws, ex, r1, r2⟩ := rep_fn_inv (opD_ok kt hx)
  unfold wpList
  rw [wantD_ok kt hw, if_pos rfl]
  refine .inl ?_
  unfold Oper.wp
  rw [callV_run ho ex hc.1, Oper.upon_enter]
  have c0 := c.perm hh hk
  have nd := (claims_append h1 h2 k1 k2).nodup_iff.1 c0.nd
  rw [List.nodup_append] at nd
  have hv := hwk H _ (repsV_append (repsV_append r1 (someMap_ok kt ha)) r2)
  have := hc.2 H w _ hv c.ag (fun p hp => c0.blks p (List.mem_append_left _ hp)) (fun p hp => c0.toks p (List.mem_append_left _ hp)) nd.1
  refine this.mono ?_
  rintro e w' ⟨v, H', d, h', k', rfl, hr, hcore, hR⟩
  simp only []
  rw [hd]
  refine g d h' k' hR _ _ ⟨H', Core.call c0 hcore, TOK.put (kt.mono hcore.le) (by rw [hN]; simpa using hi) hr, ?_, hdf⟩
  simp only [Act.put, Array.size_setIfInBounds]; exact hN
theorem p_callV0 {f : FuncId} {x : Operand} {args : List Operand} {ts : Array TypeId} {i : Nat} {as_ cs ds da ds' : List D} {R : D → Prop}
    (hc : CallsD P f ds' [] [] (fun d h k => R d ∧ h = [] ∧ k = [])) (hx : opD t x = some (.fn (.func f) as_ cs)) (ho : o.op = .call ⟨.value x, args.toArray, ts⟩) (hw : wantD ops t o = some true) (hd : o.dst = some i) (hi : Nat.blt i N = true) (ha : someMap args (opD t) = some ds) (hda : as_ ++ ds ++ cs = da) (hwk : WkL da ds')
    (g : ∀ d, R d → opsD P C N ops rest ⟨(i, d) :: t, h, k⟩ Q) : opsD P C N ops (o :: rest) ⟨t, h, k⟩ Q :=
  p_callV (h1 := []) (k1 := []) (h2 := h) (k2 := k) hc hx ho hw hd hi ha hda hwk (List.Perm.refl _) (List.Perm.refl _) fun d h' k' ⟨r, e1, e2⟩ => by subst e1; subst e2; exact g d r
end
end Go.Proofs.Ytpdekcfeecdlbaa.Ab
namespace Go.Proofs.Ytpdekcfeecdlbaa.Ab
open Go
set_option linter.all false
section
variable {P : Program} {C : Ctx} {N : Nat} {ops rest : List Oper} {o : Oper} {t : List (Nat × D)} {h : List (Nat × Blk)} {k : List (Nat × Value)} {Q : Exit → S → Prop} {tab : List (Option TI)}
end
end Go.Proofs.Ytpdekcfeecdlbaa.Ab
namespace Go.Proofs.Ytpdekcfeecdlbaa.Ab
open Go
set_option linter.all false
section
variable {P : Program} {C : Ctx} {N : Nat} {ops rest : List Oper} {o : Oper} {t : List (Nat × D)} {h : List (Nat × Blk)} {k : List (Nat × Value)} {Q : Exit → S → Prop} {tab : List (Option TI)}
end
end Go.Proofs.Ytpdekcfeecdlbaa.Ab
namespace Go.Proofs.Ytpdekcfeecdlbaa.Ab
open Go
set_option linter.all false
section
variable {P : Program} {C : Ctx} {N : Nat} {l : List Oper} {m : Nat} {De : Nat → D} {al : AL} {pre : List (List Nat)} {ev : List Nat} {h : List (Nat × Blk)} {k : List (Nat × Value)} {Q : Exit → S → Prop} {bs : Nat → Nat} {i : Nat} {o : Oper} {rest : List Oper} {te : TE}
theorem z_callV {f : FuncId} {z : Operand} {args : List Operand} {ts : Array TypeId} {j : Nat} {p : List Nat} {t : List (Nat × D)} {as_ cs ds da ds' : List D} {d : D} (hp : pre.getD i [] = p) (ht : vis p te = t) (hc : CallsD P f ds' [] [] (fun d' h k => d' = d ∧ h = [] ∧ k = [])) (hz : opD t z = some (.fn (.func f) as_ cs)) (ho : o.op = .call ⟨.value z, args.toArray, ts⟩)
    (ha : someMap args (opD t) = some ds) (hda : as_ ++ ds ++ cs = da) (hwk : WkL da ds') (hw : wantD l (vis [] te) o = some true) (hd : o.dst = some j) (hi : Nat.blt j N = true) (he : ev.contains i = true) (hna : isAl al i = false) (hDe : De i = d)
    (g : Zw P C N l m De al pre ev h k Q bs (i + 1) rest ((j, d, some i) :: te)) : Zw P C N l m De al pre ev h k Q bs i (o :: rest) te :=
  z_event hp hw hd hi he hna hDe (fun hh H a w c kt => by
    subst ht; subst hda
    obtain ⟨vs, ws, ex, r1, r2⟩ := rep_fn_inv (opD_ok kt hz)
    unfold Jx.Gives
    rw [callV_run ho ex hc.1]
    simp only []
    have hv := hwk H _ (repsV_append (repsV_append r1 (someMap_ok kt ha)) r2)
    refine (hc.2 H w _ hv c.ag (by simp) (by simp) (by simp [claims, blkClaim])).mono ?_
    rintro e w' ⟨v, H', d', h', k', rfl, hr, hcore, rfl, rfl, rfl⟩
    exact ⟨v, rfl, H', hcore.le, hcore, hr⟩) g
end
end Go.Proofs.Ytpdekcfeecdlbaa.Ab
namespace Go.Proofs.Ytpdekcfeecdlbaa.Ab
open Go
set_option linter.all false
section
variable {P : Program} {C : Ctx} {N : Nat} {ops rest : List Oper} {o : Oper} {t : List (Nat × D)} {h : List (Nat × Blk)} {k : List (Nat × Value)} {Q : Exit → S → Prop} {tab : List (Option TI)}
end
end Go.Proofs.Ytpdekcfeecdlbaa.Ab
namespace Go.Proofs.Ytpdekcfeecdlbaa.Ab
open Go
set_option linter.all false
abbrev SL (z : Option Addr × Nat × Nat) : Value := .slice z.1 z.2.1 z.2.2
abbrev Z3 := Option Addr × Nat × Nat
theorem flat_els {H H' : Hp} {k b : Nat} : ∀ {xs : List D} {us : List Value} {off : Nat}, H.le H' → FlatR H k xs us → Told H' b off us → Els H' k b off xs
  | [], us, off, _, _, _ => by simp [Els]
  | x :: xs, us, off, hle, h, ht => by
    obtain ⟨u1, u2, rfl, hl, ⟨h1, h2⟩, h3⟩ := h
    simp only [Els]
    refine ⟨⟨u1, hl, RepC.mono hle x u1 h1, fun j u e => ht j u (by rw [List.getElem?_append_left (List.getElem?_eq_some_iff.1 e).1]; exact e), h2⟩, flat_els hle h3 fun j u e => ?_⟩
    have := ht (k + j) u (by rw [List.getElem?_append_right (by omega)]; rw [hl]; simpa using e)
    rw [show off + k + j = off + (k + j) by omega]; exact this
theorem flat_len {H : Hp} {k : Nat} : ∀ {xs : List D} {us : List Value}, FlatR H k xs us → us.length = xs.length * k
  | [], us, h => by
    have : us = [] := h
    subst this; simp
  | x :: xs, us, h => by
    obtain ⟨u1, u2, rfl, hl, _, h3⟩ := h
    simp [hl, flat_len h3, Nat.add_mul]; omega
theorem flat_one {H : Hp} {k : Nat} : ∀ {xs : List D} {us : List Value}, FlatR H k xs us → ∀ u ∈ us, one u = true
  | [], us, h, u, hu => by
    have : us = [] := h
    subst this; cases hu
  | x :: xs, us, h, u, hu => by
    obtain ⟨u1, u2, rfl, hl, ⟨_, h2⟩, h3⟩ := h
    rcases List.mem_append.1 hu with x | x
    · exact h2 u x
    · exact flat_one h3 u x
theorem flat_append {H : Hp} {k : Nat} : ∀ {xs ys : List D} {us vs : List Value}, FlatR H k xs us → FlatR H k ys vs → FlatR H k (xs ++ ys) (us ++ vs)
  | [], ys, us, vs, h, g => by
    have : us = [] := h
    subst this; simpa using g
  | x :: xs, ys, us, vs, h, g => by
    obtain ⟨u1, u2, rfl, hl, h1, h3⟩ := h
    exact ⟨u1, u2 ++ vs, by simp, hl, h1, flat_append h3 g⟩
theorem told_sl {H : Hp} {k : Nat} {xs : List D} {y : Value} (h : RepC H (.lst k xs (.cur y)) [y]) : Rep H (.lst k xs (.cur y)) y := by
  have h0 := h
  simp only [RepC] at h
  obtain ⟨z, e, _, h⟩ := h
  simp at e
  subst e
  have h1 : one y = true := by
    rcases h with ⟨_, a, m, rfl, _⟩ | ⟨b, off, m, rfl, _⟩ <;> rfl
  exact rep_cell h0 h1 rfl
section
variable {C : Ctx} {t : List (Nat × D)} {h : List (Nat × Blk)} {k : List (Nat × Value)}
theorem row_told {H : Hp} {w : World} {r kk : Nat} {xs : List D} {y : Value} (hA : Ag H w) (hb : BlkOK H w (r, .row kk xs y)) :
    ∃ H', H.le H' ∧ Core ⟨H, w, claims [(r, .row kk xs y)] []⟩ H' [(r, .told kk xs y)] [(kk, y)] w := by
  rcases hb with ⟨a, rfl, rfl⟩ | ⟨b, m, us, rest, T, rfl, h0, hm, h1, h2, h3, h4⟩
  · refine ⟨H, Hp.le_refl H, hA, Hp.le_refl H, fun _ _ x => .inl x, fun _ _ _ => rfl, Nat.le_refl _, ?_, ?_, ?_, ?_, Env.refl w⟩
    · intro p hp
      simp only [List.mem_singleton] at hp; subst hp
      show RepC H _ _
      simp only [RepC, CapOK]
      exact ⟨_, rfl, by trivial, .inl ⟨by trivial, a, 0, rfl, fun _ => rfl⟩⟩
    · intro p hp
      simp only [List.mem_singleton] at hp; subst hp
      intro a n m e hlt
      simp only [Value.slice.injEq] at e
      omega
    · cases a <;> simp [claims, blkClaim, tokClaim]
    · cases a <;> simp [claims, blkClaim, tokClaim]
  · have hl := flat_len h2
    let H' : Hp := tell H b us
    have hle : H.le H' := fun a v e => by
      show (if a.block = b ∧ a.spot = none then us[a.off]? else H a) = some v
      rw [if_neg]
      · exact e
      · rintro ⟨q1, q2⟩
        obtain ⟨ab, ao, as_⟩ := a
        simp only at q1 q2; subst q1; subst q2
        rw [h4 ao] at e; cases e
    have htold : Told H' b 0 us := fun j u e => by
      show (if b = b ∧ (none : Option Nat) = none then us[0 + j]? else H _) = some u
      rw [if_pos ⟨rfl, rfl⟩, Nat.zero_add]; exact e
    have hcl : claims [(r, Blk.row kk xs (.slice (some ⟨b, 0, none⟩) xs.length m))] [] = [b] := by simp [claims, blkClaim, sliceClaim, hm]
    refine ⟨H', hle, ?_⟩
    rw [hcl]
    refine ⟨fun a v e => ?_, hle, fun a v e => ?_, fun _ _ _ => rfl, Nat.le_refl _, ?_, ?_, ?_, ?_, Env.refl w⟩
    · by_cases q : a.block = b ∧ a.spot = none
      · have : H' a = us[a.off]? := if_pos q
        rw [this] at e
        obtain ⟨ab, ao, as_⟩ := a
        simp only at q e
        obtain ⟨rfl, rfl⟩ := q
        simp only [World.cell?, h1, Option.isSome_none, Bool.false_eq_true, if_false, List.getElem?_toArray]
        rw [List.getElem?_append_left (List.getElem?_eq_some_iff.1 e).1]; exact e
      · have : H' a = H a := if_neg q
        rw [this] at e; exact hA a v e
    · by_cases q : a.block = b ∧ a.spot = none
      · exact .inr (.inr (by simp [q.1]))
      · have : H' a = H a := if_neg q
        rw [this] at e; exact .inl e
    · intro p hp
      simp only [List.mem_singleton] at hp; subst hp
      show RepC H' _ _
      simp only [RepC, CapOK]
      exact ⟨_, rfl, by trivial, .inr ⟨b, 0, m, rfl, h0, flat_els hle h2 htold⟩⟩
    · intro p hp
      simp only [List.mem_singleton] at hp; subst hp
      intro a n m' e hlt
      simp only [Value.slice.injEq, Option.some.injEq] at e
      obtain ⟨rfl, rfl, rfl⟩ := e
      refine ⟨_, T, h1, rfl, by simpa using h3, fun o ho => ?_⟩
      show (if b = b ∧ (none : Option Nat) = none then us[o]? else H _) = none
      rw [if_pos ⟨rfl, rfl⟩, List.getElem?_eq_none]
      simp only at ho; omega
    · simp only [claims, blkClaim, tokClaim, List.flatMap_cons, List.flatMap_nil, List.append_nil, List.nil_append]
      split <;> simp
    · intro x hx
      simp only [claims, blkClaim, tokClaim, List.flatMap_cons, List.flatMap_nil, List.append_nil, List.nil_append] at hx
      split at hx
      · exact .inl (by simpa using hx)
      · cases hx
theorem WkS.drop {h' : List (Nat × Blk)} (j : Nat) (e : h.eraseIdx j = h') : WkS C ⟨t, h, k⟩ ⟨t, h', k⟩ := fun H a w c kt => by
  subst e
  exact ⟨H, Hp.le_refl H, c.drop (List.eraseIdx_sublist _ _) (List.Sublist.refl _), kt⟩
end
section
variable {P : Program} {C : Ctx} {N : Nat} {ops rest : List Oper} {o : Oper} {t : List (Nat × D)} {h : List (Nat × Blk)} {k : List (Nat × Value)} {Q : Exit → S → Prop} {tab : List (Option TI)}
theorem row_len {H : Hp} {w : World} {r kk : Nat} {xs : List D} {y : Value} (h : BlkOK H w (r, .row kk xs y)) : ∃ a m, y = .slice a xs.length m := by
  rcases h with ⟨a, rfl, rfl⟩ | ⟨b, m, us, rest, T, rfl, _⟩
  · exact ⟨a, 0, rfl⟩
  · exact ⟨_, m, rfl⟩
end
end Go.Proofs.Ytpdekcfeecdlbaa.Ab
namespace Go.Proofs.Ytpdekcfeecdlbaa.Ab
open Go
set_option linter.all false
theorem first_row {P : Program} {w : World} {H : Hp} {r kk : Nat} {xs : List D} {y : Value} (hb : BlkOK H w (r, .row kk xs y)) :
    ∃ us : List Value, us.length = xs.length * kk ∧ FlatR H kk xs us ∧ (Builtin.firstCells kk xs.length y).run P w = .ok us.toArray w := by
  rcases hb with ⟨a, rfl, rfl⟩ | ⟨b, m, us, rest, T, rfl, h0, hm, h1, h2, h3, h4⟩
  · refine ⟨[], by simp, rfl, ?_⟩
    cases a with
    | none => rfl
    | some a => simp only [Builtin.firstCells, List.length_nil, Nat.zero_mul]; rfl
  · have hl := flat_len h2
    refine ⟨us, hl, h2, ?_⟩
    have hr : RowAt w b 0 us := fun j u e => by
      have := row_block h1 j u (by rw [List.getElem?_append_left (List.getElem?_eq_some_iff.1 e).1]; exact e)
      exact this
    have := run_loadCells (P := P) (xs.length * kk) hr (by omega)
    rw [← hl, List.take_length] at this
    simp only [Builtin.firstCells]
    rw [← hl]; exact this
theorem blk_drew {H : Hp} {w : World} {p : Nat × Blk} (h : BlkOK H w p) : BlkOK H (wDrew w) p := by
  obtain ⟨b, bl⟩ := p
  cases bl <;> first | exact h | exact Opq.later _ H H w (wDrew w) h (Hp.le_refl H) (fun _ _ => rfl) (fun _ _ q => q)
theorem app_runR {P : Program} {tab : List (Option TI)} (hT : TabOK P tab) {H : Hp} {w : World} {r kk bb : Nat} {T T' e e' : TypeId} {ty : TypeId} {i0 i1 ie : TI} {xs ys : List D} {v1 v2 : Value}
    (hA : Ag H w) (hrow : BlkOK H w (r, .row kk xs v1)) (hown : ∀ b ∈ claims [(r, .row kk xs v1)] [], b < w.heap.size)
    (hl2 : (Builtin.lenOf v2).run P w = .ok ys.length w) (hf2 : ∀ w', (∀ b, b < w.heap.size → w'.heap[b]? = w.heap[b]?) → ∃ us : List Value, us.length = ys.length * kk ∧ FlatR H kk ys us ∧ (Builtin.firstCells kk ys.length v2).run P w' = .ok us.toArray w')
    (hi0 : ti tab T = some i0) (hd0 : i0.d = .slice e) (hi1 : ti tab T' = some i1) (hd1 : i1.d = .slice e') (hie : ti tab e = some ie) (hks : ie.size = kk) (hbb : ie.bytes = bb) (hz : ie.zero.length = kk) (hb1 : 1 ≤ bb) (hbound : (xs.length + ys.length) * bb ≤ 140737488355328) :
    ∃ (z : Z3) (w' : World), (Builtin.append_ #[T, T'] ty #[v1, v2]).run P w = .ok (SL z) w' ∧ Core ⟨H, w, claims [(r, .row kk xs v1)] []⟩ H [(0, .row kk (xs ++ ys) (SL z))] [] w' := by
  subst hks; subst hbb
  have hTe := ti_ok hT hie
  obtain ⟨d0, u0, u1⟩ := run_underlying (w := w) (ti_ok hT hi0)
  have e0 := td_slice (u1.trans hd0); subst e0
  obtain ⟨d1, u2, u3⟩ := run_underlying (w := w) (ti_ok hT hi1)
  have e1 := td_slice (u3.trans hd1); subst e1
  obtain ⟨tif, z, t1, t2, t3, t4, t5⟩ := run_typeInfo (w := w) hTe
  have hneed : xs.length + ys.length ≤ 140737488355328 := Nat.le_trans (Nat.le_mul_of_pos_right _ hb1) hbound
  have start : ∀ base cap, v1 = .slice base xs.length cap → (Builtin.append_ #[T, T'] ty #[v1, v2]).run P w =
      (if xs.length + ys.length ≤ cap then (do
          let new ← Builtin.firstCells ie.size ys.length v2
          if let some a := base then storeCells (a.add (xs.length * ie.size)) new.toList
          pure (.slice base (xs.length + ys.length) cap) : Sem Value)
       else (do
          if ((xs.length + ys.length : Nat) : Int) > IntKind.i64.max ∧ ((false = true) ∨ (← Go.typeInfo e).bytes = 0) then runtimePanic (.error "growslice: len out of range")
          if Builtin.nextslicecap (xs.length + ys.length) cap * (← Go.typeInfo e).bytes > 2 ^ 48 then (if false then runtimePanic (.error "growslice: len out of range") else do
            if !(← Builtin.mayShare ie.size xs.length ys.length base v2) then mark .noRoom
            unsupported (.resourceLimit "append: a slice or a string whose bytes no memory bears"))
          let newCap ← choose (.appendCap (xs.length + ys.length) cap e)
          askRoom (newCap * (← Go.typeInfo e).bytes)
          let old ← Builtin.firstCells ie.size xs.length v1
          let new ← Builtin.firstCells ie.size ys.length v2
          let rest := Builtin.zeroCells (← Go.zeroValue e).cells (newCap - (xs.length + ys.length))
          pure (.slice (some (← newRow e (old ++ new ++ rest))) (xs.length + ys.length) newCap) : Sem Value)).run P w := by
    intro base cap hv
    subst hv
    unfold Builtin.append_
    simp only [List.getElem?_toArray, List.getElem?_cons_zero, List.getElem?_cons_succ]
    rw [run_bind_ok u0]
    simp only []
    rw [run_bind_ok (run_sizeOf hTe)]
    rw [run_bind_ok u2]
    simp only []
    rw [run_bind_ok (a := false) (w' := w) rfl]
    simp only [Bool.false_eq_true, if_false]
    rw [run_bind_ok hl2]
    simp only [Bool.not_false, if_true]
    rfl
  obtain ⟨base, cap, hv⟩ := row_len hrow
  by_cases hle : xs.length + ys.length ≤ cap
  · obtain ⟨us2, g1, g2, g3⟩ := hf2 w (fun _ _ => rfl)
    rw [start base cap hv, if_pos hle, run_bind_ok g3]
    rcases hrow with ⟨a, e1, e2⟩ | ⟨b, m, us, rest, TT, e1, h0, hm, h1, h2, h3, h4⟩
    · -- no room at all: nothing is added
      rw [hv] at e1
      simp only [Value.slice.injEq] at e1
      obtain ⟨rfl, e3, rfl⟩ := e1
      have hy : ys = [] := List.eq_nil_of_length_eq_zero (by omega)
      subst hy; subst e2
      have hu2 : us2 = [] := List.eq_nil_of_length_eq_zero (by simpa using g1)
      subst hu2
      refine ⟨(base, 0, 0), w, ?_, hA, Hp.le_refl H, fun _ _ x => .inl x, fun _ _ _ => rfl, Nat.le_refl _, ?_, by simp, ?_, ?_, Env.refl w⟩
      · cases base with
        | none => rfl
        | some a => simp only [storeCells]; rfl
      · intro p hp
        simp only [List.mem_singleton] at hp; subst hp
        exact .inl ⟨base, rfl, rfl⟩
      · cases base <;> simp [claims, blkClaim, sliceClaim]
      · cases base <;> simp [claims, blkClaim, sliceClaim]
    · rw [hv] at e1
      simp only [Value.slice.injEq] at e1
      obtain ⟨rfl, _, rfl⟩ := e1
      have hul := flat_len h2
      have hclaim : claims [(r, Blk.row ie.size xs v1)] [] = [b] := by rw [hv]; simp [claims, blkClaim, sliceClaim, hm]
      have hmk : (xs.length + ys.length) * ie.size ≤ cap * ie.size := Nat.mul_le_mul_right _ hle
      rw [Nat.add_mul] at hmk
      have hsz : 0 + xs.length * ie.size + us2.length ≤ (us ++ rest).length := by rw [g1]; omega
      obtain ⟨w', s1, s2, s3, s4, s5⟩ := run_storeCells (P := P) (b := b) (off := xs.length * ie.size) (T := TT) us2 0 w (us ++ rest) h1 (by omega) (flat_one g2)
      simp only [Nat.add_zero] at s5
      have ecells : (us ++ rest).take (xs.length * ie.size) ++ (us2 ++ (us ++ rest).drop (xs.length * ie.size + us2.length)) = (us ++ us2) ++ rest.drop us2.length := by
        rw [List.take_append_of_le_length (by omega), List.take_of_length_le (by omega), List.drop_append, List.drop_of_length_le (by omega), List.nil_append, List.append_assoc]
        congr 3; omega
      rw [ecells] at s5
      refine ⟨(some ⟨b, 0, none⟩, xs.length + ys.length, cap), w', ?_, ?_⟩
      · simp only [addr_add, Nat.zero_add]
        rw [run_bind_ok s1]; rfl
      · rw [hclaim]
        refine ⟨fun a v0 ea => ?_, Hp.le_refl H, fun _ _ x => .inl x, fun i _ hm => s4 i (by simpa using hm), by show w.heap.size ≤ w'.heap.size; omega, ?_, by simp, ?_, ?_, s2⟩
        · have hcell := hA a v0 ea
          by_cases qb : a.block = b
          · obtain ⟨ab, ao, as_⟩ := a
            simp only at qb; subst qb
            cases as_ with
            | some sp => simp [World.cell?, h1] at hcell
            | none => rw [h4 ao] at ea; cases ea
          · simp only [World.cell?] at hcell ⊢
            rw [s4 _ qb]; exact hcell
        · intro p hp
          simp only [List.mem_singleton] at hp; subst hp
          refine .inr ⟨b, cap, us ++ us2, rest.drop us2.length, TT, by simp [SL], by simpa using hle, hm, by simpa using s5, flat_append h2 g2, ?_, h4⟩
          have := congrArg List.length ecells
          simp only [List.length_append, List.length_take, List.length_drop] at this h3 ⊢
          omega
        · simp [claims, blkClaim, sliceClaim, hm]
        · intro x hx; simp [claims, blkClaim, sliceClaim, hm] at hx; subst hx; exact .inl (by simp)
  · have hgt : ¬ xs.length + ys.length ≤ cap := hle
    rw [start base cap hv, if_neg hgt]
    have hti : (Go.typeInfo e).run P w = .ok tif w := t1
    have hbytes : tif.bytes = ie.bytes := t3
    have hno1 : ¬ (((xs.length + ys.length : Nat) : Int) > IntKind.i64.max ∧ ((false = true) ∨ tif.bytes = 0)) := by
      rintro ⟨_, q | q⟩
      · cases q
      · omega
    have hno2 : ¬ (Builtin.nextslicecap (xs.length + ys.length) cap * tif.bytes > 2 ^ 48) := by
      have h5 := next_le (Nat.lt_of_not_le hgt)
      have h6 : Builtin.nextslicecap (xs.length + ys.length) cap * ie.bytes ≤ 2 * (xs.length + ys.length) * ie.bytes := Nat.mul_le_mul_right _ h5
      rw [Nat.mul_assoc] at h6
      rw [hbytes]
      omega
    have hforced : ∀ need, (Question.appendCap need cap e).forced = false := fun _ => rfl
    obtain ⟨newCap, hcap, hchoose⟩ : ∃ newCap, xs.length + ys.length ≤ newCap ∧ (choose (.appendCap (xs.length + ys.length) cap e)).run P w = .ok newCap (wDrew w) := by
      refine ⟨_, ?_, by simp only [choose, Sem.run, hforced]; rfl⟩
      simp only [Question.cut]; omega
    obtain ⟨zz, hz1, hz2⟩ := run_zeroValue (w := wDrew w) hTe
    obtain ⟨tif2, _, hti2, _⟩ := run_typeInfo (w := wDrew w) hTe
    obtain ⟨us1, f1, f2, f3⟩ := first_row (P := P) (blk_drew hrow)
    obtain ⟨us2, g1, g2, g3⟩ := hf2 (wDrew w) (fun _ _ => rfl)
    let restA := Builtin.zeroCells zz.cells (newCap - (xs.length + ys.length))
    have hrest : restA.size = (newCap - (xs.length + ys.length)) * ie.size := by
      show (Builtin.zeroCells zz.cells _).size = _
      unfold Builtin.zeroCells
      simp only [Array.size_map, Array.size_range]
      have : zz.cells.size = ie.size := by rw [← Array.length_toList, hz2, hz]
      rw [this]
    refine ⟨(some ⟨w.heap.size, 0, none⟩, xs.length + ys.length, newCap), (wDrew w).alloc (.cells (us1.toArray ++ us2.toArray ++ restA) e), ?_, ?_⟩
    · rw [run_bind_ok hti]
      rw [if_neg hno1]
      rw [run_bind_ok hti]
      rw [if_neg hno2]
      rw [run_bind_ok hchoose, run_bind_ok hti2, run_bind_ok askRoom_run, run_bind_ok f3, run_bind_ok g3, run_bind_ok hz1]
      rfl
    · have earr : us1.toArray ++ us2.toArray ++ restA = ((us1 ++ us2) ++ restA.toList).toArray := by simp
      rw [earr]
      have hsizew : (wDrew w).heap.size = w.heap.size := rfl
      have hcells : ((wDrew w).alloc (.cells ((us1 ++ us2) ++ restA.toList).toArray e)).heap[w.heap.size]? = some (.cells ((us1 ++ us2) ++ restA.toList).toArray e (0, 0)) := by
        rw [heap_alloc, hsizew, if_pos rfl]
      have hm0 : 0 < newCap := by omega
      refine ⟨fun a v e' => cell_alloc _ (hA a v e'), Hp.le_refl H, fun _ _ x => .inl x, fun b hb _ => ?_, ?_, ?_, by simp, ?_, ?_, ⟨rfl, rfl, rfl, Nat.le_refl _⟩⟩
      · rw [heap_alloc, hsizew, if_neg (by exact Nat.ne_of_lt hb)]; rfl
      · rw [size_alloc, hsizew]; exact Nat.le_succ _
      · intro p hp
        simp only [List.mem_singleton] at hp; subst hp
        refine .inr ⟨w.heap.size, newCap, us1 ++ us2, restA.toList, e, by simp [SL], by simpa using hcap, hm0, hcells, flat_append f2 g2, ?_, fun o => ?_⟩
        · simp only [List.length_append, Array.length_toList, hrest, f1, g1]
          rw [← Nat.add_mul, ← Nat.add_mul]
          exact Nat.mul_le_mul_right _ (by omega)
        · cases q : H ⟨w.heap.size, o, none⟩ with
          | none => rfl
          | some v => exact absurd (hA.lt q) (Nat.lt_irrefl _)
      · simp [claims, blkClaim, sliceClaim, hm0]
      · intro x hx; simp [claims, blkClaim, sliceClaim, hm0] at hx; subst hx; exact .inr (Nat.le_refl _)
section
variable {P : Program} {C : Ctx} {N : Nat} {ops rest : List Oper} {o : Oper} {t : List (Nat × D)} {h : List (Nat × Blk)} {k : List (Nat × Value)} {Q : Exit → S → Prop} {tab : List (Option TI)}
end
end Go.Proofs.Ytpdekcfeecdlbaa.Ab
namespace Go.Proofs.Ytpdekcfeecdlbaa.Ab
open Go
set_option linter.all false
section
variable {P : Program} {C : Ctx} {N : Nat} {ops rest : List Oper} {o : Oper} {t : List (Nat × D)} {h : List (Nat × Blk)} {k : List (Nat × Value)} {Q : Exit → S → Prop} {tab : List (Option TI)}
theorem p_callG {f : FuncId} {args : List Operand} {ts : Array TypeId} {i : Nat} {ds ds' : List D} {h1 h2 : List (Nat × Blk)} {k1 k2 : List (Nat × Value)} {R : D → List (Nat × Blk) → List (Nat × Value) → Prop}
    (hc : CallsD P f ds' h1 k1 R) (ho : o.op = .call ⟨.value (.func f), args.toArray, ts⟩) (hw : wantD ops t o = some true) (hd : o.dst = some i) (hi : Nat.blt i N = true) (ha : someMap args (opD t) = some ds) (hwk : WkL ds ds')
    (hh : h.Perm (h1 ++ h2)) (hk : k.Perm (k1 ++ k2)) (g : ∀ d h' k', R d h' k' → opsD P C N ops rest ⟨(i, d) :: t, h' ++ h2, k' ++ k2⟩ Q) : opsD P C N ops (o :: rest) ⟨t, h, k⟩ Q :=
  ops_call (s := ⟨t, h, k⟩) hc ho hw hd hi ha hwk hh hk g
theorem WkC.any {d : D} : WkC d .any := fun _ _ _ => by simp only [RepC]
end
end Go.Proofs.Ytpdekcfeecdlbaa.Ab
namespace Go.Proofs.Ytpdekcfeecdlbaa.Ab
open Go
set_option linter.all false
theorem Core.newRow {C : Ctx} {H : Hp} {h : List (Nat × Blk)} {k : List (Nat × Value)} {w : World} (c : Core C H h k w) {xs : List D} {us rest : List Value} {kk m : Nat} {T : TypeId} (hf : FlatR H kk xs us) (hm : xs.length ≤ m) (hl : m * kk ≤ (us ++ rest).length) (z : m = 0 → xs = []) :
    Core C H ((0, .row kk xs (SL (some ⟨w.heap.size, 0, none⟩, xs.length, m))) :: h) k (w.alloc (.cells (us ++ rest).toArray T)) := by
  have c0 : Core ⟨H, w, []⟩ H [(0, .row kk xs (SL (some ⟨w.heap.size, 0, none⟩, xs.length, m)))] [] (w.alloc (.cells (us ++ rest).toArray T)) := by
    refine ⟨fun a v e => cell_alloc _ (c.ag a v e), Hp.le_refl H, fun _ _ x => .inl x, fun b hb _ => ?_, ?_, ?_, by simp, ?_, ?_, ⟨rfl, rfl, rfl, Nat.le_refl _⟩⟩
    · rw [heap_alloc, if_neg (by exact Nat.ne_of_lt hb)]
    · rw [size_alloc]; exact Nat.le_succ _
    · intro p hp
      simp only [List.mem_singleton] at hp; subst hp
      by_cases q : m = 0
      · subst q
        have := z rfl
        subst this
        exact .inl ⟨_, rfl, rfl⟩
      · refine .inr ⟨w.heap.size, m, us, rest, T, rfl, hm, by omega, by rw [heap_alloc, if_pos rfl], hf, hl, fun o => ?_⟩
        cases e : H ⟨w.heap.size, o, none⟩ with
        | none => rfl
        | some v => exact absurd (c.ag.lt e) (Nat.lt_irrefl _)
    · simp only [claims, blkClaim, sliceClaim, List.flatMap_cons, List.flatMap_nil, List.append_nil]
      split <;> simp
    · intro b hb
      simp only [claims, blkClaim, sliceClaim, List.flatMap_cons, List.flatMap_nil, List.append_nil] at hb
      split at hb
      · simp at hb; subst hb
        exact .inr (Nat.le_refl _)
      · cases hb
  have := Core.call (h1 := []) (k1 := []) (h2 := h) (k2 := k) c c0
  simpa using this
section
variable {P : Program} {C : Ctx} {N : Nat} {ops rest : List Oper} {o : Oper} {t : List (Nat × D)} {h : List (Nat × Blk)} {k : List (Nat × Value)} {Q : Exit → S → Prop} {tab : List (Option TI)}
end
end Go.Proofs.Ytpdekcfeecdlbaa.Ab
namespace Go.Proofs.Ytpdekcfeecdlbaa.Ab
open Go
set_option linter.all false
theorem loop_pre {σ τ α β : Type} {f : σ → Option (Step σ τ)} (l : List β) (g : List β → α) (st : α → Nat → σ) (fin : α → τ)
    (h1 : ∀ pre x post, l = pre ++ x :: post → f (st (g pre) pre.length) = some (.next (st (g (pre ++ [x])) (pre.length + 1))))
    (h2 : f (st (g l) l.length) = some (.done (fin (g l)))) : loopM f (st (g []) 0) = some (fin (g l)) := by
  have key : ∀ (post pre : List β), l = pre ++ post → loopM f (st (g pre) pre.length) = some (fin (g l)) := by
    intro post
    induction post with
    | nil => intro pre h; rw [List.append_nil] at h; subst h; exact loopM_done h2
    | cons x post ih =>
      intro pre h
      rw [loopM_next (h1 pre x post h)]
      have := ih (pre ++ [x]) (by simp [h])
      simpa using this
  simpa using key l [] rfl
theorem loop_list {σ τ α β ρ : Type} {f : σ → Option (Step σ τ)} {s0 : σ} {k : τ → Option ρ} {r : Option ρ} (l : List β) (g : List β → α) (st : α → Nat → σ) (fin : α → τ) (h0 : st (g []) 0 = s0)
    (h1 : ∀ pre x post, l = pre ++ x :: post → f (st (g pre) pre.length) = some (.next (st (g (pre ++ [x])) (pre.length + 1))))
    (h2 : f (st (g l) l.length) = some (.done (fin (g l)))) (hk : k (fin (g l)) = r) : Option.bind (loopM f s0) k = r := by
  subst h0
  rw [loop_pre l g st fin h1 h2]; exact hk
theorem idx_pre {β : Type} (pre : List β) (x : β) (post : List β) : idx (pre ++ x :: post) (pre.length : Int) = some x := by
  rw [idx_nat]; simp
theorem lt_pre {β : Type} {l pre : List β} {x : β} {post : List β} (h : l = pre ++ x :: post) : decide ((pre.length : Int) < (l.length : Int)) = true := by
  subst h; simp; omega
theorem lt_end {β : Type} (l : List β) : decide ((l.length : Int) < (l.length : Int)) = false := by simp
theorem inc_pre {β : Type} {l pre : List β} {x : β} {post : List β} (h : l = pre ++ x :: post) (hb : l.length ≤ 4611686018427387904) : IntKind.i64.wrap ((pre.length : Int) + 1) = ((pre.length + 1 : Nat) : Int) := by
  have : pre.length < l.length := by subst h; simp
  rw [IntKind.wrap_i64]; omega
theorem app_len {β : Type} {bb : Nat} {xs ys : List β} (hb : bb ≤ 4096) (h : xs.length + ys.length ≤ 8388608) : app bb xs ys = some (xs ++ ys) := by
  refine app_of ?_
  have := Nat.mul_le_mul h hb
  omega
theorem idx_pre2 {β : Type} {m p : List β} {x : β} {q : List β} {n : Nat} (h : m = p ++ x :: q) (hn : n = p.length) : idx m (n : Int) = some x := by
  subst h hn; exact idx_pre _ _ _
theorem loop_all {β : Type} {l : List β} {f : Int → Option (Step Int (Unit ⊕ Bool))} (h1 : ∀ p x q, l = p ++ x :: q → f (p.length : Int) = some (.next ((p.length + 1 : Nat) : Int))) (h2 : f (l.length : Int) = some (.done (.inl ()))) : loopM f (0 : Int) = some (.inl ()) :=
  loop_pre l (fun _ => ()) (fun _ n => (n : Int)) (fun _ => .inl ()) (fun p x q h => h1 p x q h) h2
end Go.Proofs.Ytpdekcfeecdlbaa.Ab
namespace Go.Proofs.Ytpdekcfeecdlbaa.Ab
open Go
set_option linter.all false
theorem Le.of {α : Type} {m m' : Option α} {r : α} (h : Le m m') (e : m = some r) : m' = some r := h r e
end Go.Proofs.Ytpdekcfeecdlbaa.Ab
namespace Go.Proofs.Ytpdekcfeecdlbaa.Ab
open Go
set_option linter.all false
abbrev RL := List (Nat × Nat × List D)
def isR (rl : RL) (e : Nat) : Bool := rl.any fun x => x.1 == e
def dR (rl : RL) (e : Nat) (d : D) (v : Value) : D := bif isR rl e then .v v else d
section
variable (P : Program) (C : Ctx) (N : Nat) (l : List Oper) (m : Nat) (De : Nat → D) (al : AL) (rl : RL) (pre : List (List Nat)) (ev : List Nat) (h : List (Nat × Blk)) (k : List (Nat × Value)) (Q : Exit → S → Prop)
def dEr (bs : Nat → Value) (e : Nat) : D := bif isAl al e then .ptr (blk (bs e)) 0 else dR rl e (De e) (bs e)
def TOKr (H0 : Hp) (bs : Nat → Value) (vals : Nat → Value) (te : TE) (a : Act) : Prop :=
  ∀ j d o, look3 te j = some (d, o) → ∃ v, a.tmps[j]? = some v ∧ (o = none → ∀ H, H0.le H → Rep H d v) ∧ ∀ e, o = some e → v = vals e ∧ d = dEr De al rl bs e ∧ ev.contains e = true
end
section
variable {P : Program} {C : Ctx} {N : Nat} {l : List Oper} {m : Nat} {De : Nat → D} {al : AL} {rl : RL} {pre : List (List Nat)} {ev : List Nat} {h : List (Nat × Blk)} {k : List (Nat × Value)} {Q : Exit → S → Prop} {tab : List (Option TI)} {bs : Nat → Value} {i : Nat} {o : Oper} {rest : List Oper} {te : TE}
theorem TOKr.put {H0 : Hp} {vals : Nat → Value} {a : Act} (kt : TOKr De al rl ev H0 bs vals te a) {j : Nat} {d : D} {o : Option Nat} {v : Value} (hj : j < a.tmps.size) (h1 : o = none → ∀ H, H0.le H → Rep H d v) (h2 : ∀ e, o = some e → v = vals e ∧ d = dEr De al rl bs e ∧ ev.contains e = true) :
    TOKr De al rl ev H0 bs vals ((j, d, o) :: te) (a.put (some j) v) := by
  intro j' d' o' e
  simp only [look3] at e
  simp only [Act.put]
  cases hb : Nat.beq j j' with
  | true =>
    rw [hb] at e; simp at e
    obtain ⟨rfl, rfl⟩ := e
    have := Nat.eq_of_beq_eq_true hb; subst this
    exact ⟨v, by simp [hj], h1, h2⟩
  | false =>
    rw [hb] at e; simp at e
    have hne : j ≠ j' := Nat.ne_of_beq_eq_false hb
    obtain ⟨u, h3, h4⟩ := kt j' d' o' e
    exact ⟨u, by rw [Array.getElem?_setIfInBounds_ne hne]; exact h3, h4⟩
end
section
variable {P : Program} {C : Ctx} {N : Nat} {l : List Oper} {m : Nat} {De : Nat → D} {al : AL} {rl : RL} {pre : List (List Nat)} {ev : List Nat} {h : List (Nat × Blk)} {k : List (Nat × Value)} {Q : Exit → S → Prop} {tab : List (Option TI)} {bs : Nat → Value} {i : Nat} {o : Oper} {rest : List Oper} {te : TE}
end
end Go.Proofs.Ytpdekcfeecdlbaa.Ab
namespace Go.Proofs.Ytpdekcfeecdlbaa.Ab
open Go
set_option linter.all false
def tab : List (Option TI) := [none,
  some ⟨.other, 1, 8, [.nilFunc]⟩,
  some ⟨.int .i64, 1, 8, [.int .i64 0]⟩,
  some ⟨.int .i64, 1, 8, [.int .i64 0]⟩,
  some ⟨.bool, 1, 1, [.bool false]⟩,
  some ⟨.int .u8, 1, 1, [.int .u8 0]⟩,
  some ⟨.int .u8, 1, 1, [.int .u8 0]⟩,
  some ⟨.struct [(2, 0), (3, 1), (4, 2), (6, 3)], 4, 24, [.int .i64 0, .int .i64 0, .bool false, .int .u8 0]⟩,
  some ⟨.struct [(2, 0), (3, 1), (4, 2), (6, 3)], 4, 24, [.int .i64 0, .int .i64 0, .bool false, .int .u8 0]⟩,
  some ⟨.str, 1, 16, [.string ByteArray.empty]⟩,
  some ⟨.str, 1, 16, [.string ByteArray.empty]⟩,
  some ⟨.str, 1, 16, [.string ByteArray.empty]⟩,
  some ⟨.int .u64, 1, 8, [.int .u64 0]⟩,
  some ⟨.struct [(9, 0), (12, 1)], 2, 24, [.string ByteArray.empty, .int .u64 0]⟩,
  some ⟨.struct [(9, 0), (12, 1)], 2, 24, [.string ByteArray.empty, .int .u64 0]⟩,
  some ⟨.ptr 78, 1, 8, [.pointer none]⟩,
  some ⟨.ptr 81, 1, 8, [.pointer none]⟩,
  some ⟨.ptr 91, 1, 8, [.pointer none]⟩,
  some ⟨.struct [(17, 0)], 1, 8, [.pointer none]⟩,
  some ⟨.struct [(17, 0)], 1, 8, [.pointer none]⟩,
  none,
  some ⟨.int .i32, 1, 4, [.int .i32 0]⟩,
  some ⟨.slice 48, 1, 24, [.slice none 0 0]⟩,
  some ⟨.slice 34, 1, 24, [.slice none 0 0]⟩,
  some ⟨.ptr 46, 1, 8, [.pointer none]⟩,
  some ⟨.other, 1, 8, [.nilFunc]⟩,
  some ⟨.slice 52, 1, 24, [.slice none 0 0]⟩,
  some ⟨.other, 1, 8, [.nilFunc]⟩,
  some ⟨.other, 1, 8, [.nilFunc]⟩,
  some ⟨.other, 1, 8, [.nilFunc]⟩,
  some ⟨.other, 1, 8, [.nilFunc]⟩,
  some ⟨.other, 1, 8, [.nilFunc]⟩,
  some ⟨.other, 1, 8, [.nilFunc]⟩,
  some ⟨.struct [(9, 0), (3, 1)], 2, 24, [.string ByteArray.empty, .int .i64 0]⟩,
  some ⟨.struct [(9, 0), (3, 1)], 2, 24, [.string ByteArray.empty, .int .i64 0]⟩,
  some ⟨.other, 1, 8, [.nilFunc]⟩,
  some ⟨.other, 1, 8, [.nilFunc]⟩,
  some ⟨.other, 1, 8, [.nilFunc]⟩,
  some ⟨.other, 1, 8, [.nilFunc]⟩,
  some ⟨.other, 1, 8, [.nilFunc]⟩,
  some ⟨.other, 1, 8, [.nilFunc]⟩,
  some ⟨.other, 1, 8, [.nilFunc]⟩,
  some ⟨.other, 1, 8, [.nilFunc]⟩,
  some ⟨.map 34 23, 1, 8, [.map none]⟩,
  some ⟨.map 34 23, 1, 8, [.map none]⟩,
  some ⟨.struct [(44, 0), (44, 1)], 2, 16, [.map none, .map none]⟩,
  some ⟨.struct [(44, 0), (44, 1)], 2, 16, [.map none, .map none]⟩,
  some ⟨.struct [(3, 0), (34, 1), (34, 3)], 5, 56, [.int .i64 0, .string ByteArray.empty, .int .i64 0, .string ByteArray.empty, .int .i64 0]⟩,
  some ⟨.struct [(3, 0), (34, 1), (34, 3)], 5, 56, [.int .i64 0, .string ByteArray.empty, .int .i64 0, .string ByteArray.empty, .int .i64 0]⟩,
  some ⟨.other, 1, 8, [.nilFunc]⟩,
  some ⟨.other, 1, 8, [.nilFunc]⟩,
  some ⟨.struct [(34, 0), (34, 2)], 4, 48, [.string ByteArray.empty, .int .i64 0, .string ByteArray.empty, .int .i64 0]⟩,
  some ⟨.struct [(34, 0), (34, 2)], 4, 48, [.string ByteArray.empty, .int .i64 0, .string ByteArray.empty, .int .i64 0]⟩,
  some ⟨.other, 1, 8, [.nilFunc]⟩,
  some ⟨.other, 1, 8, [.nilFunc]⟩,
  some ⟨.other, 1, 8, [.nilFunc]⟩,
  some ⟨.other, 1, 8, [.nilFunc]⟩,
  none,
  some ⟨.other, 1, 8, [.nilFunc]⟩,
  none,
  some ⟨.other, 1, 8, [.nilFunc]⟩,
  some ⟨.other, 1, 8, [.nilFunc]⟩,
  some ⟨.other, 1, 8, [.nilFunc]⟩,
  some ⟨.other, 1, 8, [.nilFunc]⟩,
  some ⟨.slice 23, 1, 24, [.slice none 0 0]⟩,
  some ⟨.other, 1, 8, [.nilFunc]⟩,
  some ⟨.int .u64, 1, 8, [.int .u64 0]⟩,
  some ⟨.other, 1, 8, [.nilFunc]⟩,
  some ⟨.other, 1, 8, [.nilFunc]⟩,
  some ⟨.other, 1, 8, [.nilFunc]⟩,
  some ⟨.other, 1, 8, [.nilFunc]⟩,
  some ⟨.other, 1, 8, [.nilFunc]⟩,
  some ⟨.slice 3, 1, 24, [.slice none 0 0]⟩,
  some ⟨.other, 1, 8, [.nilFunc]⟩,
  some ⟨.other, 1, 8, [.nilFunc]⟩,
  some ⟨.other, 1, 8, [.nilFunc]⟩,
  some ⟨.other, 1, 8, [.nilFunc]⟩,
  some ⟨.struct [(17, 0), (17, 1), (17, 2), (9, 3)], 4, 40, [.pointer none, .pointer none, .pointer none, .string ByteArray.empty]⟩,
  some ⟨.struct [(17, 0), (17, 1), (17, 2), (9, 3)], 4, 40, [.pointer none, .pointer none, .pointer none, .string ByteArray.empty]⟩,
  some ⟨.array 0 16, 0, 0, []⟩,
  some ⟨.struct [(79, 0)], 0, 0, []⟩,
  some ⟨.struct [(79, 0)], 0, 0, []⟩,
  some ⟨.other, 1, 8, [.nilFunc]⟩,
  some ⟨.int .u32, 1, 4, [.int .u32 0]⟩,
  some ⟨.int .u8, 1, 1, [.int .u8 0]⟩,
  some ⟨.int .u8, 1, 1, [.int .u8 0]⟩,
  some ⟨.other, 1, 8, [.nilFunc]⟩,
  some ⟨.ptr 5, 1, 8, [.pointer none]⟩,
  some ⟨.int .i32, 1, 4, [.int .i32 0]⟩,
  some ⟨.int .i32, 1, 4, [.int .i32 0]⟩,
  some ⟨.struct [(12, 0), (12, 1), (83, 2), (84, 3), (5, 4), (5, 5), (85, 6), (86, 7), (87, 8), (88, 9), (89, 10)], 11, 48, [.int .u64 0, .int .u64 0, .int .u32 0, .int .u8 0, .int .u8 0, .int .u8 0, .int .u8 0, .nilFunc, .pointer none, .int .i32 0, .int .i32 0]⟩,
  some ⟨.struct [(12, 0), (12, 1), (83, 2), (84, 3), (5, 4), (5, 5), (85, 6), (86, 7), (87, 8), (88, 9), (89, 10)], 11, 48, [.int .u64 0, .int .u64 0, .int .u32 0, .int .u8 0, .int .u8 0, .int .u8 0, .int .u8 0, .nilFunc, .pointer none, .int .i32 0, .int .i32 0]⟩,
  none]
theorem htab : TabOK Try.prog tab := tab_ok (P := Try.prog) (by kernel_rfl)
theorem eqt34 : EqT Try.prog 34 := ⟨by kernel_rfl, by kernel_rfl, by kernel_rfl⟩
abbrev eqn52 : List Nat := [52, 34]
theorem eqs52 : ∀ t ∈ eqn52, EqT Try.prog t := by
  intro t h
  simp only [eqn52, List.mem_cons, List.not_mem_nil, or_false] at h
  rcases h with rfl | rfl <;> exact ⟨by kernel_rfl, by kernel_rfl, by kernel_rfl⟩
theorem eqg52 : Program.eqGuardType Try.prog (Program.depth Try.prog) 52 = false := by kernel_rfl
theorem ti3 : ti tab 3 = some ⟨.int .i64, 1, 8, [.int .i64 0]⟩ := rfl
theorem ti9 : ti tab 9 = some ⟨.str, 1, 16, [.string ByteArray.empty]⟩ := rfl
theorem ti22 : ti tab 22 = some ⟨.slice 48, 1, 24, [.slice none 0 0]⟩ := rfl
theorem ti34 : ti tab 34 = some ⟨.struct [(9, 0), (3, 1)], 2, 24, [.string ByteArray.empty, .int .i64 0]⟩ := rfl
theorem ti48 : ti tab 48 = some ⟨.struct [(3, 0), (34, 1), (34, 3)], 5, 56, [.int .i64 0, .string ByteArray.empty, .int .i64 0, .string ByteArray.empty, .int .i64 0]⟩ := rfl
end Go.Proofs.Ytpdekcfeecdlbaa.Ab
namespace Go.Proofs.Ytpdekcfeecdlbaa.Ab
open Go
set_option linter.all false
section
variable {P : Program} {C : Ctx} {N : Nat} {ops rest : List Oper} {o : Oper} {t : List (Nat × D)} {h : List (Nat × Blk)} {k : List (Nat × Value)} {Q : Exit → S → Prop}
theorem wpD_sr {id : Nat} {ops : List Oper} {y : Code} {s : S} (g : opsD P C N ops ops s (thenD (fun s' => wpD P C N y s' Q) Q)) : wpD P C N (.seq (.region id ops.toArray false) y) s Q := wpD_seq (wpD_region g)
theorem ops_nt {next : S → Prop} {s : S} (g : next s) : opsD P C N ops [] s (thenD next Q) := ops_nil (then_normal g)
theorem ops_n2 {id : Nat} {ops2 : List Oper} {y : Code} {s : S} {Q' : Exit → S → Prop} (g : opsD P C N ops2 ops2 s (thenD (fun s' => wpD P C N y s' Q) Q)) : opsD P C N ops [] s (thenD (fun s' => wpD P C N (.seq (.region id ops2.toArray false) y) s' Q) Q') := ops_nt (wpD_sr g)
theorem pu {i : Nat} {d : D} (g : opsD Try.prog C N ops rest ⟨(i, d) :: t, h, k⟩ Q) (hw : wantD ops t o = some true := by rfl) (hd : o.dst = some i := by rfl) (hi : Nat.blt i N = true := by rfl) (e : evP tab t o.op = some d := by rfl) : opsD Try.prog C N ops (o :: rest) ⟨t, h, k⟩ Q := p_pure htab hw hd hi e g
theorem p_st0 {hr : List (Nat × Blk)} {b off : Nat} {T T' : TypeId} {x y : Operand} {ds ds' : List D} {ti0 : TI} {d : D} (ho : o.op = .store T x y) (hw : wantD ops t o = some true) (hd : o.dst = none) (hx : opD t x = some (.ptr b off)) (hT : ti tab T = some ti0) (hy : opD t y = some d) (hs : stor d = true) (hsz : Nat.beq (dcells d).length ti0.size = true) (hle : Nat.ble (off + ti0.size) ds.length = true) (e : lay ds off (dcells d) = ds') (g : opsD Try.prog C N ops rest ⟨t, (b, .cells ds' T') :: hr, k⟩ Q) : opsD Try.prog C N ops (o :: rest) ⟨t, (b, .cells ds T') :: hr, k⟩ Q := p_store 0 htab ho hw hd hx rfl hT hy hs hsz hle e rfl g
theorem p_st1 {a0 : Nat × Blk} {hr : List (Nat × Blk)} {b off : Nat} {T T' : TypeId} {x y : Operand} {ds ds' : List D} {ti0 : TI} {d : D} (ho : o.op = .store T x y) (hw : wantD ops t o = some true) (hd : o.dst = none) (hx : opD t x = some (.ptr b off)) (hT : ti tab T = some ti0) (hy : opD t y = some d) (hs : stor d = true) (hsz : Nat.beq (dcells d).length ti0.size = true) (hle : Nat.ble (off + ti0.size) ds.length = true) (e : lay ds off (dcells d) = ds') (g : opsD Try.prog C N ops rest ⟨t, a0 :: (b, .cells ds' T') :: hr, k⟩ Q) : opsD Try.prog C N ops (o :: rest) ⟨t, a0 :: (b, .cells ds T') :: hr, k⟩ Q := p_store 1 htab ho hw hd hx rfl hT hy hs hsz hle e rfl g
theorem p_st2 {a0 a1 : Nat × Blk} {hr : List (Nat × Blk)} {b off : Nat} {T T' : TypeId} {x y : Operand} {ds ds' : List D} {ti0 : TI} {d : D} (ho : o.op = .store T x y) (hw : wantD ops t o = some true) (hd : o.dst = none) (hx : opD t x = some (.ptr b off)) (hT : ti tab T = some ti0) (hy : opD t y = some d) (hs : stor d = true) (hsz : Nat.beq (dcells d).length ti0.size = true) (hle : Nat.ble (off + ti0.size) ds.length = true) (e : lay ds off (dcells d) = ds') (g : opsD Try.prog C N ops rest ⟨t, a0 :: a1 :: (b, .cells ds' T') :: hr, k⟩ Q) : opsD Try.prog C N ops (o :: rest) ⟨t, a0 :: a1 :: (b, .cells ds T') :: hr, k⟩ Q := p_store 2 htab ho hw hd hx rfl hT hy hs hsz hle e rfl g
theorem p_st3 {a0 a1 a2 : Nat × Blk} {hr : List (Nat × Blk)} {b off : Nat} {T T' : TypeId} {x y : Operand} {ds ds' : List D} {ti0 : TI} {d : D} (ho : o.op = .store T x y) (hw : wantD ops t o = some true) (hd : o.dst = none) (hx : opD t x = some (.ptr b off)) (hT : ti tab T = some ti0) (hy : opD t y = some d) (hs : stor d = true) (hsz : Nat.beq (dcells d).length ti0.size = true) (hle : Nat.ble (off + ti0.size) ds.length = true) (e : lay ds off (dcells d) = ds') (g : opsD Try.prog C N ops rest ⟨t, a0 :: a1 :: a2 :: (b, .cells ds' T') :: hr, k⟩ Q) : opsD Try.prog C N ops (o :: rest) ⟨t, a0 :: a1 :: a2 :: (b, .cells ds T') :: hr, k⟩ Q := p_store 3 htab ho hw hd hx rfl hT hy hs hsz hle e rfl g
end
section
variable {P : Program} {C : Ctx} {N : Nat} {l : List Oper} {m : Nat} {De : Nat → D} {al : AL} {pre : List (List Nat)} {ev : List Nat} {h : List (Nat × Blk)} {k : List (Nat × Value)} {Q : Exit → S → Prop} {bs : Nat → Nat} {i : Nat} {o : Oper} {rest : List Oper} {te : TE}
theorem zqp {j : Nat} {x : Value} {p : List Nat} {t : List (Nat × D)} (g : Zw Try.prog C N l m De al pre ev h k Q bs (i + 1) rest ((j, .v x, none) :: te)) (hp : pre.getD i [] = p := by rfl) (ht : vis p te = t := by rfl) (hx : evP tab t o.op = some (.v x) := by rfl) (hw : wantD l (vis [] te) o = some true := by rfl) (hd : o.dst = some j := by rfl) (hi : Nat.blt j N = true := by rfl) (hne : ev.contains i = false := by rfl) (hone : one x = true := by rfl) (hpe : p.all ev.contains = true := by rfl) : Zw Try.prog C N l m De al pre ev h k Q bs i (o :: rest) te :=
  z_q hp ht (ex_pure htab hx) hw hd hi hne hone hpe g
theorem zep {j : Nat} {p : List Nat} {t : List (Nat × D)} {d : D} (g : Zw Try.prog C N l m De al pre ev h k Q bs (i + 1) rest ((j, d, some i) :: te)) (hp : pre.getD i [] = p := by rfl) (ht : vis p te = t := by rfl) (hx : evP tab t o.op = some d := by rfl) (hw : wantD l (vis [] te) o = some true := by rfl) (hd : o.dst = some j := by rfl) (hi : Nat.blt j N = true := by rfl) (he : ev.contains i = true := by rfl) (hna : isAl al i = false := by rfl) (hDe : De i = d := by rfl) : Zw Try.prog C N l m De al pre ev h k Q bs i (o :: rest) te :=
  z_e hp ht (ex_pure htab hx) hw hd hi he hna hDe g
end
def pickE {α : Type} : List Nat → List α → List α
  | [], _ => []
  | j :: js, l => match l[j]? with
    | some x => x :: pickE js (l.eraseIdx j)
    | none => []
def restE {α : Type} : List Nat → List α → List α
  | [], l => l
  | j :: js, l => match l[j]? with
    | some _ => restE js (l.eraseIdx j)
    | none => l
theorem pickE_perm {α : Type} : ∀ (js : List Nat) (l : List α), l.Perm (pickE js l ++ restE js l)
  | [], l => List.Perm.refl _
  | j :: js, l => by
    unfold pickE restE
    cases h : l[j]? with
    | none => exact List.Perm.refl _
    | some x => exact (perm_at h).trans ((pickE_perm js (l.eraseIdx j)).cons x)
section
variable {P : Program} {C : Ctx} {N : Nat} {ops rest : List Oper} {o : Oper} {t : List (Nat × D)} {h : List (Nat × Blk)} {k : List (Nat × Value)} {Q : Exit → S → Prop}
theorem rP {rs : List ResultVar} {R : D → List (Nat × Blk) → List (Nat × Value) → Prop} {x : Exit} {t' : List (Nat × D)} {ds : List D} (js ks : List Nat) (n : Nat) (e : ∀ i d, look t' i = some d → ∃ d0, look t i = some d0 ∧ Wk d0 d) (hr : resL tab ⟨t', pickE js h, pickE ks k⟩ rs ds) (g : R (wrapD ds) ((pickE js h).take n) (pickE ks k)) (hx : x = .ret ∨ x = .normal := by first | exact .inl rfl | exact .inr rfl) : retX C tab rs R x ⟨t, h, k⟩ :=
  retX.of (s' := ⟨t', pickE js h, pickE ks k⟩) (WkS.perm e (pickE_perm js h) (pickE_perm ks k)) (retD_mk hx hr (List.take_sublist n _) (List.Sublist.refl _) g)
theorem wC {t t' : List (Nat × D)} {j : Nat} {d0 : D} (g : ∀ i d, look t' i = some d → ∃ d1, look t i = some d1 ∧ Wk d1 d) (h0 : look t j = some d0 := by rfl) : ∀ i d, look ((j, d0) :: t') i = some d → ∃ d1, look t i = some d1 ∧ Wk d1 d := WkS.cons h0 (Wk.refl _) g
theorem wN {t : List (Nat × D)} : ∀ i d, look [] i = some d → ∃ d0, look t i = some d0 ∧ Wk d0 d := WkS.nil
theorem lN {s : S} : resL tab s [] [] := rfl
theorem lT {s : S} {i : Nat} {rs : List ResultVar} {d : D} {ds : List D} (h2 : resL tab s rs ds) (h1 : look s.t i = some d := by rfl) : resL tab s (.tmp i :: rs) (d :: ds) := resL_cons (resOne_tmp h1) h2
theorem lC {s : S} {a b off : Nat} {T T' : TypeId} {ds : List D} {i : TI} {d : D} {rs : List ResultVar} {ds' : List D} (j : Nat) (hr : resL tab s rs ds') (h1 : look s.t a = some (.ptr b off) := by rfl) (h2 : s.h[j]? = some (b, Blk.cells ds T') := by rfl) (h3 : ti tab T = some i := by rfl) (h4 : partD i ds off = some d := by rfl) : resL tab s (.cell a T :: rs) (d :: ds') := resL_cons (resOne_cell j h1 h2 h3 h4) hr
theorem Pf {α : Type} {l : List α} : l.Perm l := List.Perm.refl l
theorem Wl {ds : List D} : WkL ds ds := WkL.refl ds
theorem pL {i b off : Nat} {T T' : TypeId} {x : Operand} {ds : List D} {ti0 : TI} {d : D} (j : Nat) (g : opsD Try.prog C N ops rest ⟨(i, d) :: t, h, k⟩ Q) (ho : o.op = .load T x := by rfl) (hw : wantD ops t o = some true := by rfl) (hd : o.dst = some i := by rfl) (hi : Nat.blt i N = true := by rfl) (hx : opD t x = some (.ptr b off) := by rfl) (hb : h[j]? = some (b, .cells ds T') := by rfl) (hT : ti tab T = some ti0 := by rfl) (e : partD ti0 ds off = some d := by rfl) : opsD Try.prog C N ops (o :: rest) ⟨t, h, k⟩ Q := p_load j htab ho hw hd hi hx hb hT e g
theorem pK {i : Nat} (g : opsD Try.prog C N ops rest ⟨(i, .v (.tuple #[])) :: t, h, k⟩ Q) (hw : wantD ops t o = some false := by rfl) (hd : o.dst = some i := by rfl) (hi : Nat.blt i N = true := by rfl) : opsD Try.prog C N ops (o :: rest) ⟨t, h, k⟩ Q := p_skip hw hd hi g
theorem pS0 {hr : List (Nat × Blk)} {b off : Nat} {T T' : TypeId} {x y : Operand} {ds ds' : List D} {ti0 : TI} {d : D} (g : opsD Try.prog C N ops rest ⟨t, (b, .cells ds' T') :: hr, k⟩ Q) (ho : o.op = .store T x y := by rfl) (hw : wantD ops t o = some true := by rfl) (hd : o.dst = none := by rfl) (hx : opD t x = some (.ptr b off) := by rfl) (hT : ti tab T = some ti0 := by rfl) (hy : opD t y = some d := by rfl) (hs : stor d = true := by rfl) (hsz : Nat.beq (dcells d).length ti0.size = true := by rfl) (hle : Nat.ble (off + ti0.size) ds.length = true := by rfl) (e : lay ds off (dcells d) = ds' := by rfl) : opsD Try.prog C N ops (o :: rest) ⟨t, (b, .cells ds T') :: hr, k⟩ Q := p_st0 ho hw hd hx hT hy hs hsz hle e g
theorem pS1 {a0 : Nat × Blk} {hr : List (Nat × Blk)} {b off : Nat} {T T' : TypeId} {x y : Operand} {ds ds' : List D} {ti0 : TI} {d : D} (g : opsD Try.prog C N ops rest ⟨t, a0 :: (b, .cells ds' T') :: hr, k⟩ Q) (ho : o.op = .store T x y := by rfl) (hw : wantD ops t o = some true := by rfl) (hd : o.dst = none := by rfl) (hx : opD t x = some (.ptr b off) := by rfl) (hT : ti tab T = some ti0 := by rfl) (hy : opD t y = some d := by rfl) (hs : stor d = true := by rfl) (hsz : Nat.beq (dcells d).length ti0.size = true := by rfl) (hle : Nat.ble (off + ti0.size) ds.length = true := by rfl) (e : lay ds off (dcells d) = ds' := by rfl) : opsD Try.prog C N ops (o :: rest) ⟨t, a0 :: (b, .cells ds T') :: hr, k⟩ Q := p_st1 ho hw hd hx hT hy hs hsz hle e g
theorem pS2 {a0 a1 : Nat × Blk} {hr : List (Nat × Blk)} {b off : Nat} {T T' : TypeId} {x y : Operand} {ds ds' : List D} {ti0 : TI} {d : D} (g : opsD Try.prog C N ops rest ⟨t, a0 :: a1 :: (b, .cells ds' T') :: hr, k⟩ Q) (ho : o.op = .store T x y := by rfl) (hw : wantD ops t o = some true := by rfl) (hd : o.dst = none := by rfl) (hx : opD t x = some (.ptr b off) := by rfl) (hT : ti tab T = some ti0 := by rfl) (hy : opD t y = some d := by rfl) (hs : stor d = true := by rfl) (hsz : Nat.beq (dcells d).length ti0.size = true := by rfl) (hle : Nat.ble (off + ti0.size) ds.length = true := by rfl) (e : lay ds off (dcells d) = ds' := by rfl) : opsD Try.prog C N ops (o :: rest) ⟨t, a0 :: a1 :: (b, .cells ds T') :: hr, k⟩ Q := p_st2 ho hw hd hx hT hy hs hsz hle e g
theorem pS3 {a0 a1 a2 : Nat × Blk} {hr : List (Nat × Blk)} {b off : Nat} {T T' : TypeId} {x y : Operand} {ds ds' : List D} {ti0 : TI} {d : D} (g : opsD Try.prog C N ops rest ⟨t, a0 :: a1 :: a2 :: (b, .cells ds' T') :: hr, k⟩ Q) (ho : o.op = .store T x y := by rfl) (hw : wantD ops t o = some true := by rfl) (hd : o.dst = none := by rfl) (hx : opD t x = some (.ptr b off) := by rfl) (hT : ti tab T = some ti0 := by rfl) (hy : opD t y = some d := by rfl) (hs : stor d = true := by rfl) (hsz : Nat.beq (dcells d).length ti0.size = true := by rfl) (hle : Nat.ble (off + ti0.size) ds.length = true := by rfl) (e : lay ds off (dcells d) = ds' := by rfl) : opsD Try.prog C N ops (o :: rest) ⟨t, a0 :: a1 :: a2 :: (b, .cells ds T') :: hr, k⟩ Q := p_st3 ho hw hd hx hT hy hs hsz hle e g
end
section
variable {P : Program} {C : Ctx} {N : Nat} {l : List Oper} {m : Nat} {De : Nat → D} {al : AL} {pre : List (List Nat)} {ev : List Nat} {h : List (Nat × Blk)} {k : List (Nat × Value)} {Q : Exit → S → Prop} {bs : Nat → Nat} {i : Nat} {o : Oper} {rest : List Oper} {te : TE}
theorem zK {j : Nat} (g : Zw Try.prog C N l m De al pre ev h k Q bs (i + 1) rest ((j, .v (.tuple #[]), none) :: te)) (hw : wantD l (vis [] te) o = some false := by rfl) (hd : o.dst = some j := by rfl) (hi : Nat.blt j N = true := by rfl) (hne : ev.contains i = false := by rfl) : Zw Try.prog C N l m De al pre ev h k Q bs i (o :: rest) te := z_skip hw hd hi hne g
end
end Go.Proofs.Ytpdekcfeecdlbaa.Ab
namespace Go.Proofs.Ytpdekcfeecdlbaa.Ab
open Go
set_option linter.all false
def compareB (a b : ByteArray) : Int := Lib.compareBytes a.data.toList b.data.toList
theorem compareB_ok (a b : ByteArray) : CallsD Try.prog 42 [.v (.string a), .v (.string b)] [] [] (fun d h k => d = .v (.int .i64 (compareB a b)) ∧ h = [] ∧ k = []) :=
  of_calls (us := #[.string a, .string b]) ⟨_, Try.func42, rfl, rfl⟩ rfl (fun _ => rep_v rfl) fun w => (Try.strings_Compare a b w).mono fun _ w' ⟨h1, h2⟩ => ⟨h1, by subst h2; exact ⟨⟨rfl, rfl, rfl, Nat.le_refl _, fun _ _ => rfl⟩, Nat.le_refl _⟩⟩
end Go.Proofs.Ytpdekcfeecdlbaa.Ab
namespace Go.Proofs.Ytpdekcfeecdlbaa.Ab
open Go
set_option linter.all false
structure TApiKey where
  gName : ByteArray
  gNode : Int
def eTApiKey (x : TApiKey) : D := .agg [.v (.string x.gName), .v (.int .i64 x.gNode)]
noncomputable def key_Clean (a0 : TApiKey) : Option (TApiKey) :=
  some (⟨a0.gName, (max a0.gNode (-1 : Int))⟩ : TApiKey)
set_option maxRecDepth 100000 in
set_option maxHeartbeats 2000000 in
theorem key_Clean_ok (a0 : TApiKey) (r : TApiKey) (h0 : key_Clean a0 = some r) : CallsD Try.prog 29 [eTApiKey a0] [] [] (fun d h k => d = eTApiKey r ∧ h = [] ∧ k = []) := by
  have hm := yes_of h0
  unfold key_Clean at hm
  clear h0
  refine enterX htab Try.func29 rfl rfl rfl rfl rfl (fun C => ?_)
  refine wpD_sr ?_
  refine p_box rfl rfl rfl rfl rfl rfl rfl (fun b1 => ?_)
  refine p_alloc htab rfl rfl rfl rfl rfl rfl rfl (fun b2 => ?_)
  refine ops_n2 ?_
  refine pu ?_
  refine pL 0 ?_
  refine pu ?_
  refine pL 0 ?_
  refine p_max rfl rfl rfl rfl rfl rfl ?_
  refine p_build (r := [.v (.string a0.gName), .v (.int .i64 (max a0.gNode (-1 : Int)))]) htab rfl rfl rfl rfl rfl rfl rfl rfl rfl ?_
  refine pS1 (ds' := [.v (.string a0.gName), .v (.int .i64 (max a0.gNode (-1 : Int)))]) ?_
  refine ops_nt ?_
  refine wpD_ret ?_
  have er3 := yes_eq hm; subst er3
  refine rP (t' := [(2, .ptr b2 0)]) [1] [] 0 (wC wN) (lC 0 lN) ?_
  exact ⟨rfl, rfl, rfl⟩
noncomputable def cmp_isNaN_int (a0 : Int) : Option (Bool) :=
  some (a0 != a0)
set_option maxRecDepth 100000 in
set_option maxHeartbeats 2000000 in
theorem cmp_isNaN_int_ok (a0 : Int) (r : Bool) (h0 : cmp_isNaN_int a0 = some r) : CallsD Try.prog 49 [.v (.int .i64 a0)] [] [] (fun d h k => d = .v (.bool r) ∧ h = [] ∧ k = []) := by
  have hm := yes_of h0
  unfold cmp_isNaN_int at hm
  clear h0
  refine enterX htab Try.func49 rfl rfl rfl rfl rfl (fun C => ?_)
  refine wpD_sr ?_
  refine pu ?_
  refine ops_n2 ?_
  iterate 4 refine pu ?_
  refine ops_nt ?_
  refine wpD_ret ?_
  have er1 := yes_eq hm; subst er1
  refine rP (t' := [(2, .v (.bool (a0 != a0)))]) [] [] 0 (wC wN) (lT lN) ?_
  exact ⟨rfl, rfl, rfl⟩
noncomputable def cmp_Compare_int (a0 : Int) (a1 : Int) : Option (Int) :=
  ((cmp_isNaN_int a0).bind fun x1 => ((cmp_isNaN_int a1).bind fun x2 => (bif x1 then (bif x2 then some (0 : Int) else some (-1 : Int)) else (bif x2 then some (1 : Int) else (bif (decide (a0 < a1)) then some (-1 : Int) else (bif (decide (a1 < a0)) then some (1 : Int) else some (0 : Int)))))))
set_option maxRecDepth 100000 in
set_option maxHeartbeats 2000000 in
theorem cmp_Compare_int_ok (a0 : Int) (a1 : Int) (r : Int) (h0 : cmp_Compare_int a0 a1 = some r) : CallsD Try.prog 43 [.v (.int .i64 a0), .v (.int .i64 a1)] [] [] (fun d h k => d = .v (.int .i64 r) ∧ h = [] ∧ k = []) := by
  have hm := yes_of h0
  unfold cmp_Compare_int at hm
  clear h0
  refine enterX htab Try.func43 rfl rfl rfl rfl rfl (fun C => ?_)
  refine wpD_sr ?_
  refine pu ?_
  refine ops_n2 ?_
  refine pu ?_
  obtain ⟨x1, q1, hm⟩ := yes_bind hm
  refine p_call0 (cmp_isNaN_int_ok a0 x1 q1) rfl rfl rfl rfl rfl Wl ?_
  rintro _ rfl
  refine pu ?_
  refine ops_n2 ?_
  refine pu ?_
  obtain ⟨x2, q2, hm⟩ := yes_bind hm
  refine p_call0 (cmp_isNaN_int_ok a1 x2 q2) rfl rfl rfl rfl rfl Wl ?_
  rintro _ rfl
  refine pu ?_
  refine ops_nt ?_
  refine wpD_seq ?_
  refine wpD_sr ?_
  refine pu ?_
  refine ops_nt ?_
  refine wpD_cond rfl (fun hc5 => ?_) (fun hc5 => ?_)
  ·replace hm := yes_t hc5 hm
   refine wpD_seq ?_
   refine wpD_sr ?_
   refine pu ?_
   refine ops_nt ?_
   refine wpD_cond rfl (fun hc7 => ?_) (fun hc7 => ?_)
   ·replace hm := yes_t hc7 hm
    refine wpD_sr ?_
    refine pu ?_
    refine ops_nt ?_
    refine wpD_ret ?_
    refine then_ret ?_
    refine then_ret ?_
    have er8 := yes_eq hm; subst er8
    refine rP (t' := [(4, .v (.int .i64 (0 : Int)))]) [] [] 0 (wC wN) (lT lN) ?_
    exact ⟨rfl, rfl, rfl⟩
   ·replace hm := yes_f hc7 hm
    refine wpD_skip ?_
    refine then_normal ?_
    refine wpD_sr ?_
    refine pu ?_
    refine ops_nt ?_
    refine wpD_ret ?_
    refine then_ret ?_
    have er9 := yes_eq hm; subst er9
    refine rP (t' := [(4, .v (.int .i64 (-1 : Int)))]) [] [] 0 (wC wN) (lT lN) ?_
    exact ⟨rfl, rfl, rfl⟩
  ·replace hm := yes_f hc5 hm
   refine wpD_skip ?_
   refine then_normal ?_
   refine wpD_seq ?_
   refine wpD_sr ?_
   refine pu ?_
   refine ops_nt ?_
   refine wpD_cond rfl (fun hc11 => ?_) (fun hc11 => ?_)
   ·replace hm := yes_t hc11 hm
    refine wpD_sr ?_
    refine pu ?_
    refine ops_nt ?_
    refine wpD_ret ?_
    refine then_ret ?_
    have er12 := yes_eq hm; subst er12
    refine rP (t' := [(4, .v (.int .i64 (1 : Int)))]) [] [] 0 (wC wN) (lT lN) ?_
    exact ⟨rfl, rfl, rfl⟩
   ·replace hm := yes_f hc11 hm
    refine wpD_skip ?_
    refine then_normal ?_
    refine wpD_seq ?_
    refine wpD_sr ?_
    iterate 3 refine pu ?_
    refine ops_nt ?_
    refine wpD_cond rfl (fun hc14 => ?_) (fun hc14 => ?_)
    ·replace hm := yes_t hc14 hm
     refine wpD_sr ?_
     refine pu ?_
     refine ops_nt ?_
     refine wpD_ret ?_
     refine then_ret ?_
     have er15 := yes_eq hm; subst er15
     refine rP (t' := [(4, .v (.int .i64 (-1 : Int)))]) [] [] 0 (wC wN) (lT lN) ?_
     exact ⟨rfl, rfl, rfl⟩
    ·replace hm := yes_f hc14 hm
     refine wpD_skip ?_
     refine then_normal ?_
     refine wpD_seq ?_
     refine wpD_sr ?_
     iterate 3 refine pu ?_
     refine ops_nt ?_
     refine wpD_cond rfl (fun hc16 => ?_) (fun hc16 => ?_)
     ·replace hm := yes_t hc16 hm
      refine wpD_sr ?_
      refine pu ?_
      refine ops_nt ?_
      refine wpD_ret ?_
      refine then_ret ?_
      have er17 := yes_eq hm; subst er17
      refine rP (t' := [(4, .v (.int .i64 (1 : Int)))]) [] [] 0 (wC wN) (lT lN) ?_
      exact ⟨rfl, rfl, rfl⟩
     ·replace hm := yes_f hc16 hm
      refine wpD_skip ?_
      refine then_normal ?_
      refine wpD_sr ?_
      refine pu ?_
      refine ops_nt ?_
      refine wpD_ret ?_
      have er18 := yes_eq hm; subst er18
      refine rP (t' := [(4, .v (.int .i64 (0 : Int)))]) [] [] 0 (wC wN) (lT lN) ?_
      exact ⟨rfl, rfl, rfl⟩
noncomputable def cmp_Or_int (a0 : List Int) : Option (Int) :=
  (Option.bind (α := (Unit) ⊕ (Int)) (loopM (fun (s15 : Int) => (bif (decide (s15 < (a0.length : Int))) then ((idx a0 s15).bind fun x25 => (bif (x25 != (0 : Int)) then some (.done (.inr x25)) else some (.next (IntKind.i64.wrap (s15 + (1 : Int)))))) else some (.done (.inl ())))) (0 : Int)) (Sum.elim (fun y14 => some (0 : Int)) (fun r => some r)))
set_option maxRecDepth 100000 in
set_option maxHeartbeats 2000000 in
theorem cmp_Or_int_ok (a0 : List Int) (r : Int) (h0 : cmp_Or_int a0 = some r) : CallsD Try.prog 41 [.lst 1 (a0.map eI64) .no] [] [] (fun d h k => d = .v (.int .i64 r) ∧ h = [] ∧ k = []) := by
  have hm := yes_of h0
  unfold cmp_Or_int at hm
  clear h0
  refine enterX htab Try.func41 rfl rfl rfl rfl rfl (fun C => ?_)
  refine wpD_sr ?_
  refine pu ?_
  refine ops_n2 ?_
  refine pu ?_
  refine ops_nt ?_
  refine wpD_seq ?_
  refine wpD_sr ?_
  refine pu ?_
  refine p_lenL htab rfl rfl rfl rfl rfl rfl rfl (by first | exact map_len | rfl) ?_
  refine pu ?_
  refine ops_nt ?_
  obtain ⟨x14, q14, ho14⟩ := yes_bind hm
  refine wpD_midX (τ := Unit) (Y := Unit) (fun y14 z14 => (⟨[(3, .v (.int .i64 (0 : Int)))], [], []⟩ : S)) x14 ?_ ?_
  ·clear hm; have hm := yes_of q14
   refine wpD_block ?_
   obtain ⟨u15, hl15, hq15⟩ := yes_m hm
   refine loop_M (Y := Unit) hl15 (fun s15 z15 => (⟨[(3, .v (.int .i64 (0 : Int))), (6, .lst 1 (a0.map eI64) .no), (7, .v (.int .i64 (a0.length : Int))), (8, .v (.int .i64 s15))], [], []⟩ : S)) ?_ ?_
   ·skip
    exact WkX.of () (WkS.perm (WkS.cons rfl (Wk.refl _) (WkS.cons rfl (Wk.refl _) (WkS.cons rfl (Wk.refl _) (WkS.cons rfl (Wk.refl _) (WkS.nil))))) Pf Pf)
   ·intro G15 s15 z15 hm
    refine wpD_sr ?_
    refine pu ?_
    refine ops_nt ?_
    refine wpD_seq ?_
    refine wpD_cond rfl (fun hc24 => ?_) (fun hc24 => ?_)
    ·replace hm := yes_t hc24 hm
     refine wpD_skip ?_
     refine then_normal ?_
     refine wpD_seq ?_
     refine wpD_block ?_
     refine wpD_sr ?_
     obtain ⟨x25, q25, hm⟩ := yes_bind hm
     refine p_elem htab rfl rfl rfl rfl rfl rfl rfl rfl rfl rfl (idx_nonneg q25) (idx_map q25) ?_
     refine p_loadEl htab rfl rfl rfl rfl rfl rfl rfl rfl ?_
     refine pu ?_
     refine ops_n2 ?_
     iterate 3 refine pu ?_
     refine ops_nt ?_
     refine wpD_cond rfl (fun hc26 => ?_) (fun hc26 => ?_)
     ·replace hm := yes_t hc26 hm
      refine wpD_sr ?_
      refine pu ?_
      refine pu ?_
      refine ops_nt ?_
      refine wpD_ret ?_
      refine block_ret ?_
      refine then_ret ?_
      have e15 := lp_done hm; subst e15; clear hm; have hm := hq15
      refine then_ret ?_
      refine block_ret ?_
      have e14 := yes_eq hm; subst e14; refine midX_inr ?_; clear hm; have hm := ho14; simp only [Sum.elim_inr] at hm
      refine then_ret ?_
      have er27 := yes_eq hm; subst er27
      refine rP (t' := [(2, .v (.int .i64 x25))]) [] [] 0 (wC wN) (lT lN) ?_
      exact ⟨rfl, rfl, rfl⟩
     ·replace hm := yes_f hc26 hm
      refine wpD_skip ?_
      refine block_normal ?_
      refine then_normal ?_
      refine wpD_region ?_
      refine pu ?_
      refine pu ?_
      refine ops_nil ?_
      refine then_normal ⟨_, lp_next hm, ?_⟩
      exact WkX.of () (WkS.perm (WkS.cons rfl (Wk.refl _) (WkS.cons rfl (Wk.refl _) (WkS.cons rfl (Wk.refl _) (WkS.cons rfl (Wk.refl _) (WkS.nil))))) Pf Pf)
    ·replace hm := yes_f hc24 hm
     refine wpD_exit ?_
     refine then_exit ?_
     have e15 := lp_done hm; subst e15; clear hm; have hm := hq15
     refine then_exit ?_
     refine block_hit ?_
     have e14 := yes_eq hm; subst e14
     refine midX_inl ?_
     exact WkX.of () (WkS.perm (WkS.cons rfl (Wk.refl _) (WkS.nil)) Pf Pf)
  ·intro y14 s14 hx14 hw14; subst hx14; clear hm; have hm := ho14; simp only [Sum.elim_inl] at hm; clear q14 ho14
   refine then_normal ?_
   refine wpD_wkX hw14 (fun z14 => ?_)
   refine wpD_sr ?_
   refine pu ?_
   refine pu ?_
   refine ops_nt ?_
   refine wpD_ret ?_
   have er28 := yes_eq hm; subst er28
   refine rP (t' := [(2, .v (.int .i64 (0 : Int)))]) [] [] 0 (wC wN) (lT lN) ?_
   exact ⟨rfl, rfl, rfl⟩
noncomputable def key_Cmp (a0 : TApiKey) (a1 : TApiKey) : Option (Int) :=
  ((key_Clean a0).bind fun x3 => ((key_Clean a1).bind fun x4 => ((cmp_Compare_int x3.gNode x4.gNode).bind fun x7 => ((cmp_Or_int ([(compareB x3.gName x4.gName), x7] : List Int)).bind fun x8 => some x8))))
set_option maxRecDepth 100000 in
set_option maxHeartbeats 2000000 in
theorem key_Cmp_ok (a0 : TApiKey) (a1 : TApiKey) (r : Int) (h0 : key_Cmp a0 a1 = some r) : CallsD Try.prog 36 [eTApiKey a0, eTApiKey a1] [] [] (fun d h k => d = .v (.int .i64 r) ∧ h = [] ∧ k = []) := by
  have hm := yes_of h0
  unfold key_Cmp at hm
  clear h0
  refine enterX htab Try.func36 rfl rfl rfl rfl rfl (fun C => ?_)
  refine wpD_sr ?_
  refine p_box rfl rfl rfl rfl rfl rfl rfl (fun b1 => ?_)
  refine p_box rfl rfl rfl rfl rfl rfl rfl (fun b2 => ?_)
  refine pu ?_
  refine ops_nt ?_
  refine wpD_seq ?_
  obtain ⟨x3, q3, hm⟩ := yes_bind hm
  obtain ⟨x4, q4, hm⟩ := yes_bind hm
  refine wpD_draws 6 [(4, [.v (.string ByteArray.empty), .v (.int .i64 (0 : Int))], 34), (5, [.v (.string ByteArray.empty), .v (.int .i64 (0 : Int))], 34)] [[],[0],[],[0,1,2],[],[]] [0,1,2,3,4,5] [[],[0],[],[0,1,2],[],[],[0,1,2,3,4,5],[0,1,2,3,4,5,6]] (by kernel_rfl) (by kernel_rfl) (by kernel_rfl) (by rfl) (by rfl) (by kernel_rfl) ?_
  iterate 4 apply Exists.intro
  refine ⟨.any, ?_⟩
  refine ⟨.any, ?_⟩
  intro bs
  refine z_eM rfl rfl (xm_load (d := eTApiKey a0) 0 htab rfl rfl rfl rfl rfl) rfl rfl rfl rfl rfl rfl ?_
  refine z_call rfl rfl (key_Clean_ok a0 x3 q3) rfl rfl Wl rfl rfl rfl rfl rfl rfl ?_
  refine z_eM rfl rfl (xm_load (d := eTApiKey a1) 1 htab rfl rfl rfl rfl rfl) rfl rfl rfl rfl rfl rfl ?_
  refine z_call rfl rfl (key_Clean_ok a1 x4 q4) rfl rfl Wl rfl rfl rfl rfl rfl rfl ?_
  refine z_alloc rfl htab rfl rfl rfl rfl rfl rfl rfl rfl (by simp [dOf, eI64]) (by simp) ?_
  refine z_alloc rfl htab rfl rfl rfl rfl rfl rfl rfl rfl (by simp [dOf, eI64]) (by simp) ?_
  refine z_nil rfl (by simp only [List.map_cons, List.map_nil]; exact rfl) (fun e he => by simp [isAl] at he; rcases he with rfl | rfl <;> rfl) ?_
  obtain ⟨b5, hb5⟩ : ∃ b, bs 4 = b := ⟨_, rfl⟩
  obtain ⟨b6, hb6⟩ : ∃ b, bs 5 = b := ⟨_, rfl⟩
  simp only [hb5, hb6]
  clear hb5 hb6
  refine pS2 (ds' := [.v (.string x3.gName), .v (.int .i64 x3.gNode)]) ?_
  refine pS3 (ds' := [.v (.string x4.gName), .v (.int .i64 x4.gNode)]) ?_
  refine ops_nt ?_
  refine wpD_seq ?_
  refine wpD_draws 9 [] [[],[0],[],[2],[0,2],[],[5],[],[7]] [0,2,4,5,7] [[],[0],[],[2],[0,1,2,3],[],[5],[],[7],[0,1,2,3,4,5,6,7,8],[0,1,2,3,4,5,6,7,8,9],[0,1,2,3,4,5,6,7,8,9,10],[0,1,2,3,4,5,6,7,8,9,10,11]] (by kernel_rfl) (by kernel_rfl) (by kernel_rfl) (by rfl) (by rfl) (by kernel_rfl) ?_
  iterate 5 apply Exists.intro
  intro bs
  refine zep ?_
  refine z_qM rfl rfl (xm_load 2 htab rfl rfl rfl rfl rfl) rfl rfl rfl rfl rfl rfl ?_
  refine zep ?_
  refine z_qM rfl rfl (xm_load 3 htab rfl rfl rfl rfl rfl) rfl rfl rfl rfl rfl rfl ?_
  refine z_call rfl rfl (compareB_ok x3.gName x4.gName) rfl rfl Wl rfl rfl rfl rfl rfl rfl ?_
  refine zep ?_
  refine z_qM rfl rfl (xm_load 2 htab rfl rfl rfl rfl rfl) rfl rfl rfl rfl rfl rfl ?_
  refine zep ?_
  refine z_qM rfl rfl (xm_load 3 htab rfl rfl rfl rfl rfl) rfl rfl rfl rfl rfl rfl ?_
  refine z_nil rfl rfl (fun e he => by simp [isAl] at he) ?_
  obtain ⟨x7, q7, hm⟩ := yes_bind hm
  refine p_call0 (cmp_Compare_int_ok x3.gNode x4.gNode x7 q7) rfl rfl rfl rfl rfl Wl ?_
  rintro _ rfl
  refine p_lit htab rfl rfl rfl rfl rfl rfl rfl rfl rfl rfl rfl rfl rfl rfl ?_
  refine p_eq (i := 21) (d' := .lst 1 (([(compareB x3.gName x4.gName), x7] : List Int).map eI64) .full) rfl (Wk.lst0 (.cons (WkC.refl _) (.cons (WkC.refl _) (.nil)))) ?_
  obtain ⟨x8, q8, hm⟩ := yes_bind hm
  refine p_call0 (cmp_Or_int_ok ([(compareB x3.gName x4.gName), x7] : List Int) x8 q8) rfl rfl rfl rfl rfl (WkL.cons (Wk.no) Wl) ?_
  rintro _ rfl
  refine pu ?_
  refine ops_nt ?_
  refine wpD_ret ?_
  have er9 := yes_eq hm; subst er9
  refine rP (t' := [(4, .v (.int .i64 x8))]) [] [] 0 (wC wN) (lT lN) ?_
  exact ⟨rfl, rfl, rfl⟩
abbrev nlWb1_601 : List (List Nat) := [[],[],[],[1,2],[1,2,3],[1,2,3,4],[1,2,3,4],[1,2,3,4],[1,2,3,4,6,7],[1,2,3,4,6,7,8],[1,2,3,4],[1,2,3,4,5,6,7,8,9,10],[1,2,3,4,5,6,7,8,9,10,11],[1,2,3,4,5,6,7,8,9,10,11,12],[0,1,2,3,4,5,6,7,8,9,10,11],[0,1,2,3,4,5,6,7,8,9,10,11,12,13,14]]
noncomputable def slices_BinarySearchFunc_api_Key_api_Key_api_Key (a0 : List TApiKey) (a1 : TApiKey) : Option (Int × Bool) :=
  (Option.bind (α := Int) (loopM (fun (s19 : Int × Int) => (bif (decide (s19.1 < s19.2)) then ((idx a0 (IntKind.i64.wrap (shI .shr .u64 (IntKind.u64.wrap (IntKind.i64.wrap (s19.1 + s19.2))) (1 : Int)))).bind fun x31 => ((key_Cmp x31 a1).bind fun x32 => (bif (decide (x32 < (0 : Int))) then some (.next ((IntKind.i64.wrap ((IntKind.i64.wrap (shI .shr .u64 (IntKind.u64.wrap (IntKind.i64.wrap (s19.1 + s19.2))) (1 : Int))) + (1 : Int))), s19.2)) else some (.next (s19.1, (IntKind.i64.wrap (shI .shr .u64 (IntKind.u64.wrap (IntKind.i64.wrap (s19.1 + s19.2))) (1 : Int)))))))) else some (.done s19.1))) ((0 : Int), (a0.length : Int))) fun y18 => (bif (decide (y18 < (a0.length : Int))) then ((idx a0 y18).bind fun x35 => ((key_Cmp x35 a1).bind fun x36 => some (y18, (x36 == (0 : Int))))) else some (y18, false)))
set_option maxRecDepth 100000 in
set_option maxHeartbeats 2000000 in
theorem slices_BinarySearchFunc_api_Key_api_Key_api_Key_ok (a0 : List TApiKey) (a1 : TApiKey) (r : Int × Bool) (h0 : slices_BinarySearchFunc_api_Key_api_Key_api_Key a0 a1 = some r) : CallsD Try.prog 35 [.lst 2 (a0.map eTApiKey) .no, eTApiKey a1, .fn (.func 36) [] []] [] [] (fun d h k => d = .tup [.v (.int .i64 r.1), .v (.bool r.2)] ∧ h = [] ∧ k = []) := by
  have hm := yes_of h0
  unfold slices_BinarySearchFunc_api_Key_api_Key_api_Key at hm
  clear h0
  refine enterX htab Try.func35 rfl rfl rfl rfl rfl (fun C => ?_)
  refine wpD_sr ?_
  refine p_box rfl rfl rfl rfl rfl rfl rfl (fun b1 => ?_)
  refine pu ?_
  refine pu ?_
  refine ops_n2 ?_
  refine pu ?_
  refine p_lenL htab rfl rfl rfl rfl rfl rfl rfl (by first | exact map_len | rfl) ?_
  refine pu ?_
  refine ops_n2 ?_
  iterate 3 refine pu ?_
  refine ops_nt ?_
  refine wpD_seq ?_
  obtain ⟨y18, q18, ho18⟩ := yes_bind hm
  refine wpD_mid (Y := Unit) (fun z18 => (⟨[(0, .lst 2 (a0.map eTApiKey) .no), (2, .fn (.func 36) [] []), (4, .ptr b1 0), (8, .v (.int .i64 (a0.length : Int))), (9, .v (.int .i64 y18))], [(b1, Blk.cells [.v (.string a1.gName), .v (.int .i64 a1.gNode)] 34)], []⟩ : S)) ?_ ?_
  ·clear hm; have hm := yes_of q18
   refine wpD_block ?_
   obtain ⟨u19, hl19, hq19⟩ := yes_m hm
   refine loop_M (Y := Unit) hl19 (fun s19 z19 => (⟨[(0, .lst 2 (a0.map eTApiKey) .no), (2, .fn (.func 36) [] []), (4, .ptr b1 0), (8, .v (.int .i64 (a0.length : Int))), (9, .v (.int .i64 s19.1)), (10, .v (.int .i64 s19.2))], [(b1, Blk.cells [.v (.string a1.gName), .v (.int .i64 a1.gNode)] 34)], []⟩ : S)) ?_ ?_
   ·skip
    exact WkX.of () (WkS.perm (WkS.cons rfl (Wk.refl _) (WkS.cons rfl (Wk.refl _) (WkS.cons rfl (Wk.refl _) (WkS.cons rfl (Wk.refl _) (WkS.cons rfl (Wk.refl _) (WkS.cons rfl (Wk.refl _) (WkS.nil))))))) Pf Pf)
   ·intro G19 s19 z19 hm
    refine wpD_seq ?_
    refine wpD_sr ?_
    iterate 3 refine pu ?_
    refine ops_nt ?_
    refine wpD_cond rfl (fun hc30 => ?_) (fun hc30 => ?_)
    ·replace hm := yes_t hc30 hm
     refine wpD_skip ?_
     refine then_normal ?_
     refine wpD_block ?_
     refine wpD_sr ?_
     iterate 4 refine pu ?_
     refine p_sh rfl rfl rfl rfl rfl rfl rfl (by decide) ?_
     refine pu ?_
     refine pu ?_
     refine ops_nt ?_
     refine wpD_seq ?_
     obtain ⟨x31, q31, hm⟩ := yes_bind hm
     refine wpD_draws 6 [] [[],[],[],[1],[1,3],[]] [0,1,3,4,5] [[],[],[],[1,2],[1,2,3],[],[0,1,2,3,4,5],[0,1,2,3,4,5,6]] (by kernel_rfl) (by kernel_rfl) (by kernel_rfl) (by rfl) (by rfl) (by kernel_rfl) ?_
     iterate 5 apply Exists.intro
     intro bs
     refine zep ?_
     refine zep ?_
     refine zqp ?_
     refine z_e rfl rfl (x_elem htab rfl rfl rfl rfl rfl rfl rfl (idx_nonneg q31) (idx_map q31)) rfl rfl rfl rfl rfl rfl ?_
     refine z_eM rfl rfl (xm_loadEl (d := eTApiKey x31) htab rfl rfl rfl rfl rfl) rfl rfl rfl rfl rfl rfl ?_
     refine z_eM rfl rfl (xm_load (d := eTApiKey a1) 0 htab rfl rfl rfl rfl rfl) rfl rfl rfl rfl rfl rfl ?_
     refine z_nil rfl rfl (fun e he => by simp [isAl] at he) ?_
     obtain ⟨x32, q32, hm⟩ := yes_bind hm
     refine p_callV0 (key_Cmp_ok x31 a1 x32 q32) rfl rfl rfl rfl rfl rfl rfl Wl ?_
     rintro _ rfl
     refine pu ?_
     refine ops_nt ?_
     refine wpD_cond rfl (fun hc33 => ?_) (fun hc33 => ?_)
     ·replace hm := yes_t hc33 hm
      refine wpD_region ?_
      iterate 3 refine pu ?_
      refine ops_nil ?_
      refine block_normal ?_
      refine then_normal ⟨_, lp_next hm, ?_⟩
      exact WkX.of () (WkS.perm (WkS.cons rfl (Wk.refl _) (WkS.cons rfl (Wk.refl _) (WkS.cons rfl (Wk.refl _) (WkS.cons rfl (Wk.refl _) (WkS.cons rfl (Wk.refl _) (WkS.cons rfl (Wk.refl _) (WkS.nil))))))) Pf Pf)
     ·replace hm := yes_f hc33 hm
      refine wpD_region ?_
      refine pu ?_
      refine pu ?_
      refine ops_nil ?_
      refine block_normal ?_
      refine then_normal ⟨_, lp_next hm, ?_⟩
      exact WkX.of () (WkS.perm (WkS.cons rfl (Wk.refl _) (WkS.cons rfl (Wk.refl _) (WkS.cons rfl (Wk.refl _) (WkS.cons rfl (Wk.refl _) (WkS.cons rfl (Wk.refl _) (WkS.cons rfl (Wk.refl _) (WkS.nil))))))) Pf Pf)
    ·replace hm := yes_f hc30 hm
     refine wpD_exit ?_
     refine then_exit ?_
     have e19 := lp_done hm; subst e19; clear hm; have hm := hq19
     refine then_exit ?_
     refine block_hit ?_
     have e18 := yes_eq hm; subst e18
     refine ⟨rfl, ?_⟩
     exact WkX.of () (WkS.perm (WkS.cons rfl (Wk.refl _) (WkS.cons rfl (Wk.refl _) (WkS.cons rfl (Wk.refl _) (WkS.cons rfl (Wk.refl _) (WkS.cons rfl (Wk.refl _) (WkS.nil)))))) Pf Pf)
  ·intro s18 hw18; clear hm; have hm := ho18; clear q18 ho18
   refine then_normal ?_
   refine wpD_wkX hw18 (fun z18 => ?_)
   refine wpD_seq ?_
   refine bycB (decide (y18 < (a0.length : Int))) (fun hs34 => ?_) (fun hs34 => ?_)
   ·replace hm := yes_t hs34 hm
    obtain ⟨x35, q35, hm⟩ := yes_bind hm
    obtain ⟨x36, q36, hm⟩ := yes_bind hm
    refine wpD_draws 15 [] [[],[],[],[],[],[],[],[],[6],[6,8],[],[5,6,8,9,10],[5,6,8,9,10,11],[5,6,8,9,10,11],[5,6,8,9,10,11]] [5,6,8,9,10,11] nlWb1_601 (by kernel_rfl) (by kernel_rfl) (by kernel_rfl) (by rfl) (by rfl) (by kernel_rfl) ?_
    iterate 6 apply Exists.intro
    intro bs
    iterate 5 refine zqp ?_
    refine z_known (j := 39) (b' := true) rfl hs34 ?_
    refine zep ?_
    refine zep ?_
    refine zqp ?_
    refine z_e rfl rfl (x_elem htab rfl rfl rfl rfl rfl rfl rfl (idx_nonneg q35) (idx_map q35)) rfl rfl rfl rfl rfl rfl ?_
    refine z_eM rfl rfl (xm_loadEl (d := eTApiKey x35) htab rfl rfl rfl rfl rfl) rfl rfl rfl rfl rfl rfl ?_
    refine z_eM rfl rfl (xm_load (d := eTApiKey a1) 0 htab rfl rfl rfl rfl rfl) rfl rfl rfl rfl rfl rfl ?_
    refine z_callV rfl rfl (key_Cmp_ok x35 a1 x36 q36) rfl rfl rfl rfl Wl rfl rfl rfl rfl rfl rfl ?_
    refine zqp ?_
    refine z_q rfl rfl (x_pickT rfl rfl rfl) rfl rfl rfl rfl rfl rfl ?_
    refine zqp ?_
    refine z_nil rfl rfl (fun e he => by simp [isAl] at he) ?_
    refine pu ?_
    refine ops_nt ?_
    refine wpD_ret ?_
    have er37 := yes_eq hm; subst er37
    refine rP (t' := [(6, .v (.int .i64 y18)), (7, .v (.bool (x36 == (0 : Int))))]) [] [] 0 (wC (wC wN)) (lT (lT lN)) ?_
    exact ⟨rfl, rfl, rfl⟩
   ·replace hm := yes_f hs34 hm
    refine wpD_draws 15 [] [[],[],[],[],[],[],[],[],[],[],[],[],[],[],[]] [] nlWb1_601 (by kernel_rfl) (by kernel_rfl) (by kernel_rfl) (by rfl) (by rfl) (by kernel_rfl) ?_
    intro bs
    iterate 5 refine zqp ?_
    refine z_known (j := 39) (b' := false) rfl hs34 ?_
    iterate 8 refine zK ?_
    refine z_q rfl rfl (x_pickF rfl rfl rfl) rfl rfl rfl rfl rfl rfl ?_
    refine zqp ?_
    refine z_nil rfl rfl (fun e he => by simp [isAl] at he) ?_
    refine pu ?_
    refine ops_nt ?_
    refine wpD_ret ?_
    have er38 := yes_eq hm; subst er38
    refine rP (t' := [(6, .v (.int .i64 y18)), (7, .v (.bool false))]) [] [] 0 (wC (wC wN)) (lT (lT lN)) ?_
    exact ⟨rfl, rfl, rfl⟩
end Go.Proofs.Ytpdekcfeecdlbaa.Ab
namespace Go.Proofs.Ytpdekcfeecdlbaa.Ab
open Go Go.RowKit Go.Shelf Go.Proofs
set_option linter.all false
attribute [local go_sem] Oper.semAt_some
def clK (x : TApiKey) : TApiKey := ⟨x.gName, max x.gNode (-1)⟩
def encK (x : TApiKey) : Value := .agg #[.string x.gName, .int .i64 x.gNode]
abbrev Ky := TApiKey
theorem meas_lt {L j : Nat} (h : j < L) : L - ((j : Int) + 1).toNat < L - ((j : Int)).toNat := by omega
theorem meas_w {L k : Nat} (h : wrap64 ((k : Int) + 1) = (k : Int) + 1) (hk : k < L) : L - (intOf (Value.int .i64 (wrap64 ((k : Int) + 1)))).toNat < L - (intOf (Value.int .i64 (k : Int))).toNat := by
  rw [h]; exact meas_lt hk
set_option maxRecDepth 1000000 in
set_option maxHeartbeats 2000000 in
theorem clean_calls (x : TApiKey) (w : World) : Calls Try.prog 29 #[encK x] w fun e w' => e = .returned (encK (clK x)) ∧ Below w.heap.size w w' := by
  unfold encK clK
  go_enter Try.func29, Try.ntmps29
  go_wp2
  simp [bodyPost, results, Try.results29, go_sem]
  exact ((Below.refl _ w).alloc (Nat.le_refl _) _).alloc (by simp) _
def SlK (n₀ : Nat) (W : World) (sv : Value) (ks : List Ky) : Prop := ∃ a cap, sv = .slice a ks.length cap ∧ ∀ j x, ks[j]? = some x → ∃ b off, a = some ⟨b, off, none⟩ ∧ b < n₀ ∧ W.cell? ⟨b, off + j * 2, none⟩ = some (.string x.gName) ∧ W.cell? ⟨b, off + j * 2 + 1, none⟩ = some (.int .i64 x.gNode)
theorem SlK.below {n₀ : Nat} {A B : World} (h : Below n₀ A B) {sv : Value} {ks : List Ky} (k : SlK n₀ A sv ks) : SlK n₀ B sv ks := by
  obtain ⟨a, cap, e, hc⟩ := k
  refine ⟨a, cap, e, fun j x hx => ?_⟩
  obtain ⟨b, off, e1, e2, e3, e4⟩ := hc j x hx
  exact ⟨b, off, e1, e2, (h.cell (p := ⟨b, _, none⟩) e2).trans e3, (h.cell (p := ⟨b, _, none⟩) e2).trans e4⟩
def flatK (kss : List (List Ky)) (k : Nat) : List Ky := (kss.take k).flatten
theorem flatK_split {kss : List (List Ky)} {k : Nat} {ks : List Ky} (h : kss[k]? = some ks) : kss.flatten = (kss.take k).flatten ++ (ks ++ (kss.drop (k + 1)).flatten) := by
  obtain ⟨hlt, hks⟩ := List.getElem?_eq_some_iff.1 h
  conv => lhs; rw [← List.take_append_drop k kss, List.drop_eq_getElem_cons hlt, hks]
  simp
theorem flat_pos {kss : List (List Ky)} {k : Nat} {ks : List Ky} (h : kss[k]? = some ks) : (flatK kss k).length + ks.length ≤ kss.flatten.length := by
  rw [flatK_split h]; unfold flatK; rw [List.length_append, List.length_append]; omega
theorem flat_pre {kss : List (List Ky)} {k : Nat} {ks : List Ky} (h : kss[k]? = some ks) (m : Nat) : flatK kss k ++ ks.take m <+: kss.flatten := by
  unfold flatK
  rw [flatK_split h]
  refine (List.prefix_append_right_inj _).2 ?_
  refine List.IsPrefix.trans ?_ (List.prefix_append _ _)
  exact List.take_prefix m ks
theorem flat_succ {kss : List (List Ky)} {k : Nat} {ks : List Ky} (h : kss[k]? = some ks) : flatK kss (k + 1) = flatK kss k ++ ks := by
  unfold flatK
  rw [List.take_succ, h]; simp
theorem flat_short {kss : List (List Ky)} {k j N : Nat} {ks : List Ky} (hp : (flatK kss k).length + ks.length ≤ kss.flatten.length) (hN : kss.flatten.length ≤ N) (hj : j < ks.length) : (flatK kss k ++ ks.take j).length < N := by
  rw [List.length_append, List.length_take]; omega
theorem take_snoc {ks : List Ky} {j : Nat} {x : Ky} (h : ks[j]? = some x) : ks.take (j + 1) = ks.take j ++ [x] := by rw [List.take_succ, h]; rfl
theorem le_s2 {a b : Nat} {w2 : World} {o : Obj} (h : a ≤ b) (k : b ≤ w2.heap.size) : a ≤ (w2.alloc o).heap.size := by simp; omega
set_option maxRecDepth 1000000 in
set_option maxHeartbeats 4000000 in
theorem chain1_in (n : Nat) (hn : 1 ≤ n) (l Bs n₀ : Nat) (a : Option Addr) (cap : Nat) (kss : List (List Ky)) (N : Nat) (hN : kss.flatten.length ≤ N) (hlen : ∀ k : Nat, k < kss.length → wrap64 ((k : Int) + 1) = (k : Int) + 1) (hlens : ∀ ks ∈ kss, ∀ j : Nat, j < ks.length → wrap64 ((j : Int) + 1) = (j : Int) + 1) (J Jx : List Ky → World → Prop)
    (hJa : ∀ s A B, J s A → Below A.heap.size A B → J s B)
    (hY : ∀ pre x W, J pre W → pre.length < N → YieldAt Fence.wide (n - 1) Try.prog l #[encK (clK x)] W fun e W' =>
      (e = .returned (.bool true) ∧ J (pre ++ [x]) W' ∧ Below n₀ W W') ∨ (e = .returned (.bool false) ∧ Jx (pre ++ [x]) W'))
    (W : World) (hBs : W.cell? ⟨Bs, 0, none⟩ = some (.slice a kss.length cap)) (hn0 : n₀ ≤ W.heap.size) (hc : ∀ i ks, kss[i]? = some ks → ∃ b off sv, a = some ⟨b, off, none⟩ ∧ b < n₀ ∧ W.cell? ⟨b, off + i, none⟩ = some sv ∧ SlK n₀ W sv ks) (h0 : J [] W) :
    CallsIn Fence.wide n Try.prog 40 #[.func (.yield l) #[] #[], .pointer (some ⟨Bs, 0, none⟩)] W fun e W' => (∃ v, e = .returned v) ∧
      (J kss.flatten W' ∨ (∃ pre, pre <+: kss.flatten ∧ Jx pre W')) := by
  refine callsIn_of_wp Try.func40 rfl trivial ?_ rfl
  simp only [Try.ntmps40, List.size_toArray, List.length_cons, List.length_nil, Nat.reduceAdd, Nat.reduceSub, Array.replicate_succ, Array.replicate_zero, List.push_toArray, List.append_toArray, List.nil_append, List.cons_append]
  gi_wp2
  gi_loopw [9] (fun i wr => ∃ k : Nat, k ≤ kss.length ∧ i = .int .i64 k ∧ J (flatK kss k) wr ∧ Below n₀ W wr)
    (fun i _ => kss.length - (intOf i).toNat)
  case atStart => exact ⟨0, Nat.zero_le _, rfl, h0, Below.refl _ _⟩
  case round =>
    obtain ⟨k, hk, rfl, hJs, hnx⟩ := hrel
    by_cases hlt : k < kss.length
    · obtain ⟨b, off, sv, ea, hb, hcell, ⟨a1, cap1, rfl, hks⟩⟩ := hc k kss[k] (List.getElem?_eq_getElem hlt)
      subst ea
      have hcell' := (hnx.cell (p := ⟨b, off + k, none⟩) hb).trans hcell
      gi_wp2
      generalize hks0 : kss[k] = ks at hks hcell hcell'
      have hkk : kss[k]? = some ks := by rw [List.getElem?_eq_getElem hlt, hks0]
      have hkl := hlens ks (by rw [← hks0]; exact List.getElem_mem _)
      have hw1 := hlen k hlt
      have hpos := flat_pos hkk
      have hpre := fun m => flat_pre hkk m
      have hfl := flat_succ hkk
      gi_loopw [15] (fun i w2 => ∃ j : Nat, j ≤ ks.length ∧ i = .int .i64 j ∧ J (flatK kss k ++ ks.take j) w2 ∧ Below n₀ W w2)
        (fun i _ => ks.length - (intOf i).toNat)
      case atStart => exact ⟨0, Nat.zero_le _, rfl, by simpa using hJs, hnx⟩
      case round =>
        obtain ⟨j, hj, rfl, hJ2, hn2⟩ := hrel
        by_cases hjl : j < ks.length
        · obtain ⟨b1, o1, ea1, hb1, hs1, hs2⟩ := hks j ks[j] (List.getElem?_eq_getElem hjl)
          subst ea1
          have hs1' := (hn2.cell (p := ⟨b1, o1 + j * 2, none⟩) hb1).trans hs1
          have hs2' := (hn2.cell (p := ⟨b1, o1 + j * 2 + 1, none⟩) hb1).trans hs2
          have hxj := take_snoc (List.getElem?_eq_getElem hjl)
          generalize ks[j] = x at hs1 hs2 hs1' hs2' hxj
          have hshort := flat_short hpos hN hjl
          have hw2 := hkl j hjl
          gi_wp2
          refine ⟨trivial, ?_⟩
          refine (callsIn_wide.2 (clean_calls x _)).mono ?_
          rintro e w3 ⟨rfl, hb3⟩
          have hn3 : Below n₀ W w3 := hn2.trans ((((Below.refl _ _).alloc (Nat.le_refl _) _).mono (Nat.le_trans hn0 hn2.size)).trans (hb3.mono (le_s2 hn0 hn2.size)))
          have hJ3 := hJa _ _ w3 hJ2 (((Below.refl _ _).alloc (Nat.le_refl _) _).trans (hb3.mono (by simp)))
          obtain ⟨fn, tmps, assign, body, hy, hR⟩ := hY _ x w3 hJ3 hshort
          have hsn : flatK kss k ++ ks.take j ++ [x] = flatK kss k ++ ks.take (j + 1) := by rw [hxj]; simp
          rw [hsn] at hR
          clear hsn hxj
          clear hkl hlens hlen
          gi_wp2
          refine hR.mono ?_
          rintro e W4 (⟨rfl, hJ4, hk4⟩ | ⟨rfl, hJx4⟩)
          · gi_wp2
            go_roundw
            case rel => exact ⟨j + 1, hjl, by simp [hw2], hJ4, hn3.trans hk4⟩
            case measure =>
              exact meas_w hw2 hjl
          · gi_wp2
            refine bodyPost_ret (results_none rfl _ _ _) rfl ?_
            exact ⟨⟨_, rfl⟩, .inr ⟨_, hpre (j + 1), hJx4⟩⟩
        · obtain rfl : j = ks.length := Nat.le_antisymm hj (Nat.le_of_not_lt hjl)
          gi_wp2
          go_roundw
          case rel => exact ⟨k + 1, hlt, by simp [hw1], by rw [hfl]; simpa using hJ2, hn2⟩
          case measure =>
            exact meas_w hw1 hlt
    · obtain rfl : k = kss.length := Nat.le_antisymm hk (Nat.le_of_not_lt hlt)
      gi_wp2
      go_end0
      exact ⟨⟨_, rfl⟩, .inl (by rw [flatK, List.take_length] at hJs; exact hJs)⟩
set_option maxRecDepth 1000000 in
set_option maxHeartbeats 2000000 in
theorem chain_calls (vL : Value) (hv : ∃ a n m, vL = .slice a n m) (w : World) : Calls Try.prog 34 #[vL] w fun e w' => e = .returned (.func (.func 40) #[] #[.pointer (some ⟨w.heap.size, 0, none⟩)]) ∧ w' = w.alloc (.cells #[vL] 64) := by
  obtain ⟨a, n, m, rfl⟩ := hv
  go_enter Try.func34, Try.ntmps34
  go_wp2
  go_ret
  exact ⟨rfl, rfl⟩
theorem chain_stops (n : Nat) (hn : 1 ≤ n) (Bs n₀ : Nat) (a : Option Addr) (cap : Nat) (kss : List (List Ky)) (hlen : ∀ k : Nat, k < kss.length → wrap64 ((k : Int) + 1) = (k : Int) + 1) (hlens : ∀ ks ∈ kss, ∀ j : Nat, j < ks.length → wrap64 ((j : Int) + 1) = (j : Int) + 1)
    (w : World) (hBs : Bs < w.heap.size) (hn0 : n₀ ≤ w.heap.size) (hcB : w.cell? ⟨Bs, 0, none⟩ = some (.slice a kss.length cap)) (hc : ∀ i ks, kss[i]? = some ks → ∃ b off sv, a = some ⟨b, off, none⟩ ∧ b < n₀ ∧ w.cell? ⟨b, off + i, none⟩ = some sv ∧ SlK n₀ w sv ks) :
    SeqStopsK Fence.wide n Try.prog 40 #[.pointer (some ⟨Bs, 0, none⟩)] (fun x : Ky => #[encK (clK x)]) (Below n₀) (fun ys => ys = kss.flatten) (fun pre => pre <+: kss.flatten) kss.flatten.length w := fun l J Jx W hW hJ hJx hY h0 => by
  have hWn : Below n₀ w W := hW.mono hn0
  refine (chain1_in n hn l Bs n₀ a cap kss kss.flatten.length (Nat.le_refl _) hlen hlens J Jx ?_ hY W ((hW.cell (p := ⟨Bs, 0, none⟩) hBs).trans hcB) (Nat.le_trans hn0 hW.size) ?_ h0).mono ?_
  · intro s A B hs hb
    exact hJ s A B none hs (Lib.grownBy_below (⟨rfl, rfl, rfl, Nat.le_refl _, fun _ _ _ => rfl⟩ : World.grownBy A A none) hb) (fun r e => by cases e)
  · intro i ks hk
    obtain ⟨b, off, sv, e1, e2, e3, e4⟩ := hc i ks hk
    exact ⟨b, off, sv, e1, e2, (hWn.cell (p := ⟨b, _, none⟩) e2).trans e3, e4.below hWn⟩
  · rintro e W' ⟨hv, h | h⟩
    · exact ⟨hv, .inl ⟨_, rfl, h⟩⟩
    · exact ⟨hv, .inr h⟩
end Go.Proofs.Ytpdekcfeecdlbaa.Ab
namespace Go.Proofs.Ytpdekcfeecdlbaa.Ab
open Go
set_option linter.all false
def fieldsOK (tab : List (Option TI)) (ts : List Nat) : Nat → List (Nat × Nat) → Option Nat
  | off, [] => some off
  | off, (ty, o) :: fs => match ti tab ty with
    | some i => bif Nat.beq o off && ts.contains ty then fieldsOK tab ts (off + i.size) fs else none
    | none => none
def typeOK (tab : List (Option TI)) (ts : List Nat) (t : Nat) : Bool :=
  match ti tab t with
  | some i => match i.d with
    | .bool => Nat.beq i.size 1
    | .int _ => Nat.beq i.size 1
    | .str => Nat.beq i.size 1
    | .slice e => ts.contains e && Nat.beq i.size 1 && (match ti tab e with | some ie => Nat.ble 1 ie.size | none => false)
    | .struct fs => match fieldsOK tab ts 0 fs with
      | some n => Nat.beq n i.size
      | none => false
    | .array n e => ts.contains e && (match ti tab e with | some ie => Nat.beq i.size (n * ie.size) | none => false)
    | _ => false
  | none => false
def closedT (tab : List (Option TI)) (ts : List Nat) : Bool := ts.all (typeOK tab ts)
def GoodT (tab : List (Option TI)) : Nat → Nat → D → Prop
  | 0, _, _ => False
  | n + 1, t, d => ∃ i, ti tab t = some i ∧ match i.d with
    | .bool => ∃ b, d = .v (.bool b)
    | .int k => ∃ m, d = .v (.int k m) ∧ (Lit.int k m).wf = true
    | .str => ∃ s : ByteArray, d = .v (.string s) ∧ s.size ≤ maxLen
    | .slice e => ∃ ie xs, ti tab e = some ie ∧ d = .lst ie.size xs .no ∧ xs.length ≤ maxLen ∧ ∀ x ∈ xs, GoodT tab n e x
    | .struct fs => ∃ ds : List D, d = .agg (ds.flatMap dcells) ∧ ds.length = fs.length ∧ ∀ (j : Nat) (f : Nat × Nat) (d0 : D), fs[j]? = some f → ds[j]? = some d0 → GoodT tab n f.1 d0
    | .array m e => ∃ ds : List D, d = .agg (ds.flatMap dcells) ∧ ds.length = m ∧ ∀ x ∈ ds, GoodT tab n e x
    | _ => False
section
variable {H : Type} {enc : TypeId × Value → H} {P : Program} {w : World} {base : Nat} {spare : Nat → Bool} {held : Bool} {tab : List (Option TI)} {ts : List Nat}
theorem cellsOf_ti (hT : TabOK P tab) {t : TypeId} {i : TI} (h : ti tab t = some i) : P.cellsOf t = i.size := by
  obtain ⟨tf, z, dd, h1, _, _, h2, _⟩ := tiOf_inv (ti_ok hT h)
  simp [Program.cellsOf, h1, h2]
def allOf (w : World) : Hp := fun a => w.cell? a
theorem ag_all (w : World) : Ag (allOf w) w := fun _ _ h => h
end
end Go.Proofs.Ytpdekcfeecdlbaa.Ab
namespace Go.Proofs.Ytpdekcfeecdlbaa.Ab
open Go
set_option linter.all false
section
variable {P : Program} {tab : List (Option TI)} {n t : Nat} {i : TI} {d : D}
theorem good_int {k : IntKind} (hi : ti tab t = some i) (hd : i.d = .int k) (g : GoodT tab n t d) : ∃ m, d = .v (.int k m) ∧ (Lit.int k m).wf = true := by
  cases n with
  | zero => simp [GoodT] at g
  | succ n =>
    unfold GoodT at g
    obtain ⟨i', h1, h2⟩ := g
    rw [hi] at h1; cases h1
    rw [hd] at h2; exact h2
theorem good_str (hi : ti tab t = some i) (hd : i.d = .str) (g : GoodT tab n t d) : ∃ s : ByteArray, d = .v (.string s) ∧ s.size ≤ maxLen := by
  cases n with
  | zero => simp [GoodT] at g
  | succ n =>
    unfold GoodT at g
    obtain ⟨i', h1, h2⟩ := g
    rw [hi] at h1; cases h1
    rw [hd] at h2; exact h2
theorem good_slice {e : Nat} {ie : TI} (hi : ti tab t = some i) (hd : i.d = .slice e) (he : ti tab e = some ie) (g : GoodT tab n t d) : ∃ (n' : Nat) (xs : List D), n = n' + 1 ∧ d = .lst ie.size xs .no ∧ xs.length ≤ maxLen ∧ ∀ x ∈ xs, GoodT tab n' e x := by
  cases n with
  | zero => simp [GoodT] at g
  | succ n =>
    unfold GoodT at g
    obtain ⟨i', h1, h2⟩ := g
    rw [hi] at h1; cases h1
    rw [hd] at h2
    obtain ⟨ie', xs, h3, h4, h5, h6⟩ := h2
    rw [he] at h3; cases h3
    exact ⟨n, xs, rfl, h4, h5, h6⟩
theorem good_struct {fs : List (Nat × Nat)} (hi : ti tab t = some i) (hd : i.d = .struct fs) (g : GoodT tab n t d) : ∃ (n' : Nat) (ds : List D), n = n' + 1 ∧ d = .agg (ds.flatMap dcells) ∧ ds.length = fs.length ∧ ∀ (j : Nat) (f : Nat × Nat) (d0 : D), fs[j]? = some f → ds[j]? = some d0 → GoodT tab n' f.1 d0 := by
  cases n with
  | zero => simp [GoodT] at g
  | succ n =>
    unfold GoodT at g
    obtain ⟨i', h1, h2⟩ := g
    rw [hi] at h1; cases h1
    rw [hd] at h2
    obtain ⟨ds, h4, h5, h6⟩ := h2
    exact ⟨n, ds, rfl, h4, h5, h6⟩
theorem good_list {α : Type} {f : α → D} {K : α → Prop} {p : D → Prop} (h : ∀ x, p x → ∃ y, x = f y ∧ K y) : ∀ (xs : List D), (∀ x ∈ xs, p x) → ∃ ys : List α, xs = ys.map f ∧ ∀ y ∈ ys, K y
  | [], _ => ⟨[], rfl, by simp⟩
  | x :: xs, hx => by
    obtain ⟨y, rfl, hy⟩ := h x (hx x (by simp))
    obtain ⟨ys, rfl, hys⟩ := good_list h xs fun z hz => hx z (by simp [hz])
    refine ⟨y :: ys, rfl, fun z hz => ?_⟩
    rcases List.mem_cons.1 hz with rfl | hz
    · exact hy
    · exact hys z hz
theorem shape_of {w : World} {r : Reach} {base : Nat} {v : Value} (hT : TabOK P tab) (hv : Value.okWide P w r base t v) (g : GoodT tab n t d) : d.shape v = true := by
  cases n with
  | zero => simp [GoodT] at g
  | succ n =>
    unfold GoodT at g
    obtain ⟨i, hi, g⟩ := g
    obtain ⟨tf, z, dd, h1, h2, h3, _⟩ := tiOf_inv (ti_ok hT hi)
    unfold Value.okWide at hv
    rw [h2] at hv
    split at g
    · rename_i hd
      have := td_bool (h3.trans hd); subst this
      obtain ⟨b, rfl⟩ := g
      cases v <;> first | rfl | (simp [Cell.okWide, Cell.ok, h2] at hv)
    · rename_i k hd
      have := td_int (h3.trans hd); subst this
      obtain ⟨b, rfl, _⟩ := g
      cases v <;> first | rfl | (simp [Cell.okWide, Cell.ok, h2] at hv)
    · rename_i hd
      have := td_str (h3.trans hd); subst this
      obtain ⟨b, rfl, _⟩ := g
      cases v <;> first | rfl | (simp [Cell.okWide, Cell.ok, h2] at hv)
    · rename_i e hd
      have := td_slice (h3.trans hd); subst this
      obtain ⟨ie, xs, _, rfl, _⟩ := g
      cases v <;> first | rfl | (simp [Cell.okWide, Cell.ok, h2] at hv)
    · rename_i fs hd
      obtain ⟨gs, rfl, _⟩ := td_struct (h3.trans hd)
      obtain ⟨ds, rfl, _⟩ := g
      simp only at hv
      obtain ⟨cs, rfl, _⟩ := hv
      rfl
    · rename_i m e hd
      have := td_array (h3.trans hd); subst this
      obtain ⟨ds, rfl, _⟩ := g
      simp only at hv
      obtain ⟨cs, rfl, _⟩ := hv
      rfl
    · exact g.elim
end
end Go.Proofs.Ytpdekcfeecdlbaa.Ab
namespace Go.Proofs.Ytpdekcfeecdlbaa
open Go.ChangeShapes Go.WideShapes Go.ChangeAt Go.RowKit Go.Joins
set_option linter.all false
theorem own : ownKnob Try.prog.godebug = none := by kernel_rfl
theorem laidOut' : laidOutB Try.prog = true := by kernel_rfl
theorem args_back {H : Type} {enc : TypeId × Value → H} {P : Program} {W : World} (hl : laidOutB P = true) : ∀ {ts : List TypeId} {vs : List Value} {ds : List (DataW H)} {ps : List MemPlace},
    (ts.all fun t => P.readableRec t && decide (t < P.types.size)) = true → DataW.TrodAll enc P W 0 (fun _ => true) true ts vs ds ps → (∀ x ∈ ps, x.block < W.heap.size) → ∀ W', Below W.heap.size W W' →
    ∀ sp : Nat → Bool, (∀ x ∈ ps, sp x.block = true) → DataW.TrodAll enc P W' 0 sp true ts vs ds ps
  | [], vs, ds, ps, _, h, _, W', hb, sp, hsp => by
    obtain ⟨rfl, rfl, rfl⟩ := trodAll_nil h
    exact trodAll_mk0
  | t :: ts, vs, ds, ps, hr, h, hlt, W', hb, sp, hsp => by
    obtain ⟨v, vs', d, ds', p, q, rfl, rfl, rfl, h0, h1⟩ := trodAll_cons h
    simp only [List.all_cons, Bool.and_eq_true, decide_eq_true_eq] at hr
    exact trodAll_cons_mk (WideElems.Trod_stays hl hr.1.1 hr.1.2 h0 (fun x hx => hb.same (hlt x (by simp [hx]))) (fun x hx => hsp x (by simp [hx])))
      (args_back hl hr.2 h1 (fun x hx => hlt x (by simp [hx])) W' hb sp (fun x hx => hsp x (by simp [hx])))
end Go.Proofs.Ytpdekcfeecdlbaa
namespace Go.Proofs.Ytpdekcfeecdlbaa.Ab
open Go
set_option linter.all false
mutual
def bulk {H : Type} : DataW H → Nat
  | .lit (.string bytes) => bytes.length + 1
  | .lit _ => 1
  | .nil => 1
  | .ptr d => bulk d + 1
  | .slice elems spare => bulkAll elems + bulkAll spare + 1
  | .agg parts => bulkAll parts + 1
  | .iface _ d => bulk d + 1
  | .map _ => 1
  | .held _ => 1
def bulkAll {H : Type} : List (DataW H) → Nat
  | [] => 0
  | d :: r => bulk d + bulkAll r
end
def wtv : Value → Nat
  | .string s => s.size + 1
  | _ => 1
mutual
def wt : D → Nat
  | .any => 0
  | .v x => wtv x
  | .agg l => wts l
  | .lst _ xs _ => wts xs + 1
  | .el _ => 0
  | .ptr _ _ => 0
  | .fn _ _ _ => 0
  | .tup _ => 0
def wts : List D → Nat
  | [] => 0
  | d :: l => wt d + wts l
end
theorem wts_append : ∀ (l m : List D), wts (l ++ m) = wts l + wts m
  | [], m => by simp [wts]
  | d :: l, m => by simp only [List.cons_append, wts, wts_append l m]; omega
theorem wts_cells (d : D) : wts (dcells d) = wt d := by
  cases d <;> simp [dcells, wts, wt]
section
variable {H : Type} {enc : TypeId × Value → H} {P : Program} {w : World} {base : Nat} {spare : Nat → Bool} {held : Bool} {tab : List (Option TI)} {ts : List Nat}
def RdW (tab : List (Option TI)) (w : World) (n t : Nat) (cs : List Value) (d : D) (m : Nat) : Prop :=
  wt d ≤ m ∧ ∃ i, ti tab t = some i ∧ RepC (allOf w) d cs ∧ Reps (allOf w) (dcells d) cs ∧ cs.length = i.size ∧ (dcells d).length = i.size ∧ GoodT tab n t d
theorem rdw_fields (hT : TabOK P tab) {n : Nat} {cs : List Value} (ih : ∀ t cs x, ts.contains t = true → DataW.trod enc P w base spare held n t cs = some x → ∃ d, RdW tab w n t cs d (bulk x.1)) :
    ∀ (gs : List Field) (ys : List (DataW H × List MemPlace)) (off total : Nat), fieldsOK tab ts off (gs.map fun f => (f.type, f.offset)) = some total → total ≤ cs.length → gs.length = ys.length → (∀ (j : Nat) f y, gs[j]? = some f → ys[j]? = some y → DataW.trod enc P w base spare held n f.type ((cs.drop f.offset).take (P.cellsOf f.type)) = some y) →
      off ≤ total ∧ ∃ ds : List D, wts (ds.flatMap dcells) ≤ bulkAll (ys.map (·.1)) ∧ ds.length = gs.length ∧ Reps (allOf w) (ds.flatMap dcells) ((cs.drop off).take (total - off)) ∧ (ds.flatMap dcells).length = total - off ∧ ∀ (j : Nat) (f : Nat × Nat) (d0 : D), (gs.map fun f => (f.type, f.offset))[j]? = some f → ds[j]? = some d0 → GoodT tab n f.1 d0
  | [], ys, off, total, h, _, _, _ => by
    simp [fieldsOK] at h; subst h
    exact ⟨Nat.le_refl _, [], by simp [wts], rfl, by simp [Reps], by simp, fun j f d0 e => by simp at e⟩
  | g :: gs, [], off, total, h, hl, hlen, hy => by simp at hlen
  | g :: gs, y :: ys, off, total, h, hl, hlen, hy => by
    simp only [List.map_cons, fieldsOK] at h
    split at h
    · rename_i i hi
      cases hb : (Nat.beq g.offset off && ts.contains g.type) with
      | false => rw [hb] at h; cases h
      | true =>
        rw [hb] at h
        simp only [cond_true] at h
        simp only [Bool.and_eq_true] at hb
        have ho := Nat.eq_of_beq_eq_true hb.1
        have hy0 := hy 0 g y rfl rfl
        obtain ⟨d, hw, i', hi', h1, h2, h3, h4, h5⟩ := ih _ _ y hb.2 hy0
        rw [hi] at hi'; cases hi'
        obtain ⟨hle, ds, ew, e1, e2, e3, e4⟩ := rdw_fields hT ih gs ys (off + i.size) total h hl (by simpa using hlen) fun j f y' hf hy' => hy (j + 1) f y' (by simpa using hf) (by simpa using hy')
        rw [cellsOf_ti hT hi, ho] at h2
        refine ⟨by omega, d :: ds, by simp only [List.flatMap_cons, wts_append, wts_cells, List.map_cons, bulkAll]; omega, by simp [e1], ?_, by simp [h4, e3]; omega, ?_⟩
        · simp only [List.flatMap_cons]
          have := reps_append h2 e2
          have e : (cs.drop off).take i.size ++ (cs.drop (off + i.size)).take (total - (off + i.size)) = (cs.drop off).take (total - off) := by
            rw [show total - off = i.size + (total - (off + i.size)) by omega, List.take_add, List.drop_drop]
          rwa [e] at this
        · intro j f d0 hf hd
          cases j with
          | zero => simp at hf hd; subst hf; subst hd; exact h5
          | succ j => exact e4 j f d0 (by simpa using hf) (by simpa using hd)
    · cases h
theorem rdw_elems {n e sz b off : Nat} {ie : TI} (hie : ti tab e = some ie) (hsz : ie.size = sz) (he : ts.contains e = true) (ih : ∀ t cs x, ts.contains t = true → DataW.trod enc P w base spare held n t cs = some x → ∃ d, RdW tab w n t cs d (bulk x.1)) :
    ∀ (ys : List (DataW H × List MemPlace)) (i0 : Nat), (∀ (j : Nat) y, ys[j]? = some y → ∃ cs, w.cells? base ((⟨b, off, none⟩ : Addr).add ((i0 + j) * sz)) sz = some cs ∧ DataW.trod enc P w base spare held n e cs = some y) →
      ∃ xs : List D, wts xs ≤ bulkAll (ys.map (·.1)) ∧ xs.length = ys.length ∧ Els (allOf w) sz b (off + i0 * sz) xs ∧ ∀ x ∈ xs, GoodT tab n e x
  | [], i0, _ => ⟨[], by simp [wts], rfl, by simp [Els], by simp⟩
  | y :: ys, i0, h => by
    obtain ⟨cs, h1, h2⟩ := h 0 y rfl
    rw [Nat.add_zero] at h1
    obtain ⟨d, hw, i', hi', g1, g2, g3, g4, g5⟩ := ih e cs y he h2
    rw [hie] at hi'; cases hi'
    obtain ⟨xs, fw, f1, f2, f3⟩ := rdw_elems hie hsz he ih ys (i0 + 1) fun j y' hj => by
      have := h (j + 1) y' (by simpa using hj)
      rwa [show i0 + (j + 1) = i0 + 1 + j by omega] at this
    refine ⟨d :: xs, by simp only [wts, List.map_cons, bulkAll]; omega, by simp [f1], ?_, ?_⟩
    · simp only [Els]
      refine ⟨⟨cs, by rw [g3, hsz], g1, fun j u hj => ?_, reps_one g2⟩, ?_⟩
      · obtain ⟨_, hlen, hc⟩ := World.cells?_some h1
        have hjl : j < sz := by rw [← hlen]; exact (List.getElem?_eq_some_iff.1 hj).1
        have := hc j hjl
        rw [addr_add, addr_add] at this
        show w.cell? _ = _
        rw [this]; exact hj
      · rw [show off + i0 * sz + sz = off + (i0 + 1) * sz by rw [Nat.add_mul]; omega]; exact f2
    · intro x hx
      rcases List.mem_cons.1 hx with rfl | hx
      · exact g5
      · exact f3 x hx
theorem rdw_arr {n e sz : Nat} {ie : TI} {cs : List Value} (hie : ti tab e = some ie) (hsz : ie.size = sz) (he : ts.contains e = true) (ih : ∀ t cs x, ts.contains t = true → DataW.trod enc P w base spare held n t cs = some x → ∃ d, RdW tab w n t cs d (bulk x.1)) :
    ∀ (ys : List (DataW H × List MemPlace)) (i0 : Nat), (∀ (j : Nat) y, ys[j]? = some y → DataW.trod enc P w base spare held n e ((cs.drop ((i0 + j) * sz)).take sz) = some y) →
      ∃ ds : List D, wts (ds.flatMap dcells) ≤ bulkAll (ys.map (·.1)) ∧ ds.length = ys.length ∧ Reps (allOf w) (ds.flatMap dcells) ((cs.drop (i0 * sz)).take (ys.length * sz)) ∧ (ds.flatMap dcells).length = ys.length * sz ∧ ∀ x ∈ ds, GoodT tab n e x
  | [], i0, _ => ⟨[], by simp [wts], rfl, by simp [Reps], by simp, by simp⟩
  | y :: ys, i0, h => by
    have h2 := h 0 y rfl
    rw [Nat.add_zero] at h2
    obtain ⟨d, hw, i', hi', g1, g2, g3, g4, g5⟩ := ih e _ y he h2
    rw [hie] at hi'; cases hi'
    obtain ⟨ds, fw, f1, f2, f3, f4⟩ := rdw_arr hie hsz he ih ys (i0 + 1) fun j y' hj => by
      have := h (j + 1) y' (by simpa using hj)
      rwa [show i0 + (j + 1) = i0 + 1 + j by omega] at this
    refine ⟨d :: ds, by simp only [List.flatMap_cons, wts_append, wts_cells, List.map_cons, bulkAll]; omega, by simp [f1], ?_, ?_, ?_⟩
    · simp only [List.flatMap_cons]
      have := reps_append g2 f2
      have e2 : (cs.drop (i0 * sz)).take sz ++ (cs.drop ((i0 + 1) * sz)).take (ys.length * sz) = (cs.drop (i0 * sz)).take ((ys.length + 1) * sz) := by
        rw [show (ys.length + 1) * sz = sz + ys.length * sz by rw [Nat.add_mul]; omega, List.take_add, List.drop_drop, show i0 * sz + sz = (i0 + 1) * sz by rw [Nat.add_mul]; omega]
      rwa [e2] at this
    · simp only [List.flatMap_cons, List.length_append, f3, g4, hsz]
      show sz + ys.length * sz = (ys.length + 1) * sz
      rw [Nat.add_mul]; omega
    · intro x hx
      rcases List.mem_cons.1 hx with rfl | hx
      · exact g5
      · exact f4 x hx
theorem rdw (hT : TabOK P tab) (hc : closedT tab ts = true) : ∀ (n : Nat) (t : TypeId) (cs : List Value) (x : DataW H × List MemPlace), ts.contains t = true → DataW.trod enc P w base spare held n t cs = some x → ∃ d, RdW tab w n t cs d (bulk x.1) := by
  intro n
  induction n with
  | zero => intro t cs x _ h; simp [DataW.trod] at h
  | succ n ih =>
    intro t cs x ht h
    have hok : typeOK tab ts t = true := by
      unfold closedT at hc
      rw [List.all_eq_true] at hc
      exact hc t (by simpa using ht)
    unfold typeOK at hok
    split at hok
    · rename_i i hi
      obtain ⟨tf, z, dd, h1, h2, h3, h4, _⟩ := tiOf_inv (ti_ok hT hi)
      split at hok
      · rename_i hd
        have hs := Nat.eq_of_beq_eq_true hok
        obtain ⟨b, rfl, rfl⟩ := DataW.trod_bool (by rw [h2, td_bool (h3.trans hd)]) h
        refine ⟨.v (.bool b), by simp [wt, wtv, bulk], i, hi, by simp [RepC], ?_, by simp [hs], by simp [dcells, hs], ?_⟩
        · simp only [dcells, Reps]; exact ⟨_, _, rfl, ⟨by simp [RepC], rfl, rfl⟩, rfl⟩
        · unfold GoodT; exact ⟨i, hi, by rw [hd]; exact ⟨b, rfl⟩⟩
      · rename_i k hd
        have hs := Nat.eq_of_beq_eq_true hok
        obtain ⟨m, rfl, rfl, hwf⟩ := DataW.trod_int (by rw [h2, td_int (h3.trans hd)]) h
        refine ⟨.v (.int k m), by simp [wt, wtv, bulk], i, hi, by simp [RepC], ?_, by simp [hs], by simp [dcells, hs], ?_⟩
        · simp only [dcells, Reps]; exact ⟨_, _, rfl, ⟨by simp [RepC], rfl, rfl⟩, rfl⟩
        · unfold GoodT; exact ⟨i, hi, by rw [hd]; exact ⟨m, rfl, hwf⟩⟩
      · rename_i hd
        have hs := Nat.eq_of_beq_eq_true hok
        obtain ⟨s, rfl, rfl, hwf⟩ := DataW.trod_string (by rw [h2, td_str (h3.trans hd)]) h
        refine ⟨.v (.string s), by simp [wt, wtv, bulk], i, hi, by simp [RepC], ?_, by simp [hs], by simp [dcells, hs], ?_⟩
        · simp only [dcells, Reps]; exact ⟨_, _, rfl, ⟨by simp [RepC], rfl, rfl⟩, rfl⟩
        · unfold GoodT; exact ⟨i, hi, by rw [hd]; exact ⟨s, rfl, hwf⟩⟩
      · rename_i e hd
        simp only [Bool.and_eq_true] at hok
        obtain ⟨⟨he, hs⟩, hsz⟩ := hok
        have hs := Nat.eq_of_beq_eq_true hs
        split at hsz
        · rename_i ie hie
          have hsz := Nat.le_of_ble_eq_true hsz
          rcases DataW.trod_slice (by rw [h2, td_slice (h3.trans hd)]) h with ⟨rfl, rfl⟩ | ⟨a, len, cap, elems, rest, n', hf, rfl, rfl, hb, hlc, hcm, hel, hcells, _, _⟩
          · have hr : RepC (allOf w) (.lst ie.size [] .no) [.slice none 0 0] := by
              simp only [RepC, CapOK]; exact ⟨_, rfl, trivial, .inl ⟨by trivial, none, 0, rfl, fun _ => rfl⟩⟩
            refine ⟨.lst ie.size [] .no, by simp [wt, wts, bulk], i, hi, hr, ?_, by simp [hs], by simp [dcells, hs], ?_⟩
            · simp only [dcells, Reps]; exact ⟨_, _, rfl, ⟨hr, rfl, rfl⟩, rfl⟩
            · unfold GoodT; exact ⟨i, hi, by rw [hd]; exact ⟨ie, [], hie, rfl, by simp, by simp⟩⟩
          · have : n' = n := by omega
            subst this
            rw [cellsOf_ti hT hie] at hcells
            rcases Nat.eq_zero_or_pos len with hz | hpos
            · subst hz
              have hr : RepC (allOf w) (.lst ie.size [] .no) [.slice (some a) 0 cap] := by
                simp only [RepC, CapOK]; exact ⟨_, rfl, trivial, .inl ⟨by trivial, some a, cap, rfl, fun q => by cases q⟩⟩
              refine ⟨.lst ie.size [] .no, by simp [wt, wts, bulk], i, hi, hr, ?_, by simp [hs], by simp [dcells, hs], ?_⟩
              · simp only [dcells, Reps]; exact ⟨_, _, rfl, ⟨hr, rfl, rfl⟩, rfl⟩
              · unfold GoodT; exact ⟨i, hi, by rw [hd]; exact ⟨ie, [], hie, rfl, by simp, by simp⟩⟩
            · have hsome : ∀ j, j < len → ∃ cs y, w.cells? base (a.add (j * ie.size)) ie.size = some cs ∧ DataW.trod enc P w base spare held n' e cs = some y := by
                intro j hj
                have hj2 := hcells j hj
                rw [List.getElem?_eq_getElem (by omega)] at hj2
                rw [Option.bind_eq_some_iff] at hj2
                obtain ⟨cs, q1, q2⟩ := hj2
                exact ⟨cs, _, q1, q2⟩
              have hspot : a.spot = none := by
                obtain ⟨cs, y, q1, _⟩ := hsome 0 hpos
                obtain ⟨_, hlen, hcc⟩ := World.cells?_some q1
                have q2 := hcc 0 (by omega)
                rw [List.getElem?_eq_getElem (by omega)] at q2
                have q3 : (a.add (0 * ie.size)).add 0 = a := by simp [Addr.add]
                rw [q3] at q2
                cases hsp : a.spot with
                | none => rfl
                | some s =>
                  unfold World.cell? at q2
                  split at q2
                  · simp [hsp] at q2
                  · cases q2
              obtain ⟨b, off, sp⟩ := a
              simp only at hspot; subst hspot
              have hel2 : elems.length = len := hel
              obtain ⟨xs, fw, f1, f2, f3⟩ := rdw_elems (spare := spare) (held := held) (enc := enc) (P := P) (base := base) (b := b) (off := off) hie rfl he ih elems 0 fun j y hj => by
                have hjl := (List.getElem?_eq_some_iff.1 hj).1
                have hj2 := hcells j (by omega)
                rw [hj, Option.bind_eq_some_iff] at hj2
                obtain ⟨cs, q1, q2⟩ := hj2
                rw [Nat.zero_add]
                exact ⟨cs, q1, q2⟩
              rw [hel2] at f1
              have hr : RepC (allOf w) (.lst ie.size xs .no) [.slice (some ⟨b, off, none⟩) len cap] := by
                simp only [RepC, CapOK]
                refine ⟨_, rfl, trivial, .inr ⟨b, off, cap, by rw [f1], by rw [f1]; exact hlc, by simpa using f2⟩⟩
              refine ⟨.lst ie.size xs .no, by simp only [wt, bulk]; omega, i, hi, hr, ?_, by simp [hs], by simp [dcells, hs], ?_⟩
              · simp only [dcells, Reps]; exact ⟨_, _, rfl, ⟨hr, rfl, rfl⟩, rfl⟩
              · unfold GoodT; exact ⟨i, hi, by rw [hd]; exact ⟨ie, xs, hie, rfl, by rw [f1]; omega, f3⟩⟩
        · cases hsz
      · rename_i fs hd
        split at hok
        · rename_i tot hfo
          have hs := Nat.eq_of_beq_eq_true hok
          obtain ⟨gs, e1, e2⟩ := td_struct (h3.trans hd)
          obtain ⟨xs, n', hf, rfl, hl, hxl, hx⟩ := DataW.trod_struct (by rw [h2, e1]) h
          have : n' = n := by omega
          subst this
          rw [cellsOf_ti hT hi] at hl
          obtain ⟨_, ds, fw, f1, f2, f3, f4⟩ := rdw_fields hT (cs := cs) ih gs.toList xs 0 tot (by rw [e2]; exact hfo) (by omega) (by rw [hxl]; simp) fun j f y hj hy => by
            have hj' : gs[j]? = some f := by simpa using hj
            rw [hx j f hj', hy]
          simp only [List.drop_zero, Nat.sub_zero] at f2 f3
          rw [List.take_of_length_le (by omega)] at f2
          refine ⟨.agg (ds.flatMap dcells), by simp only [wt, bulk]; omega, i, hi, by simp only [RepC]; exact f2, f2, hl, by simp only [dcells]; omega, ?_⟩
          unfold GoodT
          exact ⟨i, hi, by rw [hd]; exact ⟨ds, rfl, by rw [f1, ← e2]; simp, fun j f d0 q1 q2 => f4 j f d0 (by rw [e2]; exact q1) q2⟩⟩
        · cases hok
      · rename_i m e hd
        simp only [Bool.and_eq_true] at hok
        obtain ⟨he, hsz⟩ := hok
        split at hsz
        · rename_i ie hie
          have hsz := Nat.eq_of_beq_eq_true hsz
          obtain ⟨xs, n', hf, rfl, hl, hxl, hx⟩ := DataW.trod_array (by rw [h2, td_array (h3.trans hd)]) h
          have : n' = n := by omega
          subst this
          rw [cellsOf_ti hT hi] at hl
          rw [cellsOf_ti hT hie] at hx
          obtain ⟨ds, fw, f1, f2, f3, f4⟩ := rdw_arr (cs := cs) hie rfl he ih xs 0 fun j y hj => by
            have hjl := (List.getElem?_eq_some_iff.1 hj).1
            rw [Nat.zero_add, hx j (by omega), hj]
          rw [hxl] at f1 f2 f3
          simp only [Nat.zero_mul, List.drop_zero] at f2
          rw [List.take_of_length_le (by omega)] at f2
          refine ⟨.agg (ds.flatMap dcells), by simp only [wt, bulk]; omega, i, hi, by simp only [RepC]; exact f2, f2, hl, by simp only [dcells]; omega, ?_⟩
          unfold GoodT
          exact ⟨i, hi, by rw [hd]; exact ⟨ds, rfl, f1, f4⟩⟩
        · cases hsz
      · cases hok
    · cases hok
theorem rdw_arg {v : Value} {x : DataW H} {ps : List MemPlace} {r : Reach} {b0 t : Nat} (hT : TabOK P tab) (ts : List Nat) (hc : closedT tab ts = true) (ht : ts.contains t = true)
    (hv : Value.okWide P w r b0 t v) (h : DataW.Trod enc P w base spare held t v x ps) : ∃ n d, GoodT tab n t d ∧ Rep (allOf w) d v ∧ wt d ≤ bulk x := by
  obtain ⟨n, hn⟩ := h
  obtain ⟨d, hw, i, h1, h2, h3, h4, h5, h6⟩ := rdw hT hc n t _ _ ht hn
  exact ⟨n, d, h6, ⟨h2, shape_of hT hv h6⟩, hw⟩
end
end Go.Proofs.Ytpdekcfeecdlbaa.Ab
namespace Go.Proofs.Ytpdekcfeecdlbaa.Ab
open Go
set_option linter.all false
section
variable {α β : Type} [DecidableEq α]
def mget : List (α × β) → α → Option β
  | [], _ => none
  | (a, b) :: l, k => if a = k then some b else mget l k
def mput : List (α × β) → α → β → List (α × β)
  | [], k, v => [(k, v)]
  | (a, b) :: l, k, v => if a = k then (k, v) :: l else (a, b) :: mput l k v
def mgetD (l : List (α × β)) (k : α) (z : β) : β := (mget l k).getD z
def ffind : List α → α → List MapEntry → Nat → Option (Nat × Value)
  | a :: ks, k, e :: me, i => if a = k then some (i, e.val) else ffind ks k me (i + 1)
  | _, _, _, _ => none
end
structure KeyOK (P : Program) (kt : TypeId) {α : Type} [DecidableEq α] (f : α → Value) : Prop where
  find : ∀ (w : World) (k : α) (me : List MapEntry) (ks : List α), me.map (·.key) = ks.map f → (Instr.findKey kt (f k) me).run P w = .ok (ffind ks k me 0) w
  check : ∀ (w : World) (e : Bool) (k : α), (Instr.checkKey e 10000 kt (f k)).run P w = .ok () w
  stays : ∀ (w : World) (k : α), (Instr.keyThatStays (f k) (f k)).run P w = .ok (f k) w
section
variable {α β : Type} [DecidableEq α] {f : α → Value} {e : β → D} {H : Hp}
theorem mapR_keys : ∀ {l : List (α × β)} {me : List MapEntry}, MapR H (l.map fun p => (f p.1, e p.2)) me → me.map (·.key) = (l.map (·.1)).map f
  | [], me, h => by simp [MapR] at h; subst h; rfl
  | p :: l, me, h => by
    simp only [List.map_cons, MapR] at h
    obtain ⟨m, me', rfl, h1, _, h2⟩ := h
    simp only [List.map_cons, h1, mapR_keys h2]
theorem mapR_find (k : α) : ∀ {l : List (α × β)} {me : List MapEntry} (i : Nat), MapR H (l.map fun p => (f p.1, e p.2)) me →
    (mget l k = none ∧ ffind (l.map (·.1)) k me i = none ∧ ∀ (v : β) (y : Value) (b : Nat), Rep H (e v) y → MapR H ((mput l k v).map fun p => (f p.1, e p.2)) (me ++ [⟨f k, y, b⟩])) ∨
    ∃ j b m, mget l k = some b ∧ ffind (l.map (·.1)) k me i = some (i + j, m.val) ∧ Rep H (e b) m.val ∧ me[j]? = some m ∧ m.key = f k ∧ ∀ (v : β) (y : Value), Rep H (e v) y → MapR H ((mput l k v).map fun p => (f p.1, e p.2)) (me.modify j fun x => { x with key := f k, val := y })
  | [], me, i, h => by
    simp [MapR] at h; subst h
    refine .inl ⟨rfl, rfl, fun v y b hy => ?_⟩
    simp only [mput, List.map_cons, List.map_nil, MapR, List.nil_append]
    exact ⟨_, _, rfl, rfl, hy, rfl⟩
  | p :: l, me, i, h => by
    simp only [List.map_cons, MapR] at h
    obtain ⟨m, me', rfl, h1, h2, h3⟩ := h
    by_cases q : p.1 = k
    · refine .inr ⟨0, p.2, m, by unfold mget; rw [if_pos q], by simp only [List.map_cons, ffind]; rw [if_pos q]; rfl, h2, rfl, by rw [h1, q], fun v y hy => ?_⟩
      simp only [mput, if_pos q, List.map_cons, MapR, List.modify_zero_cons]
      exact ⟨_, _, rfl, rfl, hy, h3⟩
    · rcases mapR_find k (i + 1) h3 with ⟨g1, g2, g3⟩ | ⟨j, b, m', g1, g2, g3, g4, g5, g6⟩
      · refine .inl ⟨by unfold mget; rw [if_neg q]; exact g1, by simp only [List.map_cons, ffind]; rw [if_neg q]; exact g2, fun v y b hy => ?_⟩
        simp only [mput, if_neg q, List.map_cons, MapR, List.cons_append]
        exact ⟨_, _, rfl, h1, h2, g3 v y b hy⟩
      · refine .inr ⟨j + 1, b, m', by unfold mget; rw [if_neg q]; exact g1, by simp only [List.map_cons, ffind]; rw [if_neg q, g2]; congr 2; omega, g3, by simpa using g4, g5, fun v y hy => ?_⟩
        simp only [mput, if_neg q, List.map_cons, MapR, List.modify_succ_cons]
        exact ⟨_, _, rfl, h1, h2, g6 v y hy⟩
end
theorem Core.allocMap {C : Ctx} {H : Hp} {h : List (Nat × Blk)} {k : List (Nat × Value)} {w : World} (c : Core C H h k w) :
    Core C H ((w.heap.size, .mp []) :: h) k (w.alloc (.map #[] 0)) := by
  have c0 : Core ⟨H, w, []⟩ H [(w.heap.size, .mp [])] [] (w.alloc (.map #[] 0)) := by
    refine ⟨fun a v e => cell_alloc _ (c.ag a v e), Hp.le_refl H, fun _ _ x => .inl x, fun b hb _ => ?_, ?_, ?_, by simp, ?_, ?_, ⟨rfl, rfl, rfl, Nat.le_refl _⟩⟩
    · rw [heap_alloc, if_neg (by exact Nat.ne_of_lt hb)]
    · rw [size_alloc]; exact Nat.le_succ _
    · intro p hp
      simp only [List.mem_singleton] at hp; subst hp
      refine ⟨#[], 0, by rw [heap_alloc, if_pos rfl], rfl, fun o => ?_⟩
      cases e : H ⟨w.heap.size, o, none⟩ with
      | none => rfl
      | some v => exact absurd (c.ag.lt e) (Nat.lt_irrefl _)
    · simp [claims, blkClaim]
    · intro b hb
      simp [claims, blkClaim] at hb; subst hb
      exact .inr (Nat.le_refl _)
  exact Core.call (h1 := []) (k1 := []) (h2 := h) (k2 := k) c c0
theorem Core.setMap {C : Ctx} {H : Hp} {h : List (Nat × Blk)} {k : List (Nat × Value)} {w : World} (c : Core C H h k w) {j b : Nat} {es es' : List (Value × D)} {me : Array MapEntry} {ck : Nat} (hj : h[j]? = some (b, .mp es))
    (hr : MapR H es' me.toList) : Core C H (h.set j (b, .mp es')) k { w with heap := w.heap.setIfInBounds b (.map me ck) } := by
  have hlt : j < h.length := (List.getElem?_eq_some_iff.1 hj).1
  have p1 : h.Perm ([(b, .mp es)] ++ h.eraseIdx j) := perm_at hj
  have c1 := c.perm p1 (List.Perm.refl k)
  obtain ⟨me0, ck0, h1, h2, h3⟩ := c.blks _ (List.mem_of_getElem? hj)
  have hs := MapKept.heap_set (w := w) (o' := .map me ck) h1
  have c2 : Core ⟨H, w, claims [(b, Blk.mp es)] []⟩ H [(b, .mp es')] [] { w with heap := w.heap.setIfInBounds b (.map me ck) } := by
    refine ⟨fun a v e => ?_, Hp.le_refl H, fun _ _ x => .inl x, fun i _ hm => hs.2 i (by simpa [claims, blkClaim] using hm), by simp, ?_, by simp, by simp [claims, blkClaim], ?_, ⟨rfl, rfl, rfl, Nat.le_refl _⟩⟩
    · have hne : a.block ≠ b := fun e2 => by
        obtain ⟨ab, ao, sp0⟩ := a
        simp only at e2; subst e2
        have hc := c.ag _ _ e
        cases sp0 with
        | none => rw [h3] at e; cases e
        | some s => simp [World.cell?, h1] at hc
      have := c.ag a v e
      simp only [World.cell?] at this ⊢
      rw [hs.2 _ hne]; exact this
    · intro p hp
      simp only [List.mem_singleton] at hp; subst hp
      exact ⟨me, ck, hs.1, hr, h3⟩
    · intro x hx
      exact .inl (by simpa [claims, blkClaim] using hx)
  have c3 := Core.call (h1 := [(b, .mp es)]) (k1 := []) (h2 := h.eraseIdx j) (k2 := k) (by simpa using c1) c2
  refine c3.perm ?_ (by simp)
  have p2 : (h.set j (b, Blk.mp es'))[j]? = some (b, Blk.mp es') := by rw [List.getElem?_set_self hlt]
  have p3 := perm_at p2
  rw [List.eraseIdx_set_eq] at p3
  exact p3.symm
section
variable {P : Program} {C : Ctx} {N : Nat} {ops rest : List Oper} {o : Oper} {t : List (Nat × D)} {h : List (Nat × Blk)} {k : List (Nat × Value)} {Q : Exit → S → Prop} {tab : List (Option TI)}
theorem run_zv {w : World} {t : TypeId} {z : Value} (h : (P.info? t).bind (·.zero) = some z) : (Go.zeroValue t).run P w = .ok z w := by
  cases hi : P.info? t with
  | none => rw [hi] at h; cases h
  | some i =>
    rw [hi] at h
    have ht : (Go.typeInfo t).run P w = .ok i w := by
      unfold Go.typeInfo Go.program
      rw [run_bind_ok (a := P) rfl, hi]; rfl
    unfold Go.zeroValue
    rw [run_bind_ok ht]
    simp only [Option.bind_some] at h
    rw [h]; rfl
section
variable {α β : Type} [DecidableEq α] {f : α → Value} {e : β → D}
end
end
end Go.Proofs.Ytpdekcfeecdlbaa.Ab
namespace Go.Proofs.Ytpdekcfeecdlbaa.Ab
open Go
set_option linter.all false
theorem reps_v (H : Hp) : ∀ us : List Value, us.all one = true → Reps H (us.map .v) us
  | [], _ => rfl
  | u :: us, h => by
    simp only [List.all_cons, Bool.and_eq_true] at h
    simp only [List.map_cons, Reps]
    exact ⟨u, us, rfl, ⟨by simp [RepC], h.1, rfl⟩, reps_v H us h.2⟩
theorem reps_v_inv {H : Hp} : ∀ {us vs : List Value}, Reps H (us.map .v) vs → vs = us
  | [], vs, h => h
  | u :: us, vs, h => by
    simp only [List.map_cons, Reps] at h
    obtain ⟨v, vs', rfl, ⟨h1, _⟩, h2⟩ := h
    simp only [RepC, List.cons.injEq, and_true] at h1
    rw [h1, reps_v_inv h2]
theorem rep_va (H : Hp) {us : List Value} (h : us.all one = true) : Rep H (.agg (us.map .v)) (.agg us.toArray) :=
  ⟨by simpa [RepC, Value.cells] using reps_v H us h, rfl⟩
theorem rep_va_inv {H : Hp} {us : List Value} {v : Value} (h : Rep H (.agg (us.map .v)) v) : v = .agg us.toArray := by
  obtain ⟨vs, rfl, h2⟩ := rep_agg_inv h
  rw [reps_v_inv h2]
def keyF (tab : List (Option TI)) (us : List Value) (g : Nat × Nat) : Bool :=
  match ti tab g.1, us[g.2]? with
  | some i, some x => match i.d, x with
    | .int k, .int k' _ => keq k k'
    | .bool, .bool _ => true
    | .str, .string _ => true
    | _, _ => false
  | _, _ => false
theorem keyF_ok {P : Program} {w : World} {tab : List (Option TI)} (hT : TabOK P tab) {us : List Value} (h1 : us.all one = true) {g : Nat × Nat} (h : keyF tab us g = true) (e : Bool) (n : Nat) :
    ∃ v, (Go.part g.1 us.toArray g.2).run P w = .ok v w ∧ (Instr.checkKey e (n + 1) g.1 v).run P w = .ok () w := by
  unfold keyF at h
  split at h
  · rename_i i x hi hx
    have hag : i.agg = false := by
      unfold TI.agg
      split at h <;> first | (rename_i hd; rw [hd]) | cases h
    obtain ⟨v, p1, q1⟩ := run_part (P := P) (w := w) (H := fun _ => none) (ti_ok hT hi) (reps_v _ us h1) (d := .v x) (off := g.2) (by simp [partD, hag, hx])
    have e1 := rep_v_inv q1; subst e1
    refine ⟨v, p1, ?_⟩
    obtain ⟨ti', z, dd, h3, h4, h5, _⟩ := tiOf_inv (ti_ok hT hi)
    split at h
    · rename_i k k' a hd
      have := keq_eq h; subst this
      exact MapKept.run_checkKey (by rw [h4, td_int (h5.trans hd)]) (k := .int k a) (by simp [MapKept.IsKey]) e n
    · rename_i a hd
      exact MapKept.run_checkKey (by rw [h4, td_bool (h5.trans hd)]) (k := .bool a) (by simp [MapKept.IsKey]) e n
    · rename_i a hd
      exact MapKept.run_checkKey (by rw [h4, td_str (h5.trans hd)]) (k := .string a) (by simp [MapKept.IsKey]) e n
    · cases h
  · cases h
theorem check_struct {P : Program} {w : World} {tab : List (Option TI)} (hT : TabOK P tab) {kt : TypeId} {ti0 : TI} {fs : List (Nat × Nat)} (hti : ti tab kt = some ti0) (hfs : ti0.d = .struct fs) {us : List Value} (h1 : us.all one = true)
    (hk : fs.all (keyF tab us) = true) (e : Bool) (n : Nat) : (Instr.checkKey e (n + 2) kt (.agg us.toArray)).run P w = .ok () w := by
  obtain ⟨dd, g1, g2⟩ := run_underlying (w := w) (ti_ok hT hti)
  obtain ⟨gs, rfl, h8⟩ := td_struct (g2.trans hfs)
  rw [show n + 2 = (n + 1) + 1 from rfl, Instr.checkKey]
  simp only [Sem.run_bind, g1, Result.andThen_ok]
  rw [← Array.forIn_toList]
  generalize gs.toList = L at h8
  clear g1 g2 hfs hti
  induction L generalizing fs with
  | nil => simp
  | cons f L ih =>
    subst h8
    simp only [List.map_cons, List.all_cons, Bool.and_eq_true] at hk
    obtain ⟨v, p1, p2⟩ := keyF_ok (w := w) hT h1 hk.1 e n
    simp only at p1 p2
    by_cases hn : f.name = "_"
    · simp only [List.forIn_cons, Sem.run_bind, hn, ne_eq, not_true_eq_false, if_false, Result.andThen_ok, Sem.run_pure]
      exact ih hk.2 rfl
    · simp only [List.forIn_cons, Sem.run_bind, hn, ne_eq, not_false_eq_true, if_true, Result.andThen_ok, p1, p2, Sem.run_pure]
      exact ih hk.2 rfl
theorem stays_struct {P : Program} {w : World} {us : List Value} (h : us.all (fun x => match x with | .int _ _ => true | .bool _ => true | .string _ => true | _ => false) = true) :
    (Instr.keyThatStays (.agg us.toArray) (.agg us.toArray)).run P w = .ok (.agg us.toArray) w := by
  have hb : Instr.sameBits 10000 (.agg us.toArray) (.agg us.toArray) = true := by
    show Instr.sameBits (9999 + 1) _ _ = true
    simp only [Instr.sameBits, beq_self_eq_true, Bool.true_and, List.all_eq_true]
    intro p hp
    have : p.1 = p.2 ∧ p.1 ∈ us := by
      clear h
      generalize us = l at hp
      induction l with
      | nil => simp at hp
      | cons a l ih =>
        simp only [List.zip_cons_cons, List.mem_cons] at hp
        rcases hp with rfl | hp
        · simp
        · obtain ⟨e1, e2⟩ := ih hp
          exact ⟨e1, by simp [e2]⟩
    obtain ⟨e1, e2⟩ := this
    have hx := List.all_eq_true.1 h _ e2
    rw [← e1]
    cases hq : p.1 <;> rw [hq] at hx <;> simp at hx
    · exact MapKept.sameBits_self (d := .bool) (by simp [MapKept.IsKey]) _
    · exact MapKept.sameBits_self (d := .int _) (by simp [MapKept.IsKey]; rfl) _
    · exact MapKept.sameBits_self (d := .string) (by simp [MapKept.IsKey]) _
  unfold Instr.keyThatStays
  rw [hb]; rfl
theorem find_asking {P : Program} {w : World} {kt : TypeId} {α : Type} [DecidableEq α] {f : α → Value} (k : α) (heq : ∀ a, (Op.equal kt (f k) (f a)).run P w = .ok (decide (a = k)) w) :
    ∀ (ks : List α) (me : List MapEntry) (i : Nat), me.map (·.key) = ks.map f → (Instr.findAsking kt (f k) me i).run P w = .ok (ffind ks k me i) w
  | [], me, i, e => by simp at e; subst e; rfl
  | a :: ks, [], i, e => by cases e
  | a :: ks, m :: me, i, e => by
    simp only [List.map_cons, List.cons.injEq] at e
    unfold Instr.findAsking ffind
    rw [e.1, run_bind_ok (heq a)]
    by_cases q : a = k
    · rw [decide_eq_true q, if_pos q]; rfl
    · rw [decide_eq_false q, if_neg q]
      exact find_asking k heq ks me (i + 1) e.2
theorem struct_key {P : Program} {tab : List (Option TI)} {kt : TypeId} {α : Type} [DecidableEq α] {g : α → List Value} {ti0 : TI} {fs : List (Nat × Nat)} (hT : TabOK P tab) (hE : EqT P kt) (hti : ti tab kt = some ti0) (hfs : ti0.d = .struct fs)
    (h1 : ∀ a, (g a).all (fun x => match x with | .int _ _ => true | .bool _ => true | .string _ => true | _ => false) = true) (h2 : ∀ a, fs.all (keyF tab (g a)) = true)
    (h3 : ∀ a b, eqL tab fs ((g a).map .v) ((g b).map .v) = some (decide (b = a))) : KeyOK P kt (fun a => .agg (g a).toArray) := by
  have ho : ∀ a, (g a).all one = true := fun a => by
    have := h1 a
    rw [List.all_eq_true] at this ⊢
    intro x hx
    have := this x hx
    cases x <;> simp at this <;> rfl
  refine ⟨fun w k me ks e => ?_, fun w e k => check_struct hT hti hfs (ho k) (h2 k) e 9998, fun w k => stays_struct (h1 k)⟩
  obtain ⟨ti', z, dd', h5, h6, h7, _⟩ := tiOf_inv (ti_ok hT hti)
  obtain ⟨gs, rfl, h8⟩ := td_struct (h7.trans hfs)
  have hf : P.fieldsOf kt = gs := by unfold Program.fieldsOf; rw [h6]
  rw [run_findKey_eq w (by rw [h6])]
  refine find_asking k (fun a => ?_) ks me 0 e
  show (Op.equalIn (9999 + 1) kt _ _).run P w = _
  rw [run_equalIn_struct w 9999 kt _ _ (by rw [h6, hf]) hE.stood]
  have hn := hE.names
  rw [hf] at hn ⊢
  exact eqL_ok (H := fun _ => none) hT (reps_v _ _ (ho k)) (reps_v _ _ (ho a)) 9998 gs.toList fs _ h8 hn (h3 k a)
section
variable {P : Program} {C : Ctx} {o : Oper} {t : List (Nat × D)} {h : List (Nat × Blk)} {k : List (Nat × Value)} {tab : List (Option TI)} {α β : Type} [DecidableEq α] {f : α → Value} {e : β → D}
end
end Go.Proofs.Ytpdekcfeecdlbaa.Ab
namespace Go.Proofs.Ytpdekcfeecdlbaa.Ab
open Go Go.RowKit Go.Shelf Go.Lib Go.Proofs
set_option linter.all false
theorem run_copy_blk {P : Program} {w : World} {dT sT ty elem : TypeId} {k b o dLen dCap n' : Nat} {src : Value} {cs A : List Value} {T : TypeId} (hu : P.underlying dT = some (.slice elem)) (hs : (P.info? elem).map (·.size) = some k)
    (hlen : (Builtin.lenOf src).run P w = .ok n' w) (hcs : (Builtin.firstCells k (Nat.min n' dLen) src).run P w = .ok cs.toArray w) (hb : w.heap[b]? = some (.cells A.toArray T (0, 0))) (hfit : o + cs.length ≤ A.length) (h1 : ∀ v ∈ cs, one v = true) :
    ∃ w', (Builtin.copy_ #[dT, sT] ty #[.slice (some ⟨b, o, none⟩) dLen dCap, src]).run P w = .ok (goInt (Nat.min n' dLen)) w' ∧ Env w w' ∧ w'.heap.size = w.heap.size ∧ (∀ j, j ≠ b → w'.heap[j]? = w.heap[j]?) ∧
      w'.heap[b]? = some (.cells (A.take o ++ (cs ++ A.drop (o + cs.length))).toArray T (0, 0)) := by
  obtain ⟨w', s1, s2, s3, s4, s5⟩ := run_storeCells (P := P) (b := b) (off := o) (T := T) cs 0 w A hb (by omega) h1
  refine ⟨w', ?_, s2, s3, s4, by simpa using s5⟩
  cases hq : P.info? elem with
  | none => simp [hq] at hs
  | some i =>
    have hi : i.size = k := by simpa [hq] using hs
    have hsz : (Go.sizeOf elem).run P w = .ok k w := by simp [sizeOf, typeInfo, hq, hi]
    unfold Builtin.copy_
    simp only [List.getElem?_toArray, List.getElem?_cons_zero, List.getElem?_cons_succ]
    rw [run_bind_ok (_root_.Go.run_underlying hu w)]
    simp only []
    rw [run_bind_ok hlen]
    rw [run_bind_ok hsz, run_bind_ok hcs]
    simp only []
    rw [run_bind_ok s1]
    rfl
def insAt (xs : List TApiKey) (i : Int) (x : TApiKey) : List TApiKey := xs.take i.toNat ++ x :: xs.drop i.toNat
def insPre (xs : List TApiKey) (i : Int) : Bool := decide (0 ≤ i) && decide (i ≤ xs.length) && decide (xs.length < 4398046511104)
def kc2 (x : TApiKey) : List Value := [.string x.gName, .int .i64 x.gNode]
theorem flat_k {H : Hp} : ∀ {xs : List TApiKey} {us : List Value}, FlatR H 2 (xs.map eTApiKey) us → us = xs.flatMap kc2
  | [], us, h => h
  | x :: xs, us, h => by
    simp only [List.map_cons, FlatR] at h
    obtain ⟨u1, u2, rfl, hl, ⟨h1, _⟩, h2⟩ := h
    rw [flat_k h2]
    simp only [eTApiKey, RepC, Reps] at h1
    obtain ⟨a, us', e, ⟨e1, _⟩, b, us'', e', ⟨e1', _⟩, e2⟩ := h1
    simp only [List.cons.injEq, and_true] at e1 e1'
    subst e; subst e'; subst e2; subst e1; subst e1'
    rfl
theorem k_flat {H : Hp} : ∀ (xs : List TApiKey), FlatR H 2 (xs.map eTApiKey) (xs.flatMap kc2)
  | [] => rfl
  | x :: xs => ⟨kc2 x, xs.flatMap kc2, rfl, rfl, ⟨by simp only [eTApiKey, RepC]; exact reps_v H (kc2 x) rfl, by simp [kc2, one]⟩, k_flat xs⟩
theorem kc2_len (xs : List TApiKey) : (xs.flatMap kc2).length = xs.length * 2 := by
  induction xs with
  | nil => rfl
  | cons x xs ih => simp [ih, kc2]; omega
theorem kc2_one (xs : List TApiKey) : ∀ v ∈ xs.flatMap kc2, one v = true := by
  intro v hv
  rw [List.mem_flatMap] at hv
  obtain ⟨x, _, h⟩ := hv
  simp [kc2] at h; rcases h with rfl | rfl <;> rfl
theorem kc2_take (xs : List TApiKey) (i : Nat) : (xs.flatMap kc2).take (i * 2) = (xs.take i).flatMap kc2 := by
  induction xs generalizing i with
  | nil => simp
  | cons x xs ih => cases i with
    | zero => simp
    | succ i => rw [show (i + 1) * 2 = i * 2 + 1 + 1 by omega]; simp [kc2, ih]
theorem kc2_drop (xs : List TApiKey) (i : Nat) : (xs.flatMap kc2).drop (i * 2) = (xs.drop i).flatMap kc2 := by
  induction xs generalizing i with
  | nil => simp
  | cons x xs ih => cases i with
    | zero => simp
    | succ i => rw [show (i + 1) * 2 = i * 2 + 1 + 1 by omega]; simp [kc2, ih]
theorem row_core {H : Hp} {w w' : World} {b c : Nat} {xs : List TApiKey} {rest : List Value} {T : TypeId} {M : List Nat} (hA : Ag H w) (he : Env w w') (hs : w.heap.size ≤ w'.heap.size) (ho : ∀ j, j < w.heap.size → j ∉ M → w'.heap[j]? = w.heap[j]?)
    (hM : ∀ j ∈ M, ∀ o, H ⟨j, o, none⟩ = none) (hMc : ∀ j ∈ M, ∃ cs T', w.heap[j]? = some (.cells cs T' (0, 0))) (hb : w'.heap[b]? = some (.cells (xs.flatMap kc2 ++ rest).toArray T (0, 0))) (hbM : b ∈ M ∨ w.heap.size ≤ b) (hc : xs.length ≤ c) (h0 : 0 < c) (hr : c * 2 ≤ (xs.flatMap kc2 ++ rest).length) :
    Core ⟨H, w, M⟩ H [(0, .row 2 (xs.map eTApiKey) (SL (some ⟨b, 0, none⟩, xs.length, c)))] [] w' := by
  have hHb : ∀ o, H ⟨b, o, none⟩ = none := fun o => by
    rcases hbM with h | h
    · exact hM b h o
    · cases e : H ⟨b, o, none⟩ with
      | none => rfl
      | some v => exact absurd (hA.lt e) (by show ¬ b < _; omega)
  refine ⟨fun a v e => ?_, Hp.le_refl H, fun _ _ x => .inl x, ho, hs, ?_, by simp, ?_, ?_, he⟩
  · have hcell := hA a v e
    have hlt := hA.lt e
    by_cases q : a.block ∈ M
    · obtain ⟨cs, T', hh⟩ := hMc _ q
      obtain ⟨ab, ao, sq⟩ := a
      cases sq with
      | some sp => simp [World.cell?, hh] at hcell
      | none => rw [hM _ q ao] at e; cases e
    · simp only [World.cell?] at hcell ⊢
      rw [ho _ hlt q]; exact hcell
  · intro p hp
    simp only [List.mem_singleton] at hp; subst hp
    exact .inr ⟨b, c, xs.flatMap kc2, rest, T, by simp [SL], by simpa using hc, h0, hb, k_flat xs, hr, hHb⟩
  · simp [claims, blkClaim, sliceClaim, h0]
  · intro x hx; simp [claims, blkClaim, sliceClaim, h0] at hx; subst hx; exact hbM
end Go.Proofs.Ytpdekcfeecdlbaa.Ab
namespace Go.Proofs.Ytpdekcfeecdlbaa.Ab
open Go
set_option linter.all false
section
variable {α : Type} [Inhabited α]
theorem row_same {H : Hp} {w : World} {r : Nat} {kk : Nat} {xs : List D} {y : Value} (hA : Ag H w) (h : BlkOK H w (r, .row kk xs y)) (nd : (claims [(r, Blk.row kk xs y)] []).Nodup) : Core ⟨H, w, claims [(r, Blk.row kk xs y)] []⟩ H [(0, .row kk xs y)] [] w := by
  refine ⟨hA, Hp.le_refl H, fun _ _ x => .inl x, fun _ _ _ => rfl, Nat.le_refl _, ?_, by simp, ?_, ?_, Env.refl w⟩
  · intro p hp
    simp only [List.mem_singleton] at hp; subst hp
    exact h
  · have e : claims [(0, Blk.row kk xs y)] [] = claims [(r, Blk.row kk xs y)] [] := rfl
    rw [e]; exact nd
  · intro x hx
    exact .inl (by simpa [claims, blkClaim] using hx)
end
end Go.Proofs.Ytpdekcfeecdlbaa.Ab
namespace Go.Proofs.Ytpdekcfeecdlbaa.Ab
open Go Go.RowKit
set_option linter.all false
def bsOf (l : List UInt8) : ByteArray := ⟨l.toArray⟩
def lsOf (b : ByteArray) : List UInt8 := b.data.toList
theorem bs_ls (b : ByteArray) : bsOf (lsOf b) = b := by cases b; simp [bsOf, lsOf]
end Go.Proofs.Ytpdekcfeecdlbaa.Ab
namespace Go.Proofs.Ytpdekcfeecdlbaa.Ab
open Go
set_option linter.all false
section
variable {α : Type} {R : α → α → Prop}
def Rise (R : α → α → Prop) (l : List α) : Prop := l.Pairwise fun a b => R a b ∧ a ≠ b
theorem rise_unique (an : ∀ a b, R a b → R b a → a = b) : ∀ {l m : List α}, Rise R l → Rise R m → (∀ x, x ∈ l ↔ x ∈ m) → l = m
  | [], [], _, _, _ => rfl
  | [], y :: m, _, _, h => by have := (h y).2 (by simp); cases this
  | x :: l, [], _, _, h => by have := (h x).1 (by simp); cases this
  | x :: l, y :: m, hl, hm, h => by
    unfold Rise at hl hm
    rw [List.pairwise_cons] at hl hm
    have hxy : x = y := by
      rcases List.mem_cons.1 ((h x).1 (by simp)) with e | e
      · exact e
      · rcases List.mem_cons.1 ((h y).2 (by simp)) with e2 | e2
        · exact e2.symm
        · exact an _ _ (hl.1 _ e2).1 (hm.1 _ e).1
    subst hxy
    congr 1
    refine rise_unique an hl.2 hm.2 fun z => ?_
    constructor
    · intro hz
      rcases List.mem_cons.1 ((h z).1 (List.mem_cons_of_mem _ hz)) with e | e
      · exact absurd e.symm (hl.1 _ hz).2
      · exact e
    · intro hz
      rcases List.mem_cons.1 ((h z).2 (List.mem_cons_of_mem _ hz)) with e | e
      · exact absurd e.symm (hm.1 _ hz).2
      · exact e
variable [Inhabited α] [DecidableEq α]
end
def leS (a b : ByteArray) : Prop := lsOf a ≤ lsOf b
theorem lsOf_inj {a b : ByteArray} (h : lsOf a = lsOf b) : a = b := by rw [← bs_ls a, ← bs_ls b, h]
end Go.Proofs.Ytpdekcfeecdlbaa.Ab
namespace Go.Proofs.Ytpdekcfeecdlbaa.Ab
open Go
set_option linter.all false
section
variable {α : Type} [DecidableEq α] (lt : α → α → Bool)
def insT (w : α) : List α → List α
  | [] => [w]
  | x :: l => if w = x then x :: l else if lt w x = true then w :: x :: l else x :: insT w l
theorem insT_mem (w : α) : ∀ l x, x ∈ insT lt w l ↔ x = w ∨ x ∈ l
  | [], x => by simp [insT]
  | y :: l, x => by
    unfold insT
    split
    · rename_i h; subst h; simp
    · split
      · simp
      · rw [List.mem_cons, insT_mem w l x, List.mem_cons]
        constructor
        · rintro (h | h | h)
          · exact .inr (.inl h)
          · exact .inl h
          · exact .inr (.inr h)
        · rintro (h | h | h)
          · exact .inr (.inl h)
          · exact .inl h
          · exact .inr (.inr h)
theorem insT_len (w : α) : ∀ l, (insT lt w l).length ≤ l.length + 1
  | [] => by simp [insT]
  | y :: l => by
    have := insT_len w l
    unfold insT
    split
    · simp
    · split
      · simp
      · simp only [List.length_cons]; omega
variable {R : α → α → Prop} (hlt : ∀ a b, lt a b = true ↔ (R a b ∧ a ≠ b)) (to : ∀ a b, R a b ∨ R b a) (tr : ∀ a b c, R a b → R b c → R a c) (an : ∀ a b, R a b → R b a → a = b)
include hlt to tr an in
theorem insT_rise (w : α) : ∀ l, Rise R l → Rise R (insT lt w l)
  | [], _ => by simp [insT, Rise]
  | y :: l, h => by
    unfold Rise at h
    rw [List.pairwise_cons] at h
    unfold insT
    split
    · exact List.pairwise_cons.2 h
    · rename_i hne
      split
      · rename_i hl
        have hr := (hlt w y).1 hl
        refine List.pairwise_cons.2 ⟨fun z hz => ?_, List.pairwise_cons.2 h⟩
        rcases List.mem_cons.1 hz with rfl | hz
        · exact hr
        · have h2 := h.1 z hz
          refine ⟨tr _ _ _ hr.1 h2.1, fun e => ?_⟩
          subst e
          exact hne (an _ _ hr.1 h2.1)
      · rename_i hl
        refine List.pairwise_cons.2 ⟨fun z hz => ?_, insT_rise w l h.2⟩
        rcases (insT_mem lt w l z).1 hz with rfl | hz
        · refine ⟨?_, fun e => hne e.symm⟩
          rcases to z y with k | k
          · exact absurd ((hlt z y).2 ⟨k, hne⟩) hl
          · exact k
        · exact h.1 z hz
def insA (ws : List α) : List α := ws.foldl (fun acc w => insT lt w acc) []
theorem insA_snoc (ws : List α) (w : α) : insA lt (ws ++ [w]) = insT lt w (insA lt ws) := by simp [insA]
include hlt to tr an in
theorem insA_all (ws : List α) : Rise R (insA lt ws) ∧ (∀ x, x ∈ insA lt ws ↔ x ∈ ws) ∧ (insA lt ws).length ≤ ws.length := by
  have key : ∀ (ws acc : List α), Rise R acc → Rise R (ws.foldl (fun acc w => insT lt w acc) acc) ∧ (∀ x, x ∈ ws.foldl (fun acc w => insT lt w acc) acc ↔ x ∈ acc ∨ x ∈ ws) ∧ (ws.foldl (fun acc w => insT lt w acc) acc).length ≤ acc.length + ws.length := by
    intro ws
    induction ws with
    | nil => intro acc h; exact ⟨h, by simp, by simp⟩
    | cons w ws ih =>
      intro acc h
      obtain ⟨h1, h2, h3⟩ := ih (insT lt w acc) (insT_rise lt hlt to tr an w acc h)
      have hl := insT_len lt w acc
      refine ⟨h1, fun x => ?_, by simp only [List.foldl_cons, List.length_cons]; omega⟩
      rw [List.foldl_cons, h2 x, insT_mem, List.mem_cons]
      constructor
      · rintro ((h | h) | h)
        · exact .inr (.inl h)
        · exact .inl h
        · exact .inr (.inr h)
      · rintro (h | h | h)
        · exact .inl (.inr h)
        · exact .inl (.inl h)
        · exact .inr h
  obtain ⟨h1, h2, h3⟩ := key ws [] (by simp [Rise])
  exact ⟨h1, fun x => (h2 x).trans (by simp), by simpa [insA] using h3⟩
variable (ir : ∀ a, lt a a = false)
end
theorem bl_eq : ∀ x y : List UInt8, Op.bytesLess x y = decide (x < y)
  | [], [] => by simp [Op.bytesLess]
  | [], b :: y => by simp [Op.bytesLess]
  | a :: x, [] => by simp [Op.bytesLess]
  | a :: x, b :: y => by
    rw [Op.bytesLess, bl_eq x y, Bool.eq_iff_iff, decide_eq_true_iff, List.cons_lt_cons_iff]
    simp
theorem ltB_iff (a b : ByteArray) : ltB a b = true ↔ (leS a b ∧ a ≠ b) := by
  unfold ltB leS
  rw [ByteArray.toList_eq, ByteArray.toList_eq, bl_eq, decide_eq_true_iff]
  show lsOf a < lsOf b ↔ _
  constructor
  · intro h
    exact ⟨List.le_of_lt h, fun e => by subst e; exact List.lt_irrefl _ h⟩
  · rintro ⟨h, k⟩
    by_cases q : lsOf a < lsOf b
    · exact q
    · exact absurd (lsOf_inj (List.le_antisymm h (List.not_lt.1 q))) k
theorem ltB_irr (a : ByteArray) : ltB a a = false := by
  cases h : ltB a a
  · rfl
  · exact absurd rfl ((ltB_iff a a).1 h).2
end Go.Proofs.Ytpdekcfeecdlbaa.Ab
namespace Go.Proofs.Ytpdekcfeecdlbaa.Ab.Pq
open Go Go.Proofs.Ytpdekcfeecdlbaa.Ab
set_option linter.all false
theorem or2 (a b : Int) : cmp_Or_int [a, b] = some (if a = 0 then b else a) := by
  unfold cmp_Or_int
  by_cases ha : a = 0
  · subst ha
    rw [loopM_next (s' := (1 : Int)) (by simp [idx]; rfl)]
    by_cases hb : b = 0
    · subst hb
      rw [loopM_next (s' := (2 : Int)) (by simp [idx]; rfl), loopM_done (t := .inl ()) (by simp)]; rfl
    · have hb' : (b != 0) = true := by simpa using hb
      rw [loopM_done (t := .inr b) (by simp [idx, hb'])]; rfl
  · have ha' : (a != 0) = true := by simpa using ha
    rw [loopM_done (t := .inr a) (by simp [idx, ha']), if_neg ha]; rfl
theorem cmpI_eq (a b : Int) : cmp_Compare_int a b = some (if a < b then -1 else if b < a then 1 else 0) := by
  unfold cmp_Compare_int
  have h : ∀ x : Int, cmp_isNaN_int x = some false := fun x => by unfold cmp_isNaN_int; simp
  rw [h, h]
  simp only [Option.bind_some, cond_false]
  by_cases h1 : a < b
  · simp [h1]
  · by_cases h2 : b < a
    · simp [h1, h2]
    · simp [h1, h2]
theorem leS_to (a b : ByteArray) : leS a b ∨ leS b a := List.le_total _ _
theorem leS_tr {a b c : ByteArray} (h : leS a b) (k : leS b c) : leS a c := List.le_trans h k
theorem leS_an {a b : ByteArray} (h : leS a b) (k : leS b a) : a = b := lsOf_inj (List.le_antisymm h k)
theorem cmpB_lt : ∀ x y : List UInt8, (Lib.compareBytes x y < 0 ↔ Op.bytesLess x y = true) ∧ (Lib.compareBytes x y = 0 ↔ x = y)
  | [], [] => by simp [Lib.compareBytes, Op.bytesLess]
  | [], b :: y => by simp [Lib.compareBytes, Op.bytesLess]
  | a :: x, [] => by simp [Lib.compareBytes, Op.bytesLess]
  | a :: x, b :: y => by
    have ih := cmpB_lt x y
    unfold Lib.compareBytes Op.bytesLess
    by_cases h1 : a < b
    · have : a ≠ b := fun e => by subst e; exact absurd h1 (UInt8.lt_irrefl _)
      simp [h1, this]
    · by_cases h2 : b < a
      · have : a ≠ b := fun e => by subst e; exact absurd h2 (UInt8.lt_irrefl _)
        simp [h1, h2, this]
      · have : a = b := UInt8.le_antisymm (UInt8.not_lt.1 h2) (UInt8.not_lt.1 h1)
        subst this
        simp [ih.1, ih.2]
theorem ltB_tr {a b c : ByteArray} (h : ltB a b = true) (k : ltB b c = true) : ltB a c = true := by
  have h1 := (ltB_iff _ _).1 h
  have h2 := (ltB_iff _ _).1 k
  refine (ltB_iff _ _).2 ⟨leS_tr h1.1 h2.1, fun e => ?_⟩
  subst e
  exact h1.2 (leS_an h1.1 h2.1)
theorem ltB_tot (a b : ByteArray) : ltB a b = true ∨ a = b ∨ ltB b a = true := by
  by_cases e : a = b
  · exact .inr (.inl e)
  · rcases leS_to a b with k | k
    · exact .inl ((ltB_iff _ _).2 ⟨k, e⟩)
    · exact .inr (.inr ((ltB_iff _ _).2 ⟨k, fun q => e q.symm⟩))
def ltK (x y : TApiKey) : Bool := ltB x.gName y.gName || (decide (x.gName = y.gName) && decide (x.gNode < y.gNode))
theorem ltK_iff (x y : TApiKey) : ltK x y = true ↔ (ltB x.gName y.gName = true ∨ (x.gName = y.gName ∧ x.gNode < y.gNode)) := by
  unfold ltK; simp
theorem ltK_irr (x : TApiKey) : ltK x x = false := by
  unfold ltK; rw [ltB_irr]; simp
theorem ltK_tr {x y z : TApiKey} (h : ltK x y = true) (k : ltK y z = true) : ltK x z = true := by
  rw [ltK_iff] at *
  rcases h with h | ⟨h1, h2⟩ <;> rcases k with k | ⟨k1, k2⟩
  · exact .inl (ltB_tr h k)
  · exact .inl (by rw [← k1]; exact h)
  · exact .inl (by rw [h1]; exact k)
  · exact .inr ⟨h1.trans k1, by omega⟩
theorem ltK_tot (x y : TApiKey) : ltK x y = true ∨ x = y ∨ ltK y x = true := by
  obtain ⟨n, a⟩ := x
  obtain ⟨m, b⟩ := y
  rw [ltK_iff, ltK_iff]
  simp only [TApiKey.mk.injEq]
  rcases ltB_tot n m with h | h | h
  · exact .inl (.inl h)
  · subst h
    rcases Int.lt_trichotomy a b with k | k | k
    · exact .inl (.inr ⟨rfl, k⟩)
    · exact .inr (.inl ⟨rfl, k⟩)
    · exact .inr (.inr (.inr ⟨rfl, k⟩))
  · exact .inr (.inr (.inl h))
def leK (x y : TApiKey) : Prop := ltK x y = true ∨ x = y
instance decKey : DecidableEq TApiKey := fun a b => decidable_of_iff (a.gName = b.gName ∧ a.gNode = b.gNode) (by cases a; cases b; simp)
theorem leK_lt (a b : TApiKey) : ltK a b = true ↔ (leK a b ∧ a ≠ b) := by
  constructor
  · intro h; exact ⟨.inl h, fun e => by subst e; rw [ltK_irr] at h; cases h⟩
  · rintro ⟨h | h, k⟩
    · exact h
    · exact absurd h k
theorem leK_to (a b : TApiKey) : leK a b ∨ leK b a := by
  rcases ltK_tot a b with h | h | h
  · exact .inl (.inl h)
  · exact .inl (.inr h)
  · exact .inr (.inl h)
theorem leK_tr (a b c : TApiKey) (h : leK a b) (k : leK b c) : leK a c := by
  rcases h with h | rfl
  · rcases k with k | rfl
    · exact .inl (ltK_tr h k)
    · exact .inl h
  · exact k
theorem leK_an (a b : TApiKey) (h : leK a b) (k : leK b a) : a = b := by
  rcases h with h | h
  · rcases k with k | k
    · have := ltK_tr h k; rw [ltK_irr] at this; cases this
    · exact k.symm
  · exact h
def rowK (l : List TApiKey) : List TApiKey := insA ltK (l.map clK)
theorem rowK_all (l : List TApiKey) : Rise leK (rowK l) ∧ (∀ x, x ∈ rowK l ↔ x ∈ l.map clK) ∧ (rowK l).length ≤ l.length := by
  have := insA_all ltK leK_lt leK_to leK_tr leK_an (l.map clK)
  simpa [rowK] using this
theorem clK_cl (x : TApiKey) : clK (clK x) = clK x := by unfold clK; simp
theorem cmp_eq (x y : TApiKey) : ∃ c, key_Cmp x y = some c ∧ (c < 0 ↔ ltK (clK x) (clK y) = true) ∧ (c = 0 ↔ clK x = clK y) := by
  have hl : ltB x.gName y.gName = Op.bytesLess x.gName.data.toList y.gName.data.toList := by unfold ltB; rw [ByteArray.toList_eq, ByteArray.toList_eq]
  have he : (x.gName.data.toList = y.gName.data.toList) ↔ x.gName = y.gName := ⟨fun h => lsOf_inj h, fun h => by rw [h]⟩
  have hb : (compareB x.gName y.gName < 0 ↔ ltB x.gName y.gName = true) ∧ (compareB x.gName y.gName = 0 ↔ x.gName = y.gName) := by
    have := cmpB_lt x.gName.data.toList y.gName.data.toList
    unfold compareB
    rw [hl, ← he]; exact this
  unfold key_Cmp key_Clean
  simp only [Option.bind_some, cmpI_eq, or2]
  generalize compareB x.gName y.gName = C at hb
  refine ⟨_, rfl, ?_⟩
  rw [ltK_iff]
  simp only [clK, TApiKey.mk.injEq]
  obtain ⟨h1, h2⟩ := hb
  rw [← h1, ← h2]
  by_cases h0 : C = 0
  · rw [if_pos h0]
    subst h0
    by_cases k1 : max x.gNode (-1) < max y.gNode (-1)
    · rw [if_pos k1]; constructor <;> constructor <;> intro h <;> omega
    · by_cases k2 : max y.gNode (-1) < max x.gNode (-1)
      · rw [if_neg k1, if_pos k2]; constructor <;> constructor <;> intro h <;> omega
      · rw [if_neg k1, if_neg k2]; constructor <;> constructor <;> intro h <;> omega
  · rw [if_neg h0]
    constructor <;> constructor <;> intro h <;> omega
end Go.Proofs.Ytpdekcfeecdlbaa.Ab.Pq
namespace Go.Proofs.Ytpdekcfeecdlbaa.Ab.Pq
open Go Go.Proofs.Ytpdekcfeecdlbaa.Ab
set_option linter.all false
theorem half_eq (a b : Nat) (h : a + b < 9223372036854775808) : IntKind.i64.wrap (shI .shr .u64 (IntKind.u64.wrap (IntKind.i64.wrap ((a : Int) + (b : Int)))) (1 : Int)) = (((a + b) / 2 : Nat) : Int) := by
  have h1 : IntKind.i64.wrap ((a : Int) + (b : Int)) = ((a + b : Nat) : Int) := by rw [IntKind.wrap_i64]; omega
  have h2 : IntKind.u64.wrap ((a + b : Nat) : Int) = ((a + b : Nat) : Int) := by rw [IntKind.wrap_u64]; omega
  have h3 : shI .shr .u64 ((a + b : Nat) : Int) (1 : Int) = (((a + b) / 2 : Nat) : Int) := by
    show ((a + b : Nat) : Int).fdiv (2 ^ (min (1 : Int).toNat IntKind.u64.bits)) = _
    rw [show min (1 : Int).toNat IntKind.u64.bits = 1 by decide, show (2 : Int) ^ 1 = 2 from rfl, Int.fdiv_eq_ediv_of_nonneg _ (by omega)]
    omega
  rw [h1, h2, h3, IntKind.wrap_i64]; omega
def RowC (xs : List TApiKey) : Prop := Rise leK xs ∧ (∀ x ∈ xs, clK x = x)
theorem rise_lt {xs : List TApiKey} (h : Rise leK xs) {i j : Nat} {a b : TApiKey} (hij : i < j) (ha : xs[i]? = some a) (hb : xs[j]? = some b) : ltK a b = true := by
  obtain ⟨h1, e1⟩ := List.getElem?_eq_some_iff.1 ha
  obtain ⟨h2, e2⟩ := List.getElem?_eq_some_iff.1 hb
  have := List.pairwise_iff_getElem.1 h i j h1 h2 hij
  rw [e1, e2] at this
  exact (leK_lt a b).2 this
theorem search_eq (xs : List TApiKey) (x : TApiKey) (hx : clK x = x) (hr : RowC xs) (hl : xs.length < 4398046511104) :
    ∃ i : Nat, slices_BinarySearchFunc_api_Key_api_Key_api_Key xs x = some ((i : Int), decide (x ∈ xs)) ∧ i ≤ xs.length ∧ (∀ j a, j < i → xs[j]? = some a → ltK a x = true) ∧ (∀ j a, i ≤ j → xs[j]? = some a → ltK a x = false) := by
  obtain ⟨hr, hc⟩ := hr
  unfold slices_BinarySearchFunc_api_Key_api_Key_api_Key
  obtain ⟨t, e1, i, rfl, hi, h1, h2⟩ := loopM_some (τ := Int) (fun s : Int × Int => ∃ lo hi : Nat, s = ((lo : Int), (hi : Int)) ∧ lo ≤ hi ∧ hi ≤ xs.length ∧ (∀ j a, j < lo → xs[j]? = some a → ltK a x = true) ∧ (∀ j a, hi ≤ j → xs[j]? = some a → ltK a x = false))
    (fun s => (s.2 - s.1).toNat) (fun t : Int => ∃ i : Nat, t = (i : Int) ∧ i ≤ xs.length ∧ (∀ j a, j < i → xs[j]? = some a → ltK a x = true) ∧ (∀ j a, i ≤ j → xs[j]? = some a → ltK a x = false))
    (f := fun (s19 : Int × Int) => (bif (decide (s19.1 < s19.2)) then ((idx xs (IntKind.i64.wrap (shI .shr .u64 (IntKind.u64.wrap (IntKind.i64.wrap (s19.1 + s19.2))) (1 : Int)))).bind fun x31 => ((key_Cmp x31 x).bind fun x32 => (bif (decide (x32 < (0 : Int))) then some (.next ((IntKind.i64.wrap ((IntKind.i64.wrap (shI .shr .u64 (IntKind.u64.wrap (IntKind.i64.wrap (s19.1 + s19.2))) (1 : Int))) + (1 : Int))), s19.2)) else some (.next (s19.1, (IntKind.i64.wrap (shI .shr .u64 (IntKind.u64.wrap (IntKind.i64.wrap (s19.1 + s19.2))) (1 : Int)))))))) else some (.done s19.1)))
    (fun s hs => by
      obtain ⟨lo, hi, rfl, h1, h2, h3, h4⟩ := hs
      dsimp only
      by_cases hlt : lo < hi
      · left
        have hm : (lo + hi) / 2 < xs.length := by omega
        obtain ⟨c, hc1, hc2, _⟩ := cmp_eq xs[(lo + hi) / 2] x
        rw [decide_eq_true (by omega : (lo : Int) < (hi : Int)), half_eq lo hi (by omega), idx_nat, List.getElem?_eq_getElem hm, cond_true, Option.bind_some, hc1, Option.bind_some]
        have hcl : clK xs[(lo + hi) / 2] = xs[(lo + hi) / 2] := hc _ (List.getElem_mem _)
        rw [hcl, hx] at hc2
        by_cases k : c < 0
        · refine ⟨((((lo + hi) / 2 + 1 : Nat) : Int), (hi : Int)), ?_, ⟨(lo + hi) / 2 + 1, hi, rfl, by omega, h2, fun j a hj ha => ?_, h4⟩, ?_⟩
          · rw [decide_eq_true k, cond_true, show IntKind.i64.wrap ((((lo + hi) / 2 : Nat) : Int) + 1) = (((lo + hi) / 2 + 1 : Nat) : Int) by rw [IntKind.wrap_i64]; omega]
          · have k2 := hc2.1 k
            by_cases q : j = (lo + hi) / 2
            · subst q; rw [List.getElem?_eq_getElem hm] at ha; cases ha; exact k2
            · exact ltK_tr (rise_lt hr (show j < (lo + hi) / 2 by omega) ha (List.getElem?_eq_getElem hm)) k2
          · show ((hi : Int) - (((lo + hi) / 2 + 1 : Nat) : Int)).toNat < ((hi : Int) - (lo : Int)).toNat
            omega
        · refine ⟨((lo : Int), (((lo + hi) / 2 : Nat) : Int)), ?_, ⟨lo, (lo + hi) / 2, rfl, by omega, by omega, h3, fun j a hj ha => ?_⟩, ?_⟩
          · rw [decide_eq_false k, cond_false]
          · have k2 : ltK xs[(lo + hi) / 2] x = false := by
              cases q : ltK xs[(lo + hi) / 2] x
              · rfl
              · exact absurd (hc2.2 q) k
            by_cases q : j = (lo + hi) / 2
            · subst q; rw [List.getElem?_eq_getElem hm] at ha; cases ha; exact k2
            · cases q2 : ltK a x
              · rfl
              · have := ltK_tr (rise_lt hr (show (lo + hi) / 2 < j by omega) (List.getElem?_eq_getElem hm) ha) q2
                rw [k2] at this; cases this
          · show ((((lo + hi) / 2 : Nat) : Int) - (lo : Int)).toNat < ((hi : Int) - (lo : Int)).toNat
            omega
      · right
        obtain rfl : lo = hi := by omega
        exact ⟨(lo : Int), by rw [decide_eq_false (by omega)]; rfl, lo, rfl, h2, h3, h4⟩)
    ((0 : Int), (xs.length : Int)) ⟨0, xs.length, rfl, Nat.zero_le _, Nat.le_refl _, fun j a hj => absurd hj (Nat.not_lt_zero _), fun j a hj ha => by have := (List.getElem?_eq_some_iff.1 ha).1; omega⟩
  refine ⟨i, ?_, hi, h1, h2⟩
  rw [e1, Option.bind_some]
  by_cases hlt : i < xs.length
  · obtain ⟨c, hc1, hc2, hc3⟩ := cmp_eq xs[i] x
    have hcl : clK xs[i] = xs[i] := hc _ (List.getElem_mem _)
    rw [decide_eq_true (by omega : (i : Int) < (xs.length : Int)), cond_true, idx_nat, List.getElem?_eq_getElem hlt, Option.bind_some, hc1, Option.bind_some]
    congr 2
    rw [hcl, hx] at hc3
    rw [Bool.eq_iff_iff, beq_iff_eq, hc3, decide_eq_true_iff]
    constructor
    · intro e; rw [← e]; exact List.getElem_mem _
    · intro hm
      obtain ⟨j, hj, e⟩ := List.getElem_of_mem hm
      rcases Nat.lt_trichotomy j i with q | q | q
      · have := h1 j x q (by rw [List.getElem?_eq_getElem hj, e]); rw [ltK_irr] at this; cases this
      · subst q; exact e
      · have k1 := h2 i _ (Nat.le_refl _) (List.getElem?_eq_getElem hlt)
        have k2 := rise_lt hr q (List.getElem?_eq_getElem hlt) (List.getElem?_eq_getElem hj)
        rw [e, k1] at k2; cases k2
  · rw [decide_eq_false (by omega), cond_false]
    congr 2
    rw [eq_comm, decide_eq_false_iff_not]
    intro hm
    obtain ⟨j, hj, e⟩ := List.getElem_of_mem hm
    have := h1 j x (by omega) (by rw [List.getElem?_eq_getElem hj, e]); rw [ltK_irr] at this; cases this
theorem ins_eq {xs : List TApiKey} {x : TApiKey} {i : Nat} (hi : i ≤ xs.length) (h1 : ∀ j a, j < i → xs[j]? = some a → ltK a x = true) (h2 : ∀ j a, i ≤ j → xs[j]? = some a → ltK a x = false) (hx : x ∉ xs) : insAt xs i x = insT ltK x xs := by
  unfold insAt
  rw [Int.toNat_natCast]
  induction xs generalizing i with
  | nil => simp [insT]
  | cons y ys ih =>
    unfold insT
    have hne : x ≠ y := fun e => hx (by simp [e])
    rw [if_neg hne]
    cases i with
    | zero =>
      have := h2 0 y (Nat.le_refl _) rfl
      rcases ltK_tot x y with k | k | k
      · rw [if_pos k]; simp
      · exact absurd k hne
      · rw [this] at k; cases k
    | succ i =>
      have k := h1 0 y (Nat.succ_pos _) rfl
      have : ltK x y = false := by
        cases q : ltK x y
        · rfl
        · have := ltK_tr k q; rw [ltK_irr] at this; cases this
      rw [if_neg (by rw [this]; simp), ← ih (by simpa using hi) (fun j a hj ha => h1 (j + 1) a (by omega) (by simpa using ha)) (fun j a hj ha => h2 (j + 1) a (by omega) (by simpa using ha)) (fun h => hx (by simp [h]))]
      simp
theorem ins_same {xs : List TApiKey} {x : TApiKey} (hr : Rise leK xs) (hx : x ∈ xs) : insT ltK x xs = xs := by
  induction xs with
  | nil => cases hx
  | cons y ys ih =>
    unfold insT
    by_cases e : x = y
    · rw [if_pos e]
    · rw [if_neg e]
      have hm : x ∈ ys := by rcases List.mem_cons.1 hx with h | h; exact absurd h e; exact h
      unfold Rise at hr
      rw [List.pairwise_cons] at hr
      have k := (leK_lt y x).2 (hr.1 x hm)
      have : ltK x y = false := by
        cases q : ltK x y
        · rfl
        · have := ltK_tr k q; rw [ltK_irr] at this; cases this
      rw [if_neg (by rw [this]; simp), ih hr.2 hm]
theorem rowC_row (l : List TApiKey) : RowC (rowK l) := ⟨(rowK_all l).1, fun x hx => by
  obtain ⟨y, _, rfl⟩ := List.mem_map.1 (((rowK_all l).2.1 x).1 hx)
  exact clK_cl y⟩
theorem rowK_snoc (l : List TApiKey) (x : TApiKey) : rowK (l ++ [x]) = insT ltK (clK x) (rowK l) := by
  unfold rowK; rw [List.map_append]; exact insA_snoc ltK _ _
theorem rowC_ins {xs : List TApiKey} {x : TApiKey} (h : RowC xs) (hx : clK x = x) : RowC (insT ltK x xs) := ⟨insT_rise ltK leK_lt leK_to leK_tr leK_an x xs h.1, fun y hy => by
  rcases (insT_mem ltK x xs y).1 hy with rfl | hy
  · exact hx
  · exact h.2 y hy⟩
end Go.Proofs.Ytpdekcfeecdlbaa.Ab.Pq
namespace Go.Proofs.Ytpdekcfeecdlbaa.Ab
open Go Go.RowKit Go.Shelf Go.Lib Go.Proofs
set_option linter.all false
theorem ovl_run {P : Program} {w : World} {tS tR e : TypeId} (ht : P.underlying tS = some (.slice e)) (hz : ∀ w, (Go.sizeOf e).run P w = .ok 2 w) {a b oa ob la ca lb cb : Nat} {A B : List Value} {TA TB : TypeId} (hne : a ≠ b) (hA : w.heap[a]? = some (.cells A.toArray TA (0, 0))) (hB : w.heap[b]? = some (.cells B.toArray TB (0, 0))) (hl : B.length ≠ 0) :
    (Extern.SlicesOverlaps.overlaps #[tS, tS] #[tR] #[.slice (some ⟨a, oa, none⟩) la ca, .slice (some ⟨b, ob, none⟩) lb cb]).run P w = .ok (.bool false) w :=
  Lib.run_overlaps_apart w tS tR e ht 2 hz ⟨a, oa, none⟩ ⟨b, ob, none⟩ la ca lb cb hne TA TB A.length B.length (by simp [World.shape?, hA]) (by simp [World.shape?, hB]) hl (by simp [World.frozen?, hA]) (by simp [World.frozen?, hA])
theorem shift_list (xs : List TApiKey) (x : TApiKey) (rest : List Value) (i : Nat) (hi : i < xs.length) :
    List.take (i * 2) (List.take ((i + 1) * 2) (xs.flatMap kc2 ++ rest) ++ ((xs.drop i).flatMap kc2 ++ List.drop ((i + 1) * 2 + ((xs.drop i).flatMap kc2).length) (xs.flatMap kc2 ++ rest))) ++
      (kc2 x ++ List.drop (i * 2 + (kc2 x).length) (List.take ((i + 1) * 2) (xs.flatMap kc2 ++ rest) ++ ((xs.drop i).flatMap kc2 ++ List.drop ((i + 1) * 2 + ((xs.drop i).flatMap kc2).length) (xs.flatMap kc2 ++ rest)))) = (insAt xs i x).flatMap kc2 ++ rest.drop 2 := by
  have hX := kc2_len xs
  have hl : ((xs.drop i).flatMap kc2).length = (xs.length - i) * 2 := by rw [kc2_len, List.length_drop]
  have h1 : List.take ((i + 1) * 2) (xs.flatMap kc2 ++ rest) = (xs.take (i + 1)).flatMap kc2 := by rw [List.take_append_of_le_length (by omega), kc2_take]
  have h2 : List.drop ((i + 1) * 2 + ((xs.drop i).flatMap kc2).length) (xs.flatMap kc2 ++ rest) = rest.drop 2 := by
    rw [hl, List.drop_append, List.drop_of_length_le (by omega), List.nil_append]; congr 1; omega
  have h3 : ((xs.take (i + 1)).flatMap kc2).length = (i + 1) * 2 := by rw [kc2_len, List.length_take]; omega
  rw [h1, h2, List.take_append_of_le_length (by omega), kc2_take, List.take_take, show min i (i + 1) = i by omega,
    List.drop_append, List.drop_of_length_le (by rw [h3]; simp [kc2]; omega), List.nil_append, show i * 2 + (kc2 x).length - ((xs.take (i + 1)).flatMap kc2).length = 0 by rw [h3]; simp [kc2]; omega, List.drop_zero]
  simp [insAt]
set_option maxHeartbeats 4000000 in
set_option maxRecDepth 100000 in
theorem ins_shift (b c i vb vc : Nat) (xs : List TApiKey) (x : TApiKey) (rest rv : List Value) (T Tv : TypeId) (w : World) (n : Nat) (hn : xs.length = n) (hi : i < n) (hroom : n + 1 ≤ c) (hn63 : n < 4398046511104) (hvb : vb ≠ b)
    (hb : w.heap[b]? = some (.cells (xs.flatMap kc2 ++ rest).toArray T (0, 0))) (hlen : c * 2 ≤ (xs.flatMap kc2 ++ rest).length) (hv : w.heap[vb]? = some (.cells (kc2 x ++ rv).toArray Tv (0, 0))) :
    Calls Try.prog 37 #[.slice (some ⟨b, 0, none⟩) n c, .int .i64 i, .slice (some ⟨vb, 0, none⟩) 1 vc] w fun e w' =>
      e = .returned (.slice (some ⟨b, 0, none⟩) (n + 1) c) ∧ Env w w' ∧ w'.heap.size = w.heap.size ∧ (∀ j, j ≠ b → w'.heap[j]? = w.heap[j]?) ∧
        w'.heap[b]? = some (.cells ((insAt xs i x).flatMap kc2 ++ rest.drop 2).toArray T (0, 0)) := by
  have t1 : Try.prog.underlying 23 = some (.slice 34) := by kernel_rfl
  have hsz : (Try.prog.info? 34).map (·.size) = some 2 := by kernel_rfl
  have hz1 : ¬ ((1 : Int) = 0) := by omega
  have hz2 : ¬ ((i : Int) = (n : Int)) := by omega
  have hw1 : IntKind.i64.wrap ((i : Int) + 1) = (i : Int) + 1 := by rw [IntKind.wrap_i64]; omega
  have hw2 : IntKind.i64.wrap ((n : Int) + 1) = (n : Int) + 1 := by rw [IntKind.wrap_i64]; omega
  have hcl := kc2_len xs
  have mixed : Try.prog.follows .mixedOrders = true := by kernel_rfl
  have hb1 : (0 : Int) ≤ (i : Int) + 1 := by omega
  have hin : i ≤ n := by omega
  have htn : ((i : Int) + 1).toNat = i + 1 := by omega
  have hb2 : ¬ (c = i + 1) := by omega
  have hb3 : (i : Int) ≤ (n : Int) + 1 := by omega
  have hb4 : ¬ (c = i) := by omega
  obtain ⟨W1, c1, c2, c3, c4, c5⟩ := run_copy_blk (P := Try.prog) (w := wDrew w) (dT := 23) (sT := 23) (ty := 3) (elem := 34) (k := 2) (b := b) (o := (i + 1) * 2) (dLen := n - i) (dCap := c - (i + 1)) (n' := n + 1 - i) (src := .slice (some ⟨b, i * 2, none⟩) (n + 1 - i) (c - i)) (cs := (xs.drop i).flatMap kc2) (A := xs.flatMap kc2 ++ rest) (T := T) t1 hsz rfl
    (by
      have hm : Nat.min (n + 1 - i) (n - i) = n - i := by simp only [Nat.min_def]; split <;> omega
      rw [hm]
      have hr : RowAt (wDrew w) b (i * 2) ((xs.drop i).flatMap kc2) := fun j u e => by
        have := row_block (w := wDrew w) (us := xs.flatMap kc2 ++ rest) hb (i * 2 + j) u (by
          rw [← kc2_drop, List.getElem?_drop] at e
          rw [List.getElem?_append_left (List.getElem?_eq_some_iff.1 e).1]; exact e)
        simpa using this
      have hl : ((xs.drop i).flatMap kc2).length = (n - i) * 2 := by rw [kc2_len, List.length_drop, hn]
      have := run_loadCells (P := Try.prog) ((n - i) * 2) hr (by omega)
      rw [← hl, List.take_length] at this
      simp only [Builtin.firstCells]
      rw [← hl]; exact this) hb (by rw [kc2_len, List.length_drop, hn]; simp only [List.length_append, hcl, hn] at hlen ⊢; omega) (kc2_one _)
  have hW1v : W1.heap[vb]? = some (.cells (kc2 x ++ rv).toArray Tv (0, 0)) := (c4 vb hvb).trans hv
  obtain ⟨W2, d1, d2, d3, d4, d5⟩ := run_copy_blk (P := Try.prog) (w := W1) (dT := 23) (sT := 23) (ty := 3) (elem := 34) (k := 2) (b := b) (o := i * 2) (dLen := n + 1 - i) (dCap := c - i) (n' := 1) (src := .slice (some ⟨vb, 0, none⟩) 1 vc) (cs := kc2 x) (T := T) t1 hsz rfl
    (by
      have hm : Nat.min 1 (n + 1 - i) = 1 := by simp only [Nat.min_def]; split <;> omega
      rw [hm]
      have hr : RowAt W1 vb 0 (kc2 x) := fun j u e => by
        have := row_block hW1v j u (by rw [List.getElem?_append_left (List.getElem?_eq_some_iff.1 e).1]; exact e)
        simpa using this
      have := run_loadCells (P := Try.prog) 2 hr (by simp [kc2])
      rw [List.take_of_length_le (by simp [kc2])] at this
      simp only [Builtin.firstCells]
      exact this) c5 (by simp only [List.length_append, List.length_take, List.length_drop, kc2_len, hn, kc2, List.length_cons, List.length_nil] at hlen ⊢; omega) (by intro v hv; simp [kc2] at hv; rcases hv with rfl | rfl <;> rfl)
  rw [show Nat.min (n + 1 - i) (n - i) = n - i by simp only [Nat.min_def]; split <;> omega] at c1
  rw [show Nat.min 1 (n + 1 - i) = 1 by simp only [Nat.min_def]; split <;> omega] at d1
  have hov : ∀ la ca, (callFunc 44 #[.slice (some ⟨vb, 0, none⟩) 1 vc, .slice (some ⟨b, (i + 1) * 2, none⟩) la ca]).run Try.prog w = .ok (.value (.bool false)) w := fun la ca => by
    rw [run_callFunc_extern Try.func44 (by kernel_rfl) (by kernel_rfl) (by kernel_rfl) (e := Extern.SlicesOverlaps.overlaps #[23, 23] #[4]) (by kernel_rfl),
      ovl_run t1 (fun w => run_sizeOf (ti_ok htab (t := 34) rfl)) hvb hv hb (by simp only [List.length_append, hcl] at hlen ⊢; omega)]
    rfl
  go_enter Try.func37, Try.ntmps37
  go_wp2_with (simp only [hov])
  go_region_law_o (refine step_copy_runI rfl _ _ 23 23 rfl _ _ (by simp [Act.eval, Act.put]) (by simp [Act.eval, Act.put]) c1 ?_)
  go_wp2_with (at_builtin; refine wpList_copy_runI _ rfl _ _ 23 23 rfl _ _ rfl rfl d1 ?_)
  go_ret
  have e0 : Env w (wDrew w) := by first | exact ⟨rfl, rfl, rfl, Nat.le_refl _⟩ | exact ⟨rfl, rfl, rfl, Nat.le_succ _⟩
  refine ⟨rfl, (e0.trans c2).trans d2, d3.trans c3, fun j hj => (d4 j hj).trans (c4 j hj), ?_⟩
  rw [d5]
  rw [shift_list xs x rest i (by omega)]
set_option maxHeartbeats 4000000 in
set_option maxRecDepth 100000 in
theorem ins_end (base : Option Addr) (c : Nat) (v v' : Value) (vb vc : Nat) (n : Nat) (w w' : World) (hnc : n ≤ c) (hv : v = .slice (some ⟨vb, 0, none⟩) 1 vc)
    (hrun : ∀ ty, (Builtin.append_ #[23, 23] ty #[.slice base n c, v]).run Try.prog w = .ok v' w') :
    Calls Try.prog 37 #[.slice base n c, .int .i64 n, v] w fun e w'' => e = .returned v' ∧ w'' = w' := by
  subst hv
  have hz1 : ¬ ((1 : Int) = 0) := by omega
  go_enter Try.func37, Try.ntmps37
  rcases base with _ | ⟨ab, ao, sq⟩
  all_goals
    go_wp2_with (at_builtin; refine Lib.wpList_append_run _ rfl _ _ _ _ rfl _ _ rfl rfl _ _ (hrun _) ?_)
  all_goals (go_ret; exact ⟨rfl, rfl⟩)
theorem grow_list (xs : List TApiKey) (x : TApiKey) (Z1 Z2 : List Value) (i : Nat) (hi : i < xs.length) (h1 : Z1.length = (xs.length + 1 - i) * 2) {B : List Value} (hB : B = List.take (i * 2) ((xs.take i).flatMap kc2 ++ (Z1 ++ Z2)) ++ (kc2 x ++ List.drop (i * 2 + (kc2 x).length) ((xs.take i).flatMap kc2 ++ (Z1 ++ Z2)))) :
    List.take ((i + 1) * 2) B ++ ((xs.drop i).flatMap kc2 ++ List.drop ((i + 1) * 2 + ((xs.drop i).flatMap kc2).length) B) = (insAt xs i x).flatMap kc2 ++ Z2 := by
  have hT : ((xs.take i).flatMap kc2).length = i * 2 := by rw [kc2_len, List.length_take]; omega
  have hl : ((xs.drop i).flatMap kc2).length = (xs.length - i) * 2 := by rw [kc2_len, List.length_drop]
  have hB2 : B = (xs.take i).flatMap kc2 ++ (kc2 x ++ (Z1.drop 2 ++ Z2)) := by
    rw [hB, List.take_append_of_le_length (by omega), List.take_of_length_le (by omega), List.drop_append, List.drop_of_length_le (by omega), List.nil_append, hT, show i * 2 + (kc2 x).length - i * 2 = 2 by simp [kc2], List.drop_append, show 2 - Z1.length = 0 by omega, List.drop_zero]
  have hP : ((xs.take i).flatMap kc2 ++ kc2 x).length = (i + 1) * 2 := by rw [List.length_append, hT]; simp [kc2]; omega
  have hB3 : B = ((xs.take i).flatMap kc2 ++ kc2 x) ++ (Z1.drop 2 ++ Z2) := by rw [hB2]; simp
  have e1 : List.take ((i + 1) * 2) B = (xs.take i).flatMap kc2 ++ kc2 x := by
    rw [hB3, List.take_append_of_le_length (Nat.le_of_eq hP.symm), List.take_of_length_le (Nat.le_of_eq hP)]
  have e2 : List.drop ((i + 1) * 2 + ((xs.drop i).flatMap kc2).length) B = Z2 := by
    rw [hB3, hl, List.drop_append, List.drop_of_length_le (by rw [hP]; omega), List.nil_append, hP, List.drop_append, List.drop_of_length_le (by rw [List.length_drop]; omega), List.nil_append,
      show (i + 1) * 2 + (xs.length - i) * 2 - (i + 1) * 2 - (Z1.drop 2).length = 0 by rw [List.length_drop]; omega, List.drop_zero]
  rw [e1, e2]
  simp [insAt]
set_option maxHeartbeats 4000000 in
set_option maxRecDepth 100000 in
theorem ins_grow (b c i vb vc : Nat) (xs : List TApiKey) (x : TApiKey) (rest rv : List Value) (T Tv : TypeId) (w : World) (n : Nat) (hn : xs.length = n) (hi : i < n) (hnc : n ≤ c) (hroom : c < n + 1) (hbig : (n + 1) * 24 ≤ 140737488355328) (hvb : vb ≠ b)
    (hb : w.heap[b]? = some (.cells (xs.flatMap kc2 ++ rest).toArray T (0, 0))) (hv : w.heap[vb]? = some (.cells (kc2 x ++ rv).toArray Tv (0, 0))) :
    Calls Try.prog 37 #[.slice (some ⟨b, 0, none⟩) n c, .int .i64 i, .slice (some ⟨vb, 0, none⟩) 1 vc] w fun e w' => ∃ G rest', n + 1 ≤ G ∧ 
      e = .returned (.slice (some ⟨w.heap.size, 0, none⟩) (n + 1) G) ∧ Env w w' ∧ w.heap.size ≤ w'.heap.size ∧ (∀ j, j < w.heap.size → w'.heap[j]? = w.heap[j]?) ∧
        w'.heap[w.heap.size]? = some (.cells ((insAt xs i x).flatMap kc2 ++ rest').toArray 34 (0, 0)) ∧ G * 2 ≤ ((insAt xs i x).flatMap kc2 ++ rest').length := by
  have t1 : Try.prog.underlying 23 = some (.slice 34) := by kernel_rfl
  have tn : Try.prog.underlying 3 = some (.int .i64) := by kernel_rfl
  have hsz : (Try.prog.info? 34).map (·.size) = some 2 := by kernel_rfl
  obtain ⟨i0, hi0, hz0, hzs, hzb⟩ := info_parts (show (Try.prog.info? 34).map (fun i => (i.zero, i.size, i.bytes)) = some (some (.agg #[.string ⟨#[]⟩, .int .i64 0]), 2, 24) by kernel_rfl)
  have hz1 : ¬ ((1 : Int) = 0) := by omega
  have hz2 : ¬ ((i : Int) = (n : Int)) := by omega
  have hz3 : (c : Int) < (n : Int) + 1 := by omega
  have hw1 : IntKind.i64.wrap ((i : Int) + 1) = (i : Int) + 1 := by rw [IntKind.wrap_i64]; omega
  have hw2 : IntKind.i64.wrap ((n : Int) + 1) = (n : Int) + 1 := by rw [IntKind.wrap_i64]; omega
  have hcl := kc2_len xs
  have mixed : Try.prog.follows .mixedOrders = true := by kernel_rfl
  have hbw : b < w.heap.size := (Array.getElem?_eq_some_iff.1 hb).1
  have hvw : vb < w.heap.size := (Array.getElem?_eq_some_iff.1 hv).1
  have hkk : (n : Int) + 1 - (i : Int) = ((n + 1 - i : Nat) : Int) := by omega
  have hik : i + (n + 1 - i) = n + 1 := by omega
  have hold : (Builtin.firstCells i0.size i (.slice (some ⟨b, 0, none⟩) i c)).run Try.prog w.drew = .ok ((xs.take i).flatMap kc2).toArray w.drew := by
    rw [hzs]
    have hr : RowAt (wDrew w) b 0 ((xs.take i).flatMap kc2) := fun j u e => by
      have := row_block (w := wDrew w) (us := xs.flatMap kc2 ++ rest) hb j u (by
        rw [← kc2_take, List.getElem?_take] at e
        split at e
        · rw [List.getElem?_append_left (List.getElem?_eq_some_iff.1 e).1]; exact e
        · cases e)
      simpa using this
    have hl : ((xs.take i).flatMap kc2).length = i * 2 := by rw [kc2_len, List.length_take]; omega
    have := run_loadCells (P := Try.prog) (i * 2) hr (by omega)
    rw [← hl, List.take_length] at this
    simp only [Builtin.firstCells]
    rw [← hl]; exact this
  have hrz : ∀ ty, (Builtin.append_ #[23, 3] ty #[.slice (some ⟨b, 0, none⟩) i c, .int .i64 ((n : Int) + 1 - (i : Int))]).run Try.prog w =
      .ok (.slice (some ⟨w.heap.size, 0, none⟩) (n + 1) (grownCap w (n + 1) c 34)) (w.drew.alloc (.cells (((xs.take i).flatMap kc2).toArray ++ Builtin.zeroCells #[.string ⟨#[]⟩, .int .i64 0] (n + 1 - i) ++ Builtin.zeroCells #[.string ⟨#[]⟩, .int .i64 0] (grownCap w (n + 1) c 34 - (n + 1))) 34)) := fun ty => by
    have h := Lib.run_append_grow_zeros w 23 3 ty 34 i0 _ .i64 .i64 t1 tn hi0 hz0 (some ⟨b, 0, none⟩) i c _ hold (n + 1 - i) (by omega) (by omega) (by omega) (by omega) (by rw [hzb]; omega) (by rw [hzb, hik]; exact growslice_fits hroom hbig)
    rw [hik] at h
    rw [hkk]
    exact h
  obtain ⟨G, hG⟩ : ∃ G, G = grownCap w (n + 1) c 34 := ⟨_, rfl⟩
  have hGn : n + 1 ≤ G := by rw [hG]; exact grownCap_ge w _ _ _
  have hG63 : G ≤ 9223372036854775807 := by
    have := grownCap_le_maxLen w (n + 1) c 34 (by unfold maxLen; omega)
    rw [← hG] at this
    unfold maxLen at this
    omega
  rw [← hG] at hrz
  obtain ⟨Z1, hZ1⟩ : ∃ Z1, Z1 = (Builtin.zeroCells #[.string ⟨#[]⟩, .int .i64 0] (n + 1 - i)).toList := ⟨_, rfl⟩
  obtain ⟨Z2, hZ2⟩ : ∃ Z2, Z2 = (Builtin.zeroCells #[.string ⟨#[]⟩, .int .i64 0] (G - (n + 1))).toList := ⟨_, rfl⟩
  have hl1 : Z1.length = (n + 1 - i) * 2 := by rw [hZ1]; simp [Builtin.zeroCells]
  have hl2 : Z2.length = (G - (n + 1)) * 2 := by rw [hZ2]; simp [Builtin.zeroCells]
  have hrow : ((xs.take i).flatMap kc2).toArray ++ Builtin.zeroCells #[.string ⟨#[]⟩, .int .i64 0] (n + 1 - i) ++ Builtin.zeroCells #[.string ⟨#[]⟩, .int .i64 0] (G - (n + 1)) = ((xs.take i).flatMap kc2 ++ (Z1 ++ Z2)).toArray := by
    rw [hZ1, hZ2]; apply Array.ext'; simp
  rw [hrow] at hrz
  obtain ⟨Wa, hWa⟩ : ∃ Wa, Wa = w.drew.alloc (.cells ((xs.take i).flatMap kc2 ++ (Z1 ++ Z2)).toArray 34) := ⟨_, rfl⟩
  rw [← hWa] at hrz
  have hTl : ((xs.take i).flatMap kc2).length = i * 2 := by rw [kc2_len, List.length_take]; omega
  have a1 : Wa.heap[w.heap.size]? = some (.cells ((xs.take i).flatMap kc2 ++ (Z1 ++ Z2)).toArray 34 (0, 0)) := by rw [hWa, heap_alloc]; exact if_pos rfl
  have a2 : ∀ j, j < w.heap.size → Wa.heap[j]? = w.heap[j]? := fun j hj => by rw [hWa, heap_alloc]; exact if_neg (Nat.ne_of_lt hj)
  have a3 : Wa.heap.size = w.heap.size + 1 := by rw [hWa, size_alloc]; rfl
  have a4 : Env w Wa := by rw [hWa]; first | exact ⟨rfl, rfl, rfl, Nat.le_refl _⟩ | exact ⟨rfl, rfl, rfl, Nat.le_succ _⟩
  clear hWa hZ1 hZ2 hrow
  obtain ⟨W1, c1, c2, c3, c4, c5⟩ := run_copy_blk (P := Try.prog) (w := Wa) (dT := 23) (sT := 23) (ty := 3) (elem := 34) (k := 2) (b := w.heap.size) (o := i * 2) (dLen := n + 1 - i) (dCap := G - i) (n' := 1) (src := .slice (some ⟨vb, 0, none⟩) 1 vc) (cs := kc2 x) (T := 34) t1 hsz rfl
    (by
      have hm : Nat.min 1 (n + 1 - i) = 1 := by simp only [Nat.min_def]; split <;> omega
      rw [hm]
      have hr : RowAt Wa vb 0 (kc2 x) := fun j u e => by
        have := row_block ((a2 vb hvw).trans hv) j u (by rw [List.getElem?_append_left (List.getElem?_eq_some_iff.1 e).1]; exact e)
        simpa using this
      have := run_loadCells (P := Try.prog) 2 hr (by simp [kc2])
      rw [List.take_of_length_le (by simp [kc2])] at this
      simp only [Builtin.firstCells]
      exact this) a1 (by simp only [List.length_append, hTl, hl1, hl2, kc2, List.length_cons, List.length_nil]; omega) (by intro v hv; simp [kc2] at hv; rcases hv with rfl | rfl <;> rfl)
  have hbN : b ≠ w.heap.size := by omega
  obtain ⟨W2, d1, d2, d3, d4, d5⟩ := run_copy_blk (P := Try.prog) (w := wDrew W1) (dT := 23) (sT := 23) (ty := 3) (elem := 34) (k := 2) (b := w.heap.size) (o := (i + 1) * 2) (dLen := n - i) (dCap := G - (i + 1)) (n' := n - i) (src := .slice (some ⟨b, i * 2, none⟩) (n - i) (c - i)) (cs := (xs.drop i).flatMap kc2) (T := 34) t1 hsz rfl
    (by
      have hm : Nat.min (n - i) (n - i) = n - i := by simp only [Nat.min_def]; split <;> omega
      rw [hm]
      have hr : RowAt (wDrew W1) b (i * 2) ((xs.drop i).flatMap kc2) := fun j u e => by
        have := row_block (w := wDrew W1) (us := xs.flatMap kc2 ++ rest) ((c4 b hbN).trans ((a2 b hbw).trans hb)) (i * 2 + j) u (by
          rw [← kc2_drop, List.getElem?_drop] at e
          rw [List.getElem?_append_left (List.getElem?_eq_some_iff.1 e).1]; exact e)
        simpa using this
      have hl : ((xs.drop i).flatMap kc2).length = (n - i) * 2 := by rw [kc2_len, List.length_drop, hn]
      have := run_loadCells (P := Try.prog) ((n - i) * 2) hr (by omega)
      rw [← hl, List.take_length] at this
      simp only [Builtin.firstCells]
      rw [← hl]; exact this) c5 (by rw [kc2_len, List.length_drop, hn]; simp only [List.length_append, List.length_take, List.length_drop, hTl, hl1, hl2, kc2, List.length_cons, List.length_nil]; omega) (kc2_one _)
  rw [show Nat.min 1 (n + 1 - i) = 1 by simp only [Nat.min_def]; split <;> omega] at c1
  rw [show Nat.min (n - i) (n - i) = n - i by simp only [Nat.min_def]; split <;> omega] at d1
  have hGi : ¬ (G = i) := by omega
  have hGim : ¬ (G = i + 1) := by omega
  have hci : ¬ (c = i) := by omega
  have hb1 : (0 : Int) ≤ (i : Int) + 1 := by omega
  have hin : i ≤ n := by omega
  have htn : ((i : Int) + 1).toNat = i + 1 := by omega
  have hb3 : (i : Int) ≤ (n : Int) := by omega
  have fin : Env w W2 ∧ w.heap.size ≤ W2.heap.size ∧ (∀ j, j < w.heap.size → W2.heap[j]? = w.heap[j]?) ∧
        W2.heap[w.heap.size]? = some (.cells ((insAt xs i x).flatMap kc2 ++ Z2).toArray 34 (0, 0)) ∧ G * 2 ≤ ((insAt xs i x).flatMap kc2 ++ Z2).length := by
    have e0 : Env W1 (wDrew W1) := by first | exact ⟨rfl, rfl, rfl, Nat.le_refl _⟩ | exact ⟨rfl, rfl, rfl, Nat.le_succ _⟩
    refine ⟨((a4.trans c2).trans e0).trans d2, ?_, fun j hj => ?_, ?_, ?_⟩
    · have : (wDrew W1).heap.size = W1.heap.size := rfl
      omega
    · exact (d4 j (Nat.ne_of_lt hj)).trans ((c4 j (Nat.ne_of_lt hj)).trans (a2 j hj))
    · rw [d5, grow_list xs x Z1 Z2 i (by omega) (by rw [hn]; exact hl1) rfl]
    · have : (insAt xs i x).length = n + 1 := by simp [insAt, hn]; omega
      rw [List.length_append, kc2_len, this, hl2]; omega
  clear hkk hik hold hG a1 a2 a3 a4 c2 c3 c4 c5 d2 d3 d4 d5 hl1 hl2 hTl
  go_enter Try.func37, Try.ntmps37
  go_wp2_with (first
    | (at_builtin; refine Lib.wpList_append_run _ rfl _ _ _ _ rfl _ _ rfl rfl _ _ (hrz _) ?_)
    | (at_builtin; refine wpList_copy_runI _ rfl _ _ 23 23 rfl _ _ rfl rfl c1 ?_))
  go_region_law_o (refine step_copy_runI rfl _ _ 23 23 rfl (.slice (some ⟨w.heap.size, (i + 1) * 2, none⟩) (n - i) (G - (i + 1))) (.slice (some ⟨b, i * 2, none⟩) (n - i) (c - i)) (by simp [Act.eval, Act.put]) (by simp [Act.eval, Act.put]) d1 ?_)
  go_wp2
  go_ret
  exact ⟨G, Z2, hGn, rfl, fin⟩
end Go.Proofs.Ytpdekcfeecdlbaa.Ab
namespace Go.Proofs.Ytpdekcfeecdlbaa.Ab
open Go Go.RowKit Go.Shelf Go.Lib Go.Proofs
set_option linter.all false
theorem Core.wid {H H' : Hp} {w w' : World} {M M' : List Nat} {h : List (Nat × Blk)} {k : List (Nat × Value)} (c : Core ⟨H, w, M⟩ H' h k w') (hM : ∀ b ∈ M, b ∈ M') : Core ⟨H, w, M'⟩ H' h k w' :=
  ⟨c.ag, c.le, fun a v e => (c.new a v e).imp id (fun q => q.imp id (hM _)), fun b hb hm => c.same b hb (fun q => hm (hM b q)), c.size, c.blks, c.toks, c.nd, fun b hb => (c.own b hb).imp (hM b) id, c.env⟩
theorem key_row {H : Hp} {w : World} {r : Nat} {xs : List TApiKey} {z : Z3} (h : BlkOK H w (r, .row 2 (xs.map eTApiKey) (SL z))) :
    (z.2.1 = 0 ∧ z.2.2 = 0 ∧ xs = []) ∨ ∃ (b m : Nat) (rest : List Value) (T : TypeId), z = (some ⟨b, 0, none⟩, xs.length, m) ∧ xs.length ≤ m ∧ 0 < m ∧ w.heap[b]? = some (.cells (xs.flatMap kc2 ++ rest).toArray T (0, 0)) ∧ m * 2 ≤ (xs.flatMap kc2 ++ rest).length ∧ (∀ o, H ⟨b, o, none⟩ = none) ∧
      claims [(r, Blk.row 2 (xs.map eTApiKey) (SL z))] [] = [b] := by
  obtain ⟨z1, z2, z3⟩ := z
  rcases h with ⟨a, e, e2⟩ | ⟨b, m, us, rest, T, e, h0, hm, h1, h2, h3, h4⟩
  · simp only [SL, Value.slice.injEq] at e
    obtain ⟨rfl, rfl, rfl⟩ := e
    exact .inl ⟨rfl, rfl, List.map_eq_nil_iff.1 e2⟩
  · simp only [SL, Value.slice.injEq, List.length_map] at e h0
    obtain ⟨rfl, rfl, rfl⟩ := e
    have := flat_k h2
    subst this
    exact .inr ⟨b, z3, rest, T, rfl, h0, hm, h1, h3, h4, by simp [claims, blkClaim, sliceClaim, hm]⟩
set_option maxRecDepth 100000 in
theorem insert_okH (xs : List TApiKey) (i : Int) (x : TApiKey) (z zv : Z3) (h : insPre xs i = true) (H : Hp) (w : World) (hA : Ag H w) (r1 : BlkOK H w (0, .row 2 (xs.map eTApiKey) (SL z))) (r2 : BlkOK H w (0, .row 2 ([x].map eTApiKey) (SL zv))) (nd : (claims [(0, Blk.row 2 (xs.map eTApiKey) (SL z)), (0, Blk.row 2 ([x].map eTApiKey) (SL zv))] []).Nodup) :
    Calls Try.prog 37 #[SL z, .int .i64 i, SL zv] w fun e w' => ∃ z' : Z3, e = .returned (SL z') ∧ Core ⟨H, w, claims [(0, Blk.row 2 (xs.map eTApiKey) (SL z)), (0, Blk.row 2 ([x].map eTApiKey) (SL zv))] []⟩ H [(0, .row 2 ((insAt xs i x).map eTApiKey) (SL z'))] [] w' := by
  unfold insPre at h
  simp only [Bool.and_eq_true, decide_eq_true_eq] at h
  obtain ⟨⟨hi0, hi⟩, hlen⟩ := h
  obtain ⟨i, rfl⟩ : ∃ n : Nat, i = n := ⟨i.toNat, by omega⟩
  have hcl : claims [(0, Blk.row 2 (xs.map eTApiKey) (SL z)), (0, Blk.row 2 ([x].map eTApiKey) (SL zv))] [] = claims [(0, Blk.row 2 (xs.map eTApiKey) (SL z))] [] ++ claims [(0, Blk.row 2 ([x].map eTApiKey) (SL zv))] [] := by simp [claims]
  rw [hcl] at nd ⊢
  rcases key_row r2 with ⟨_, _, e⟩ | ⟨vb, vc, rv, Tv, rfl, v0, v1, v2, v3, v4, v5⟩
  · cases e
  rw [v5] at nd ⊢
  have v2' : w.heap[vb]? = some (.cells (kc2 x ++ rv).toArray Tv (0, 0)) := by simpa using v2
  have hvw : vb < w.heap.size := (Array.getElem?_eq_some_iff.1 v2').1
  by_cases hin : i = xs.length
  · -- at the end
    have hvn : vb ∉ claims [(0, Blk.row 2 (xs.map eTApiKey) (SL z))] [] := fun q => (List.nodup_append.1 nd).2.2 vb q vb (by simp) rfl
    have app : ∀ ty, ∃ (z' : Z3) (w' : World), (Builtin.append_ #[23, 23] ty #[SL z, SL (some ⟨vb, 0, none⟩, 1, vc)]).run Try.prog w = .ok (SL z') w' ∧ Core ⟨H, w, claims [(0, .row 2 (xs.map eTApiKey) (SL z))] []⟩ H [(0, .row 2 (xs.map eTApiKey ++ [x].map eTApiKey) (SL z'))] [] w' := fun ty =>
      app_runR (bb := 24) (kk := 2) htab hA r1 (fun b hb => claims_lt (h := [(0, .row 2 (xs.map eTApiKey) (SL z))]) (k := []) (by simpa using r1) (by simp) b hb) rfl
        (fun w' hw' => ⟨kc2 x, rfl, k_flat [x], by
          have hr : RowAt w' vb 0 (kc2 x) := fun j u e => by
            have := row_block ((hw' vb hvw).trans v2') j u (by rw [List.getElem?_append_left (List.getElem?_eq_some_iff.1 e).1]; exact e)
            simpa using this
          have := run_loadCells (P := Try.prog) 2 hr (by simp [kc2])
          rw [List.take_of_length_le (by simp [kc2])] at this
          simp only [Builtin.firstCells]
          exact this⟩) rfl rfl rfl rfl rfl rfl rfl rfl (by omega) (by simp only [List.length_map, List.length_cons, List.length_nil]; omega)
    obtain ⟨z', w', hrun, hcore⟩ := app 23
    have hrun' : ∀ ty, (Builtin.append_ #[23, 23] ty #[.slice z.1 xs.length z.2.2, SL (some ⟨vb, 0, none⟩, 1, vc)]).run Try.prog w = .ok (SL z') w' := fun ty => by
      have : SL z = .slice z.1 xs.length z.2.2 := by
        rcases key_row r1 with ⟨e1, e2, e3⟩ | ⟨b, m, rest, T, rfl, _⟩
        · subst e3; simp [SL, e1]
        · rfl
      rw [← this]; exact hrun
    have hzn : SL z = .slice z.1 xs.length z.2.2 ∧ xs.length ≤ z.2.2 := by
      rcases key_row r1 with ⟨e1, e2, e3⟩ | ⟨b, m, rest, T, rfl, h0, _⟩
      · subst e3; simp [SL, e1]
      · exact ⟨rfl, h0⟩
    rw [hzn.1, hin]
    refine (ins_end z.1 z.2.2 _ (SL z') vb vc xs.length w w' hzn.2 rfl hrun').mono ?_
    rintro e w'' ⟨rfl, rfl⟩
    refine ⟨z', rfl, ?_⟩
    have e3 : (insAt xs (xs.length : Int) x).map eTApiKey = xs.map eTApiKey ++ [x].map eTApiKey := by simp [insAt]
    rw [e3]
    rw [hzn.1] at hcore
    exact hcore.wid (fun b hb => List.mem_append_left _ hb)
  · rcases key_row r1 with ⟨_, _, rfl⟩ | ⟨b, c, rest, T, rfl, c0, c1, c2, c3, c4, c5⟩
    · simp at hi hin; omega
    rw [c5] at nd ⊢
    have hvb : vb ≠ b := by simp at nd; exact fun e => nd e.symm
    have hlen' : (insAt xs i x).length = xs.length + 1 := by simp [insAt]; omega
    have hMc : ∀ j ∈ [b] ++ [vb], ∃ cs T', w.heap[j]? = some (.cells cs T' (0, 0)) := by
      intro j hj; simp at hj; rcases hj with rfl | rfl
      · exact ⟨_, _, c2⟩
      · exact ⟨_, _, v2'⟩
    have hM : ∀ j ∈ [b] ++ [vb], ∀ o, H ⟨j, o, none⟩ = none := by
      intro j hj; simp at hj; rcases hj with rfl | rfl
      · exact c4
      · exact v4
    by_cases hroom : xs.length + 1 ≤ c
    · have hX := kc2_len xs
      · refine (ins_shift b c i vb vc xs x rest rv T Tv w xs.length rfl (by omega) hroom (by omega) hvb c2 c3 v2').mono ?_
        rintro e w' ⟨rfl, f1, f2, f3, f4⟩
        refine ⟨(some ⟨b, 0, none⟩, (insAt xs i x).length, c), by rw [hlen'], row_core hA f1 (Nat.le_of_eq f2.symm) (fun j _ hj => f3 j (fun e => hj (by simp [e]))) hM hMc f4 (.inl (by simp)) (by omega) c1 (by rw [List.length_append, kc2_len, List.length_drop, hlen']; simp only [List.length_append, kc2_len] at c3; omega)⟩
    · refine (ins_grow b c i vb vc xs x rest rv T Tv w xs.length rfl (by omega) c0 (by omega) (by omega) hvb c2 v2').mono ?_
      rintro e w' ⟨G, rest', hG, rfl, f1, f2, f3, f4, f5⟩
      refine ⟨(some ⟨w.heap.size, 0, none⟩, (insAt xs i x).length, G), by rw [hlen'], row_core hA f1 f2 (fun j hj _ => f3 j hj) hM hMc f4 (.inr (Nat.le_refl _)) (by omega) (by omega) f5⟩
end Go.Proofs.Ytpdekcfeecdlbaa.Ab
namespace Go.Proofs.Ytpdekcfeecdlbaa.Ab
open Go Go.RowKit Go.Shelf Go.Proofs Go.Proofs.Ytpdekcfeecdlbaa.Ab.Pq
set_option linter.all false
attribute [local go_sem] Oper.semAt_some
theorem core_own {C : Ctx} {H : Hp} {h : List (Nat × Blk)} {W W' : World} {row : Option Nat} (hh : ∀ p ∈ h, (∀ es, p.2 ≠ .mp es) ∧ ∀ o, p.2 ≠ .opq o) (c : Core C H h [] W) (hg : W.grownBy W' row) (hr : ∀ r, row = some r → C.w.heap.size ≤ r ∧ ∃ o : Obj, W.heap[r]? = some o ∧ o.isCells = false) : Core C H h [] W' := by
  have keep : ∀ b cs T, W.heap[b]? = some (Obj.cells cs T (0, 0)) → W'.heap[b]? = some (Obj.cells cs T (0, 0)) := fun b cs T e => by
    refine (hg.block b (Array.getElem?_eq_some_iff.1 e).1 (fun q => ?_)).trans e
    obtain ⟨_, o, ho, hc⟩ := hr b q.symm
    rw [e] at ho; cases ho; cases hc
  refine ⟨fun a v e => ?_, c.le, c.new, fun b hb hm => ?_, Nat.le_trans c.size hg.size, fun p hp => ?_, by simp, c.nd, c.own, c.env.trans ⟨hg.os, hg.tape, hg.output, Nat.le_refl _⟩⟩
  · exact cell_kept (c.ag a v e) hg (fun r q => (hr r q).2)
  · refine (hg.block b (Nat.lt_of_lt_of_le hb c.size) (fun q => ?_)).trans (c.same b hb hm)
    have := (hr b q.symm).1
    omega
  · have hb := c.blks p hp
    obtain ⟨b, bl⟩ := p
    cases bl with
    | cells ds T =>
      obtain ⟨us, h1, h2, h3⟩ := hb
      exact ⟨us, keep b _ _ h1, h2, h3⟩
    | row kk xs y =>
      rcases hb with q | ⟨b2, m, us, rest, T, e, h0, hm, h1, h2, h3, h4⟩
      · exact .inl q
      · exact .inr ⟨b2, m, us, rest, T, e, h0, hm, keep b2 _ _ h1, h2, h3, h4⟩
    | told kk xs y => exact hb
    | mp es => exact absurd rfl ((hh _ hp).1 es)
    | opq o => exact absurd rfl ((hh _ hp).2 o)
theorem core_between {C : Ctx} {H H' : Hp} {h h' : List (Nat × Blk)} {k k' : List (Nat × Value)} {W W' : World} (hM : C.M = []) (c : Core C H h k W) (c' : Core C H' h' k' W') (hs : W.heap.size ≤ W'.heap.size) : Below C.w.heap.size W W' :=
  ⟨c'.env.1.trans c.env.1.symm, c'.env.2.1.trans c.env.2.1.symm, c'.env.2.2.1.trans c.env.2.2.1.symm, hs, fun b hb => (c'.same b hb (by simp [hM])).trans (c.same b hb (by simp [hM])).symm⟩
theorem keeps_core {H H' : Hp} {W W' : World} {M : List Nat} {h' : List (Nat × Blk)} {k' : List (Nat × Value)} (B : Nat) (c : Core ⟨H, W, M⟩ H' h' k' W') (hM : ∀ b ∈ M, ∃ cs T, W.heap[b]? = some (Obj.cells cs T (0, 0))) : KeepsFrom B W W' :=
  ⟨c.size, fun k o _ ho hc => (c.same k (Array.getElem?_eq_some_iff.1 ho).1 (fun q => by
    obtain ⟨cs, T, e⟩ := hM k q
    rw [e] at ho; cases ho; cases hc)).trans ho⟩
theorem below_core {H H' : Hp} {W W' : World} {h' : List (Nat × Blk)} {k' : List (Nat × Value)} (c : Core ⟨H, W, []⟩ H' h' k' W') : Below W.heap.size W W' :=
  ⟨c.env.1, c.env.2.1, c.env.2.2.1, c.size, fun b hb => c.same b hb (by simp)⟩
theorem bs_calls {H : Hp} {w : World} {r : Nat} {xs : List TApiKey} {z : Z3} (x : TApiKey) (hA : Ag H w) (hrow : BlkOK H w (r, .row 2 (xs.map eTApiKey) (SL z))) (hx : clK x = x) (hr : RowC xs) (hl : xs.length < 4398046511104) :
    ∃ i : Nat, i ≤ xs.length ∧ (∀ j a, j < i → xs[j]? = some a → ltK a x = true) ∧ (∀ j a, i ≤ j → xs[j]? = some a → ltK a x = false) ∧
      Calls Try.prog 35 #[SL z, encK x, .func (.func 36) #[] #[]] w fun e w' => e = .returned (.tuple #[.int .i64 i, .bool (decide (x ∈ xs))]) ∧ Below w.heap.size w w' := by
  obtain ⟨i, e1, e2, e3, e4⟩ := search_eq xs x hx hr hl
  refine ⟨i, e2, e3, e4, ?_⟩
  obtain ⟨H', hle, c'⟩ := row_told hA hrow
  have hto := told_sl (c'.blks _ (List.mem_singleton.2 rfl))
  have hno : Rep H' (.lst 2 (xs.map eTApiKey) .no) (SL z) := by
    obtain ⟨h1, h2⟩ := hto
    refine ⟨?_, h2⟩
    simp only [RepC] at h1 ⊢
    obtain ⟨y, g1, _, g3⟩ := h1
    exact ⟨y, g1, trivial, g3⟩
  have hk : Rep H' (eTApiKey x) (encK x) := by
    have := rep_va H' (us := kc2 x) rfl
    exact this
  refine ((slices_BinarySearchFunc_api_Key_api_Key_api_Key_ok xs x _ e1).2 H' w [SL z, encK x, .func (.func 36) #[] #[]] ?_ c'.ag (by simp) (by simp) (by simp [claims])).mono ?_
  · simp only [RepsV]
    refine ⟨_, _, rfl, hno, _, _, rfl, hk, _, _, rfl, ⟨?_, rfl⟩, rfl⟩
    simp only [RepC]
    exact ⟨[], [], rfl, rfl, rfl⟩
  · rintro e w' ⟨v, H2, d, h2, k2, rfl, hv, hcore, rfl, rfl, rfl⟩
    refine ⟨?_, below_core hcore⟩
    obtain ⟨vs, rfl, g⟩ := rep_tup_inv hv
    simp only [RepsV] at g
    obtain ⟨u1, _, rfl, a1, u2, _, rfl, b1, rfl⟩ := g
    have q1 := rep_v_inv a1
    have q2 := rep_v_inv b1
    subst q1; subst q2
    rfl
def rowI (H : Hp) (w : World) (pre : List Ky) (W : World) : Prop := ∃ z : Z3, Core ⟨H, w, []⟩ H [(0, .row 2 ((rowK pre).map eTApiKey) (SL z)), (w.heap.size, .cells [.v (SL z)] 23)] [] W
theorem rowI_own (H : Hp) (w : World) (B : Nat) (hB : w.heap.size ≤ B) : OwnFrom B (rowI H w) := fun s X Y row ⟨z, hc⟩ hg hr =>
  ⟨z, core_own (by intro p hp; simp at hp; rcases hp with rfl | rfl <;> simp) hc hg (fun r e => ⟨Nat.le_trans hB (hr r e).1, (hr r e).2⟩)⟩
theorem rowI_box {H : Hp} {W : World} {z : Z3} {T : TypeId} {b : Nat} (hb : BlkOK H W (b, .cells [.v (SL z)] T)) : Boxed W b T (SL z) := by
  obtain ⟨us, h1, h2, _⟩ := hb
  have := reps_v_inv (us := [SL z]) h2
  subst this
  exact h1
set_option maxRecDepth 1000000 in
theorem insert_calls {H : Hp} {w : World} {xs : List TApiKey} {z zv : Z3} (x : TApiKey) (i : Nat) (hi : i ≤ xs.length) (hl : xs.length < 4398046511104) (hA : Ag H w) (h1 : BlkOK H w (0, .row 2 (xs.map eTApiKey) (SL z))) (h2 : BlkOK H w (0, .row 2 ([x].map eTApiKey) (SL zv))) (nd : (claims [(0, Blk.row 2 (xs.map eTApiKey) (SL z)), (0, Blk.row 2 ([x].map eTApiKey) (SL zv))] []).Nodup) :
    Calls Try.prog 37 #[SL z, .int .i64 i, SL zv] w fun e w' => ∃ z' : Z3, e = .returned (SL z') ∧ Core ⟨H, w, claims [(0, Blk.row 2 (xs.map eTApiKey) (SL z)), (0, Blk.row 2 ([x].map eTApiKey) (SL zv))] []⟩ H [(0, .row 2 ((insAt xs i x).map eTApiKey) (SL z'))] [] w' := by
  have hp : insPre xs (i : Int) = true := by unfold insPre; simp; omega
  exact insert_okH xs i x z zv hp H w hA h1 h2 nd
theorem rowI_step {H : Hp} {w W2 W4 : World} {pre : List Ky} {x : Ky} {z z' : Z3} {i : Nat} (hi : i ≤ (rowK pre).length) (h3 : ∀ j a, j < i → (rowK pre)[j]? = some a → ltK a (clK x) = true) (h4 : ∀ j a, i ≤ j → (rowK pre)[j]? = some a → ltK a (clK x) = false) (hm : clK x ∉ rowK pre)
    (c2 : Core ⟨H, w, []⟩ H [(0, .row 2 ((rowK pre).map eTApiKey) (SL z)), (w.heap.size, .cells [.v (SL z)] 23)] [] W2)
    (c4 : Core ⟨H, W2.alloc (.cells (kc2 (clK x)).toArray 34), claims [(0, Blk.row 2 ((rowK pre).map eTApiKey) (SL z)), (0, Blk.row 2 ([clK x].map eTApiKey) (SL (some ⟨W2.heap.size, 0, none⟩, 1, 1)))] []⟩ H [(0, .row 2 ((insAt (rowK pre) i (clK x)).map eTApiKey) (SL z'))] [] W4) :
    Boxed W4 w.heap.size 23 (SL z) ∧ rowI H w (pre ++ [x]) (W4.setCell ⟨w.heap.size, 0, none⟩ (SL z')) ∧ KeepsOthers W2 (W4.setCell ⟨w.heap.size, 0, none⟩ (SL z')) := by
  have hrow : rowK (pre ++ [x]) = insAt (rowK pre) i (clK x) := by rw [rowK_snoc, ins_eq hi h3 h4 hm]
  have c3 := Core.newRow c2 (xs := [clK x].map eTApiKey) (us := kc2 (clK x)) (rest := []) (kk := 2) (m := 1) (T := 34) (k_flat [clK x]) (by simp) (by simp [kc2]) (by simp)
  simp only [List.append_nil, List.length_map, List.length_cons, List.length_nil] at c3
  have c3' : Core ⟨H, w, []⟩ H ([(0, .row 2 ((rowK pre).map eTApiKey) (SL z)), (0, .row 2 ([clK x].map eTApiKey) (SL (some ⟨W2.heap.size, 0, none⟩, 1, 1)))] ++ [(w.heap.size, .cells [.v (SL z)] 23)]) ([] ++ []) (W2.alloc (.cells (kc2 (clK x)).toArray 34)) :=
    c3.perm (List.Perm.swap _ _ _) (List.Perm.refl _)
  have c5 := Core.call c3' c4
  have hbx := rowI_box (c5.blks (w.heap.size, .cells [.v (SL z)] 23) (by simp))
  refine ⟨hbx, ⟨z', ?_⟩, ?_⟩
  · have hs := Boxed.set (SL z') hbx
    have c6 := Core.write c5 (j := 1) (b := w.heap.size) (ds := [.v (SL z)]) (ds' := [.v (SL z')]) (us' := [SL z']) (T := 23) (w' := W4.setCell ⟨w.heap.size, 0, none⟩ (SL z')) rfl (Env.refl _) (by simp [World.setCell]) (fun j hj => Below.heap_setCell _ _ _ j hj) hs (reps_v H [SL z'] rfl)
    rw [hrow]; exact c6
  · refine (KeepsOthers.alloc W2 (.cells (kc2 (clK x)).toArray 34)).trans (KeepsOthers.trans ?_ (KeepsOthers.setCell _ _ _))
    have hk := keeps_core 0 c4 (fun b hb => by
      have hcl := c3'.blks
      have e1 := hcl (0, .row 2 ((rowK pre).map eTApiKey) (SL z)) (by simp)
      have e2 := hcl (0, .row 2 ([clK x].map eTApiKey) (SL (some ⟨W2.heap.size, 0, none⟩, 1, 1))) (by simp)
      have ecl : claims [(0, Blk.row 2 ((rowK pre).map eTApiKey) (SL z)), (0, Blk.row 2 ([clK x].map eTApiKey) (SL (some ⟨W2.heap.size, 0, none⟩, 1, 1)))] [] = claims [(0, Blk.row 2 ((rowK pre).map eTApiKey) (SL z))] [] ++ claims [(0, Blk.row 2 ([clK x].map eTApiKey) (SL (some ⟨W2.heap.size, 0, none⟩, 1, 1)))] [] := by simp [claims]
      rw [ecl] at hb
      rcases List.mem_append.1 hb with q | q
      · rcases key_row e1 with ⟨q1, q2, q3⟩ | ⟨b1, m, rest, T, q0, _, _, q1, _, _, q2⟩
        · obtain ⟨z1, z2, z3⟩ := z
          simp only at q1 q2; subst q1; subst q2
          cases z1 <;> simp [claims, blkClaim, sliceClaim] at q
        · rw [q2] at q; simp at q; subst q; exact ⟨_, _, q1⟩
      · rcases key_row e2 with ⟨q1, q2, q3⟩ | ⟨b1, m, rest, T, q0, _, _, q1, _, _, q2⟩
        · cases q3
        · rw [q2] at q; simp at q; subst q; exact ⟨_, _, q1⟩)
    exact ⟨hk.size, fun k o ho hc => hk.same k o (Nat.zero_le _) ho hc⟩
theorem rowI_same {H : Hp} {w W2 : World} {pre : List Ky} {x : Ky} {z : Z3} (hm : clK x ∈ rowK pre) (c2 : Core ⟨H, w, []⟩ H [(0, .row 2 ((rowK pre).map eTApiKey) (SL z)), (w.heap.size, .cells [.v (SL z)] 23)] [] W2) : rowI H w (pre ++ [x]) W2 := by
  refine ⟨z, ?_⟩
  rw [rowK_snoc, ins_same (rowK_all pre).1 hm]; exact c2
theorem keeps_below {W W' : World} (h : Below W.heap.size W W') : KeepsOthers W W' := ⟨h.size, fun k o hk _ => (h.block k (Array.getElem?_eq_some_iff.1 hk).1).trans hk⟩
set_option maxRecDepth 1000000 in
set_option maxHeartbeats 4000000 in
theorem row_calls (H : Hp) (w : World) (hA : Ag H w) (Bs : Nat) (a : Option Addr) (cap : Nat) (kss : List (List Ky)) (hN : kss.flatten.length < 4398046511104) (hlen : ∀ k : Nat, k < kss.length → wrap64 ((k : Int) + 1) = (k : Int) + 1) (hlens : ∀ ks ∈ kss, ∀ j : Nat, j < ks.length → wrap64 ((j : Int) + 1) = (j : Int) + 1)
    (hBs : Bs < w.heap.size) (hcB : w.cell? ⟨Bs, 0, none⟩ = some (.slice a kss.length cap)) (hc : ∀ i ks, kss[i]? = some ks → ∃ b off sv, a = some ⟨b, off, none⟩ ∧ b < w.heap.size ∧ w.cell? ⟨b, off + i, none⟩ = some sv ∧ SlK w.heap.size w sv ks) :
    Calls Try.prog 33 #[.func (.func 40) #[] #[.pointer (some ⟨Bs, 0, none⟩)]] w fun e w' => ∃ z : Z3, e = .returned (SL z) ∧ Core ⟨H, w, []⟩ H [(0, .row 2 ((rowK kss.flatten).map eTApiKey) (SL z))] [] w' := by
  refine (callsIn_wide (n := 5)).1 ?_
  refine callsIn_of_wp_marks Try.func33 rfl trivial ?_ rfl
  simp only [Try.ntmps33, List.size_toArray, List.length_cons, List.length_nil, Nat.reduceAdd, Nat.reduceSub, Array.replicate_succ, Array.replicate_zero, List.push_toArray, List.append_toArray, List.nil_append, List.cons_append]
  gi_wp2
  have hb0 : Below w.heap.size w (w.alloc (.cells #[.slice none 0 0] 23)) := (Below.refl _ w).alloc (Nat.le_refl _) _
  have hI0 : rowI H w [] (w.alloc (.cells #[.slice none 0 0] 23)) := by
    have c1 := Core.alloc (Core.here hA) (ds := [.v (SL (none, 0, 0))]) (us := [SL (none, 0, 0)]) 23 (reps_v H [SL (none, 0, 0)] rfl)
    refine ⟨(none, 0, 0), c1.ag, c1.le, c1.new, c1.same, c1.size, ?_, by simp, ?_, ?_, c1.env⟩
    · intro p hp
      rcases List.mem_cons.1 hp with rfl | hp
      · exact .inl ⟨none, rfl, rfl⟩
      · exact c1.blks p (by simpa using hp)
    · have := c1.nd; simpa [claims, blkClaim, sliceClaim] using this
    · have := c1.own; simpa [claims, blkClaim, sliceClaim] using this
  have hsz : (w.alloc (.cells #[.slice none 0 0] 23)).heap.size = w.heap.size + 1 := by simp
  obtain ⟨W0, hW0⟩ : ∃ W0, w.alloc (.cells #[.slice none 0 0] 23) = W0 := ⟨_, rfl⟩
  rw [hW0] at hb0 hI0 hsz ⊢
  clear hW0
  refine wpIn_rangeFunc_ownH (n := 5) rfl (by decide) (gf := 40) (lb := #[.pointer (some ⟨Bs, 0, none⟩)]) rfl trivial (enters_of Try.func40 (by kernel_rfl) rfl)
    (chain_stops 4 (by decide) Bs w.heap.size a cap kss hlen hlens W0 (by omega) (by omega) ((hb0.cell (p := ⟨Bs, 0, none⟩) hBs).trans hcB) (fun i ks hk => by
      obtain ⟨b, off, sv, e1, e2, e3, e4⟩ := hc i ks hk
      exact ⟨b, off, sv, e1, e2, (hb0.cell (p := ⟨b, _, none⟩) e2).trans e3, e4.below hb0⟩)) belowK_t (belowK_b (by omega)) (Below.refl _ _) (fun _ => rfl)
    (fun pre W => rowI H w pre W) (fun _ _ _ => False)
    (rowI_own H w _ (by omega)) (fun _ _ _ _ _ hs _ _ => hs) hI0
    (fun x a' W => ∃ Bx, W.heap[Bx]? = some (Obj.cells #[.string (clK x).gName, .int .i64 (clK x).gNode] 34 (0, 0)) ∧ a' = { tmps := #[Value.func (Fn.func 40) #[] #[Value.pointer (some { block := Bs, off := 0 })], undef, Value.slice none 0 0, Value.pointer (some { block := w.heap.size, off := 0 }), .pointer (some ⟨Bx, 0, none⟩), undef, undef, Value.func (Fn.func 40) #[] #[Value.pointer (some { block := Bs, off := 0 })], .agg #[.string (clK x).gName, .int .i64 (clK x).gNode], undef, undef, undef, undef, undef, undef, undef, undef, undef, undef, undef, undef, undef, undef], defers := [] })
    (fun x a' s X Y row hs hg hr => by
      obtain ⟨Bx, h1, h2⟩ := hs
      refine ⟨Bx, (hg.block Bx (Array.getElem?_eq_some_iff.1 h1).1 (fun q => ?_)).trans h1, h2⟩
      obtain ⟨_, o, ho, hcc⟩ := hr Bx q.symm
      rw [h1] at ho; cases ho; cases hcc)
    ?assign ?body ?done ?stop
  case assign =>
    rintro l pre x W K ⟨z, hI⟩ hK
    unfold encK
    gi_wp2
    have hw : w.heap.size ≤ W.heap.size := hI.size
    refine hK _ _ ((KeepsOthers.alloc _ _).from _) ((Below.refl _ W).alloc hw _) ⟨z, ?_⟩ ⟨W.heap.size, World.alloc_heap_new W _, rfl⟩
    refine core_own (row := none) (by intro p hp; simp at hp; rcases hp with rfl | rfl <;> simp) hI (World.grownBy_alloc W _ none) (fun r e => by cases e)
  case body =>
    rintro l pre x a' W hl ⟨r, hr⟩ ⟨z, hI⟩ ⟨Bx, hBx, rfl⟩ hlt
    have hpl := (rowK_all pre).2.2
    have hl42 : (rowK pre).length < 4398046511104 := by omega
    obtain ⟨i, hi, h3, h4, hbs⟩ := bs_calls (clK x) hI.ag (hI.blks (0, .row 2 ((rowK pre).map eTApiKey) (SL z)) (by simp)) (clK_cl x) (rowC_row pre) hl42
    have bO := rowI_box (hI.blks (w.heap.size, .cells [.v (SL z)] 23) (by simp))
    have cO := bO.cell
    have cX0 : W.cell? ⟨Bx, 0, none⟩ = some (.string (clK x).gName) := by simp [World.cell?, hBx]
    have cX1 : W.cell? ⟨Bx, 1, none⟩ = some (.int .i64 (clK x).gNode) := by simp [World.cell?, hBx]
    have hBl : Bx < W.heap.size := (Array.getElem?_eq_some_iff.1 hBx).1
    have hOl := bO.lt
    have hsI := hI.size
    simp only [encK] at hbs
    by_cases hm : clK x ∈ rowK pre
    · rw [decide_eq_true hm] at hbs
      gi_wp2
      refine ⟨trivial, ?_⟩
      refine (CallsIn.inRound l (callsIn_wide.2 hbs)).mono ?_
      rintro e W2 ⟨rfl, hb2⟩
      gi_wp2
      have c2 : Core ⟨H, w, []⟩ H [(0, .row 2 ((rowK pre).map eTApiKey) (SL z)), (w.heap.size, .cells [.v (SL z)] 23)] [] W2 := Core.call (h1 := []) (k1 := []) hI (core_below0 hI.ag hb2)
      exact ⟨(keeps_below hb2).from _, core_between rfl hI c2 hb2.size, rowI_same hm c2⟩
    · rw [decide_eq_false hm] at hbs
      gi_wp2
      refine ⟨trivial, ?_⟩
      refine (CallsIn.inRound l (callsIn_wide.2 hbs)).mono ?_
      rintro e W2 ⟨rfl, hb2⟩
      have c2 : Core ⟨H, w, []⟩ H [(0, .row 2 ((rowK pre).map eTApiKey) (SL z)), (w.heap.size, .cells [.v (SL z)] 23)] [] W2 := Core.call (h1 := []) (k1 := []) hI (core_below0 hI.ag hb2)
      have cO2 : W2.cell? ⟨w.heap.size, 0, none⟩ = some (.slice z.1 z.2.1 z.2.2) := (hb2.cell (p := ⟨w.heap.size, 0, none⟩) hOl).trans cO
      have cX2 : W2.cell? ⟨Bx, 0, none⟩ = some (.string (clK x).gName) := (hb2.cell (p := ⟨Bx, 0, none⟩) hBl).trans cX0
      have cX3 : W2.cell? ⟨Bx, 1, none⟩ = some (.int .i64 (clK x).gNode) := (hb2.cell (p := ⟨Bx, 1, none⟩) hBl).trans cX1
      have c3 := Core.newRow c2 (xs := [clK x].map eTApiKey) (us := kc2 (clK x)) (rest := []) (kk := 2) (m := 1) (T := 34) (k_flat [clK x]) (by simp) (by simp [kc2]) (by simp)
      simp only [List.append_nil, List.length_map, List.length_cons, List.length_nil] at c3
      have c3' : Core ⟨H, w, []⟩ H ([(0, .row 2 ((rowK pre).map eTApiKey) (SL z)), (0, .row 2 ([clK x].map eTApiKey) (SL (some ⟨W2.heap.size, 0, none⟩, 1, 1)))] ++ [(w.heap.size, .cells [.v (SL z)] 23)]) ([] ++ []) (W2.alloc (.cells (kc2 (clK x)).toArray 34)) :=
        c3.perm (List.Perm.swap _ _ _) (List.Perm.refl _)
      have hins := insert_calls (clK x) i hi hl42 c3'.ag (c3'.blks (0, .row 2 ((rowK pre).map eTApiKey) (SL z)) (by simp)) (c3'.blks (0, .row 2 ([clK x].map eTApiKey) (SL (some ⟨W2.heap.size, 0, none⟩, 1, 1))) (by simp)) (by
        have := (claims_append [(0, Blk.row 2 ((rowK pre).map eTApiKey) (SL z)), (0, Blk.row 2 ([clK x].map eTApiKey) (SL (some ⟨W2.heap.size, 0, none⟩, 1, 1)))] [(w.heap.size, .cells [.v (SL z)] 23)] [] []).nodup_iff.1 c3'.nd
        exact (List.nodup_append.1 this).1)
      clear c3 c3'
      gi_wp2
      refine ⟨trivial, ?_⟩
      refine (CallsIn.inRound l (callsIn_wide.2 hins)).mono ?_
      rintro e W4 ⟨z', rfl, c4⟩
      obtain ⟨bx, ⟨z2, hI2⟩, hk⟩ := rowI_step hi h3 h4 hm c2 c4
      have cO4 := bx.cell
      have fO4 := bx.frozen
      gi_wp2
      have hkk := (keeps_below hb2).trans hk
      exact ⟨hkk.from _, core_between rfl hI hI2 hkk.size, z2, hI2⟩
  case done =>
    rintro D zs W hD rfl ⟨z, hI⟩ hK
    have cO := (rowI_box (hI.blks (w.heap.size, .cells [.v (SL z)] 23) (by simp))).cell
    gi_wp2
    refine ⟨by simp, .inl ⟨_, _, rfl, run_takeDeferred hK, ?_⟩⟩
    refine ⟨_, results_tmp rfl _ _ _, z, rfl, ?_⟩
    have hI3 := Core.drop hI (h' := [(0, .row 2 ((rowK kss.flatten).map eTApiKey) (SL z))]) (k' := []) (by simp) (List.Sublist.refl _)
    exact core_own (by intro p hp; simp at hp; subst hp; simp) hI3 (grownBy_putObj' W D _) (fun r e => by cases e; exact ⟨by show w.heap.size ≤ D; omega, _, hK, rfl⟩)
  case stop =>
    rintro D c pre W _ _ h _
    exact h.elim
end Go.Proofs.Ytpdekcfeecdlbaa.Ab
namespace Go.Proofs.Ytpdekcfeecdlbaa.Ab
open Go Go.RowKit Go.Shelf Go.Proofs Go.Proofs.Ytpdekcfeecdlbaa.Ab.Pq
set_option linter.all false
theorem keKey (a b : TApiKey) : (decide (a.gName = b.gName) && (a.gNode == b.gNode && true)) = decide (b = a) := by
  rw [Bool.eq_iff_iff, decide_eq_true_iff]
  obtain ⟨a0, a1⟩ := a
  obtain ⟨b0, b1⟩ := b
  simp only [Bool.and_eq_true, decide_eq_true_eq, beq_iff_eq, and_true, TApiKey.mk.injEq]
  constructor <;> intro h <;> simp_all
theorem mkK : KeyOK Try.prog 34 (fun a : TApiKey => Value.agg (kc2 a).toArray) := struct_key (g := kc2) htab eqt34 rfl rfl (fun _ => rfl) (fun _ => rfl) (fun a b => (show eqL tab _ _ _ = some (decide (a.gName = b.gName) && (a.gNode == b.gNode && true)) from rfl).trans (congrArg some (keKey a b)))
abbrev Ties := List (TApiKey × (List TApiKey × Z3))
def tieM (es : Ties) : List (Value × D) := es.map fun p => (Value.agg (kc2 p.1).toArray, (fun q : List TApiKey × Z3 => D.v (SL q.2)) p.2)
def tieR (es : Ties) : List (Nat × Blk) := es.map fun p => (0, Blk.row 2 (p.2.1.map eTApiKey) (SL p.2.2))
def tieH (b : Nat) (es : Ties) : List (Nat × Blk) := (b, .mp (tieM es)) :: tieR es
def tieL (es : Ties) : List (TApiKey × List TApiKey) := es.map fun p => (p.1, p.2.1)
abbrev zr0 : List TApiKey × Z3 := ([], (none, 0, 0))
theorem mget_split {β : Type} : ∀ {l : List (TApiKey × β)} {k : TApiKey}, (mget l k = none ∧ (∀ u, mput l k u = l ++ [(k, u)]) ∧ ∀ p ∈ l, p.1 ≠ k) ∨ ∃ l1 l2 v, mget l k = some v ∧ l = l1 ++ (k, v) :: l2 ∧ (∀ u, mput l k u = l1 ++ (k, u) :: l2) ∧ ∀ p ∈ l1, p.1 ≠ k
  | [], k => .inl ⟨rfl, fun _ => rfl, by simp⟩
  | (a, b) :: l, k => by
    by_cases q : a = k
    · subst q
      exact .inr ⟨[], l, b, by simp [mget], rfl, fun u => by simp [mput], by simp⟩
    · rcases mget_split (l := l) (k := k) with ⟨h1, h2, h3⟩ | ⟨l1, l2, v, h1, h2, h3, h4⟩
      · exact .inl ⟨by simp [mget, q, h1], fun u => by simp [mput, q, h2], by intro p hp; rcases List.mem_cons.1 hp with rfl | hp; exact q; exact h3 p hp⟩
      · exact .inr ⟨(a, b) :: l1, l2, v, by simp [mget, q, h1], by simp [h2], fun u => by simp [mput, q, h3], by intro p hp; rcases List.mem_cons.1 hp with rfl | hp; exact q; exact h4 p hp⟩
theorem mgetL (es : Ties) (k : TApiKey) : mgetD (tieL es) k [] = (mgetD es k zr0).1 := by
  unfold mgetD tieL
  induction es with
  | nil => rfl
  | cons p es ih =>
    obtain ⟨a, v⟩ := p
    simp only [List.map_cons, mget]
    by_cases q : a = k
    · simp [q]
    · simp only [q, if_false]; exact ih
theorem mputL (es : Ties) (k : TApiKey) (v : List TApiKey × Z3) : tieL (mput es k v) = mput (tieL es) k v.1 := by
  unfold tieL
  induction es with
  | nil => rfl
  | cons p es ih =>
    obtain ⟨a, u⟩ := p
    simp only [List.map_cons, mput]
    by_cases q : a = k
    · simp [q]
    · simp only [q, if_false, List.map_cons]; rw [ih]
theorem run_lkp {H : Hp} {w : World} {b : Nat} {es : Ties} (hb : BlkOK H w (b, .mp (tieM es))) (k : TApiKey) :
    (Instr.lookup 44 (.map (some b)) (.agg #[.string k.gName, .int .i64 k.gNode]) false).run Try.prog w = .ok (SL (mgetD es k zr0).2) w := by
  obtain ⟨dd, h1, h2⟩ := run_underlying (P := Try.prog) (w := w) (ti_ok htab (t := 44) rfl)
  have hd : tdOf dd = .map 34 23 := h2
  have := td_map hd; subst this
  obtain ⟨me, ck, g1, g2, g3⟩ := hb
  have hfk := mkK.find w k me.toList (es.map (·.1)) (mapR_keys (f := fun a : TApiKey => Value.agg (kc2 a).toArray) (e := fun q : List TApiKey × Z3 => D.v (SL q.2)) g2)
  have hz : (Try.prog.info? 23).bind (·.zero) = some (.slice none 0 0) := by kernel_rfl
  unfold Instr.lookup mgetD
  rcases mapR_find (f := fun a : TApiKey => Value.agg (kc2 a).toArray) (e := fun q : List TApiKey × Z3 => D.v (SL q.2)) k 0 g2 with ⟨q1, q2, _⟩ | ⟨j', b', m, q1, q2, q3, _⟩
  · rw [q2] at hfk
    simp only [run_bind, h1, Result.andThen, MapKept.run_getObj_map g1, run_pure, mkK.check, show (Value.agg #[.string k.gName, .int .i64 k.gNode]) = Value.agg (kc2 k).toArray from rfl, hfk, run_zv hz]
    rw [q1]; simp
  · rw [q2] at hfk
    simp only [run_bind, h1, Result.andThen, MapKept.run_getObj_map g1, run_pure, mkK.check, show (Value.agg #[.string k.gName, .int .i64 k.gNode]) = Value.agg (kc2 k).toArray from rfl, hfk]
    rw [q1, rep_v_inv q3]; simp
theorem run_upd {H : Hp} {w : World} {b : Nat} {es : Ties} (hb : BlkOK H w (b, .mp (tieM es))) (k : TApiKey) (v : List TApiKey × Z3) :
    ∃ me ck, (Instr.mapUpdate 44 (.map (some b)) (.agg #[.string k.gName, .int .i64 k.gNode]) (SL v.2)).run Try.prog w = .ok () { w with heap := w.heap.setIfInBounds b (.map me ck) } ∧ MapR H (tieM (mput es k v)) me.toList := by
  obtain ⟨dd, h1, h2⟩ := run_underlying (P := Try.prog) (w := w) (ti_ok htab (t := 44) rfl)
  have hd : tdOf dd = .map 34 23 := h2
  have := td_map hd; subst this
  obtain ⟨me, ck, g1, g2, g3⟩ := hb
  have hfk := mkK.find w k me.toList (es.map (·.1)) (mapR_keys (f := fun a : TApiKey => Value.agg (kc2 a).toArray) (e := fun q : List TApiKey × Z3 => D.v (SL q.2)) g2)
  have hyv : Rep H ((fun q : List TApiKey × Z3 => D.v (SL q.2)) v) (SL v.2) := rep_v rfl
  unfold Instr.mapUpdate
  rcases mapR_find (f := fun a : TApiKey => Value.agg (kc2 a).toArray) (e := fun q : List TApiKey × Z3 => D.v (SL q.2)) k 0 g2 with ⟨q1, q2, q3⟩ | ⟨j', b', m, q1, q2, q3, q4, q5, q6⟩
  · refine ⟨me.push ⟨Value.agg (kc2 k).toArray, SL v.2, ck⟩, ck + 1, ?_, by rw [Array.toList_push]; exact q3 v _ ck hyv⟩
    rw [q2] at hfk
    simp only [run_bind, h1, Result.andThen, MapKept.run_getObj_map g1, run_pure, mkK.check, show (Value.agg #[.string k.gName, .int .i64 k.gNode]) = Value.agg (kc2 k).toArray from rfl, hfk, MapKept.run_setObj_map _ g1]
  · refine ⟨me.modify j' fun x => { x with key := Value.agg (kc2 k).toArray, val := SL v.2 }, ck, ?_, by rw [Array.toList_modify]; exact q6 v _ hyv⟩
    rw [q2] at hfk
    have hm : me[j']? = some m := by rw [← Array.getElem?_toList]; exact q4
    rw [Nat.zero_add] at hfk
    simp only [run_bind, h1, Result.andThen, MapKept.run_getObj_map g1, run_pure, mkK.check, show (Value.agg #[.string k.gName, .int .i64 k.gNode]) = Value.agg (kc2 k).toArray from rfl, hfk, hm, Option.map_some, Option.getD_some, q5, mkK.stays, MapKept.run_setObj_map _ g1]
theorem blk_bel {H : Hp} {w w' : World} (hA : Ag H w) (hb : Below w.heap.size w w') {p : Nat × Blk} (h : BlkOK H w p) : BlkOK H w' p :=
  BlkOK.later (core_below0 hA hb) h (by simp)
theorem core_stay {H : Hp} {w w' : World} {h : List (Nat × Blk)} (hA : Ag H w) (hB : ∀ p ∈ h, BlkOK H w p) (nd : (claims h []).Nodup) (hb : Below w.heap.size w w') : Core ⟨H, w, claims h []⟩ H h [] w' :=
  ⟨fun a v e => by rw [hb.cell (p := a) (hA.lt e)]; exact hA a v e, Hp.le_refl H, fun _ _ x => .inl x, fun b hl _ => hb.block b hl, hb.size, fun p hp => blk_bel hA hb (hB p hp), by simp, nd, fun b hx => .inl hx, ⟨hb.os, hb.tape, hb.output, Nat.le_refl _⟩⟩
theorem core_empty {C : Ctx} {H : Hp} {h : List (Nat × Blk)} {W : World} (c : Core C H h [] W) : Core C H ((0, .row 2 ([].map eTApiKey) (SL (none, 0, 0))) :: h) [] W := by
  refine ⟨c.ag, c.le, c.new, c.same, c.size, ?_, by simp, ?_, ?_, c.env⟩
  · intro p hp
    rcases List.mem_cons.1 hp with rfl | hp
    · exact .inl ⟨none, rfl, rfl⟩
    · exact c.blks p hp
  · have := c.nd; simpa [claims, blkClaim, sliceClaim] using this
  · have := c.own; simpa [claims, blkClaim, sliceClaim] using this
theorem tie_split {C : Ctx} {H : Hp} {W : World} {b : Nat} {es : Ties} {ex : List (Nat × Blk)} (x : TApiKey) (c : Core C H (tieH b es ++ ex) [] W) : ∃ rest : List (Nat × Blk), (∀ p ∈ ex, p ∈ rest) ∧
    Core C H ((0, .row 2 ((mgetD es x zr0).1.map eTApiKey) (SL (mgetD es x zr0).2)) :: (b, .mp (tieM es)) :: rest) [] W ∧
    ∀ (xs' : List TApiKey) (z' : Z3) (C' : Ctx) (W' : World), Core C' H ((0, .row 2 (xs'.map eTApiKey) (SL z')) :: (b, .mp (tieM (mput es x (xs', z')))) :: rest) [] W' → Core C' H (tieH b (mput es x (xs', z')) ++ ex) [] W' := by
  rcases mget_split (l := es) (k := x) with ⟨h1, h2, _⟩ | ⟨l1, l2, v, h1, h2, h3, _⟩
  · refine ⟨tieR es ++ ex, fun p hp => List.mem_append_right _ hp, ?_, fun xs' z' C' W' c' => ?_⟩
    · have : mgetD es x zr0 = zr0 := by unfold mgetD; rw [h1]; rfl
      rw [this]; exact core_empty c
    · rw [h2] at c' ⊢
      refine c'.perm ?_ (List.Perm.refl _)
      unfold tieH
      refine (List.Perm.swap _ _ _).trans (List.Perm.cons _ ?_)
      simp only [tieR, List.map_append, List.map_cons, List.map_nil]
      rw [← List.cons_append]
      exact List.Perm.append_right _ (List.perm_append_singleton _ _).symm
  · refine ⟨(tieR l1 ++ tieR l2) ++ ex, fun p hp => List.mem_append_right _ hp, ?_, fun xs' z' C' W' c' => ?_⟩
    · have : mgetD es x zr0 = v := by unfold mgetD; rw [h1]; rfl
      rw [this]
      refine c.perm ?_ (List.Perm.refl _)
      unfold tieH
      refine List.Perm.trans ?_ (List.Perm.swap _ _ _)
      refine List.Perm.cons _ ?_
      rw [h2]
      simp only [tieR, List.map_append, List.map_cons]
      rw [← List.cons_append]
      exact List.Perm.append_right _ List.perm_middle
    · rw [h3] at c' ⊢
      refine c'.perm ?_ (List.Perm.refl _)
      unfold tieH
      refine (List.Perm.swap _ _ _).trans (List.Perm.cons _ ?_)
      simp only [tieR, List.map_append, List.map_cons]
      rw [← List.cons_append]
      exact List.Perm.append_right _ List.perm_middle.symm
theorem key_box {H : Hp} {W : World} {b : Nat} {T : TypeId} {x : TApiKey} (h : BlkOK H W (b, .cells ((kc2 x).map .v) T)) : W.cell? ⟨b, 0, none⟩ = some (.string x.gName) ∧ W.cell? ⟨b, 1, none⟩ = some (.int .i64 x.gNode) := by
  obtain ⟨us, h1, h2, _⟩ := h
  have := reps_v_inv h2; subst this
  simp [World.cell?, h1, kc2]
def tieF (m : List (TApiKey × List TApiKey)) (x y : TApiKey) : List (TApiKey × List TApiKey) := if y ∈ mgetD m x [] then m else mput m x (insT ltK y (mgetD m x []))
theorem tie_one {C : Ctx} {H : Hp} {W W3 W4 : World} {b : Nat} {rest : List (Nat × Blk)} {es : Ties} {x y : TApiKey} {xs xs' : List TApiKey} {z z' : Z3} {me : Array MapEntry} {ck : Nat} (hrest : Core C H ((0, .row 2 (xs.map eTApiKey) (SL z)) :: (b, .mp (tieM es)) :: rest) [] W)
    (hW3 : W3 = W.alloc (.cells (kc2 y).toArray 34)) (c4 : Core ⟨H, W3, claims [(0, Blk.row 2 (xs.map eTApiKey) (SL z)), (0, Blk.row 2 ([y].map eTApiKey) (SL (some ⟨W.heap.size, 0, none⟩, 1, 1)))] []⟩ H [(0, .row 2 (xs'.map eTApiKey) (SL z'))] [] W4) :
    Core C H ((0, .row 2 (xs'.map eTApiKey) (SL z')) :: (b, .mp (tieM es)) :: rest) [] W4 ∧ (MapR H (tieM (mput es x (xs', z'))) me.toList → Core C H ((0, .row 2 (xs'.map eTApiKey) (SL z')) :: (b, .mp (tieM (mput es x (xs', z')))) :: rest) [] { W4 with heap := W4.heap.setIfInBounds b (.map me ck) }) := by
  subst hW3
  have c3 := Core.newRow hrest (xs := [y].map eTApiKey) (us := kc2 y) (rest := []) (kk := 2) (m := 1) (T := 34) (k_flat [y]) (by simp) (by simp [kc2]) (by simp)
  simp only [List.append_nil, List.length_map, List.length_cons, List.length_nil] at c3
  have c3' : Core C H ([(0, .row 2 (xs.map eTApiKey) (SL z)), (0, .row 2 ([y].map eTApiKey) (SL (some ⟨W.heap.size, 0, none⟩, 1, 1)))] ++ ((b, .mp (tieM es)) :: rest)) ([] ++ []) (W.alloc (.cells (kc2 y).toArray 34)) :=
    c3.perm (List.Perm.swap _ _ _) (List.Perm.refl _)
  have c5 := Core.call c3' c4
  refine ⟨c5, fun hm => ?_⟩
  exact Core.setMap (j := 1) (es' := tieM (mput es x (xs', z'))) (me := me) (ck := ck) c5 rfl hm
theorem tie_pre {C : Ctx} {H : Hp} {W : World} {b : Nat} {rest : List (Nat × Blk)} {es : Ties} {y : TApiKey} {xs : List TApiKey} {z : Z3} {i : Nat} (hrest : Core C H ((0, .row 2 (xs.map eTApiKey) (SL z)) :: (b, .mp (tieM es)) :: rest) [] W) (hi : i ≤ xs.length) (hl : xs.length < 4398046511104) :
    Calls Try.prog 37 #[SL z, .int .i64 i, SL (some ⟨W.heap.size, 0, none⟩, 1, 1)] (W.alloc (.cells (kc2 y).toArray 34)) fun e w' => ∃ z' : Z3, e = .returned (SL z') ∧ Core ⟨H, W.alloc (.cells (kc2 y).toArray 34), claims [(0, Blk.row 2 (xs.map eTApiKey) (SL z)), (0, Blk.row 2 ([y].map eTApiKey) (SL (some ⟨W.heap.size, 0, none⟩, 1, 1)))] []⟩ H [(0, .row 2 ((insAt xs i y).map eTApiKey) (SL z'))] [] w' := by
  have c3 := Core.newRow hrest (xs := [y].map eTApiKey) (us := kc2 y) (rest := []) (kk := 2) (m := 1) (T := 34) (k_flat [y]) (by simp) (by simp [kc2]) (by simp)
  simp only [List.append_nil, List.length_map, List.length_cons, List.length_nil] at c3
  have c3' : Core C H ([(0, .row 2 (xs.map eTApiKey) (SL z)), (0, .row 2 ([y].map eTApiKey) (SL (some ⟨W.heap.size, 0, none⟩, 1, 1)))] ++ ((b, .mp (tieM es)) :: rest)) ([] ++ []) (W.alloc (.cells (kc2 y).toArray 34)) :=
    c3.perm (List.Perm.swap _ _ _) (List.Perm.refl _)
  exact insert_calls y i hi hl c3'.ag (c3'.blks (0, .row 2 (xs.map eTApiKey) (SL z)) (by simp)) (c3'.blks (0, .row 2 ([y].map eTApiKey) (SL (some ⟨W.heap.size, 0, none⟩, 1, 1))) (by simp)) (by
        have := (claims_append [(0, Blk.row 2 (xs.map eTApiKey) (SL z)), (0, Blk.row 2 ([y].map eTApiKey) (SL (some ⟨W.heap.size, 0, none⟩, 1, 1)))] ((b, .mp (tieM es)) :: rest) [] []).nodup_iff.1 c3'.nd
        exact (List.nodup_append.1 this).1)
theorem tie_ins {C : Ctx} {H : Hp} {W : World} {b : Nat} {rest : List (Nat × Blk)} {es : Ties} {x y : TApiKey} {xs : List TApiKey} {z : Z3} {i : Nat} (hrest : Core C H ((0, .row 2 (xs.map eTApiKey) (SL z)) :: (b, .mp (tieM es)) :: rest) [] W) (hi : i ≤ xs.length) (hl : xs.length < 4398046511104) :
    Calls Try.prog 37 #[SL z, .int .i64 i, .slice (some ⟨W.heap.size, 0, none⟩) 1 1] (W.alloc (.cells #[Value.string y.gName, Value.int IntKind.i64 y.gNode] 34)).drew fun e w' => ∃ (z' : Z3) (w5 : World), e = .returned (SL z') ∧ Core C H ((0, .row 2 ((insAt xs i y).map eTApiKey) (SL z')) :: (b, .mp (tieM es)) :: rest) [] w' ∧
      (Instr.mapUpdate 44 (.map (some b)) (.agg #[.string x.gName, .int .i64 x.gNode]) (SL z')).run Try.prog w' = .ok () w5 ∧
      Core C H ((0, .row 2 ((insAt xs i y).map eTApiKey) (SL z')) :: (b, .mp (tieM (mput es x (insAt xs i y, z')))) :: rest) [] w5 := by
  refine (tie_pre (y := y) (Core.drew hrest) hi hl).mono ?_
  rintro e w' ⟨z', he, c4⟩
  obtain ⟨c6, _⟩ := tie_one (x := x) (me := #[]) (ck := 0) (Core.drew hrest) rfl c4
  obtain ⟨me, ck, hup, hmr⟩ := run_upd (c6.blks (b, .mp (tieM es)) (by simp)) x (insAt xs i y, z')
  obtain ⟨_, hset⟩ := tie_one (x := x) (me := me) (ck := ck) (Core.drew hrest) rfl c4
  exact ⟨z', _, he, c6, hup, hset hmr⟩
set_option maxRecDepth 100000 in
set_option maxHeartbeats 4000000 in
theorem tie_calls (H : Hp) (w : World) (hA : Ag H w) (b : Nat) (es : Ties) (x y : TApiKey) (hb : ∀ p ∈ tieH b es, BlkOK H w p) (nd : (claims (tieH b es) []).Nodup) (hy : clK y = y) (hr : RowC (mgetD es x zr0).1) (hl : (mgetD es x zr0).1.length < 4398046511104) :
    Calls Try.prog 31 #[.map (some b), encK x, encK y] w fun e w' => ∃ es', e = .returned (.tuple #[]) ∧ Core ⟨H, w, claims (tieH b es) []⟩ H (tieH b es') [] w' ∧ tieL es' = tieF (tieL es) x y := by
  have mixed : Try.prog.follows .mixedOrders = true := by kernel_rfl
  obtain ⟨W1, hW1⟩ : ∃ W1, W1 = (w.alloc (Obj.cells #[Value.string x.gName, Value.int IntKind.i64 x.gNode] 34)).alloc (Obj.cells #[Value.string y.gName, Value.int IntKind.i64 y.gNode] 34) := ⟨_, rfl⟩
  have hs1 : W1.heap.size = w.heap.size + 2 := by rw [hW1]; simp
  have c1 : Core ⟨H, w, claims (tieH b es) []⟩ H (tieH b es ++ [(w.heap.size, .cells ((kc2 x).map .v) 34), (w.heap.size + 1, .cells ((kc2 y).map .v) 34)]) [] W1 := by
    rw [hW1]
    have q := Core.alloc (Core.alloc (core_stay hA hb nd (Below.refl _ w)) (ds := (kc2 x).map .v) (us := kc2 x) 34 (reps_v H (kc2 x) rfl)) (ds := (kc2 y).map .v) (us := kc2 y) 34 (reps_v H (kc2 y) rfl)
    simp only [List.append_assoc, List.singleton_append, World.size_alloc] at q
    exact q
  have hlk := run_lkp (c1.blks (b, .mp (tieM es)) (by simp [tieH])) x
  obtain ⟨rest, hex, c1s, hback⟩ := tie_split x c1
  obtain ⟨i, hi, h3, h4, hbs⟩ := bs_calls y c1s.ag (c1s.blks _ (List.mem_cons_self ..)) hy hr hl
  have box : ∀ (W : World) (p : Nat × Blk) (hs : List (Nat × Blk)) (C' : Ctx), p ∈ rest → Core C' H (hs ++ rest) [] W → BlkOK H W p := fun W p hs C' hp c => c.blks p (List.mem_append_right _ hp)
  obtain ⟨hx0, hx1⟩ := key_box (box W1 _ [_, _] _ (hex (w.heap.size, .cells ((kc2 x).map .v) 34) (by simp)) c1s)
  obtain ⟨hy0, hy1⟩ := key_box (box W1 _ [_, _] _ (hex (w.heap.size + 1, .cells ((kc2 y).map .v) 34) (by simp)) c1s)
  unfold encK
  simp only [encK] at hbs
  go_enter Try.func31, Try.ntmps31
  go_wp2
  rw [← hW1, hlk]
  clear hW1
  by_cases hm : y ∈ (mgetD es x zr0).1
  · rw [decide_eq_true hm] at hbs
    go_wp2_with fail
    refine hbs.mono ?_
    rintro e W2 ⟨rfl, hb2⟩
    go_wp2
    go_end0
    have c2 : Core ⟨H, w, claims (tieH b es) []⟩ H (tieH b es ++ [(w.heap.size, .cells ((kc2 x).map .v) 34), (w.heap.size + 1, .cells ((kc2 y).map .v) 34)]) [] W2 := Core.call (h1 := []) (k1 := []) c1 (core_below0 c1.ag hb2)
    refine ⟨es, rfl, c2.drop (List.sublist_append_left _ _) (List.Sublist.refl _), ?_⟩
    unfold tieF
    rw [mgetL, if_pos hm]
  · rw [decide_eq_false hm] at hbs
    go_wp2_with fail
    refine hbs.mono ?_
    rintro e W2 ⟨rfl, hb2⟩
    have c2s : Core ⟨H, w, claims (tieH b es) []⟩ H ((0, .row 2 ((mgetD es x zr0).1.map eTApiKey) (SL (mgetD es x zr0).2)) :: (b, .mp (tieM es)) :: rest) [] W2 := Core.call (h1 := []) (k1 := []) c1s (core_below0 c1s.ag hb2)
    have hins := tie_ins (x := x) (y := y) c2s hi hl
    have hlt1 : w.heap.size < W2.heap.size := by have := hb2.size; omega
    have hlt2 : w.heap.size + 1 < W2.heap.size := by have := hb2.size; omega
    have hne1 : ¬ (w.heap.size = W2.heap.size) := by omega
    have hne2 : ¬ (W2.heap.size = w.heap.size) := by omega
    obtain ⟨hx0', hx1'⟩ := key_box (box W2 _ [_, _] _ (hex (w.heap.size, .cells ((kc2 x).map .v) 34) (by simp)) c2s)
    obtain ⟨hy0', hy1'⟩ := key_box (box W2 _ [_, _] _ (hex (w.heap.size + 1, .cells ((kc2 y).map .v) 34) (by simp)) c2s)
    clear hlk hx0 hx1 hy0 hy1
    go_wp2
    go_region_with_o (
      go_at_call 37
      refine hins.mono ?_
      rintro e W4 ⟨z', W5, rfl, c4, hup, c5⟩
      obtain ⟨hx0'', hx1''⟩ := key_box (box W4 _ [_, _] _ (hex (w.heap.size, .cells ((kc2 x).map .v) 34) (by simp)) c4))
    all_goals
      go_end0
      refine ⟨_, rfl, (hback _ _ _ _ c5).drop (List.sublist_append_left _ _) (List.Sublist.refl _), ?_⟩
      unfold tieF
      rw [mputL, mgetL, if_neg hm, ins_eq hi h3 h4 hm]
end Go.Proofs.Ytpdekcfeecdlbaa.Ab
namespace Go.Proofs.Ytpdekcfeecdlbaa.Ab
open Go Go.RowKit Go.Shelf Go.Proofs Go.Proofs.Ytpdekcfeecdlbaa.Ab.Pq
set_option linter.all false
theorem wrap_small (j : Nat) (h : j < 4398046511104) : wrap64 ((j : Int) + 1) = (j : Int) + 1 := IntWalk.wrap64_in _ ⟨by omega, by omega⟩
theorem els_slk {H : Hp} {w : World} (hA : Ag H w) {b : Nat} : ∀ {ks : List TApiKey} {off : Nat}, Els H 2 b off (ks.map eTApiKey) → ∀ j x, ks[j]? = some x → b < w.heap.size ∧ w.cell? ⟨b, off + j * 2, none⟩ = some (.string x.gName) ∧ w.cell? ⟨b, off + j * 2 + 1, none⟩ = some (.int .i64 x.gNode)
  | [], off, _, j, x, hj => by simp at hj
  | k :: ks, off, h, j, x, hj => by
    simp only [List.map_cons, Els] at h
    obtain ⟨⟨us, _, h2, h3, _⟩, h5⟩ := h
    cases j with
    | zero =>
      simp at hj; subst hj
      have : us = kc2 k := by
        have q : Reps H ((kc2 k).map .v) us := by simpa only [eTApiKey, RepC, kc2, List.map_cons, List.map_nil] using h2
        exact reps_v_inv q
      subst this
      have c0 := hA _ _ (h3 0 _ rfl)
      have c1 := hA _ _ (h3 1 _ rfl)
      exact ⟨cell_lt c0, by simpa using c0, by simpa using c1⟩
    | succ j =>
      have := els_slk hA h5 j x (by simpa using hj)
      rw [show off + 2 + j * 2 = off + (j + 1) * 2 by omega] at this
      exact this
theorem slk_told {H : Hp} {w : World} (hA : Ag H w) {ks : List TApiKey} {c : Cap} {v : Value} (h : Rep H (.lst 2 (ks.map eTApiKey) c) v) : SlK w.heap.size w v ks := by
  obtain ⟨_, h⟩ := rep_lst_inv h
  rcases h with ⟨e, a, m, rfl, _⟩ | ⟨b, off, m, rfl, hm, hE⟩
  · obtain rfl := List.map_eq_nil_iff.1 e
    exact ⟨a, m, rfl, fun j x hj => by simp at hj⟩
  · refine ⟨some ⟨b, off, none⟩, m, by simp, fun j x hj => ?_⟩
    obtain ⟨h1, h2, h3⟩ := els_slk hA hE j x hj
    exact ⟨b, off, rfl, h1, h2, h3⟩
theorem slk_row {H : Hp} {w : World} (hA : Ag H w) {r : Nat} {ks : List TApiKey} {z : Z3} (h : BlkOK H w (r, .row 2 (ks.map eTApiKey) (SL z))) : SlK w.heap.size w (SL z) ks := by
  obtain ⟨H', hle, c'⟩ := row_told hA h
  have hto := told_sl (c'.blks _ (List.mem_singleton.2 rfl))
  exact slk_told c'.ag hto
set_option maxRecDepth 100000 in
set_option maxHeartbeats 2000000 in
theorem Row_calls (H : Hp) (w : World) (hA : Ag H w) (l : List TApiKey) (v : Value) (hv : SlK w.heap.size w v l) (hl : l.length < 4398046511104) :
    Calls Try.prog 25 #[v] w fun e w' => ∃ z : Z3, e = .returned (SL z) ∧ Core ⟨H, w, []⟩ H [(0, .row 2 ((rowK l).map eTApiKey) (SL z))] [] w' := by
  obtain ⟨W1, hW1⟩ : ∃ W1, W1 = w.alloc (Obj.cells #[v] 23) := ⟨_, rfl⟩
  obtain ⟨W2, hW2⟩ : ∃ W2, W2 = W1.alloc (Obj.cells #[Value.slice (some ⟨w.heap.size, 0, none⟩) 1 1] 64) := ⟨_, rfl⟩
  have hch := chain_calls (.slice (some ⟨w.heap.size, 0, none⟩) 1 1) ⟨_, _, _, rfl⟩ W1
  have hb1 : Below w.heap.size w W1 := by rw [hW1]; exact (Below.refl _ w).alloc (Nat.le_refl _) _
  have hb2 : Below w.heap.size w W2 := by rw [hW2]; exact hb1.alloc hb1.size _
  have hs1 : W1.heap.size = w.heap.size + 1 := by rw [hW1]; simp
  have hs2 : W2.heap.size = w.heap.size + 2 := by rw [hW2]; simp [hs1]
  have hbx : W2.heap[w.heap.size]? = some (Obj.cells #[v] 23 (0, 0)) := by rw [hW2, hW1]; rw [heap_alloc, if_neg (by simp), heap_alloc, if_pos rfl]
  have hby : W2.heap[w.heap.size + 1]? = some (Obj.cells #[Value.slice (some ⟨w.heap.size, 0, none⟩) 1 1] 64 (0, 0)) := by rw [hW2, hW1]; rw [heap_alloc, if_pos (by simp)]
  have hA2 : Ag H W2 := fun a u e => by rw [hb2.cell (p := a) (hA.lt e)]; exact hA a u e
  have hrow := row_calls H W2 hA2 (w.heap.size + 1) (some ⟨w.heap.size, 0, none⟩) 1 [l] (by simpa using hl) (fun k hk => wrap_small k (by simp at hk; omega)) (fun ks hks j hj => by simp at hks; subst hks; exact wrap_small j (by omega))
    (by omega) (by simp [World.cell?, hby]) (fun i ks hk => by
      cases i with
      | zero =>
        simp at hk; subst hk
        obtain ⟨a, cap, e1, e2⟩ := hv
        refine ⟨w.heap.size, 0, v, rfl, by omega, by simp [World.cell?, hbx], ?_⟩
        refine SlK.below (n₀ := W2.heap.size) (A := W2) (Below.refl _ _) ?_
        refine ⟨a, cap, e1, fun j x hj => ?_⟩
        obtain ⟨b, off, g1, g2, g3, g4⟩ := e2 j x hj
        exact ⟨b, off, g1, by omega, (hb2.cell (p := ⟨b, _, none⟩) g2).trans g3, (hb2.cell (p := ⟨b, _, none⟩) g2).trans g4⟩
      | succ i => simp at hk)
  rw [show [l].flatten = l by simp] at hrow
  have hone : v.oneCell' = true := by obtain ⟨a, cap, e1, _⟩ := hv; subst e1; rfl
  obtain ⟨va, vc, rfl, _⟩ := hv
  go_enter Try.func25, Try.ntmps25
  go_wp2_with fail
  rw [← hW1]
  refine hch.mono ?_
  rintro e W ⟨rfl, hW⟩
  rw [← hW2] at hW
  subst hW
  clear hW1 hW2
  rw [hs1]
  go_wp2_with fail
  refine hrow.mono ?_
  rintro e W ⟨z, rfl, hc⟩
  go_wp2
  go_ret
  exact ⟨z, rfl, Core.call (h1 := []) (k1 := []) (h2 := []) (k2 := []) (core_below0 hA hb2) hc⟩
end Go.Proofs.Ytpdekcfeecdlbaa.Ab
