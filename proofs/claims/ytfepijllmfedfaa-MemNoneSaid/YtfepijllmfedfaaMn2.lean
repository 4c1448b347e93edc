/- The texts that memNone_holds leans on, part 2. -/
import Derived.Test.YtfepijllmfedfaaMn1
namespace Go.Proofs.Ytfepijllmfedfaa.Ab
open Go
set_option linter.all false
inductive Step (σ τ : Type) where
  | next (s : σ)
  | done (t : τ)
def loopN {σ τ : Type} (f : σ → Option (Step σ τ)) : Nat → σ → Option τ
  | 0, _ => none
  | n + 1, s => match f s with
    | none => none
    | some (.next s') => loopN f n s'
    | some (.done t) => some t
theorem loopN_one {σ τ : Type} {f : σ → Option (Step σ τ)} : ∀ {n m : Nat} {s : σ} {t t' : τ}, loopN f n s = some t → loopN f m s = some t' → t = t'
  | 0, _, _, _, _, h, _ => by simp [loopN] at h
  | _ + 1, 0, _, _, _, _, h => by simp [loopN] at h
  | n + 1, m + 1, s, t, t', h, k => by
    simp only [loopN] at h k
    cases hf : f s with
    | none => rw [hf] at h; cases h
    | some x =>
      rw [hf] at h k
      cases x with
      | next s' => exact loopN_one h k
      | done u => simp at h k; rw [← h, ← k]
open Classical in
noncomputable def loopM {σ τ : Type} (f : σ → Option (Step σ τ)) (s : σ) : Option τ := if h : ∃ n t, loopN f n s = some t then some h.choose_spec.choose else none
theorem loopM_of {σ τ : Type} {f : σ → Option (Step σ τ)} {n : Nat} {s : σ} {t : τ} (h : loopN f n s = some t) : loopM f s = some t := by
  have hx : ∃ n t, loopN f n s = some t := ⟨n, t, h⟩
  unfold loopM
  rw [dif_pos hx]
  exact congrArg some (loopN_one hx.choose_spec.choose_spec h)
theorem loopM_inv {σ τ : Type} {f : σ → Option (Step σ τ)} {s : σ} {t : τ} (h : loopM f s = some t) : ∃ n, loopN f n s = some t := by
  unfold loopM at h
  split at h
  · rename_i hx
    simp only [Option.some.injEq] at h
    exact ⟨_, h ▸ hx.choose_spec.choose_spec⟩
  · cases h
theorem loopM_done {σ τ : Type} {f : σ → Option (Step σ τ)} {s : σ} {t : τ} (h : f s = some (.done t)) : loopM f s = some t := loopM_of (n := 1) (by simp [loopN, h])
theorem loopM_next {σ τ : Type} {f : σ → Option (Step σ τ)} {s s' : σ} (h : f s = some (.next s')) : loopM f s = loopM f s' := by
  cases e : loopM f s' with
  | some t =>
    obtain ⟨n, hn⟩ := loopM_inv e
    exact loopM_of (n := n + 1) (by simp [loopN, h, hn])
  | none =>
    cases e2 : loopM f s with
    | none => rfl
    | some t =>
      obtain ⟨n, hn⟩ := loopM_inv e2
      cases n with
      | zero => simp [loopN] at hn
      | succ n =>
        simp only [loopN, h] at hn
        rw [loopM_of hn] at e; cases e
def Yes {α : Type} (m : Option α) (φ : α → Prop) : Prop := ∃ x, m = some x ∧ φ x
section
variable {α β : Type} {φ : α → Prop} {ψ : β → Prop}
theorem yes_bind {m : Option α} {f : α → Option β} (h : Yes (m.bind f) ψ) : ∃ a, m = some a ∧ Yes (f a) ψ := by
  obtain ⟨x, h1, h2⟩ := h
  rw [Option.bind_eq_some_iff] at h1
  obtain ⟨a, h3, h4⟩ := h1
  exact ⟨a, h3, x, h4, h2⟩
theorem yes_t {c : Bool} {a b : Option α} (hc : c = true) (h : Yes (bif c then a else b) φ) : Yes a φ := by subst hc; exact h
theorem yes_f {c : Bool} {a b : Option α} (hc : c = false) (h : Yes (bif c then a else b) φ) : Yes b φ := by subst hc; exact h
theorem yes_of {m : Option α} {r : α} (h : m = some r) : Yes m (fun x => x = r) := ⟨r, h, rfl⟩
theorem yes_eq {a r : α} (h : Yes (some a) (fun x => x = r)) : a = r := by obtain ⟨x, h1, h2⟩ := h; cases h1; exact h2
theorem yes_m {m : Option α} (h : Yes m φ) : ∃ a, m = some a ∧ Yes (some a) φ := by
  obtain ⟨x, h1, h2⟩ := h
  exact ⟨x, h1, x, rfl, h2⟩
theorem yes_none (h : Yes none φ) : False := by obtain ⟨x, h1, _⟩ := h; cases h1
def need (p : Bool) : Option Unit := bif p then some () else none
theorem need_ok {p : Bool} {u : Unit} (h : need p = some u) : p = true := by
  cases p with
  | true => rfl
  | false => cases h
def idx (xs : List α) (i : Int) : Option α := bif decide (0 ≤ i) then xs[i.toNat]? else none
theorem idx_ok {xs : List α} {i : Int} {x : α} (h : idx xs i = some x) : 0 ≤ i ∧ xs[i.toNat]? = some x := by
  unfold idx at h
  by_cases hi : 0 ≤ i
  · rw [decide_eq_true hi] at h; exact ⟨hi, h⟩
  · rw [decide_eq_false hi] at h; cases h
theorem idx_nonneg {xs : List α} {i : Int} {x : α} (h : idx xs i = some x) : 0 ≤ i := (idx_ok h).1
theorem idx_map {xs : List α} {i : Int} {x : α} {e : α → D} (h : idx xs i = some x) : (xs.map e)[i.toNat]? = some (e x) := by
  rw [List.getElem?_map, (idx_ok h).2]; rfl
theorem idx_nat (xs : List α) (n : Nat) : idx xs (n : Int) = xs[n]? := by simp [idx]
def app (bb : Nat) (xs ys : List α) : Option (List α) := bif decide ((xs.length + ys.length) * bb ≤ 140737488355328) then some (xs ++ ys) else none
theorem app_ok {bb : Nat} {xs ys zs : List α} (h : app bb xs ys = some zs) : zs = xs ++ ys ∧ (xs.length + ys.length) * bb ≤ 140737488355328 := by
  unfold app at h
  cases hc : decide ((xs.length + ys.length) * bb ≤ 140737488355328) with
  | false => rw [hc] at h; cases h
  | true =>
    rw [hc] at h
    simp only [cond_true, Option.some.injEq] at h
    exact ⟨h.symm, of_decide_eq_true hc⟩
theorem app_of {bb : Nat} {xs ys : List α} (h : (xs.length + ys.length) * bb ≤ 140737488355328) : app bb xs ys = some (xs ++ ys) := by
  unfold app; rw [decide_eq_true h]; rfl
theorem app_bound {bb : Nat} {xs ys zs : List α} {e : α → D} (h : app bb xs ys = some zs) : ((xs.map e).length + (ys.map e).length) * bb ≤ 140737488355328 := by
  simpa using (app_ok h).2
theorem app_map {bb : Nat} {xs ys zs : List α} {e : α → D} (h : app bb xs ys = some zs) : xs.map e ++ ys.map e = zs.map e := by
  rw [(app_ok h).1, List.map_append]
theorem map_len {xs : List α} {e : α → D} : (xs.map e).length = xs.length := List.length_map _
end
def WkC (d d' : D) : Prop := ∀ H us, RepC H d us → RepC H d' us
def WkR (ds ds' : List D) : Prop := ∀ H us, Reps H ds us → Reps H ds' us
theorem WkC.refl (d : D) : WkC d d := fun _ _ h => h
theorem WkC.no {k : Nat} {xs : List D} {c : Cap} : WkC (.lst k xs c) (.lst k xs .no) := fun H us h => by
  simp only [RepC] at h ⊢
  obtain ⟨y, e, _, h⟩ := h
  exact ⟨y, e, trivial, h⟩
theorem WkC.nil {k k' : Nat} {c : Cap} : WkC (.lst k [] c) (.lst k' [] .no) := fun H us h => by
  simp only [RepC] at h ⊢
  obtain ⟨y, e, _, h⟩ := h
  rcases h with ⟨_, h⟩ | ⟨b, off, m, e1, e2, e3⟩
  · exact ⟨y, e, trivial, .inl ⟨by trivial, h⟩⟩
  · exact ⟨y, e, trivial, .inr ⟨b, off, m, e1, e2, by simp [Els]⟩⟩
theorem WkC.agg {ds ds' : List D} (h : WkR ds ds') : WkC (.agg ds) (.agg ds') := fun H us k => by
  simp only [RepC] at k ⊢; exact h H us k
theorem WkR.refl (ds : List D) : WkR ds ds := fun _ _ h => h
theorem WkR.nil : WkR [] [] := WkR.refl _
theorem WkR.cons {d d' : D} {ds ds' : List D} (h : WkC d d') (hf : d'.flat = d.flat) (k : WkR ds ds') : WkR (d :: ds) (d' :: ds') := fun H us q => by
  simp only [Reps] at q ⊢
  obtain ⟨u, us', e, ⟨h1, h2, h3⟩, h4⟩ := q
  exact ⟨u, us', e, ⟨h H _ h1, h2, hf.trans h3⟩, k H _ h4⟩
inductive WkE : List D → List D → Prop
  | nil : WkE [] []
  | cons {d d' : D} {ds ds' : List D} (h : WkC d d') (k : WkE ds ds') : WkE (d :: ds) (d' :: ds')
theorem WkE.refl : ∀ ds : List D, WkE ds ds
  | [] => .nil
  | _ :: ds => .cons (WkC.refl _) (WkE.refl ds)
theorem WkE.els {H : Hp} {k b : Nat} : ∀ {ds ds' : List D} {off : Nat}, WkE ds ds' → Els H k b off ds → Els H k b off ds'
  | _, _, _, .nil, h => h
  | _, _, _, .cons h1 h2, h => by
    simp only [Els] at h ⊢
    obtain ⟨⟨us, e1, e2, e3⟩, h3⟩ := h
    exact ⟨⟨us, e1, h1 H us e2, e3⟩, h2.els h3⟩
theorem WkE.length {ds ds' : List D} (h : WkE ds ds') : ds.length = ds'.length := by
  induction h with
  | nil => rfl
  | cons _ _ ih => simp [ih]
theorem WkE.append {ds ds' es es' : List D} (h : WkE ds ds') (k : WkE es es') : WkE (ds ++ es) (ds' ++ es') := by
  induction h with
  | nil => exact k
  | cons h1 _ ih => exact .cons h1 ih
theorem WkC.lst {k : Nat} {xs ys : List D} {c : Cap} (h : WkE xs ys) : WkC (.lst k xs c) (.lst k ys c) := fun H us q => by
  simp only [RepC] at q ⊢
  obtain ⟨y, e, hc, q⟩ := q
  refine ⟨y, e, hc, ?_⟩
  rcases q with ⟨q1, q2⟩ | ⟨b, off, m, e1, e2, e3⟩
  · subst q1
    cases h; exact .inl ⟨rfl, q2⟩
  · exact .inr ⟨b, off, m, by rw [← h.length]; exact e1, by rw [← h.length]; exact e2, h.els e3⟩
theorem WkC.trans {a b c : D} (h : WkC a b) (k : WkC b c) : WkC a c := fun H us q => k H us (h H us q)
theorem WkC.wk {d d' : D} (h : WkC d d') (hs : ∀ y, d.shape y = true → d'.shape y = true) : Wk d d' := fun H y q => ⟨h H _ q.1, hs y q.2⟩
theorem shape_agg {l l' : List D} : ∀ y, (D.agg l).shape y = true → (D.agg l').shape y = true := fun y h => by cases y <;> first | rfl | cases h
theorem shape_lst {k k' : Nat} {l l' : List D} {c c' : Cap} : ∀ y, (D.lst k l c).shape y = true → (D.lst k' l' c').shape y = true := fun y h => by cases y <;> first | rfl | cases h
theorem Wk.agg {ds ds' : List D} (h : WkR ds ds') : Wk (.agg ds) (.agg ds') := (WkC.agg h).wk shape_agg
theorem Wk.lst0 {k : Nat} {xs ys : List D} {c : Cap} (h : WkE xs ys) : Wk (.lst k xs c) (.lst k ys c) := (WkC.lst h).wk shape_lst
theorem Wk.lst {k : Nat} {xs ys : List D} {c : Cap} (h : WkE xs ys) : Wk (.lst k xs c) (.lst k ys .no) := ((WkC.lst h).trans WkC.no).wk shape_lst
theorem Wk.trans {a b c : D} (h : Wk a b) (k : Wk b c) : Wk a c := fun H y q => k H y (h H y q)
theorem WkS.trans {C : Ctx} {a b c : S} (h : WkS C a b) (k : WkS C b c) : WkS C a c := fun H x w c1 t1 => by
  obtain ⟨H1, l1, c2, t2⟩ := h H x w c1 t1
  obtain ⟨H2, l2, c3, t3⟩ := k H1 x w c2 t2
  exact ⟨H2, Hp.le_trans l1 l2, c3, t3⟩
theorem WkS.refl {C : Ctx} (s : S) : WkS C s s := fun H _ _ c t => ⟨H, Hp.le_refl H, c, t⟩
theorem WkS.blk {C : Ctx} {t : List (Nat × D)} {h h' : List (Nat × Blk)} {k : List (Nat × Value)} {b : Nat} {ds ds' : List D} {T : TypeId} (j : Nat) (hb : h[j]? = some (b, .cells ds T)) (hw : WkR ds ds') (e : h.set j (b, .cells ds' T) = h') : WkS C ⟨t, h, k⟩ ⟨t, h', k⟩ := fun H a w c kt => by
  subst e
  refine ⟨H, Hp.le_refl H, ?_, kt⟩
  obtain ⟨us, h1, h2, h3⟩ := c.blks _ (List.mem_of_getElem? hb)
  have hlt := (List.getElem?_eq_some_iff.1 hb).1
  have hget := (List.getElem?_eq_some_iff.1 hb).2
  have hcl : claims (h.set j (b, Blk.cells ds' T)) k = claims h k := by
    exact claims_set hb rfl
  refine ⟨c.ag, c.le, c.new, c.same, c.size, ?_, c.toks, by rw [hcl]; exact c.nd, by rw [hcl]; exact c.own, c.env⟩
  intro p hp
  rcases List.mem_or_eq_of_mem_set hp with hp | hp
  · exact c.blks p hp
  · subst hp; exact ⟨us, h1, hw H us h2, h3⟩
theorem TokOK.full {H : Hp} {w : World} {k : Nat} {y : Value} (h : CapOK .full y) : TokOK H w (k, y) := fun a n m e hlt => by
  subst e
  simp only [CapOK] at h; omega
theorem tokClaim_full {k : Nat} {y : Value} (h : CapOK .full y) : tokClaim (k, y) = [] := by
  unfold tokClaim
  split
  · rename_i k0 a n m e
    simp only [Prod.mk.injEq] at e
    obtain ⟨_, e⟩ := e
    subst e
    simp only [CapOK] at h
    rw [if_neg (by omega)]
  · rfl
theorem Core.tokFull {C : Ctx} {H : Hp} {h : List (Nat × Blk)} {k : List (Nat × Value)} {w : World} (c : Core C H h k w) (kk : Nat) {y : Value} (hy : CapOK .full y) : Core C H h ((kk, y) :: k) w := by
  have hcl : claims h ((kk, y) :: k) = claims h k := by unfold claims; rw [List.flatMap_cons, tokClaim_full hy]; rfl
  refine ⟨c.ag, c.le, c.new, c.same, c.size, c.blks, ?_, by rw [hcl]; exact c.nd, by rw [hcl]; exact c.own, c.env⟩
  intro p hp
  rcases List.mem_cons.1 hp with rfl | hp
  · exact TokOK.full hy
  · exact c.toks p hp
theorem lst_cur {H : Hp} {k : Nat} {xs : List D} {y : Value} (h : Rep H (.lst k xs .full) y) : CapOK .full y ∧ Rep H (.lst k xs (.cur y)) y := by
  obtain ⟨hc, hr⟩ := rep_lst_inv h
  refine ⟨hc, ?_, by have := h.2; cases y <;> first | rfl | cases this⟩
  have h1 := h.1
  simp only [RepC] at h1 ⊢
  obtain ⟨y', e, _, h3⟩ := h1
  have : y' = y := by
    have hs := h.2
    cases y <;> simp [D.shape] at hs <;> simp [Value.cells] at e <;> exact e.symm
  subst this
  exact ⟨y', e, rfl, h3⟩
section
variable {P : Program} {C : Ctx} {N : Nat} {ops rest : List Oper} {o : Oper} {t : List (Nat × D)} {h : List (Nat × Blk)} {k : List (Nat × Value)} {Q : Exit → S → Prop} {tab : List (Option TI)}
def WkX {Y : Type} (C : Ctx) (s : S) (S1 : Y → S) : Prop := ∀ H a w, Core C H s.h s.k w → TOK H s.t a → ∃ y H', H.le H' ∧ Core C H' (S1 y).h (S1 y).k w ∧ TOK H' (S1 y).t a
theorem WkX.of {Y : Type} {s : S} {S1 : Y → S} (y : Y) (h : WkS C s (S1 y)) : WkX C s S1 := fun H a w c t => by
  obtain ⟨H', h1, h2, h3⟩ := h H a w c t
  exact ⟨y, H', h1, h2, h3⟩
theorem WkX.wk {Y : Type} {s s' : S} {S1 : Y → S} (h : WkS C s s') (g : WkX C s' S1) : WkX C s S1 := fun H a w c t => by
  obtain ⟨H', h1, h2, h3⟩ := h H a w c t
  obtain ⟨y, H2, g1, g2, g3⟩ := g H' a w h2 h3
  exact ⟨y, H2, Hp.le_trans h1 g1, g2, g3⟩
theorem look_put {t : List (Nat × D)} {H : Hp} {a : Act} (kt : TOK H t a) {i : Nat} {d : D} {v : Value} (h1 : a.tmps[i]? = some v) (h2 : Rep H d v) : TOK H ((i, d) :: t) a := by
  intro j d' e
  simp only [look] at e
  cases hb : Nat.beq i j with
  | true =>
    rw [hb] at e; simp at e; subst e
    have := Nat.eq_of_beq_eq_true hb; subst this
    exact ⟨v, h1, h2⟩
  | false => rw [hb] at e; exact kt j d' (by simpa using e)
theorem rep_nil {H : Hp} {k k' : Nat} {c : Cap} {y : Value} (h : Rep H (.lst k [] c) y) (hc : CapOK c y) : Rep H (.lst k' [] c) y := by
  obtain ⟨h1, h2⟩ := h
  refine ⟨?_, by cases y <;> first | rfl | cases h2⟩
  simp only [RepC] at h1 ⊢
  obtain ⟨z, e, h3, h4⟩ := h1
  refine ⟨z, e, h3, ?_⟩
  rcases h4 with ⟨_, h4⟩ | ⟨b, off, m, e1, e2, e3⟩
  · exact .inl ⟨by trivial, h4⟩
  · exact .inr ⟨b, off, m, e1, e2, by simp [Els]⟩
theorem WkX.tokN {Y : Type} {S1 : Y → S} {i k0 : Nat} (kk : Nat) (hx : look t i = some (.lst k0 [] .full)) (g : ∀ y, WkX C ⟨(i, .lst kk [] (.cur y)) :: t, h, (kk, y) :: k⟩ S1) : WkX C ⟨t, h, k⟩ S1 := fun H a w c kt => by
  obtain ⟨v, h1, h2⟩ := kt i _ hx
  have h5 := rep_nil (k' := kk) h2 (rep_lst_inv h2).1
  obtain ⟨h3, h4⟩ := lst_cur h5
  exact g v H a w (c.tokFull kk h3) (look_put kt h1 h4)
theorem core_cellF {H : Hp} {w : World} {b off k0 : Nat} {ds : List D} {T : TypeId} {xs : List D} (kk j : Nat) (hb : h[j]? = some (b, .cells ds T)) (hd : ds[off]? = some (.lst k0 xs .full)) (hk : k0 = kk ∨ xs = []) (c : Core C H h k w) : ∃ y, Core C H (h.set j (b, .cells (ds.set off (.lst kk xs (.cur y))) T)) ((kk, y) :: k) w := by
  obtain ⟨us, h1, h2, h3⟩ := c.blks _ (List.mem_of_getElem? hb)
  obtain ⟨u, e1, e2, e3, e4⟩ := reps_get h2 hd
  have hr : Rep H (.lst k0 xs .full) u := rep_cell e2 e3 e4
  have hr' : Rep H (.lst kk xs .full) u := by
    rcases hk with rfl | rfl
    · exact hr
    · exact rep_nil hr (rep_lst_inv hr).1
  obtain ⟨h4, h5⟩ := lst_cur hr'
  refine ⟨u, ?_⟩
  have c1 := c.tokFull kk h4
  have hcl : claims (h.set j (b, Blk.cells (ds.set off (.lst kk xs (.cur u))) T)) ((kk, u) :: k) = claims h ((kk, u) :: k) := by
    exact claims_set hb rfl
  refine ⟨c1.ag, c1.le, c1.new, c1.same, c1.size, ?_, c1.toks, by rw [hcl]; exact c1.nd, by rw [hcl]; exact c1.own, c1.env⟩
  intro p hp
  rcases List.mem_or_eq_of_mem_set hp with hp | hp
  · exact c1.blks p hp
  · subst hp
    have hc5 := h5.1
    rw [oneCell_cells e3] at hc5
    exact ⟨us, h1, reps_set off h2 e1 ⟨hc5, rfl⟩, h3⟩
theorem WkX.cellF {Y : Type} {S1 : Y → S} {b off k0 : Nat} {ds : List D} {T : TypeId} {xs : List D} (kk j : Nat) (hb : h[j]? = some (b, .cells ds T)) (hd : ds[off]? = some (.lst k0 xs .full)) (hk : k0 = kk ∨ xs = []) (g : ∀ y, WkX C ⟨t, h.set j (b, .cells (ds.set off (.lst kk xs (.cur y))) T), (kk, y) :: k⟩ S1) : WkX C ⟨t, h, k⟩ S1 := fun H a w c kt => by
  obtain ⟨y, c'⟩ := core_cellF kk j hb hd hk c
  exact g y H a w c' kt
theorem WkS.perm {t t' : List (Nat × D)} {h' hj : List (Nat × Blk)} {k' kj : List (Nat × Value)} (e : ∀ i d, look t' i = some d → ∃ d0, look t i = some d0 ∧ Wk d0 d) (hh : h.Perm (h' ++ hj)) (kk : k.Perm (k' ++ kj)) : WkS C ⟨t, h, k⟩ ⟨t', h', k'⟩ := fun H a w c kt => by
  refine ⟨H, Hp.le_refl H, (c.perm hh kk).drop (List.sublist_append_left _ _) (List.sublist_append_left _ _), ?_⟩
  intro i d hd
  obtain ⟨d0, h1, h2⟩ := e i d hd
  obtain ⟨v, h3, h4⟩ := kt i d0 h1
  exact ⟨v, h3, h2 H v h4⟩
theorem wpD_wkX {Y : Type} {c : Code} {s : S} {S1 : Y → S} (hs : WkX C s S1) (g : ∀ y, wpD P C N c (S1 y) Q) : wpD P C N c s Q := by
  rintro a w ⟨H, c0, kt, hN, hdf⟩
  obtain ⟨y, H', hle, c', kt'⟩ := hs H a w c0 kt
  exact g y a w ⟨H', c', kt', hN, hdf⟩
theorem wpD_mid {Y : Type} {c : Code} {s : S} (S1 : Y → S) (h1 : wpD P C N c s (fun x s' => x = .normal ∧ WkX C s' S1)) (h2 : ∀ s', WkX C s' S1 → Q .normal s') : wpD P C N c s Q :=
  wpD_mono h1 fun _ s' ⟨e, hw⟩ => by subst e; exact h2 s' hw
def midX {τ ρ Y : Type} (C : Ctx) (S1 : τ → Y → S) (Q : Exit → S → Prop) (x : τ ⊕ ρ) : Exit → S → Prop := fun e s =>
  match x with
  | .inl v => e = .normal ∧ WkX C s (S1 v)
  | .inr _ => e = .ret ∧ Q .ret s
theorem wpD_midX {τ ρ Y : Type} {c : Code} {s : S} (S1 : τ → Y → S) (x : τ ⊕ ρ) (h1 : wpD P C N c s (midX C S1 Q x)) (h2 : ∀ v s', x = .inl v → WkX C s' (S1 v) → Q .normal s') : wpD P C N c s Q := by
  refine wpD_mono h1 fun e s' hm => ?_
  cases x with
  | inl v =>
    obtain ⟨e1, hw⟩ := hm
    subst e1
    exact h2 v s' rfl hw
  | inr r =>
    obtain ⟨e1, hq⟩ := hm
    subst e1
    exact hq
theorem WkX.trans {Y Z : Type} {s : S} {S1 : Y → S} {S2 : Z → S} (h : WkX C s S1) (g : ∀ y, WkX C (S1 y) S2) : WkX C s S2 := fun H a w c kt => by
  obtain ⟨y, H1, l1, c1, t1⟩ := h H a w c kt
  obtain ⟨z, H2, l2, c2, t2⟩ := g y H1 a w c1 t1
  exact ⟨z, H2, Hp.le_trans l1 l2, c2, t2⟩
def LP {σ τ : Type} (t : τ) (G : σ → Prop) : Step σ τ → Prop
  | .next s => G s
  | .done u => u = t
theorem lp_next {σ τ : Type} {t : τ} {G : σ → Prop} {s : σ} (h : Yes (some (Step.next s)) (LP t G)) : G s := by obtain ⟨x, h1, h2⟩ := h; cases h1; exact h2
theorem lp_done {σ τ : Type} {t u : τ} {G : σ → Prop} (h : Yes (some (Step.done (σ := σ) u)) (LP t G)) : u = t := by obtain ⟨x, h1, h2⟩ := h; cases h1; exact h2
theorem yes_loop {σ τ : Type} {f : σ → Option (Step σ τ)} {t : τ} {n : Nat} {x : σ} (h : loopN f (n + 1) x = some t) : Yes (f x) (LP t fun x' => loopN f n x' = some t) := by
  simp only [loopN] at h
  cases e : f x with
  | none => rw [e] at h; cases h
  | some st =>
    rw [e] at h
    cases st with
    | next s' => exact ⟨_, rfl, h⟩
    | done u => exact ⟨_, rfl, by simpa [LP] using h⟩
theorem loop_M {σ τ Y : Type} {f : σ → Option (Step σ τ)} {x0 : σ} {u : τ} {s : S} {c : Code} (hl : loopM f x0 = some u) (St : σ → Y → S) (hw : WkX C s (St x0))
    (hb : ∀ (G : σ → Prop) x y, Yes (f x) (LP u G) → wpD P C N c (St x y) (thenD (fun s' => ∃ x', G x' ∧ WkX C s' (St x')) Q)) : wpD P C N (.loop c) s Q := by
  obtain ⟨n, hn⟩ := loopM_inv hl
  have key : ∀ n x y, loopN f n x = some u → roundsD P C N c Q n (St x y) := by
    intro n
    induction n with
    | zero => intro x y h; simp [loopN] at h
    | succ n ih =>
      intro x y h
      refine roundsD_succ (wpD_mono (hb _ x y (yes_loop h)) ?_)
      intro e s' q
      cases e with
      | normal =>
        obtain ⟨x', h1, h2⟩ := q
        rintro a w ⟨H, c0, kt, hN, hdf⟩
        obtain ⟨y', H', hle, c', kt'⟩ := h2 H a w c0 kt
        exact ih x' y' h1 a w ⟨H', c', kt', hN, hdf⟩
      | _ => exact q
  exact wpD_wkX hw (fun y => wpD_loop n (key n x0 y hn))
def retX (C : Ctx) (tab : List (Option TI)) (rs : List ResultVar) (R : D → List (Nat × Blk) → List (Nat × Value) → Prop) (x : Exit) (s : S) : Prop := ∀ H a w, Core C H s.h s.k w → TOK H s.t a → ∃ s' H', H.le H' ∧ Core C H' s'.h s'.k w ∧ TOK H' s'.t a ∧ retD tab rs R x s'
theorem retX.of {rs : List ResultVar} {R : D → List (Nat × Blk) → List (Nat × Value) → Prop} {x : Exit} {s s' : S} (h : WkS C s s') (g : retD tab rs R x s') : retX C tab rs R x s := fun H a w c kt => by
  obtain ⟨H', h1, h2, h3⟩ := h H a w c kt
  exact ⟨s', H', h1, h2, h3, g⟩
theorem retX.wk {rs : List ResultVar} {R : D → List (Nat × Blk) → List (Nat × Value) → Prop} {x : Exit} {s s' : S} (h : WkS C s s') (g : retX C tab rs R x s') : retX C tab rs R x s := fun H a w c kt => by
  obtain ⟨H', h1, h2, h3⟩ := h H a w c kt
  obtain ⟨s2, H2, g1, g2⟩ := g H' a w h2 h3
  exact ⟨s2, H2, Hp.le_trans h1 g1, g2⟩
theorem retX.tokN {rs : List ResultVar} {R : D → List (Nat × Blk) → List (Nat × Value) → Prop} {x : Exit} {i k0 : Nat} (kk : Nat) (hx : look t i = some (.lst k0 [] .full)) (g : ∀ y, retX C tab rs R x ⟨(i, .lst kk [] (.cur y)) :: t, h, (kk, y) :: k⟩) : retX C tab rs R x ⟨t, h, k⟩ := fun H a w c kt => by
  obtain ⟨v, h1, h2⟩ := kt i _ hx
  have h5 := rep_nil (k' := kk) h2 (rep_lst_inv h2).1
  obtain ⟨h3, h4⟩ := lst_cur h5
  exact g v H a w (c.tokFull kk h3) (look_put kt h1 h4)
theorem retX.cellF {rs : List ResultVar} {R : D → List (Nat × Blk) → List (Nat × Value) → Prop} {x : Exit} {b off k0 : Nat} {ds : List D} {T : TypeId} {xs : List D} (kk j : Nat) (hb : h[j]? = some (b, .cells ds T)) (hd : ds[off]? = some (.lst k0 xs .full)) (hk : k0 = kk ∨ xs = []) (g : ∀ y, retX C tab rs R x ⟨t, h.set j (b, .cells (ds.set off (.lst kk xs (.cur y))) T), (kk, y) :: k⟩) : retX C tab rs R x ⟨t, h, k⟩ := fun H a w c kt => by
  obtain ⟨y, c'⟩ := core_cellF kk j hb hd hk c
  exact g y H a w c' kt
theorem enterX {f : FuncId} {fn : Func} {c : Code} {ds : List D} {R : D → List (Nat × Blk) → List (Nat × Value) → Prop} {rs : List ResultVar} (ht : TabOK P tab)
    (hf : P.funcs[f]? = some fn) (hb : fn.body = some c) (hn : (fn.name == "runtime.NumGoroutine") = false) {N : Nat} (hN : fn.ntmps = N) (hl : Nat.ble ds.length N = true) (hrs : fn.results.toList = rs)
    (hw : ∀ C, wpD P C N c ⟨argT 0 ds, h, k⟩ (retX C tab rs R)) : CallsD P f ds h k R := by
  refine enter ht hf hb hn hN hl hrs fun C => ?_
  intro a w r
  refine wp_mono (hw C a w r) ?_
  rintro x a' w' ⟨s, ⟨H, c0, kt, hN, hdf⟩, hk⟩
  obtain ⟨s', H', hle, c', kt', hr⟩ := hk H a' w' c0 kt
  exact ⟨s', ⟨H', c', kt', hN, hdf⟩, hr⟩
theorem resL_cons {s : S} {r : ResultVar} {rs : List ResultVar} {d : D} {ds : List D} (h1 : resOne tab s r d) (h2 : resL tab s rs ds) : resL tab s (r :: rs) (d :: ds) := ⟨d, ds, rfl, h1, h2⟩
theorem resOne_tmp {s : S} {i : Nat} {d : D} (h1 : look s.t i = some d) : resOne tab s (.tmp i) d := h1
theorem resOne_cell {s : S} {a b off : Nat} {T T' : TypeId} {ds : List D} {i : TI} {d : D} (j : Nat) (h1 : look s.t a = some (.ptr b off)) (h2 : s.h[j]? = some (b, Blk.cells ds T')) (h3 : ti tab T = some i) (h4 : partD i ds off = some d) : resOne tab s (.cell a T) d := ⟨j, b, off, ds, T', i, h1, h2, h3, h4⟩
theorem retD_mk {R : D → List (Nat × Blk) → List (Nat × Value) → Prop} {rs : List ResultVar} {x : Exit} {s : S} {ds : List D} {hh : List (Nat × Blk)} {kk : List (Nat × Value)} (hx : x = .ret ∨ x = .normal) (hr : resL tab s rs ds) (hs : hh.Sublist s.h) (ks : kk.Sublist s.k) (g : R (wrapD ds) hh kk) : retD tab rs R x s := ⟨hx, ds, hh, kk, hr, hs, ks, g⟩
theorem perm_set {α : Type} : ∀ {l : List α} {j : Nat} {x y : α}, l[j]? = some x → (y :: l.eraseIdx j).Perm (l.set j y)
  | [], j, x, y, h => by simp at h
  | a :: l, 0, x, y, h => by simp
  | a :: l, j + 1, x, y, h => by
    simp at h
    simp only [List.eraseIdx_cons_succ, List.set_cons_succ]
    exact (List.Perm.swap a y _).trans ((perm_set h).cons a)
end
section
variable {P : Program} {C : Ctx} {N : Nat} {ops rest : List Oper} {o : Oper} {t : List (Nat × D)} {h : List (Nat × Blk)} {k : List (Nat × Value)} {Q : Exit → S → Prop} {tab : List (Option TI)}
theorem midX_inl {τ ρ Y : Type} {S1 : τ → Y → S} {s : S} {v : τ} (g : WkX C s (S1 v)) : midX (ρ := ρ) C S1 Q (.inl v) .normal s := ⟨rfl, g⟩
theorem midX_inr {τ ρ Y : Type} {S1 : τ → Y → S} {s : S} {r : ρ} (g : Q .ret s) : midX C S1 Q (.inr r) .ret s := ⟨rfl, g⟩
theorem CallsD.drop {f : FuncId} {ds : List D} {R : D → List (Nat × Blk) → List (Nat × Value) → Prop} {d1 : D} (c : CallsD P f ds h k R) (hr : ∀ d h k, R d h k → Wk d d1) : CallsD P f ds h k (fun d h k => d = d1 ∧ h = [] ∧ k = []) := by
  refine ⟨c.1, fun H w vs h1 h2 h3 h4 h5 => (c.2 H w vs h1 h2 h3 h4 h5).mono ?_⟩
  rintro e w' ⟨v, H', d, h', k', e1, e2, e3, e4⟩
  exact ⟨v, H', d1, [], [], e1, hr d h' k' e4 H' v e2, e3.drop (List.nil_sublist _) (List.nil_sublist _), rfl, rfl, rfl⟩
theorem Ex.wk {d d' : D} (h : Ex P o t d) (k : Wk d d') : Ex P o t d' := fun H a w kt => let ⟨v, h1, h2⟩ := h H a w kt; ⟨v, h1, k H v h2⟩
theorem ExE.wk {d d' : D} (h : ExE P o t d) (k : Wk d d') : ExE P o t d' := fun H a w hA kt => let ⟨v, w', H', h1, h2, h3⟩ := h H a w hA kt; ⟨v, w', H', h1, h2, k H' v h3⟩
end
def eI64 (n : Int) : D := .v (.int .i64 n)
end Go.Proofs.Ytfepijllmfedfaa.Ab
namespace Go.Proofs.Ytfepijllmfedfaa.Ab
open Go
set_option linter.all false
def Le {α : Type} (m m' : Option α) : Prop := ∀ r, m = some r → m' = some r
theorem Le.refl {α : Type} (m : Option α) : Le m m := fun _ h => h
theorem Le.none {α : Type} (m : Option α) : Le Option.none m := fun _ h => by cases h
theorem Le.bind {α β : Type} {m m' : Option α} {f f' : α → Option β} (h : Le m m') (k : ∀ x, Le (f x) (f' x)) : Le (m.bind f) (m'.bind f') := fun r e => by
  rw [Option.bind_eq_some_iff] at e ⊢
  obtain ⟨a, h1, h2⟩ := e
  exact ⟨a, h a h1, k a r h2⟩
theorem Le.cond {α : Type} {c : Bool} {m m' n n' : Option α} (h : Le m m') (k : Le n n') : Le (bif c then m else n) (bif c then m' else n') := by
  cases c
  · exact k
  · exact h
theorem Le.elim {α β γ : Type} {f f' : α → Option γ} {g g' : β → Option γ} {x : α ⊕ β} (h : ∀ a, Le (f a) (f' a)) (k : ∀ b, Le (g b) (g' b)) : Le (Sum.elim f g x) (Sum.elim f' g' x) := by
  cases x
  · exact h _
  · exact k _
theorem Le.loop {σ τ : Type} {f f' : σ → Option (Step σ τ)} {s : σ} (h : ∀ s, Le (f s) (f' s)) : Le (loopM f s) (loopM f' s) := fun r e => by
  obtain ⟨n, hn⟩ := loopM_inv e
  have key : ∀ n s, loopN f n s = some r → loopN f' n s = some r := by
    intro n
    induction n with
    | zero => intro s h; simp [loopN] at h
    | succ n ih =>
      intro s e
      simp only [loopN] at e ⊢
      cases hf : f s with
      | none => rw [hf] at e; cases e
      | some x =>
        rw [hf] at e
        rw [h s x hf]
        cases x with
        | next s' => exact ih s' e
        | done t => exact e
  exact loopM_of (key n s hn)
def ltB (a b : ByteArray) : Bool := Op.bytesLess a.toList b.toList
section
variable {P : Program} {C : Ctx} {N : Nat} {ops rest : List Oper} {o : Oper} {t : List (Nat × D)} {h : List (Nat × Blk)} {k : List (Nat × Value)} {Q : Exit → S → Prop} {tab : List (Option TI)}
def strLV (op : BinOp) (a b : ByteArray) : Option Bool :=
  match op with
  | .lss => some (ltB a b)
  | .geq => some (!ltB a b)
  | .leq => some (ltB a b || a.toList == b.toList)
  | .gtr => some (!(ltB a b || a.toList == b.toList))
  | _ => none
theorem x_ltS {op : BinOp} {xt yt : TypeId} {x y : Operand} {a b : ByteArray} {r : Bool} (ho : o.op = .binOp op xt x y yt) (hx : opD t x = some (.v (.string a))) (hy : opD t y = some (.v (.string b))) (e : strLV op a b = some r) : Ex P o t (.v (.bool r)) := fun H ac w kt => by
  refine ⟨.bool r, ?_, rep_v rfl⟩
  unfold execOp
  rw [ho]
  refine exec_v ?_
  rw [rep_v_inv (opD_ok kt hx), rep_v_inv (opD_ok kt hy)]
  cases op <;> simp only [strLV, Option.some.injEq, reduceCtorEq] at e <;> subst e <;> simp [eqGuard, binOp, Op.stringOp, ltB] <;> rfl
theorem p_ltS {i : Nat} {op : BinOp} {xt yt : TypeId} {x y : Operand} {a b : ByteArray} {r : Bool} (ho : o.op = .binOp op xt x y yt) (hw : wantD ops t o = some true) (hd : o.dst = some i) (hi : Nat.blt i N = true) (hx : opD t x = some (.v (.string a))) (hy : opD t y = some (.v (.string b))) (e : strLV op a b = some r)
    (g : opsD P C N ops rest ⟨(i, .v (.bool r)) :: t, h, k⟩ Q) : opsD P C N ops (o :: rest) ⟨t, h, k⟩ Q := ops_run (s := ⟨t, h, k⟩) hw hd hi (x_ltS ho hx hy e) g
theorem rep_fn_inv {H : Hp} {f : Fn} {as_ cs : List D} {y : Value} (h : Rep H (.fn f as_ cs) y) : ∃ vs ws, y = .func f vs.toArray ws.toArray ∧ RepsV H as_ vs ∧ RepsV H cs ws := by
  obtain ⟨h1, h2⟩ := h
  cases y <;> simp [D.shape] at h2 <;> simp [RepC, Value.cells] at h1 <;> simp [h1]
end
end Go.Proofs.Ytfepijllmfedfaa.Ab
namespace Go.Proofs.Ytfepijllmfedfaa.Ab
open Go
set_option linter.all false
section
variable {P : Program} {C : Ctx} {N : Nat} {ops rest : List Oper} {o : Oper} {t : List (Nat × D)} {h : List (Nat × Blk)} {k : List (Nat × Value)} {Q : Exit → S → Prop} {tab : List (Option TI)}
end
end Go.Proofs.Ytfepijllmfedfaa.Ab
namespace Go.Proofs.Ytfepijllmfedfaa.Ab
open Go
set_option linter.all false
section
variable {P : Program} {C : Ctx} {N : Nat} {ops rest : List Oper} {o : Oper} {t : List (Nat × D)} {h : List (Nat × Blk)} {k : List (Nat × Value)} {Q : Exit → S → Prop} {tab : List (Option TI)}
end
end Go.Proofs.Ytfepijllmfedfaa.Ab
namespace Go.Proofs.Ytfepijllmfedfaa.Ab
open Go
set_option linter.all false
section
variable {P : Program} {C : Ctx} {N : Nat} {l : List Oper} {m : Nat} {De : Nat → D} {al : AL} {pre : List (List Nat)} {ev : List Nat} {h : List (Nat × Blk)} {k : List (Nat × Value)} {Q : Exit → S → Prop} {bs : Nat → Nat} {i : Nat} {o : Oper} {rest : List Oper} {te : TE}
end
end Go.Proofs.Ytfepijllmfedfaa.Ab
namespace Go.Proofs.Ytfepijllmfedfaa.Ab
open Go
set_option linter.all false
section
variable {P : Program} {C : Ctx} {N : Nat} {ops rest : List Oper} {o : Oper} {t : List (Nat × D)} {h : List (Nat × Blk)} {k : List (Nat × Value)} {Q : Exit → S → Prop} {tab : List (Option TI)}
end
end Go.Proofs.Ytfepijllmfedfaa.Ab
namespace Go.Proofs.Ytfepijllmfedfaa.Ab
open Go
set_option linter.all false
abbrev SL (z : Option Addr × Nat × Nat) : Value := .slice z.1 z.2.1 z.2.2
abbrev Z3 := Option Addr × Nat × Nat
theorem flat_els {H H' : Hp} {k b : Nat} : ∀ {xs : List D} {us : List Value} {off : Nat}, H.le H' → FlatR H k xs us → Told H' b off us → Els H' k b off xs
  | [], us, off, _, _, _ => by simp [Els]
  | x :: xs, us, off, hle, h, ht => by
    obtain ⟨u1, u2, rfl, hl, ⟨h1, h2⟩, h3⟩ := h
    simp only [Els]
    refine ⟨⟨u1, hl, RepC.mono hle x u1 h1, fun j u e => ht j u (by rw [List.getElem?_append_left (List.getElem?_eq_some_iff.1 e).1]; exact e), h2⟩, flat_els hle h3 fun j u e => ?_⟩
    have := ht (k + j) u (by rw [List.getElem?_append_right (by omega)]; rw [hl]; simpa using e)
    rw [show off + k + j = off + (k + j) by omega]; exact this
theorem flat_len {H : Hp} {k : Nat} : ∀ {xs : List D} {us : List Value}, FlatR H k xs us → us.length = xs.length * k
  | [], us, h => by
    have : us = [] := h
    subst this; simp
  | x :: xs, us, h => by
    obtain ⟨u1, u2, rfl, hl, _, h3⟩ := h
    simp [hl, flat_len h3, Nat.add_mul]; omega
theorem flat_one {H : Hp} {k : Nat} : ∀ {xs : List D} {us : List Value}, FlatR H k xs us → ∀ u ∈ us, one u = true
  | [], us, h, u, hu => by
    have : us = [] := h
    subst this; cases hu
  | x :: xs, us, h, u, hu => by
    obtain ⟨u1, u2, rfl, hl, ⟨_, h2⟩, h3⟩ := h
    rcases List.mem_append.1 hu with x | x
    · exact h2 u x
    · exact flat_one h3 u x
theorem flat_append {H : Hp} {k : Nat} : ∀ {xs ys : List D} {us vs : List Value}, FlatR H k xs us → FlatR H k ys vs → FlatR H k (xs ++ ys) (us ++ vs)
  | [], ys, us, vs, h, g => by
    have : us = [] := h
    subst this; simpa using g
  | x :: xs, ys, us, vs, h, g => by
    obtain ⟨u1, u2, rfl, hl, h1, h3⟩ := h
    exact ⟨u1, u2 ++ vs, by simp, hl, h1, flat_append h3 g⟩
theorem els_flatR {H : Hp} {k b : Nat} : ∀ {xs : List D} {off : Nat}, Els H k b off xs → ∃ us : List Value, us.length = xs.length * k ∧ Told H b off us ∧ FlatR H k xs us
  | [], off, _ => ⟨[], by simp, fun j u e => by simp at e, rfl⟩
  | x :: xs, off, h => by
    simp only [Els] at h
    obtain ⟨⟨us, h1, h2, h3, h4⟩, h5⟩ := h
    obtain ⟨vs, g1, g2, g3⟩ := els_flatR h5
    refine ⟨us ++ vs, by simp [h1, g1, Nat.add_mul]; omega, fun j u e => ?_, us, vs, rfl, h1, ⟨h2, h4⟩, g3⟩
    rw [List.getElem?_append] at e
    split at e
    · exact h3 j u e
    · have := g2 _ _ e
      rw [show off + k + (j - us.length) = off + j by omega] at this
      exact this
theorem told_sl {H : Hp} {k : Nat} {xs : List D} {y : Value} (h : RepC H (.lst k xs (.cur y)) [y]) : Rep H (.lst k xs (.cur y)) y := by
  have h0 := h
  simp only [RepC] at h
  obtain ⟨z, e, _, h⟩ := h
  simp at e
  subst e
  have h1 : one y = true := by
    rcases h with ⟨_, a, m, rfl, _⟩ | ⟨b, off, m, rfl, _⟩ <;> rfl
  exact rep_cell h0 h1 rfl
section
variable {C : Ctx} {t : List (Nat × D)} {h : List (Nat × Blk)} {k : List (Nat × Value)}
theorem row_told {H : Hp} {w : World} {r kk : Nat} {xs : List D} {y : Value} (hA : Ag H w) (hb : BlkOK H w (r, .row kk xs y)) :
    ∃ H', H.le H' ∧ Core ⟨H, w, claims [(r, .row kk xs y)] []⟩ H' [(r, .told kk xs y)] [(kk, y)] w := by
  rcases hb with ⟨a, rfl, rfl⟩ | ⟨b, m, us, rest, T, rfl, h0, hm, h1, h2, h3, h4⟩
  · refine ⟨H, Hp.le_refl H, hA, Hp.le_refl H, fun _ _ x => .inl x, fun _ _ _ => rfl, Nat.le_refl _, ?_, ?_, ?_, ?_, Env.refl w⟩
    · intro p hp
      simp only [List.mem_singleton] at hp; subst hp
      show RepC H _ _
      simp only [RepC, CapOK]
      exact ⟨_, rfl, by trivial, .inl ⟨by trivial, a, 0, rfl, fun _ => rfl⟩⟩
    · intro p hp
      simp only [List.mem_singleton] at hp; subst hp
      intro a n m e hlt
      simp only [Value.slice.injEq] at e
      omega
    · cases a <;> simp [claims, blkClaim, tokClaim]
    · cases a <;> simp [claims, blkClaim, tokClaim]
  · have hl := flat_len h2
    let H' : Hp := tell H b us
    have hle : H.le H' := fun a v e => by
      show (if a.block = b ∧ a.spot = none then us[a.off]? else H a) = some v
      rw [if_neg]
      · exact e
      · rintro ⟨q1, q2⟩
        obtain ⟨ab, ao, as_⟩ := a
        simp only at q1 q2; subst q1; subst q2
        rw [h4 ao] at e; cases e
    have htold : Told H' b 0 us := fun j u e => by
      show (if b = b ∧ (none : Option Nat) = none then us[0 + j]? else H _) = some u
      rw [if_pos ⟨rfl, rfl⟩, Nat.zero_add]; exact e
    have hcl : claims [(r, Blk.row kk xs (.slice (some ⟨b, 0, none⟩) xs.length m))] [] = [b] := by simp [claims, blkClaim, sliceClaim, hm]
    refine ⟨H', hle, ?_⟩
    rw [hcl]
    refine ⟨fun a v e => ?_, hle, fun a v e => ?_, fun _ _ _ => rfl, Nat.le_refl _, ?_, ?_, ?_, ?_, Env.refl w⟩
    · by_cases q : a.block = b ∧ a.spot = none
      · have : H' a = us[a.off]? := if_pos q
        rw [this] at e
        obtain ⟨ab, ao, as_⟩ := a
        simp only at q e
        obtain ⟨rfl, rfl⟩ := q
        simp only [World.cell?, h1, Option.isSome_none, Bool.false_eq_true, if_false, List.getElem?_toArray]
        rw [List.getElem?_append_left (List.getElem?_eq_some_iff.1 e).1]; exact e
      · have : H' a = H a := if_neg q
        rw [this] at e; exact hA a v e
    · by_cases q : a.block = b ∧ a.spot = none
      · exact .inr (.inr (by simp [q.1]))
      · have : H' a = H a := if_neg q
        rw [this] at e; exact .inl e
    · intro p hp
      simp only [List.mem_singleton] at hp; subst hp
      show RepC H' _ _
      simp only [RepC, CapOK]
      exact ⟨_, rfl, by trivial, .inr ⟨b, 0, m, rfl, h0, flat_els hle h2 htold⟩⟩
    · intro p hp
      simp only [List.mem_singleton] at hp; subst hp
      intro a n m' e hlt
      simp only [Value.slice.injEq, Option.some.injEq] at e
      obtain ⟨rfl, rfl, rfl⟩ := e
      refine ⟨_, T, h1, rfl, by simpa using h3, fun o ho => ?_⟩
      show (if b = b ∧ (none : Option Nat) = none then us[o]? else H _) = none
      rw [if_pos ⟨rfl, rfl⟩, List.getElem?_eq_none]
      simp only at ho; omega
    · simp only [claims, blkClaim, tokClaim, List.flatMap_cons, List.flatMap_nil, List.append_nil, List.nil_append]
      split <;> simp
    · intro x hx
      simp only [claims, blkClaim, tokClaim, List.flatMap_cons, List.flatMap_nil, List.append_nil, List.nil_append] at hx
      split at hx
      · exact .inl (by simpa using hx)
      · cases hx
theorem WkS.frz {h' : List (Nat × Blk)} {r kk : Nat} {xs : List D} {y : Value} (j : Nat) (hj : h[j]? = some (r, .row kk xs y)) (e : h.set j (r, .told kk xs y) = h') : WkS C ⟨t, h, k⟩ ⟨t, h', (kk, y) :: k⟩ := fun H a w c kt => by
  subst e
  have hb := c.blks _ (List.mem_of_getElem? hj)
  obtain ⟨H', hle, c'⟩ := row_told c.ag hb
  have c1 : Core C H ([(r, .row kk xs y)] ++ h.eraseIdx j) ([] ++ k) w := c.perm (perm_at hj) (List.Perm.refl _)
  exact ⟨H', hle, (Core.call c1 c').perm (perm_set hj) (List.Perm.refl _), kt.mono hle⟩
theorem WkS.tld {r kk : Nat} {xs : List D} {y : Value} (i j : Nat) (hx : look t i = some (.v y)) (hj : h[j]? = some (r, .told kk xs y)) : WkS C ⟨t, h, k⟩ ⟨(i, .lst kk xs (.cur y)) :: t, h, k⟩ := fun H a w c kt => by
  have hb := told_sl (c.blks _ (List.mem_of_getElem? hj))
  obtain ⟨v, h1, h2⟩ := kt i _ hx
  rw [rep_v_inv h2] at h1
  exact ⟨H, Hp.le_refl H, c, look_put kt h1 hb⟩
theorem WkS.drop {h' : List (Nat × Blk)} (j : Nat) (e : h.eraseIdx j = h') : WkS C ⟨t, h, k⟩ ⟨t, h', k⟩ := fun H a w c kt => by
  subst e
  exact ⟨H, Hp.le_refl H, c.drop (List.eraseIdx_sublist _ _) (List.Sublist.refl _), kt⟩
theorem row_nil {H : Hp} {w : World} {k0 kk : Nat} {v : Value} (c : Core C H h k w) (hr : Rep H (.lst k0 [] .full) v) : ∃ z : Z3, v = SL z ∧ Core C H ((0, .row kk [] (SL z)) :: h) k w := by
  obtain ⟨hc, hx⟩ := rep_lst_inv hr
  have : ∃ a, v = .slice a 0 0 := by
    rcases hx with ⟨_, a, m, rfl, _⟩ | ⟨b, off, m, rfl, hm, _⟩
    · simp only [CapOK] at hc; subst hc; exact ⟨a, rfl⟩
    · simp only [CapOK, List.length_nil] at hc; subst hc; exact ⟨_, rfl⟩
  obtain ⟨a, rfl⟩ := this
  refine ⟨(a, 0, 0), rfl, c.ag, c.le, c.new, c.same, c.size, ?_, c.toks, ?_, ?_, c.env⟩
  · intro p hp
    rcases List.mem_cons.1 hp with rfl | hp
    · exact .inl ⟨a, rfl, rfl⟩
    · exact c.blks p hp
  · have : claims ((0, Blk.row kk [] (SL (a, 0, 0))) :: h) k = claims h k := by cases a <;> simp [claims, blkClaim, sliceClaim]
    rw [this]; exact c.nd
  · have : claims ((0, Blk.row kk [] (SL (a, 0, 0))) :: h) k = claims h k := by cases a <;> simp [claims, blkClaim, sliceClaim]
    rw [this]; exact c.own
theorem WkX.rowN {Y : Type} {S1 : Y → S} {i k0 : Nat} (kk : Nat) (hx : look t i = some (.lst k0 [] .full)) (g : ∀ z : Z3, WkX C ⟨(i, .v (SL z)) :: t, (0, .row kk [] (SL z)) :: h, k⟩ S1) : WkX C ⟨t, h, k⟩ S1 := fun H a w c kt => by
  obtain ⟨v, h1, h2⟩ := kt i _ hx
  obtain ⟨z, rfl, c'⟩ := row_nil (kk := kk) c h2
  exact g z H a w c' (look_put kt h1 (rep_v rfl))
end
section
variable {P : Program} {C : Ctx} {N : Nat} {ops rest : List Oper} {o : Oper} {t : List (Nat × D)} {h : List (Nat × Blk)} {k : List (Nat × Value)} {Q : Exit → S → Prop} {tab : List (Option TI)}
theorem retX.rowN {rs : List ResultVar} {R : D → List (Nat × Blk) → List (Nat × Value) → Prop} {x : Exit} {i k0 : Nat} (kk : Nat) (hx : look t i = some (.lst k0 [] .full)) (g : ∀ z : Z3, retX C tab rs R x ⟨(i, .v (SL z)) :: t, (0, .row kk [] (SL z)) :: h, k⟩) : retX C tab rs R x ⟨t, h, k⟩ := fun H a w c kt => by
  obtain ⟨v, h1, h2⟩ := kt i _ hx
  obtain ⟨z, rfl, c'⟩ := row_nil (kk := kk) c h2
  exact g z H a w c' (look_put kt h1 (rep_v rfl))
theorem row_len {H : Hp} {w : World} {r kk : Nat} {xs : List D} {y : Value} (h : BlkOK H w (r, .row kk xs y)) : ∃ a m, y = .slice a xs.length m := by
  rcases h with ⟨a, rfl, rfl⟩ | ⟨b, m, us, rest, T, rfl, _⟩
  · exact ⟨a, 0, rfl⟩
  · exact ⟨_, m, rfl⟩
end
end Go.Proofs.Ytfepijllmfedfaa.Ab
namespace Go.Proofs.Ytfepijllmfedfaa.Ab
open Go
set_option linter.all false
theorem first_row {P : Program} {w : World} {H : Hp} {r kk : Nat} {xs : List D} {y : Value} (hb : BlkOK H w (r, .row kk xs y)) :
    ∃ us : List Value, us.length = xs.length * kk ∧ FlatR H kk xs us ∧ (Builtin.firstCells kk xs.length y).run P w = .ok us.toArray w := by
  rcases hb with ⟨a, rfl, rfl⟩ | ⟨b, m, us, rest, T, rfl, h0, hm, h1, h2, h3, h4⟩
  · refine ⟨[], by simp, rfl, ?_⟩
    cases a with
    | none => rfl
    | some a => simp only [Builtin.firstCells, List.length_nil, Nat.zero_mul]; rfl
  · have hl := flat_len h2
    refine ⟨us, hl, h2, ?_⟩
    have hr : RowAt w b 0 us := fun j u e => by
      have := row_block h1 j u (by rw [List.getElem?_append_left (List.getElem?_eq_some_iff.1 e).1]; exact e)
      exact this
    have := run_loadCells (P := P) (xs.length * kk) hr (by omega)
    rw [← hl, List.take_length] at this
    simp only [Builtin.firstCells]
    rw [← hl]; exact this
theorem first_told {P : Program} {w : World} {H : Hp} (hA : Ag H w) {kk : Nat} {xs : List D} {c : Cap} {v : Value} (hr : Rep H (.lst kk xs c) v) :
    ∃ us : List Value, us.length = xs.length * kk ∧ FlatR H kk xs us ∧ (Builtin.firstCells kk xs.length v).run P w = .ok us.toArray w := by
  obtain ⟨_, h⟩ := rep_lst_inv hr
  rcases h with ⟨rfl, a, m, rfl, _⟩ | ⟨b, off, m, rfl, hm, hE⟩
  · refine ⟨[], by simp, rfl, ?_⟩
    cases a with
    | none => rfl
    | some a => simp only [Builtin.firstCells, List.length_nil, Nat.zero_mul]; rfl
  · obtain ⟨us, h1, h2, h3⟩ := els_flatR hE
    refine ⟨us, h1, h3, ?_⟩
    have := run_loadCells (P := P) (xs.length * kk) (h2.row hA) (by omega)
    rw [← h1, List.take_length] at this
    simp only [Builtin.firstCells]
    rw [← h1]; exact this
theorem blk_drew {H : Hp} {w : World} {p : Nat × Blk} (h : BlkOK H w p) : BlkOK H (wDrew w) p := by
  obtain ⟨b, bl⟩ := p
  cases bl <;> exact h
theorem app_runR {P : Program} {tab : List (Option TI)} (hT : TabOK P tab) {H : Hp} {w : World} {r kk bb : Nat} {T T' e e' : TypeId} {ty : TypeId} {i0 i1 ie : TI} {xs ys : List D} {v1 v2 : Value}
    (hA : Ag H w) (hrow : BlkOK H w (r, .row kk xs v1)) (hown : ∀ b ∈ claims [(r, .row kk xs v1)] [], b < w.heap.size)
    (hl2 : (Builtin.lenOf v2).run P w = .ok ys.length w) (hf2 : ∀ w', (∀ b, b < w.heap.size → w'.heap[b]? = w.heap[b]?) → ∃ us : List Value, us.length = ys.length * kk ∧ FlatR H kk ys us ∧ (Builtin.firstCells kk ys.length v2).run P w' = .ok us.toArray w')
    (hi0 : ti tab T = some i0) (hd0 : i0.d = .slice e) (hi1 : ti tab T' = some i1) (hd1 : i1.d = .slice e') (hie : ti tab e = some ie) (hks : ie.size = kk) (hbb : ie.bytes = bb) (hz : ie.zero.length = kk) (hb1 : 1 ≤ bb) (hbound : (xs.length + ys.length) * bb ≤ 140737488355328) :
    ∃ (z : Z3) (w' : World), (Builtin.append_ #[T, T'] ty #[v1, v2]).run P w = .ok (SL z) w' ∧ Core ⟨H, w, claims [(r, .row kk xs v1)] []⟩ H [(0, .row kk (xs ++ ys) (SL z))] [] w' := by
  subst hks; subst hbb
  have hTe := ti_ok hT hie
  obtain ⟨d0, u0, u1⟩ := run_underlying (w := w) (ti_ok hT hi0)
  have e0 := td_slice (u1.trans hd0); subst e0
  obtain ⟨d1, u2, u3⟩ := run_underlying (w := w) (ti_ok hT hi1)
  have e1 := td_slice (u3.trans hd1); subst e1
  obtain ⟨tif, z, t1, t2, t3, t4, t5⟩ := run_typeInfo (w := w) hTe
  have hneed : xs.length + ys.length ≤ 140737488355328 := Nat.le_trans (Nat.le_mul_of_pos_right _ hb1) hbound
  have start : ∀ base cap, v1 = .slice base xs.length cap → (Builtin.append_ #[T, T'] ty #[v1, v2]).run P w =
      (if xs.length + ys.length ≤ cap then (do
          let new ← Builtin.firstCells ie.size ys.length v2
          if let some a := base then storeCells (a.add (xs.length * ie.size)) new.toList
          pure (.slice base (xs.length + ys.length) cap) : Sem Value)
       else (do
          if ((xs.length + ys.length : Nat) : Int) > IntKind.i64.max ∧ ((false = true) ∨ (← Go.typeInfo e).bytes = 0) then runtimePanic (.error "growslice: len out of range")
          if Builtin.nextslicecap (xs.length + ys.length) cap * (← Go.typeInfo e).bytes > 2 ^ 48 then (if false then runtimePanic (.error "growslice: len out of range") else do
            if !(← Builtin.mayShare ie.size xs.length ys.length base v2) then mark .noRoom
            unsupported (.resourceLimit "append: a slice or a string whose bytes no memory bears"))
          let newCap ← choose (.appendCap (xs.length + ys.length) cap e)
          askRoom (newCap * (← Go.typeInfo e).bytes)
          let old ← Builtin.firstCells ie.size xs.length v1
          let new ← Builtin.firstCells ie.size ys.length v2
          let rest := Builtin.zeroCells (← Go.zeroValue e).cells (newCap - (xs.length + ys.length))
          pure (.slice (some (← newRow e (old ++ new ++ rest))) (xs.length + ys.length) newCap) : Sem Value)).run P w := by
    intro base cap hv
    subst hv
    unfold Builtin.append_
    simp only [List.getElem?_toArray, List.getElem?_cons_zero, List.getElem?_cons_succ]
    rw [run_bind_ok u0]
    simp only []
    rw [run_bind_ok (run_sizeOf hTe)]
    rw [run_bind_ok u2]
    simp only []
    rw [run_bind_ok (a := false) (w' := w) rfl]
    simp only [Bool.false_eq_true, if_false]
    rw [run_bind_ok hl2]
    simp only [Bool.not_false, if_true]
    rfl
  obtain ⟨base, cap, hv⟩ := row_len hrow
  by_cases hle : xs.length + ys.length ≤ cap
  · obtain ⟨us2, g1, g2, g3⟩ := hf2 w (fun _ _ => rfl)
    rw [start base cap hv, if_pos hle, run_bind_ok g3]
    rcases hrow with ⟨a, e1, e2⟩ | ⟨b, m, us, rest, TT, e1, h0, hm, h1, h2, h3, h4⟩
    · -- no room at all: nothing is added
      rw [hv] at e1
      simp only [Value.slice.injEq] at e1
      obtain ⟨rfl, e3, rfl⟩ := e1
      have hy : ys = [] := List.eq_nil_of_length_eq_zero (by omega)
      subst hy; subst e2
      have hu2 : us2 = [] := List.eq_nil_of_length_eq_zero (by simpa using g1)
      subst hu2
      refine ⟨(base, 0, 0), w, ?_, hA, Hp.le_refl H, fun _ _ x => .inl x, fun _ _ _ => rfl, Nat.le_refl _, ?_, by simp, ?_, ?_, Env.refl w⟩
      · cases base with
        | none => rfl
        | some a => simp only [storeCells]; rfl
      · intro p hp
        simp only [List.mem_singleton] at hp; subst hp
        exact .inl ⟨base, rfl, rfl⟩
      · cases base <;> simp [claims, blkClaim, sliceClaim]
      · cases base <;> simp [claims, blkClaim, sliceClaim]
    · rw [hv] at e1
      simp only [Value.slice.injEq] at e1
      obtain ⟨rfl, _, rfl⟩ := e1
      have hul := flat_len h2
      have hclaim : claims [(r, Blk.row ie.size xs v1)] [] = [b] := by rw [hv]; simp [claims, blkClaim, sliceClaim, hm]
      have hmk : (xs.length + ys.length) * ie.size ≤ cap * ie.size := Nat.mul_le_mul_right _ hle
      rw [Nat.add_mul] at hmk
      have hsz : 0 + xs.length * ie.size + us2.length ≤ (us ++ rest).length := by rw [g1]; omega
      obtain ⟨w', s1, s2, s3, s4, s5⟩ := run_storeCells (P := P) (b := b) (off := xs.length * ie.size) (T := TT) us2 0 w (us ++ rest) h1 (by omega) (flat_one g2)
      simp only [Nat.add_zero] at s5
      have ecells : (us ++ rest).take (xs.length * ie.size) ++ (us2 ++ (us ++ rest).drop (xs.length * ie.size + us2.length)) = (us ++ us2) ++ rest.drop us2.length := by
        rw [List.take_append_of_le_length (by omega), List.take_of_length_le (by omega), List.drop_append, List.drop_of_length_le (by omega), List.nil_append, List.append_assoc]
        congr 3; omega
      rw [ecells] at s5
      refine ⟨(some ⟨b, 0, none⟩, xs.length + ys.length, cap), w', ?_, ?_⟩
      · simp only [addr_add, Nat.zero_add]
        rw [run_bind_ok s1]; rfl
      · rw [hclaim]
        refine ⟨fun a v0 ea => ?_, Hp.le_refl H, fun _ _ x => .inl x, fun i _ hm => s4 i (by simpa using hm), by show w.heap.size ≤ w'.heap.size; omega, ?_, by simp, ?_, ?_, s2⟩
        · have hcell := hA a v0 ea
          by_cases qb : a.block = b
          · obtain ⟨ab, ao, as_⟩ := a
            simp only at qb; subst qb
            cases as_ with
            | some sp => simp [World.cell?, h1] at hcell
            | none => rw [h4 ao] at ea; cases ea
          · simp only [World.cell?] at hcell ⊢
            rw [s4 _ qb]; exact hcell
        · intro p hp
          simp only [List.mem_singleton] at hp; subst hp
          refine .inr ⟨b, cap, us ++ us2, rest.drop us2.length, TT, by simp [SL], by simpa using hle, hm, by simpa using s5, flat_append h2 g2, ?_, h4⟩
          have := congrArg List.length ecells
          simp only [List.length_append, List.length_take, List.length_drop] at this h3 ⊢
          omega
        · simp [claims, blkClaim, sliceClaim, hm]
        · intro x hx; simp [claims, blkClaim, sliceClaim, hm] at hx; subst hx; exact .inl (by simp)
  · have hgt : ¬ xs.length + ys.length ≤ cap := hle
    rw [start base cap hv, if_neg hgt]
    have hti : (Go.typeInfo e).run P w = .ok tif w := t1
    have hbytes : tif.bytes = ie.bytes := t3
    have hno1 : ¬ (((xs.length + ys.length : Nat) : Int) > IntKind.i64.max ∧ ((false = true) ∨ tif.bytes = 0)) := by
      rintro ⟨_, q | q⟩
      · cases q
      · omega
    have hno2 : ¬ (Builtin.nextslicecap (xs.length + ys.length) cap * tif.bytes > 2 ^ 48) := by
      have h5 := next_le (Nat.lt_of_not_le hgt)
      have h6 : Builtin.nextslicecap (xs.length + ys.length) cap * ie.bytes ≤ 2 * (xs.length + ys.length) * ie.bytes := Nat.mul_le_mul_right _ h5
      rw [Nat.mul_assoc] at h6
      rw [hbytes]
      omega
    have hforced : ∀ need, (Question.appendCap need cap e).forced = false := fun _ => rfl
    obtain ⟨newCap, hcap, hchoose⟩ : ∃ newCap, xs.length + ys.length ≤ newCap ∧ (choose (.appendCap (xs.length + ys.length) cap e)).run P w = .ok newCap (wDrew w) := by
      refine ⟨_, ?_, by simp only [choose, Sem.run, hforced]; rfl⟩
      simp only [Question.cut]; omega
    obtain ⟨zz, hz1, hz2⟩ := run_zeroValue (w := wDrew w) hTe
    obtain ⟨tif2, _, hti2, _⟩ := run_typeInfo (w := wDrew w) hTe
    obtain ⟨us1, f1, f2, f3⟩ := first_row (P := P) (blk_drew hrow)
    obtain ⟨us2, g1, g2, g3⟩ := hf2 (wDrew w) (fun _ _ => rfl)
    let restA := Builtin.zeroCells zz.cells (newCap - (xs.length + ys.length))
    have hrest : restA.size = (newCap - (xs.length + ys.length)) * ie.size := by
      show (Builtin.zeroCells zz.cells _).size = _
      unfold Builtin.zeroCells
      simp only [Array.size_map, Array.size_range]
      have : zz.cells.size = ie.size := by rw [← Array.length_toList, hz2, hz]
      rw [this]
    refine ⟨(some ⟨w.heap.size, 0, none⟩, xs.length + ys.length, newCap), (wDrew w).alloc (.cells (us1.toArray ++ us2.toArray ++ restA) e), ?_, ?_⟩
    · rw [run_bind_ok hti]
      rw [if_neg hno1]
      rw [run_bind_ok hti]
      rw [if_neg hno2]
      rw [run_bind_ok hchoose, run_bind_ok hti2, run_bind_ok askRoom_run, run_bind_ok f3, run_bind_ok g3, run_bind_ok hz1]
      rfl
    · have earr : us1.toArray ++ us2.toArray ++ restA = ((us1 ++ us2) ++ restA.toList).toArray := by simp
      rw [earr]
      have hsizew : (wDrew w).heap.size = w.heap.size := rfl
      have hcells : ((wDrew w).alloc (.cells ((us1 ++ us2) ++ restA.toList).toArray e)).heap[w.heap.size]? = some (.cells ((us1 ++ us2) ++ restA.toList).toArray e (0, 0)) := by
        rw [heap_alloc, hsizew, if_pos rfl]
      have hm0 : 0 < newCap := by omega
      refine ⟨fun a v e' => cell_alloc _ (hA a v e'), Hp.le_refl H, fun _ _ x => .inl x, fun b hb _ => ?_, ?_, ?_, by simp, ?_, ?_, ⟨rfl, rfl, rfl, Nat.le_succ _⟩⟩
      · rw [heap_alloc, hsizew, if_neg (by exact Nat.ne_of_lt hb)]; rfl
      · rw [size_alloc, hsizew]; exact Nat.le_succ _
      · intro p hp
        simp only [List.mem_singleton] at hp; subst hp
        refine .inr ⟨w.heap.size, newCap, us1 ++ us2, restA.toList, e, by simp [SL], by simpa using hcap, hm0, hcells, flat_append f2 g2, ?_, fun o => ?_⟩
        · simp only [List.length_append, Array.length_toList, hrest, f1, g1]
          rw [← Nat.add_mul, ← Nat.add_mul]
          exact Nat.mul_le_mul_right _ (by omega)
        · cases q : H ⟨w.heap.size, o, none⟩ with
          | none => rfl
          | some v => exact absurd (hA.lt q) (Nat.lt_irrefl _)
      · simp [claims, blkClaim, sliceClaim, hm0]
      · intro x hx; simp [claims, blkClaim, sliceClaim, hm0] at hx; subst hx; exact .inr (Nat.le_refl _)
section
variable {P : Program} {C : Ctx} {N : Nat} {ops rest : List Oper} {o : Oper} {t : List (Nat × D)} {h : List (Nat × Blk)} {k : List (Nat × Value)} {Q : Exit → S → Prop} {tab : List (Option TI)}
theorem p_appR {i r kk bb : Nat} {T T' e e' : TypeId} {x y : Operand} {xs ys : List D} {c' : Cap} {z : Z3} {i0 i1 ie : TI} (j : Nat) (hT : TabOK P tab) (ho : o.op = .call ⟨.builtin .append, [x, y].toArray, #[T, T']⟩) (hw : wantD ops t o = some true) (hd : o.dst = some i) (hi : Nat.blt i N = true)
    (hx : opD t x = some (.v (SL z))) (hj : h[j]? = some (r, .row kk xs (SL z))) (hy : opD t y = some (.lst kk ys c'))
    (hi0 : ti tab T = some i0) (hd0 : i0.d = .slice e) (hi1 : ti tab T' = some i1) (hd1 : i1.d = .slice e') (hie : ti tab e = some ie) (hks : ie.size = kk) (hbb : ie.bytes = bb) (hz : ie.zero.length = kk) (hb1 : Nat.ble 1 bb = true) (hbound : (xs.length + ys.length) * bb ≤ 140737488355328)
    (g : ∀ z' : Z3, opsD P C N ops rest ⟨(i, .v (SL z')) :: t, h.set j (0, .row kk (xs ++ ys) (SL z')), k⟩ Q) : opsD P C N ops (o :: rest) ⟨t, h, k⟩ Q :=
  ops_val (s := ⟨t, h, k⟩) hw hd hi fun H a w core kt => by
    have hry := opD_ok kt hy
    obtain ⟨a2, m2, ey⟩ := rep_slice_len hry
    have c1 : Core C H ([(r, .row kk xs (SL z))] ++ h.eraseIdx j) ([] ++ k) w := core.perm (perm_at hj) (List.Perm.refl _)
    have hbl := core.blks _ (List.mem_of_getElem? hj)
    obtain ⟨z', w', h1, h2⟩ := app_runR (P := P) (ty := o.type) (v1 := SL z) (v2 := a.eval y) hT core.ag hbl (fun b hb => c1.lt b (by
      have := (claims_append [(r, Blk.row kk xs (SL z))] (h.eraseIdx j) [] k).mem_iff (a := b)
      exact this.2 (List.mem_append_left _ hb))) (by rw [ey]; rfl) (fun w2 hw2 => first_told (fun a' v e' => by
        have := core.ag a' v e'
        have hlt := core.ag.lt e'
        unfold World.cell? at this ⊢
        rw [hw2 _ hlt]; exact this) hry) hi0 hd0 hi1 hd1 hie hks hbb hz (Nat.le_of_ble_eq_true hb1) hbound
    have c2 := Core.call c1 h2
    refine ⟨SL z', w', H, .v (SL z'), h.set j (0, .row kk (xs ++ ys) (SL z')), k, exec_builtin (s := Builtin.append_) ho (fun _ _ => rfl) ?_, Hp.le_refl H, c2.perm (perm_set hj) (List.Perm.refl _), rep_v rfl, g z'⟩
    have e := rep_v_inv (opD_ok kt hx)
    simpa [e] using h1
end
end Go.Proofs.Ytfepijllmfedfaa.Ab
namespace Go.Proofs.Ytfepijllmfedfaa.Ab
open Go
set_option linter.all false
section
variable {P : Program} {C : Ctx} {N : Nat} {ops rest : List Oper} {o : Oper} {t : List (Nat × D)} {h : List (Nat × Blk)} {k : List (Nat × Value)} {Q : Exit → S → Prop} {tab : List (Option TI)}
theorem p_appR2 {i r kk bb : Nat} {T T' e e' : TypeId} {x y : Operand} {xs ys zs : List D} {c' : Cap} {z : Z3} {i0 i1 ie : TI} (j : Nat) (hT : TabOK P tab) (ho : o.op = .call ⟨.builtin .append, [x, y].toArray, #[T, T']⟩) (hw : wantD ops t o = some true) (hd : o.dst = some i) (hi : Nat.blt i N = true)
    (hx : opD t x = some (.v (SL z))) (hj : h[j]? = some (r, .row kk xs (SL z))) (hy : opD t y = some (.lst kk ys c'))
    (hi0 : ti tab T = some i0) (hd0 : i0.d = .slice e) (hi1 : ti tab T' = some i1) (hd1 : i1.d = .slice e') (hie : ti tab e = some ie) (hks : ie.size = kk) (hbb : ie.bytes = bb) (hz : ie.zero.length = kk) (hb1 : Nat.ble 1 bb = true) (hbound : (xs.length + ys.length) * bb ≤ 140737488355328) (em : xs ++ ys = zs)
    (g : ∀ z' : Z3, opsD P C N ops rest ⟨(i, .v (SL z')) :: t, h.set j (0, .row kk zs (SL z')), k⟩ Q) : opsD P C N ops (o :: rest) ⟨t, h, k⟩ Q := by
  subst em
  exact p_appR j hT ho hw hd hi hx hj hy hi0 hd0 hi1 hd1 hie hks hbb hz hb1 hbound g
theorem p_callG {f : FuncId} {args : List Operand} {ts : Array TypeId} {i : Nat} {ds ds' : List D} {h1 h2 : List (Nat × Blk)} {k1 k2 : List (Nat × Value)} {R : D → List (Nat × Blk) → List (Nat × Value) → Prop}
    (hc : CallsD P f ds' h1 k1 R) (ho : o.op = .call ⟨.value (.func f), args.toArray, ts⟩) (hw : wantD ops t o = some true) (hd : o.dst = some i) (hi : Nat.blt i N = true) (ha : someMap args (opD t) = some ds) (hwk : WkL ds ds')
    (hh : h.Perm (h1 ++ h2)) (hk : k.Perm (k1 ++ k2)) (g : ∀ d h' k', R d h' k' → opsD P C N ops rest ⟨(i, d) :: t, h' ++ h2, k' ++ k2⟩ Q) : opsD P C N ops (o :: rest) ⟨t, h, k⟩ Q :=
  ops_call (s := ⟨t, h, k⟩) hc ho hw hd hi ha hwk hh hk g
theorem WkC.any {d : D} : WkC d .any := fun _ _ _ => by simp only [RepC]
end
end Go.Proofs.Ytfepijllmfedfaa.Ab
namespace Go.Proofs.Ytfepijllmfedfaa.Ab
open Go
set_option linter.all false
theorem Core.newRow {C : Ctx} {H : Hp} {h : List (Nat × Blk)} {k : List (Nat × Value)} {w : World} (c : Core C H h k w) {xs : List D} {us rest : List Value} {kk m : Nat} {T : TypeId} (hf : FlatR H kk xs us) (hm : xs.length ≤ m) (hl : m * kk ≤ (us ++ rest).length) (z : m = 0 → xs = []) :
    Core C H ((0, .row kk xs (SL (some ⟨w.heap.size, 0, none⟩, xs.length, m))) :: h) k (w.alloc (.cells (us ++ rest).toArray T)) := by
  have c0 : Core ⟨H, w, []⟩ H [(0, .row kk xs (SL (some ⟨w.heap.size, 0, none⟩, xs.length, m)))] [] (w.alloc (.cells (us ++ rest).toArray T)) := by
    refine ⟨fun a v e => cell_alloc _ (c.ag a v e), Hp.le_refl H, fun _ _ x => .inl x, fun b hb _ => ?_, ?_, ?_, by simp, ?_, ?_, ⟨rfl, rfl, rfl, Nat.le_refl _⟩⟩
    · rw [heap_alloc, if_neg (by exact Nat.ne_of_lt hb)]
    · rw [size_alloc]; exact Nat.le_succ _
    · intro p hp
      simp only [List.mem_singleton] at hp; subst hp
      by_cases q : m = 0
      · subst q
        have := z rfl
        subst this
        exact .inl ⟨_, rfl, rfl⟩
      · refine .inr ⟨w.heap.size, m, us, rest, T, rfl, hm, by omega, by rw [heap_alloc, if_pos rfl], hf, hl, fun o => ?_⟩
        cases e : H ⟨w.heap.size, o, none⟩ with
        | none => rfl
        | some v => exact absurd (c.ag.lt e) (Nat.lt_irrefl _)
    · simp only [claims, blkClaim, sliceClaim, List.flatMap_cons, List.flatMap_nil, List.append_nil]
      split <;> simp
    · intro b hb
      simp only [claims, blkClaim, sliceClaim, List.flatMap_cons, List.flatMap_nil, List.append_nil] at hb
      split at hb
      · simp at hb; subst hb
        exact .inr (Nat.le_refl _)
      · cases hb
  have := Core.call (h1 := []) (k1 := []) (h2 := h) (k2 := k) c c0
  simpa using this
section
variable {P : Program} {C : Ctx} {N : Nat} {ops rest : List Oper} {o : Oper} {t : List (Nat × D)} {h : List (Nat × Blk)} {k : List (Nat × Value)} {Q : Exit → S → Prop} {tab : List (Option TI)}
end
end Go.Proofs.Ytfepijllmfedfaa.Ab
namespace Go.Proofs.Ytfepijllmfedfaa.Ab
open Go
set_option linter.all false
theorem loop_pre {σ τ α β : Type} {f : σ → Option (Step σ τ)} (l : List β) (g : List β → α) (st : α → Nat → σ) (fin : α → τ)
    (h1 : ∀ pre x post, l = pre ++ x :: post → f (st (g pre) pre.length) = some (.next (st (g (pre ++ [x])) (pre.length + 1))))
    (h2 : f (st (g l) l.length) = some (.done (fin (g l)))) : loopM f (st (g []) 0) = some (fin (g l)) := by
  have key : ∀ (post pre : List β), l = pre ++ post → loopM f (st (g pre) pre.length) = some (fin (g l)) := by
    intro post
    induction post with
    | nil => intro pre h; rw [List.append_nil] at h; subst h; exact loopM_done h2
    | cons x post ih =>
      intro pre h
      rw [loopM_next (h1 pre x post h)]
      have := ih (pre ++ [x]) (by simp [h])
      simpa using this
  simpa using key l [] rfl
theorem loop_list {σ τ α β ρ : Type} {f : σ → Option (Step σ τ)} {s0 : σ} {k : τ → Option ρ} {r : Option ρ} (l : List β) (g : List β → α) (st : α → Nat → σ) (fin : α → τ) (h0 : st (g []) 0 = s0)
    (h1 : ∀ pre x post, l = pre ++ x :: post → f (st (g pre) pre.length) = some (.next (st (g (pre ++ [x])) (pre.length + 1))))
    (h2 : f (st (g l) l.length) = some (.done (fin (g l)))) (hk : k (fin (g l)) = r) : Option.bind (loopM f s0) k = r := by
  subst h0
  rw [loop_pre l g st fin h1 h2]; exact hk
theorem idx_pre {β : Type} (pre : List β) (x : β) (post : List β) : idx (pre ++ x :: post) (pre.length : Int) = some x := by
  rw [idx_nat]; simp
theorem lt_pre {β : Type} {l pre : List β} {x : β} {post : List β} (h : l = pre ++ x :: post) : decide ((pre.length : Int) < (l.length : Int)) = true := by
  subst h; simp; omega
theorem lt_end {β : Type} (l : List β) : decide ((l.length : Int) < (l.length : Int)) = false := by simp
theorem inc_pre {β : Type} {l pre : List β} {x : β} {post : List β} (h : l = pre ++ x :: post) (hb : l.length ≤ 4611686018427387904) : IntKind.i64.wrap ((pre.length : Int) + 1) = ((pre.length + 1 : Nat) : Int) := by
  have : pre.length < l.length := by subst h; simp
  rw [IntKind.wrap_i64]; omega
theorem wrap_id {n : Int} (h : -9223372036854775808 ≤ n) (k : n < 9223372036854775808) : IntKind.i64.wrap n = n := by rw [IntKind.wrap_i64]; omega
theorem pre_mem {β : Type} {l pre : List β} {x : β} {post : List β} (h : l = pre ++ x :: post) : x ∈ l := by subst h; simp
theorem app_len {β : Type} {bb : Nat} {xs ys : List β} (hb : bb ≤ 4096) (h : xs.length + ys.length ≤ 8388608) : app bb xs ys = some (xs ++ ys) := by
  refine app_of ?_
  have := Nat.mul_le_mul h hb
  omega
theorem idx_pre2 {β : Type} {m p : List β} {x : β} {q : List β} {n : Nat} (h : m = p ++ x :: q) (hn : n = p.length) : idx m (n : Int) = some x := by
  subst h hn; exact idx_pre _ _ _
end Go.Proofs.Ytfepijllmfedfaa.Ab
namespace Go.Proofs.Ytfepijllmfedfaa.Ab
open Go
set_option linter.all false
theorem Le.of {α : Type} {m m' : Option α} {r : α} (h : Le m m') (e : m = some r) : m' = some r := h r e
end Go.Proofs.Ytfepijllmfedfaa.Ab
namespace Go.Proofs.Ytfepijllmfedfaa.Ab
open Go
set_option linter.all false
abbrev RL := List (Nat × Nat × List D)
def isR (rl : RL) (e : Nat) : Bool := rl.any fun x => x.1 == e
def dR (rl : RL) (e : Nat) (d : D) (v : Value) : D := bif isR rl e then .v v else d
section
variable (P : Program) (C : Ctx) (N : Nat) (l : List Oper) (m : Nat) (De : Nat → D) (al : AL) (rl : RL) (pre : List (List Nat)) (ev : List Nat) (h : List (Nat × Blk)) (k : List (Nat × Value)) (Q : Exit → S → Prop)
def dEr (bs : Nat → Value) (e : Nat) : D := bif isAl al e then .ptr (blk (bs e)) 0 else dR rl e (De e) (bs e)
def TOKr (H0 : Hp) (bs : Nat → Value) (vals : Nat → Value) (te : TE) (a : Act) : Prop :=
  ∀ j d o, look3 te j = some (d, o) → ∃ v, a.tmps[j]? = some v ∧ (o = none → ∀ H, H0.le H → Rep H d v) ∧ ∀ e, o = some e → v = vals e ∧ d = dEr De al rl bs e ∧ ev.contains e = true
end
section
variable {P : Program} {C : Ctx} {N : Nat} {l : List Oper} {m : Nat} {De : Nat → D} {al : AL} {rl : RL} {pre : List (List Nat)} {ev : List Nat} {h : List (Nat × Blk)} {k : List (Nat × Value)} {Q : Exit → S → Prop} {tab : List (Option TI)} {bs : Nat → Value} {i : Nat} {o : Oper} {rest : List Oper} {te : TE}
theorem TOKr.put {H0 : Hp} {vals : Nat → Value} {a : Act} (kt : TOKr De al rl ev H0 bs vals te a) {j : Nat} {d : D} {o : Option Nat} {v : Value} (hj : j < a.tmps.size) (h1 : o = none → ∀ H, H0.le H → Rep H d v) (h2 : ∀ e, o = some e → v = vals e ∧ d = dEr De al rl bs e ∧ ev.contains e = true) :
    TOKr De al rl ev H0 bs vals ((j, d, o) :: te) (a.put (some j) v) := by
  intro j' d' o' e
  simp only [look3] at e
  simp only [Act.put]
  cases hb : Nat.beq j j' with
  | true =>
    rw [hb] at e; simp at e
    obtain ⟨rfl, rfl⟩ := e
    have := Nat.eq_of_beq_eq_true hb; subst this
    exact ⟨v, by simp [hj], h1, h2⟩
  | false =>
    rw [hb] at e; simp at e
    have hne : j ≠ j' := Nat.ne_of_beq_eq_false hb
    obtain ⟨u, h3, h4⟩ := kt j' d' o' e
    exact ⟨u, by rw [Array.getElem?_setIfInBounds_ne hne]; exact h3, h4⟩
end
section
variable {P : Program} {C : Ctx} {N : Nat} {l : List Oper} {m : Nat} {De : Nat → D} {al : AL} {rl : RL} {pre : List (List Nat)} {ev : List Nat} {h : List (Nat × Blk)} {k : List (Nat × Value)} {Q : Exit → S → Prop} {tab : List (Option TI)} {bs : Nat → Value} {i : Nat} {o : Oper} {rest : List Oper} {te : TE}
end
end Go.Proofs.Ytfepijllmfedfaa.Ab
namespace Go.Proofs.Ytfepijllmfedfaa.Ab
open Go
set_option linter.all false
def tab : List (Option TI) := [none,
  some ⟨.other, 1, 8, [.nilFunc]⟩,
  some ⟨.int .i64, 1, 8, [.int .i64 0]⟩,
  some ⟨.int .i64, 1, 8, [.int .i64 0]⟩,
  some ⟨.bool, 1, 1, [.bool false]⟩,
  some ⟨.int .u8, 1, 1, [.int .u8 0]⟩,
  some ⟨.int .u8, 1, 1, [.int .u8 0]⟩,
  some ⟨.struct [(2, 0), (3, 1), (4, 2), (6, 3)], 4, 24, [.int .i64 0, .int .i64 0, .bool false, .int .u8 0]⟩,
  some ⟨.struct [(2, 0), (3, 1), (4, 2), (6, 3)], 4, 24, [.int .i64 0, .int .i64 0, .bool false, .int .u8 0]⟩,
  some ⟨.str, 1, 16, [.string ByteArray.empty]⟩,
  some ⟨.str, 1, 16, [.string ByteArray.empty]⟩,
  some ⟨.str, 1, 16, [.string ByteArray.empty]⟩,
  some ⟨.int .u64, 1, 8, [.int .u64 0]⟩,
  some ⟨.struct [(9, 0), (12, 1)], 2, 24, [.string ByteArray.empty, .int .u64 0]⟩,
  some ⟨.struct [(9, 0), (12, 1)], 2, 24, [.string ByteArray.empty, .int .u64 0]⟩,
  some ⟨.ptr 102, 1, 8, [.pointer none]⟩,
  some ⟨.ptr 105, 1, 8, [.pointer none]⟩,
  some ⟨.ptr 114, 1, 8, [.pointer none]⟩,
  some ⟨.struct [(17, 0)], 1, 8, [.pointer none]⟩,
  some ⟨.struct [(17, 0)], 1, 8, [.pointer none]⟩,
  none,
  some ⟨.int .i32, 1, 4, [.int .i32 0]⟩,
  some ⟨.slice 29, 1, 24, [.slice none 0 0]⟩,
  some ⟨.slice 118, 1, 24, [.slice none 0 0]⟩,
  some ⟨.struct [(22, 0), (23, 1)], 2, 48, [.slice none 0 0, .slice none 0 0]⟩,
  some ⟨.struct [(22, 0), (23, 1)], 2, 48, [.slice none 0 0, .slice none 0 0]⟩,
  some ⟨.slice 39, 1, 24, [.slice none 0 0]⟩,
  some ⟨.other, 1, 8, [.nilFunc]⟩,
  some ⟨.struct [(9, 0), (4, 1), (3, 2), (3, 3)], 4, 40, [.string ByteArray.empty, .bool false, .int .i64 0, .int .i64 0]⟩,
  some ⟨.struct [(9, 0), (4, 1), (3, 2), (3, 3)], 4, 40, [.string ByteArray.empty, .bool false, .int .i64 0, .int .i64 0]⟩,
  some ⟨.ptr 64, 1, 8, [.pointer none]⟩,
  some ⟨.other, 1, 8, [.nilFunc]⟩,
  some ⟨.ptr 56, 1, 8, [.pointer none]⟩,
  some ⟨.other, 1, 8, [.nilFunc]⟩,
  some ⟨.struct [(9, 0), (3, 1)], 2, 24, [.string ByteArray.empty, .int .i64 0]⟩,
  some ⟨.struct [(9, 0), (3, 1)], 2, 24, [.string ByteArray.empty, .int .i64 0]⟩,
  some ⟨.struct [(4, 0), (3, 1), (35, 2)], 4, 40, [.bool false, .int .i64 0, .string ByteArray.empty, .int .i64 0]⟩,
  some ⟨.struct [(4, 0), (3, 1), (35, 2)], 4, 40, [.bool false, .int .i64 0, .string ByteArray.empty, .int .i64 0]⟩,
  some ⟨.struct [(3, 0), (35, 1), (37, 3)], 7, 72, [.int .i64 0, .string ByteArray.empty, .int .i64 0, .bool false, .int .i64 0, .string ByteArray.empty, .int .i64 0]⟩,
  some ⟨.struct [(3, 0), (35, 1), (37, 3)], 7, 72, [.int .i64 0, .string ByteArray.empty, .int .i64 0, .bool false, .int .i64 0, .string ByteArray.empty, .int .i64 0]⟩,
  some ⟨.int .i64, 1, 8, [.int .i64 0]⟩,
  none,
  some ⟨.other, 1, 8, [.nilFunc]⟩,
  none,
  some ⟨.other, 1, 8, [.nilFunc]⟩,
  some ⟨.other, 1, 8, [.nilFunc]⟩,
  some ⟨.other, 1, 8, [.nilFunc]⟩,
  none,
  some ⟨.other, 1, 8, [.nilFunc]⟩,
  none,
  some ⟨.other, 1, 8, [.nilFunc]⟩,
  some ⟨.slice 58, 1, 24, [.slice none 0 0]⟩,
  some ⟨.other, 1, 8, [.nilFunc]⟩,
  some ⟨.slice 35, 1, 24, [.slice none 0 0]⟩,
  some ⟨.slice 37, 1, 24, [.slice none 0 0]⟩,
  some ⟨.struct [(25, 0), (53, 2), (54, 3)], 4, 96, [.slice none 0 0, .slice none 0 0, .slice none 0 0, .slice none 0 0]⟩,
  some ⟨.struct [(25, 0), (53, 2), (54, 3)], 4, 96, [.slice none 0 0, .slice none 0 0, .slice none 0 0, .slice none 0 0]⟩,
  some ⟨.struct [(35, 0), (37, 2)], 6, 64, [.string ByteArray.empty, .int .i64 0, .bool false, .int .i64 0, .string ByteArray.empty, .int .i64 0]⟩,
  some ⟨.struct [(35, 0), (37, 2)], 6, 64, [.string ByteArray.empty, .int .i64 0, .bool false, .int .i64 0, .string ByteArray.empty, .int .i64 0]⟩,
  some ⟨.other, 1, 8, [.nilFunc]⟩,
  some ⟨.other, 1, 8, [.nilFunc]⟩,
  some ⟨.map 9 3, 1, 8, [.map none]⟩,
  some ⟨.map 35 37, 1, 8, [.map none]⟩,
  some ⟨.struct [(61, 0), (62, 1), (53, 2)], 3, 40, [.map none, .map none, .slice none 0 0]⟩,
  some ⟨.struct [(61, 0), (62, 1), (53, 2)], 3, 40, [.map none, .map none, .slice none 0 0]⟩,
  some ⟨.slice 9, 1, 24, [.slice none 0 0]⟩,
  some ⟨.other, 1, 8, [.nilFunc]⟩,
  some ⟨.other, 1, 8, [.nilFunc]⟩,
  some ⟨.other, 1, 8, [.nilFunc]⟩,
  some ⟨.other, 1, 8, [.nilFunc]⟩,
  some ⟨.other, 1, 8, [.nilFunc]⟩,
  some ⟨.other, 1, 8, [.nilFunc]⟩,
  some ⟨.other, 1, 8, [.nilFunc]⟩,
  some ⟨.other, 1, 8, [.nilFunc]⟩,
  some ⟨.other, 1, 8, [.nilFunc]⟩,
  some ⟨.other, 1, 8, [.nilFunc]⟩,
  some ⟨.int .u64, 1, 8, [.int .u64 0]⟩,
  some ⟨.slice 3, 1, 24, [.slice none 0 0]⟩,
  some ⟨.other, 1, 8, [.nilFunc]⟩,
  some ⟨.other, 1, 8, [.nilFunc]⟩,
  some ⟨.other, 1, 8, [.nilFunc]⟩,
  some ⟨.int .i64, 1, 8, [.int .i64 0]⟩,
  none,
  some ⟨.other, 1, 8, [.nilFunc]⟩,
  some ⟨.other, 1, 8, [.nilFunc]⟩,
  some ⟨.other, 1, 8, [.nilFunc]⟩,
  none,
  some ⟨.other, 1, 8, [.nilFunc]⟩,
  some ⟨.other, 1, 8, [.nilFunc]⟩,
  some ⟨.int .u32, 1, 4, [.int .u32 0]⟩,
  some ⟨.other, 1, 8, [.nilFunc]⟩,
  some ⟨.int .u64, 1, 8, [.int .u64 0]⟩,
  some ⟨.int .u64, 1, 8, [.int .u64 0]⟩,
  some ⟨.other, 1, 8, [.nilFunc]⟩,
  some ⟨.other, 1, 8, [.nilFunc]⟩,
  some ⟨.other, 1, 8, [.nilFunc]⟩,
  some ⟨.ptr 3, 1, 8, [.pointer none]⟩,
  some ⟨.other, 1, 8, [.nilFunc]⟩,
  some ⟨.ptr 92, 1, 8, [.pointer none]⟩,
  some ⟨.other, 1, 8, [.nilFunc]⟩,
  some ⟨.other, 1, 8, [.nilFunc]⟩,
  some ⟨.struct [(17, 0), (17, 1), (17, 2), (9, 3)], 4, 40, [.pointer none, .pointer none, .pointer none, .string ByteArray.empty]⟩,
  some ⟨.struct [(17, 0), (17, 1), (17, 2), (9, 3)], 4, 40, [.pointer none, .pointer none, .pointer none, .string ByteArray.empty]⟩,
  some ⟨.array 0 16, 0, 0, []⟩,
  some ⟨.struct [(103, 0)], 0, 0, []⟩,
  some ⟨.struct [(103, 0)], 0, 0, []⟩,
  some ⟨.other, 1, 8, [.nilFunc]⟩,
  some ⟨.int .u8, 1, 1, [.int .u8 0]⟩,
  some ⟨.int .u8, 1, 1, [.int .u8 0]⟩,
  some ⟨.other, 1, 8, [.nilFunc]⟩,
  some ⟨.ptr 5, 1, 8, [.pointer none]⟩,
  some ⟨.int .i32, 1, 4, [.int .i32 0]⟩,
  some ⟨.int .i32, 1, 4, [.int .i32 0]⟩,
  some ⟨.struct [(12, 0), (12, 1), (89, 2), (107, 3), (5, 4), (5, 5), (108, 6), (109, 7), (110, 8), (111, 9), (112, 10)], 11, 48, [.int .u64 0, .int .u64 0, .int .u32 0, .int .u8 0, .int .u8 0, .int .u8 0, .int .u8 0, .nilFunc, .pointer none, .int .i32 0, .int .i32 0]⟩,
  some ⟨.struct [(12, 0), (12, 1), (89, 2), (107, 3), (5, 4), (5, 5), (108, 6), (109, 7), (110, 8), (111, 9), (112, 10)], 11, 48, [.int .u64 0, .int .u64 0, .int .u32 0, .int .u8 0, .int .u8 0, .int .u8 0, .int .u8 0, .nilFunc, .pointer none, .int .i32 0, .int .i32 0]⟩,
  some ⟨.slice 121, 1, 24, [.slice none 0 0]⟩,
  some ⟨.slice 124, 1, 24, [.slice none 0 0]⟩,
  some ⟨.struct [(9, 0), (115, 1), (115, 2), (116, 3), (3, 4)], 5, 96, [.string ByteArray.empty, .slice none 0 0, .slice none 0 0, .slice none 0 0, .int .i64 0]⟩,
  some ⟨.struct [(9, 0), (115, 1), (115, 2), (116, 3), (3, 4)], 5, 96, [.string ByteArray.empty, .slice none 0 0, .slice none 0 0, .slice none 0 0, .int .i64 0]⟩,
  none,
  some ⟨.struct [(9, 0), (4, 1)], 2, 24, [.string ByteArray.empty, .bool false]⟩,
  some ⟨.struct [(9, 0), (4, 1)], 2, 24, [.string ByteArray.empty, .bool false]⟩,
  some ⟨.slice 126, 1, 24, [.slice none 0 0]⟩,
  some ⟨.struct [(3, 0), (9, 1), (9, 2), (122, 3), (116, 4), (116, 5), (3, 6)], 7, 120, [.int .i64 0, .string ByteArray.empty, .string ByteArray.empty, .slice none 0 0, .slice none 0 0, .slice none 0 0, .int .i64 0]⟩,
  some ⟨.struct [(3, 0), (9, 1), (9, 2), (122, 3), (116, 4), (116, 5), (3, 6)], 7, 120, [.int .i64 0, .string ByteArray.empty, .string ByteArray.empty, .slice none 0 0, .slice none 0 0, .slice none 0 0, .int .i64 0]⟩,
  some ⟨.struct [(3, 0), (3, 1), (9, 2), (122, 3), (3, 4)], 5, 64, [.int .i64 0, .int .i64 0, .string ByteArray.empty, .slice none 0 0, .int .i64 0]⟩,
  some ⟨.struct [(3, 0), (3, 1), (9, 2), (122, 3), (3, 4)], 5, 64, [.int .i64 0, .int .i64 0, .string ByteArray.empty, .slice none 0 0, .int .i64 0]⟩]
theorem htab : TabOK Try.prog tab := tab_ok (P := Try.prog) (by kernel_rfl)
theorem eqt35 : EqT Try.prog 35 := ⟨by kernel_rfl, by kernel_rfl, by kernel_rfl⟩
abbrev eqn37 : List Nat := [37, 35]
theorem eqs37 : ∀ t ∈ eqn37, EqT Try.prog t := by
  intro t h
  simp only [eqn37, List.mem_cons, List.not_mem_nil, or_false] at h
  rcases h with rfl | rfl <;> exact ⟨by kernel_rfl, by kernel_rfl, by kernel_rfl⟩
theorem eqg37 : Program.eqGuardType Try.prog (Program.depth Try.prog) 37 = false := by kernel_rfl
theorem ti3 : ti tab 3 = some ⟨.int .i64, 1, 8, [.int .i64 0]⟩ := rfl
theorem ti4 : ti tab 4 = some ⟨.bool, 1, 1, [.bool false]⟩ := rfl
theorem ti9 : ti tab 9 = some ⟨.str, 1, 16, [.string ByteArray.empty]⟩ := rfl
theorem ti35 : ti tab 35 = some ⟨.struct [(9, 0), (3, 1)], 2, 24, [.string ByteArray.empty, .int .i64 0]⟩ := rfl
theorem ti37 : ti tab 37 = some ⟨.struct [(4, 0), (3, 1), (35, 2)], 4, 40, [.bool false, .int .i64 0, .string ByteArray.empty, .int .i64 0]⟩ := rfl
end Go.Proofs.Ytfepijllmfedfaa.Ab
namespace Go.Proofs.Ytfepijllmfedfaa.Ab
open Go
set_option linter.all false
section
variable {P : Program} {C : Ctx} {N : Nat} {ops rest : List Oper} {o : Oper} {t : List (Nat × D)} {h : List (Nat × Blk)} {k : List (Nat × Value)} {Q : Exit → S → Prop}
theorem wpD_sr {id : Nat} {ops : List Oper} {y : Code} {s : S} (g : opsD P C N ops ops s (thenD (fun s' => wpD P C N y s' Q) Q)) : wpD P C N (.seq (.region id ops.toArray false) y) s Q := wpD_seq (wpD_region g)
theorem ops_nt {next : S → Prop} {s : S} (g : next s) : opsD P C N ops [] s (thenD next Q) := ops_nil (then_normal g)
theorem ops_n2 {id : Nat} {ops2 : List Oper} {y : Code} {s : S} {Q' : Exit → S → Prop} (g : opsD P C N ops2 ops2 s (thenD (fun s' => wpD P C N y s' Q) Q)) : opsD P C N ops [] s (thenD (fun s' => wpD P C N (.seq (.region id ops2.toArray false) y) s' Q) Q') := ops_nt (wpD_sr g)
theorem pu {i : Nat} {d : D} (g : opsD Try.prog C N ops rest ⟨(i, d) :: t, h, k⟩ Q) (hw : wantD ops t o = some true := by rfl) (hd : o.dst = some i := by rfl) (hi : Nat.blt i N = true := by rfl) (e : evP tab t o.op = some d := by rfl) : opsD Try.prog C N ops (o :: rest) ⟨t, h, k⟩ Q := p_pure htab hw hd hi e g
theorem p_st0 {hr : List (Nat × Blk)} {b off : Nat} {T T' : TypeId} {x y : Operand} {ds ds' : List D} {ti0 : TI} {d : D} (ho : o.op = .store T x y) (hw : wantD ops t o = some true) (hd : o.dst = none) (hx : opD t x = some (.ptr b off)) (hT : ti tab T = some ti0) (hy : opD t y = some d) (hs : stor d = true) (hsz : Nat.beq (dcells d).length ti0.size = true) (hle : Nat.ble (off + ti0.size) ds.length = true) (e : lay ds off (dcells d) = ds') (g : opsD Try.prog C N ops rest ⟨t, (b, .cells ds' T') :: hr, k⟩ Q) : opsD Try.prog C N ops (o :: rest) ⟨t, (b, .cells ds T') :: hr, k⟩ Q := p_store 0 htab ho hw hd hx rfl hT hy hs hsz hle e rfl g
theorem p_st1 {a0 : Nat × Blk} {hr : List (Nat × Blk)} {b off : Nat} {T T' : TypeId} {x y : Operand} {ds ds' : List D} {ti0 : TI} {d : D} (ho : o.op = .store T x y) (hw : wantD ops t o = some true) (hd : o.dst = none) (hx : opD t x = some (.ptr b off)) (hT : ti tab T = some ti0) (hy : opD t y = some d) (hs : stor d = true) (hsz : Nat.beq (dcells d).length ti0.size = true) (hle : Nat.ble (off + ti0.size) ds.length = true) (e : lay ds off (dcells d) = ds') (g : opsD Try.prog C N ops rest ⟨t, a0 :: (b, .cells ds' T') :: hr, k⟩ Q) : opsD Try.prog C N ops (o :: rest) ⟨t, a0 :: (b, .cells ds T') :: hr, k⟩ Q := p_store 1 htab ho hw hd hx rfl hT hy hs hsz hle e rfl g
theorem p_st2 {a0 a1 : Nat × Blk} {hr : List (Nat × Blk)} {b off : Nat} {T T' : TypeId} {x y : Operand} {ds ds' : List D} {ti0 : TI} {d : D} (ho : o.op = .store T x y) (hw : wantD ops t o = some true) (hd : o.dst = none) (hx : opD t x = some (.ptr b off)) (hT : ti tab T = some ti0) (hy : opD t y = some d) (hs : stor d = true) (hsz : Nat.beq (dcells d).length ti0.size = true) (hle : Nat.ble (off + ti0.size) ds.length = true) (e : lay ds off (dcells d) = ds') (g : opsD Try.prog C N ops rest ⟨t, a0 :: a1 :: (b, .cells ds' T') :: hr, k⟩ Q) : opsD Try.prog C N ops (o :: rest) ⟨t, a0 :: a1 :: (b, .cells ds T') :: hr, k⟩ Q := p_store 2 htab ho hw hd hx rfl hT hy hs hsz hle e rfl g
theorem p_st3 {a0 a1 a2 : Nat × Blk} {hr : List (Nat × Blk)} {b off : Nat} {T T' : TypeId} {x y : Operand} {ds ds' : List D} {ti0 : TI} {d : D} (ho : o.op = .store T x y) (hw : wantD ops t o = some true) (hd : o.dst = none) (hx : opD t x = some (.ptr b off)) (hT : ti tab T = some ti0) (hy : opD t y = some d) (hs : stor d = true) (hsz : Nat.beq (dcells d).length ti0.size = true) (hle : Nat.ble (off + ti0.size) ds.length = true) (e : lay ds off (dcells d) = ds') (g : opsD Try.prog C N ops rest ⟨t, a0 :: a1 :: a2 :: (b, .cells ds' T') :: hr, k⟩ Q) : opsD Try.prog C N ops (o :: rest) ⟨t, a0 :: a1 :: a2 :: (b, .cells ds T') :: hr, k⟩ Q := p_store 3 htab ho hw hd hx rfl hT hy hs hsz hle e rfl g
theorem p_st4 {a0 a1 a2 a3 : Nat × Blk} {hr : List (Nat × Blk)} {b off : Nat} {T T' : TypeId} {x y : Operand} {ds ds' : List D} {ti0 : TI} {d : D} (ho : o.op = .store T x y) (hw : wantD ops t o = some true) (hd : o.dst = none) (hx : opD t x = some (.ptr b off)) (hT : ti tab T = some ti0) (hy : opD t y = some d) (hs : stor d = true) (hsz : Nat.beq (dcells d).length ti0.size = true) (hle : Nat.ble (off + ti0.size) ds.length = true) (e : lay ds off (dcells d) = ds') (g : opsD Try.prog C N ops rest ⟨t, a0 :: a1 :: a2 :: a3 :: (b, .cells ds' T') :: hr, k⟩ Q) : opsD Try.prog C N ops (o :: rest) ⟨t, a0 :: a1 :: a2 :: a3 :: (b, .cells ds T') :: hr, k⟩ Q := p_store 4 htab ho hw hd hx rfl hT hy hs hsz hle e rfl g
end
section
variable {P : Program} {C : Ctx} {N : Nat} {l : List Oper} {m : Nat} {De : Nat → D} {al : AL} {pre : List (List Nat)} {ev : List Nat} {h : List (Nat × Blk)} {k : List (Nat × Value)} {Q : Exit → S → Prop} {bs : Nat → Nat} {i : Nat} {o : Oper} {rest : List Oper} {te : TE}
theorem zqp {j : Nat} {x : Value} {p : List Nat} {t : List (Nat × D)} (g : Zw Try.prog C N l m De al pre ev h k Q bs (i + 1) rest ((j, .v x, none) :: te)) (hp : pre.getD i [] = p := by rfl) (ht : vis p te = t := by rfl) (hx : evP tab t o.op = some (.v x) := by rfl) (hw : wantD l (vis [] te) o = some true := by rfl) (hd : o.dst = some j := by rfl) (hi : Nat.blt j N = true := by rfl) (hne : ev.contains i = false := by rfl) (hone : one x = true := by rfl) (hpe : p.all ev.contains = true := by rfl) : Zw Try.prog C N l m De al pre ev h k Q bs i (o :: rest) te :=
  z_q hp ht (ex_pure htab hx) hw hd hi hne hone hpe g
theorem zep {j : Nat} {p : List Nat} {t : List (Nat × D)} {d : D} (g : Zw Try.prog C N l m De al pre ev h k Q bs (i + 1) rest ((j, d, some i) :: te)) (hp : pre.getD i [] = p := by rfl) (ht : vis p te = t := by rfl) (hx : evP tab t o.op = some d := by rfl) (hw : wantD l (vis [] te) o = some true := by rfl) (hd : o.dst = some j := by rfl) (hi : Nat.blt j N = true := by rfl) (he : ev.contains i = true := by rfl) (hna : isAl al i = false := by rfl) (hDe : De i = d := by rfl) : Zw Try.prog C N l m De al pre ev h k Q bs i (o :: rest) te :=
  z_e hp ht (ex_pure htab hx) hw hd hi he hna hDe g
end
def pickE {α : Type} : List Nat → List α → List α
  | [], _ => []
  | j :: js, l => match l[j]? with
    | some x => x :: pickE js (l.eraseIdx j)
    | none => []
def restE {α : Type} : List Nat → List α → List α
  | [], l => l
  | j :: js, l => match l[j]? with
    | some _ => restE js (l.eraseIdx j)
    | none => l
theorem pickE_perm {α : Type} : ∀ (js : List Nat) (l : List α), l.Perm (pickE js l ++ restE js l)
  | [], l => List.Perm.refl _
  | j :: js, l => by
    unfold pickE restE
    cases h : l[j]? with
    | none => exact List.Perm.refl _
    | some x => exact (perm_at h).trans ((pickE_perm js (l.eraseIdx j)).cons x)
section
variable {P : Program} {C : Ctx} {N : Nat} {ops rest : List Oper} {o : Oper} {t : List (Nat × D)} {h : List (Nat × Blk)} {k : List (Nat × Value)} {Q : Exit → S → Prop}
theorem rP {rs : List ResultVar} {R : D → List (Nat × Blk) → List (Nat × Value) → Prop} {x : Exit} {t' : List (Nat × D)} {ds : List D} (js ks : List Nat) (n : Nat) (e : ∀ i d, look t' i = some d → ∃ d0, look t i = some d0 ∧ Wk d0 d) (hr : resL tab ⟨t', pickE js h, pickE ks k⟩ rs ds) (g : R (wrapD ds) ((pickE js h).take n) (pickE ks k)) (hx : x = .ret ∨ x = .normal := by first | exact .inl rfl | exact .inr rfl) : retX C tab rs R x ⟨t, h, k⟩ :=
  retX.of (s' := ⟨t', pickE js h, pickE ks k⟩) (WkS.perm e (pickE_perm js h) (pickE_perm ks k)) (retD_mk hx hr (List.take_sublist n _) (List.Sublist.refl _) g)
theorem wC {t t' : List (Nat × D)} {j : Nat} {d0 : D} (g : ∀ i d, look t' i = some d → ∃ d1, look t i = some d1 ∧ Wk d1 d) (h0 : look t j = some d0 := by rfl) : ∀ i d, look ((j, d0) :: t') i = some d → ∃ d1, look t i = some d1 ∧ Wk d1 d := WkS.cons h0 (Wk.refl _) g
theorem wN {t : List (Nat × D)} : ∀ i d, look [] i = some d → ∃ d0, look t i = some d0 ∧ Wk d0 d := WkS.nil
theorem lN {s : S} : resL tab s [] [] := rfl
theorem lT {s : S} {i : Nat} {rs : List ResultVar} {d : D} {ds : List D} (h2 : resL tab s rs ds) (h1 : look s.t i = some d := by rfl) : resL tab s (.tmp i :: rs) (d :: ds) := resL_cons (resOne_tmp h1) h2
theorem lC {s : S} {a b off : Nat} {T T' : TypeId} {ds : List D} {i : TI} {d : D} {rs : List ResultVar} {ds' : List D} (j : Nat) (hr : resL tab s rs ds') (h1 : look s.t a = some (.ptr b off) := by rfl) (h2 : s.h[j]? = some (b, Blk.cells ds T') := by rfl) (h3 : ti tab T = some i := by rfl) (h4 : partD i ds off = some d := by rfl) : resL tab s (.cell a T :: rs) (d :: ds') := resL_cons (resOne_cell j h1 h2 h3 h4) hr
theorem rO {ds ds' : List D} {kk : Nat} {xs : List D} {c : Cap} (g : WkR ds ds') : WkR (.lst kk xs c :: ds) (.lst kk xs .no :: ds') := WkR.cons WkC.no rfl g
theorem Pf {α : Type} {l : List α} : l.Perm l := List.Perm.refl l
theorem Wl {ds : List D} : WkL ds ds := WkL.refl ds
theorem pL {i b off : Nat} {T T' : TypeId} {x : Operand} {ds : List D} {ti0 : TI} {d : D} (j : Nat) (g : opsD Try.prog C N ops rest ⟨(i, d) :: t, h, k⟩ Q) (ho : o.op = .load T x := by rfl) (hw : wantD ops t o = some true := by rfl) (hd : o.dst = some i := by rfl) (hi : Nat.blt i N = true := by rfl) (hx : opD t x = some (.ptr b off) := by rfl) (hb : h[j]? = some (b, .cells ds T') := by rfl) (hT : ti tab T = some ti0 := by rfl) (e : partD ti0 ds off = some d := by rfl) : opsD Try.prog C N ops (o :: rest) ⟨t, h, k⟩ Q := p_load j htab ho hw hd hi hx hb hT e g
theorem pG {f : FuncId} {args : List Operand} {ts : Array TypeId} {i : Nat} {ds ds' : List D} {h1 h2 : List (Nat × Blk)} {k1 k2 : List (Nat × Value)} {R : D → List (Nat × Blk) → List (Nat × Value) → Prop} (hc : CallsD Try.prog f ds' h1 k1 R) (hwk : WkL ds ds') (hh : h.Perm (h1 ++ h2)) (hk : k.Perm (k1 ++ k2)) (g : ∀ d h' k', R d h' k' → opsD Try.prog C N ops rest ⟨(i, d) :: t, h' ++ h2, k' ++ k2⟩ Q) (ho : o.op = .call ⟨.value (.func f), args.toArray, ts⟩ := by rfl) (hw : wantD ops t o = some true := by rfl) (hd : o.dst = some i := by rfl) (hi : Nat.blt i N = true := by rfl) (ha : someMap args (opD t) = some ds := by rfl) : opsD Try.prog C N ops (o :: rest) ⟨t, h, k⟩ Q := p_callG hc ho hw hd hi ha hwk hh hk g
theorem pK {i : Nat} (g : opsD Try.prog C N ops rest ⟨(i, .v (.tuple #[])) :: t, h, k⟩ Q) (hw : wantD ops t o = some false := by rfl) (hd : o.dst = some i := by rfl) (hi : Nat.blt i N = true := by rfl) : opsD Try.prog C N ops (o :: rest) ⟨t, h, k⟩ Q := p_skip hw hd hi g
theorem pS0 {hr : List (Nat × Blk)} {b off : Nat} {T T' : TypeId} {x y : Operand} {ds ds' : List D} {ti0 : TI} {d : D} (g : opsD Try.prog C N ops rest ⟨t, (b, .cells ds' T') :: hr, k⟩ Q) (ho : o.op = .store T x y := by rfl) (hw : wantD ops t o = some true := by rfl) (hd : o.dst = none := by rfl) (hx : opD t x = some (.ptr b off) := by rfl) (hT : ti tab T = some ti0 := by rfl) (hy : opD t y = some d := by rfl) (hs : stor d = true := by rfl) (hsz : Nat.beq (dcells d).length ti0.size = true := by rfl) (hle : Nat.ble (off + ti0.size) ds.length = true := by rfl) (e : lay ds off (dcells d) = ds' := by rfl) : opsD Try.prog C N ops (o :: rest) ⟨t, (b, .cells ds T') :: hr, k⟩ Q := p_st0 ho hw hd hx hT hy hs hsz hle e g
theorem pS1 {a0 : Nat × Blk} {hr : List (Nat × Blk)} {b off : Nat} {T T' : TypeId} {x y : Operand} {ds ds' : List D} {ti0 : TI} {d : D} (g : opsD Try.prog C N ops rest ⟨t, a0 :: (b, .cells ds' T') :: hr, k⟩ Q) (ho : o.op = .store T x y := by rfl) (hw : wantD ops t o = some true := by rfl) (hd : o.dst = none := by rfl) (hx : opD t x = some (.ptr b off) := by rfl) (hT : ti tab T = some ti0 := by rfl) (hy : opD t y = some d := by rfl) (hs : stor d = true := by rfl) (hsz : Nat.beq (dcells d).length ti0.size = true := by rfl) (hle : Nat.ble (off + ti0.size) ds.length = true := by rfl) (e : lay ds off (dcells d) = ds' := by rfl) : opsD Try.prog C N ops (o :: rest) ⟨t, a0 :: (b, .cells ds T') :: hr, k⟩ Q := p_st1 ho hw hd hx hT hy hs hsz hle e g
theorem pS2 {a0 a1 : Nat × Blk} {hr : List (Nat × Blk)} {b off : Nat} {T T' : TypeId} {x y : Operand} {ds ds' : List D} {ti0 : TI} {d : D} (g : opsD Try.prog C N ops rest ⟨t, a0 :: a1 :: (b, .cells ds' T') :: hr, k⟩ Q) (ho : o.op = .store T x y := by rfl) (hw : wantD ops t o = some true := by rfl) (hd : o.dst = none := by rfl) (hx : opD t x = some (.ptr b off) := by rfl) (hT : ti tab T = some ti0 := by rfl) (hy : opD t y = some d := by rfl) (hs : stor d = true := by rfl) (hsz : Nat.beq (dcells d).length ti0.size = true := by rfl) (hle : Nat.ble (off + ti0.size) ds.length = true := by rfl) (e : lay ds off (dcells d) = ds' := by rfl) : opsD Try.prog C N ops (o :: rest) ⟨t, a0 :: a1 :: (b, .cells ds T') :: hr, k⟩ Q := p_st2 ho hw hd hx hT hy hs hsz hle e g
theorem pS3 {a0 a1 a2 : Nat × Blk} {hr : List (Nat × Blk)} {b off : Nat} {T T' : TypeId} {x y : Operand} {ds ds' : List D} {ti0 : TI} {d : D} (g : opsD Try.prog C N ops rest ⟨t, a0 :: a1 :: a2 :: (b, .cells ds' T') :: hr, k⟩ Q) (ho : o.op = .store T x y := by rfl) (hw : wantD ops t o = some true := by rfl) (hd : o.dst = none := by rfl) (hx : opD t x = some (.ptr b off) := by rfl) (hT : ti tab T = some ti0 := by rfl) (hy : opD t y = some d := by rfl) (hs : stor d = true := by rfl) (hsz : Nat.beq (dcells d).length ti0.size = true := by rfl) (hle : Nat.ble (off + ti0.size) ds.length = true := by rfl) (e : lay ds off (dcells d) = ds' := by rfl) : opsD Try.prog C N ops (o :: rest) ⟨t, a0 :: a1 :: a2 :: (b, .cells ds T') :: hr, k⟩ Q := p_st3 ho hw hd hx hT hy hs hsz hle e g
theorem pS4 {a0 a1 a2 a3 : Nat × Blk} {hr : List (Nat × Blk)} {b off : Nat} {T T' : TypeId} {x y : Operand} {ds ds' : List D} {ti0 : TI} {d : D} (g : opsD Try.prog C N ops rest ⟨t, a0 :: a1 :: a2 :: a3 :: (b, .cells ds' T') :: hr, k⟩ Q) (ho : o.op = .store T x y := by rfl) (hw : wantD ops t o = some true := by rfl) (hd : o.dst = none := by rfl) (hx : opD t x = some (.ptr b off) := by rfl) (hT : ti tab T = some ti0 := by rfl) (hy : opD t y = some d := by rfl) (hs : stor d = true := by rfl) (hsz : Nat.beq (dcells d).length ti0.size = true := by rfl) (hle : Nat.ble (off + ti0.size) ds.length = true := by rfl) (e : lay ds off (dcells d) = ds' := by rfl) : opsD Try.prog C N ops (o :: rest) ⟨t, a0 :: a1 :: a2 :: a3 :: (b, .cells ds T') :: hr, k⟩ Q := p_st4 ho hw hd hx hT hy hs hsz hle e g
end
section
variable {P : Program} {C : Ctx} {N : Nat} {l : List Oper} {m : Nat} {De : Nat → D} {al : AL} {pre : List (List Nat)} {ev : List Nat} {h : List (Nat × Blk)} {k : List (Nat × Value)} {Q : Exit → S → Prop} {bs : Nat → Nat} {i : Nat} {o : Oper} {rest : List Oper} {te : TE}
end
end Go.Proofs.Ytfepijllmfedfaa.Ab
namespace Go.Proofs.Ytfepijllmfedfaa.Ab
open Go
set_option linter.all false
section
variable {P : Program} {C : Ctx} {N : Nat} {ops rest : List Oper} {o : Oper} {t : List (Nat × D)} {h : List (Nat × Blk)} {k : List (Nat × Value)} {Q : Exit → S → Prop} {tab : List (Option TI)}
end
theorem grown_of {P : Program} {f : FuncId} {us : List Value} {ds : List D} {r : Value} (c : CallsD P f ds [] [] (fun d h k => d = .v r ∧ h = [] ∧ k = [])) (W : World) (h1 : RepsV (fun _ => none) ds us) :
    Calls P f us.toArray W fun e w' => e = .returned r ∧ ∃ q os', w' = Sort.grow (W.drewN q) os' := by
  have := c.2 (fun _ => none) W us h1 (fun a v e => by cases e) (by simp) (by simp) (by simp [claims])
  refine this.mono fun e w' ⟨v, H', d, h', k', he, hr, hc, h2, _, _⟩ => ?_
  subst h2
  have := rep_v_inv hr
  subst this
  refine ⟨he, w'.drawn - W.drawn, w'.heap.extract W.heap.size w'.heap.size, ?_⟩
  have hsz := hc.size
  have hsame : ∀ b, b < W.heap.size → w'.heap[b]? = W.heap[b]? := fun b hb => hc.same b hb (by simp [claims])
  obtain ⟨e1, e2, e3, e4⟩ := hc.env
  simp only at hsz e1 e2 e3 e4
  obtain ⟨hp, tp, dr, os, out⟩ := w'
  simp only at *
  subst e1 e2 e3
  unfold Sort.grow World.drewN
  simp only [World.mk.injEq, true_and, and_true]
  refine ⟨?_, by omega⟩
  apply Array.ext_getElem?
  intro j
  rw [Array.getElem?_append]
  split
  · rename_i hj; rw [hsame j hj]
  · rename_i hj
    rw [Array.getElem?_extract]
    by_cases hl : j < hp.size
    · rw [if_pos (by omega)]; congr 1; omega
    · rw [Array.getElem?_eq_none (by omega), if_neg (by omega)]
end Go.Proofs.Ytfepijllmfedfaa.Ab
namespace Go.Proofs.Ytfepijllmfedfaa.Ab
open Go
set_option linter.all false
def eqD (tab : List (Option TI)) (ts : List Nat) : Nat → Nat → D → D → Option Bool
  | 0, _, _, _ => none
  | n + 1, t, x, y => match ti tab t with
    | none => none
    | some i => match i.d, x, y with
      | .struct fs, .agg ds, .agg es => bif ts.contains t then fs.foldr (fun f acc => match ti tab f.1 with
          | none => none
          | some j => match partD j ds f.2, partD j es f.2 with
            | some p, some q => match eqD tab ts n f.1 p q, acc with
              | some b, some r => some (b && r)
              | _, _ => none
            | _, _ => none) (some true) else none
      | .array m e, .agg ds, .agg es => bif ts.contains t then (match ti tab e with
          | none => none
          | some j => (List.range m).foldr (fun k acc => match partD j ds (k * j.size), partD j es (k * j.size) with
            | some p, some q => match eqD tab ts n e p q, acc with
              | some b, some r => some (b && r)
              | _, _ => none
            | _, _ => none) (some true)) else none
      | _, .v a, .v b => eqV i.d a b
      | _, _, _ => none
section
variable {P : Program} {C : Ctx} {N : Nat} {ops rest : List Oper} {o : Oper} {t : List (Nat × D)} {h : List (Nat × Blk)} {k : List (Nat × Value)} {Q : Exit → S → Prop} {tab : List (Option TI)}
theorem eqD_ok (hT : TabOK P tab) {ts : List Nat} (hE : ∀ t ∈ ts, EqT P t) {H : Hp} {w : World} (d : Nat) : ∀ (n t : Nat) (x y : D) (u v : Value) (b : Bool), eqD tab ts n t x y = some b → Rep H x u → Rep H y v → (Op.equalIn (d + n) t u v).run P w = .ok b w
  | 0, _, _, _, _, _, _, e, _, _ => by simp [eqD] at e
  | n + 1, t, x, y, u, v, b, e, hu, hv => by
    simp only [eqD] at e
    split at e
    · cases e
    · rename_i i hi
      obtain ⟨ti', z, dd, h5, h6, h7, _⟩ := tiOf_inv (ti_ok hT hi)
      split at e
      · rename_i fs ds es hd
        cases hc : ts.contains t with
        | false => rw [hc] at e; cases e
        | true =>
          rw [hc] at e
          simp only [cond_true] at e
          have hEt := hE t (by simpa using hc)
          obtain ⟨us, rfl, h2⟩ := rep_agg_inv hu
          obtain ⟨vs, rfl, h4⟩ := rep_agg_inv hv
          obtain ⟨gs, rfl, h8⟩ := td_struct (h7.trans hd)
          have hf : P.fieldsOf t = gs := by unfold Program.fieldsOf; rw [h6]
          show (Op.equalIn ((d + n) + 1) t _ _).run P w = _
          rw [run_equalIn_struct w (d + n) t _ _ (by rw [h6, hf]) hEt.stood]
          have hn := hEt.names
          rw [hf] at hn ⊢
          generalize gs.toList = L at h8 hn
          subst h8
          clear h6 h7 hd hi hf
          induction L generalizing b with
          | nil => simp at e; subst e; rfl
          | cons g L ih =>
            simp only [List.all_cons, Bool.and_eq_true, bne_iff_ne] at hn
            simp only [List.map_cons, List.foldr_cons] at e
            split at e
            · cases e
            · rename_i j hj
              split at e
              · rename_i p q hp hq
                split at e
                · rename_i b0 r0 hb hr
                  simp only [Option.some.injEq] at e
                  have ih' := ih r0 hn.2 hr
                  obtain ⟨v1, p1, q1⟩ := run_part (P := P) (w := w) (ti_ok hT hj) h2 hp
                  obtain ⟨v2, p2, q2⟩ := run_part (P := P) (w := w) (ti_ok hT hj) h4 hq
                  unfold Op.eqFields
                  rw [if_pos hn.1, run_bind_ok p1, run_bind_ok p2, run_bind_ok (eqD_ok hT hE d n _ _ _ _ _ _ hb q1 q2)]
                  cases b0 with
                  | false => simp at e; subst e; rfl
                  | true => simp at e; subst e; simpa using ih'
                · cases e
              · cases e
      · rename_i m e' ds es hd
        cases hc : ts.contains t with
        | false => rw [hc] at e; cases e
        | true =>
          rw [hc] at e
          simp only [cond_true] at e
          split at e
          · cases e
          · rename_i j hj
            obtain ⟨us, rfl, h2⟩ := rep_agg_inv hu
            obtain ⟨vs, rfl, h4⟩ := rep_agg_inv hv
            have hdd := td_array (h7.trans hd); subst hdd
            obtain ⟨ie, _, _, h8, _, _, h9, _⟩ := tiOf_inv (ti_ok hT hj)
            have hce : P.cellsOf e' = j.size := by unfold Program.cellsOf; rw [h8]; exact h9
            show (Op.equalIn ((d + n) + 1) t _ _).run P w = _
            rw [run_equalIn_array w (d + n) _ _ h6 h8, hce]
            generalize List.range m = L at e
            clear h6 h7 hd hi
            induction L generalizing b with
            | nil => simp at e; subst e; rfl
            | cons g L ih =>
              simp only [List.foldr_cons] at e
              split at e
              · rename_i p q hp hq
                split at e
                · rename_i b0 r0 hb hr
                  simp only [Option.some.injEq] at e
                  have ih' := ih r0 hr
                  obtain ⟨v1, p1, q1⟩ := run_part (P := P) (w := w) (ti_ok hT hj) h2 hp
                  obtain ⟨v2, p2, q2⟩ := run_part (P := P) (w := w) (ti_ok hT hj) h4 hq
                  unfold Op.eqItems
                  rw [run_bind_ok p1, run_bind_ok p2, run_bind_ok (eqD_ok hT hE d n _ _ _ _ _ _ hb q1 q2)]
                  cases b0 with
                  | false => simp at e; subst e; rfl
                  | true => simp at e; subst e; simpa using ih'
                · cases e
              · cases e
      · rename_i a c hne1 hne2
        have := rep_v_inv hu; subst this
        have := rep_v_inv hv; subst this
        exact eqV_ok (ti_ok hT hi) (d + n) e
      · cases e
theorem x_eqC {op : BinOp} {neg : Bool} {xt yt : TypeId} {x y : Operand} {ds es : D} {b : Bool} (ts : List Nat) (hT : TabOK P tab) (ho : o.op = .binOp op xt x y yt)
    (hop : isNeq op = some neg) (hE : ∀ t ∈ ts, EqT P t) (hg : P.eqGuardType P.depth xt = false) (hx : opD t x = some ds) (hy : opD t y = some es) (ha : (match ds, es with | .agg _, .agg _ => true | _, _ => false) = true) (e : eqD tab ts 8 xt ds es = some b) : ∀ H a w, TOK H t a → ∃ v, (execOp a.eval o).run P w = .ok (.value v) w ∧ Rep H (.v (.bool (bif neg then !b else b))) v :=
  fun H a w kt => by
    refine ⟨.bool (bif neg then !b else b), ?_, rep_v rfl⟩
    have hu := opD_ok kt hx
    have hv := opD_ok kt hy
    cases ds <;> cases es <;> simp only [Bool.false_eq_true] at ha
    have hq := eqD_ok (w := w) hT hE 9992 8 xt _ _ _ _ b e hu hv
    obtain ⟨us, h1, h2⟩ := rep_agg_inv hu
    obtain ⟨vs, h3, h4⟩ := rep_agg_inv hv
    unfold execOp
    rw [ho]
    refine exec_v ?_
    rw [h1, h3] at hq ⊢
    rw [run_bind_ok (run_eqGuard_agg w op xt x y _ _ hg)]
    have hq' : (Op.equalIn 10000 xt (.agg us.toArray) (.agg vs.toArray)).run P w = .ok b w := hq
    cases op <;> simp [isNeq] at hop <;> subst hop
    · rw [run_eql_struct, hq']; rfl
    · rw [run_neq_struct, hq']; rfl
theorem p_eqC {i : Nat} {op : BinOp} {neg : Bool} {xt yt : TypeId} {x y : Operand} {ds es : D} {b : Bool} (ts : List Nat) (hT : TabOK P tab) (ho : o.op = .binOp op xt x y yt) (hw : wantD ops t o = some true) (hd : o.dst = some i) (hi : Nat.blt i N = true)
    (hop : isNeq op = some neg) (hE : ∀ t ∈ ts, EqT P t) (hg : P.eqGuardType P.depth xt = false) (hx : opD t x = some ds) (hy : opD t y = some es) (ha : (match ds, es with | .agg _, .agg _ => true | _, _ => false) = true) (e : eqD tab ts 8 xt ds es = some b)
    (g : opsD P C N ops rest ⟨(i, .v (.bool (bif neg then !b else b))) :: t, h, k⟩ Q) : opsD P C N ops (o :: rest) ⟨t, h, k⟩ Q :=
  ops_run (s := ⟨t, h, k⟩) hw hd hi (x_eqC ts hT ho hop hE hg hx hy ha e) g
end
def nilB : D → D → Option Bool
  | .ptr _ _, .v (.pointer none) => some false
  | .v (.pointer none), .ptr _ _ => some false
  | .el _, .v (.pointer none) => some false
  | .v (.pointer none), .el _ => some false
  | .v (.pointer none), .v (.pointer none) => some true
  | _, _ => none
section
variable {P : Program} {C : Ctx} {N : Nat} {ops rest : List Oper} {o : Oper} {t : List (Nat × D)} {h : List (Nat × Blk)} {k : List (Nat × Value)} {Q : Exit → S → Prop} {tab : List (Option TI)}
theorem x_eqP {op : BinOp} {neg : Bool} {xt yt : TypeId} {x y : Operand} {ti0 : TI} {el : Nat} {dx dy : D} {b : Bool} (hT : TabOK P tab) (ho : o.op = .binOp op xt x y yt)
    (hop : isNeq op = some neg) (hx : opD t x = some dx) (hy : opD t y = some dy) (hti : ti tab xt = some ti0) (hs : ti0.d = .ptr el) (e : nilB dx dy = some b) : ∀ H a w, TOK H t a → ∃ v, (execOp a.eval o).run P w = .ok (.value v) w ∧ Rep H (.v (.bool (bif neg then !b else b))) v :=
  fun H a w kt => by
    refine ⟨.bool (bif neg then !b else b), ?_, rep_v rfl⟩
    have hu := opD_ok kt hx
    have hv := opD_ok kt hy
    obtain ⟨dd, h3, h4⟩ := run_underlying (w := w) (ti_ok hT hti)
    have := td_ptr (h4.trans hs); subst this
    have key : ∃ p q : Option Addr, a.eval x = .pointer p ∧ a.eval y = .pointer q ∧ ((p = none ∧ b = q.isNone) ∨ (q = none ∧ b = p.isNone)) := by
      unfold nilB at e
      split at e
      · obtain ⟨h1, h2⟩ := hu
        have := rep_v_inv hv
        simp only [RepC] at h1
        cases hq : a.eval x <;> rw [hq] at h1 h2 <;> simp [D.shape, Value.cells] at h1 h2
        subst h1
        simp only [Option.some.injEq] at e; subst e
        exact ⟨_, _, rfl, this, .inr ⟨rfl, rfl⟩⟩
      · obtain ⟨h1, h2⟩ := hv
        have := rep_v_inv hu
        simp only [RepC] at h1
        cases hq : a.eval y <;> rw [hq] at h1 h2 <;> simp [D.shape, Value.cells] at h1 h2
        subst h1
        simp only [Option.some.injEq] at e; subst e
        exact ⟨_, _, this, rfl, .inl ⟨rfl, rfl⟩⟩
      · obtain ⟨h1, h2⟩ := hu
        have := rep_v_inv hv
        simp only [RepC] at h1
        obtain ⟨_, _, _, h1, _⟩ := h1
        cases hq : a.eval x <;> rw [hq] at h1 h2 <;> simp [D.shape, Value.cells] at h1 h2
        subst h1
        simp only [Option.some.injEq] at e; subst e
        exact ⟨_, _, rfl, this, .inr ⟨rfl, rfl⟩⟩
      · obtain ⟨h1, h2⟩ := hv
        have := rep_v_inv hu
        simp only [RepC] at h1
        obtain ⟨_, _, _, h1, _⟩ := h1
        cases hq : a.eval y <;> rw [hq] at h1 h2 <;> simp [D.shape, Value.cells] at h1 h2
        subst h1
        simp only [Option.some.injEq] at e; subst e
        exact ⟨_, _, this, rfl, .inl ⟨rfl, rfl⟩⟩
      · have h1 := rep_v_inv hu
        have h2 := rep_v_inv hv
        simp only [Option.some.injEq] at e; subst e
        exact ⟨_, _, h1, h2, .inl ⟨rfl, rfl⟩⟩
      · cases e
    obtain ⟨p, q, e1, e2, e3⟩ := key
    have hq : (Op.equal xt (.pointer p) (.pointer q)).run P w = .ok b w := by
      show (Op.equalIn (9999 + 1) xt _ _).run P w = _
      rw [Op.equalIn, run_bind_ok h3]
      rcases e3 with ⟨rfl, rfl⟩ | ⟨rfl, rfl⟩
      · rfl
      · cases p <;> rfl
    unfold execOp
    rw [ho]
    refine exec_v ?_
    rw [e1, e2]
    have hg : (eqGuard op xt x y (.pointer p) (.pointer q)).run P w = .ok () w := by
      cases op <;> simp [eqGuard]
    rw [run_bind_ok hg]
    cases op <;> simp [isNeq] at hop <;> subst hop
    · show (do pure (Value.bool (← Op.equal xt _ _)) : Sem Value).run P w = _
      rw [run_bind_ok hq]; rfl
    · show (do pure (Value.bool (!(← Op.equal xt _ _))) : Sem Value).run P w = _
      rw [run_bind_ok hq]; rfl
theorem p_eqP {i : Nat} {op : BinOp} {neg : Bool} {xt yt : TypeId} {x y : Operand} {ti0 : TI} {el : Nat} {dx dy : D} {b : Bool} (hT : TabOK P tab) (ho : o.op = .binOp op xt x y yt) (hw : wantD ops t o = some true) (hd : o.dst = some i) (hi : Nat.blt i N = true)
    (hop : isNeq op = some neg) (hx : opD t x = some dx) (hy : opD t y = some dy) (hti : ti tab xt = some ti0) (hs : ti0.d = .ptr el) (e : nilB dx dy = some b)
    (g : opsD P C N ops rest ⟨(i, .v (.bool (bif neg then !b else b))) :: t, h, k⟩ Q) : opsD P C N ops (o :: rest) ⟨t, h, k⟩ Q :=
  ops_run (s := ⟨t, h, k⟩) hw hd hi (x_eqP hT ho hop hx hy hti hs e) g
end
end Go.Proofs.Ytfepijllmfedfaa.Ab
namespace Go.Proofs.Ytfepijllmfedfaa.Ab
open Go
set_option linter.all false
def fieldsOK (tab : List (Option TI)) (ts : List Nat) : Nat → List (Nat × Nat) → Option Nat
  | off, [] => some off
  | off, (ty, o) :: fs => match ti tab ty with
    | some i => bif Nat.beq o off && ts.contains ty then fieldsOK tab ts (off + i.size) fs else none
    | none => none
def typeOK (tab : List (Option TI)) (ts : List Nat) (t : Nat) : Bool :=
  match ti tab t with
  | some i => match i.d with
    | .bool => Nat.beq i.size 1
    | .int _ => Nat.beq i.size 1
    | .str => Nat.beq i.size 1
    | .slice e => ts.contains e && Nat.beq i.size 1 && (match ti tab e with | some ie => Nat.ble 1 ie.size | none => false)
    | .struct fs => match fieldsOK tab ts 0 fs with
      | some n => Nat.beq n i.size
      | none => false
    | .array n e => ts.contains e && (match ti tab e with | some ie => Nat.beq i.size (n * ie.size) | none => false)
    | _ => false
  | none => false
def closedT (tab : List (Option TI)) (ts : List Nat) : Bool := ts.all (typeOK tab ts)
def GoodT (tab : List (Option TI)) : Nat → Nat → D → Prop
  | 0, _, _ => False
  | n + 1, t, d => ∃ i, ti tab t = some i ∧ match i.d with
    | .bool => ∃ b, d = .v (.bool b)
    | .int k => ∃ m, d = .v (.int k m) ∧ (Lit.int k m).wf = true
    | .str => ∃ s : ByteArray, d = .v (.string s) ∧ s.size ≤ maxLen
    | .slice e => ∃ ie xs, ti tab e = some ie ∧ d = .lst ie.size xs .no ∧ xs.length ≤ maxLen ∧ ∀ x ∈ xs, GoodT tab n e x
    | .struct fs => ∃ ds : List D, d = .agg (ds.flatMap dcells) ∧ ds.length = fs.length ∧ ∀ (j : Nat) (f : Nat × Nat) (d0 : D), fs[j]? = some f → ds[j]? = some d0 → GoodT tab n f.1 d0
    | .array m e => ∃ ds : List D, d = .agg (ds.flatMap dcells) ∧ ds.length = m ∧ ∀ x ∈ ds, GoodT tab n e x
    | _ => False
section
variable {H : Type} {enc : TypeId × Value → H} {P : Program} {w : World} {base : Nat} {spare : Nat → Bool} {held : Bool} {tab : List (Option TI)} {ts : List Nat}
theorem cellsOf_ti (hT : TabOK P tab) {t : TypeId} {i : TI} (h : ti tab t = some i) : P.cellsOf t = i.size := by
  obtain ⟨tf, z, dd, h1, _, _, h2, _⟩ := tiOf_inv (ti_ok hT h)
  simp [Program.cellsOf, h1, h2]
def allOf (w : World) : Hp := fun a => w.cell? a
theorem ag_all (w : World) : Ag (allOf w) w := fun _ _ h => h
def Rd (tab : List (Option TI)) (w : World) (n t : Nat) (cs : List Value) (d : D) : Prop :=
  ∃ i, ti tab t = some i ∧ RepC (allOf w) d cs ∧ Reps (allOf w) (dcells d) cs ∧ cs.length = i.size ∧ (dcells d).length = i.size ∧ GoodT tab n t d
theorem rd_fields (hT : TabOK P tab) {n : Nat} {cs : List Value} (ih : ∀ t cs x, ts.contains t = true → DataW.trod enc P w base spare held n t cs = some x → ∃ d, Rd tab w n t cs d) :
    ∀ (gs : List Field) (off total : Nat), fieldsOK tab ts off (gs.map fun f => (f.type, f.offset)) = some total → total ≤ cs.length → (∀ f ∈ gs, ∃ y, DataW.trod enc P w base spare held n f.type ((cs.drop f.offset).take (P.cellsOf f.type)) = some y) →
      off ≤ total ∧ ∃ ds : List D, ds.length = gs.length ∧ Reps (allOf w) (ds.flatMap dcells) ((cs.drop off).take (total - off)) ∧ (ds.flatMap dcells).length = total - off ∧ ∀ (j : Nat) (f : Nat × Nat) (d0 : D), (gs.map fun f => (f.type, f.offset))[j]? = some f → ds[j]? = some d0 → GoodT tab n f.1 d0
  | [], off, total, h, _, _ => by
    simp [fieldsOK] at h; subst h
    exact ⟨Nat.le_refl _, [], rfl, by simp [Reps], by simp, fun j f d0 e => by simp at e⟩
  | g :: gs, off, total, h, hl, hy => by
    simp only [List.map_cons, fieldsOK] at h
    split at h
    · rename_i i hi
      cases hb : (Nat.beq g.offset off && ts.contains g.type) with
      | false => rw [hb] at h; cases h
      | true =>
        rw [hb] at h
        simp only [cond_true] at h
        simp only [Bool.and_eq_true] at hb
        have ho := Nat.eq_of_beq_eq_true hb.1
        obtain ⟨y, hy0⟩ := hy g (by simp)
        obtain ⟨d, i', hi', h1, h2, h3, h4, h5⟩ := ih _ _ y hb.2 hy0
        rw [hi] at hi'; cases hi'
        obtain ⟨hle, ds, e1, e2, e3, e4⟩ := rd_fields hT ih gs (off + i.size) total h hl fun f hf => hy f (by simp [hf])
        rw [cellsOf_ti hT hi, ho] at h2
        refine ⟨by omega, d :: ds, by simp [e1], ?_, by simp [h4, e3]; omega, ?_⟩
        · simp only [List.flatMap_cons]
          have := reps_append h2 e2
          have e : (cs.drop off).take i.size ++ (cs.drop (off + i.size)).take (total - (off + i.size)) = (cs.drop off).take (total - off) := by
            rw [show total - off = i.size + (total - (off + i.size)) by omega, List.take_add, List.drop_drop]
          rwa [e] at this
        · intro j f d0 hf hd
          cases j with
          | zero => simp at hf hd; subst hf; subst hd; exact h5
          | succ j => exact e4 j f d0 (by simpa using hf) (by simpa using hd)
    · cases h
theorem rd_elems {n e sz b off : Nat} {ie : TI} (hie : ti tab e = some ie) (hsz : ie.size = sz) (he : ts.contains e = true) (ih : ∀ t cs x, ts.contains t = true → DataW.trod enc P w base spare held n t cs = some x → ∃ d, Rd tab w n t cs d) :
    ∀ (m i0 : Nat), (∀ i, i0 ≤ i → i < i0 + m → ∃ cs y, w.cells? base ((⟨b, off, none⟩ : Addr).add (i * sz)) sz = some cs ∧ DataW.trod enc P w base spare held n e cs = some y) →
      ∃ xs : List D, xs.length = m ∧ Els (allOf w) sz b (off + i0 * sz) xs ∧ ∀ x ∈ xs, GoodT tab n e x
  | 0, i0, _ => ⟨[], rfl, by simp [Els], by simp⟩
  | m + 1, i0, h => by
    obtain ⟨cs, y, h1, h2⟩ := h i0 (Nat.le_refl _) (by omega)
    obtain ⟨d, i', hi', g1, g2, g3, g4, g5⟩ := ih e cs y he h2
    rw [hie] at hi'; cases hi'
    obtain ⟨xs, f1, f2, f3⟩ := rd_elems hie hsz he ih m (i0 + 1) fun i hi hi' => h i (by omega) (by omega)
    refine ⟨d :: xs, by simp [f1], ?_, ?_⟩
    · simp only [Els]
      refine ⟨⟨cs, by rw [g3, hsz], g1, fun j u hj => ?_, reps_one g2⟩, ?_⟩
      · obtain ⟨_, hlen, hc⟩ := World.cells?_some h1
        have hjl : j < sz := by rw [← hlen]; exact (List.getElem?_eq_some_iff.1 hj).1
        have := hc j hjl
        rw [addr_add, addr_add] at this
        show w.cell? _ = _
        rw [this]; exact hj
      · rw [show off + i0 * sz + sz = off + (i0 + 1) * sz by rw [Nat.add_mul]; omega]; exact f2
    · intro x hx
      rcases List.mem_cons.1 hx with rfl | hx
      · exact g5
      · exact f3 x hx
theorem rd_arr {n e sz : Nat} {ie : TI} {cs : List Value} (hie : ti tab e = some ie) (hsz : ie.size = sz) (he : ts.contains e = true) (ih : ∀ t cs x, ts.contains t = true → DataW.trod enc P w base spare held n t cs = some x → ∃ d, Rd tab w n t cs d) :
    ∀ (m i0 : Nat), (∀ i, i0 ≤ i → i < i0 + m → ∃ y, DataW.trod enc P w base spare held n e ((cs.drop (i * sz)).take sz) = some y) →
      ∃ ds : List D, ds.length = m ∧ Reps (allOf w) (ds.flatMap dcells) ((cs.drop (i0 * sz)).take (m * sz)) ∧ (ds.flatMap dcells).length = m * sz ∧ ∀ x ∈ ds, GoodT tab n e x
  | 0, i0, _ => ⟨[], rfl, by simp [Reps], by simp, by simp⟩
  | m + 1, i0, h => by
    obtain ⟨y, h2⟩ := h i0 (Nat.le_refl _) (by omega)
    obtain ⟨d, i', hi', g1, g2, g3, g4, g5⟩ := ih e _ y he h2
    rw [hie] at hi'; cases hi'
    obtain ⟨ds, f1, f2, f3, f4⟩ := rd_arr hie hsz he ih m (i0 + 1) fun i hi hi' => h i (by omega) (by omega)
    refine ⟨d :: ds, by simp [f1], ?_, ?_, ?_⟩
    · simp only [List.flatMap_cons]
      have := reps_append g2 f2
      have e2 : (cs.drop (i0 * sz)).take sz ++ (cs.drop ((i0 + 1) * sz)).take (m * sz) = (cs.drop (i0 * sz)).take ((m + 1) * sz) := by
        rw [show (m + 1) * sz = sz + m * sz by rw [Nat.add_mul]; omega, List.take_add, List.drop_drop, show i0 * sz + sz = (i0 + 1) * sz by rw [Nat.add_mul]; omega]
      rwa [e2] at this
    · simp only [List.flatMap_cons, List.length_append, f3, g4, hsz]
      rw [Nat.add_mul]; omega
    · intro x hx
      rcases List.mem_cons.1 hx with rfl | hx
      · exact g5
      · exact f4 x hx
theorem rd (hT : TabOK P tab) (hc : closedT tab ts = true) : ∀ (n : Nat) (t : TypeId) (cs : List Value) (x : DataW H × List MemPlace), ts.contains t = true → DataW.trod enc P w base spare held n t cs = some x → ∃ d, Rd tab w n t cs d := by
  intro n
  induction n with
  | zero => intro t cs x _ h; simp [DataW.trod] at h
  | succ n ih =>
    intro t cs x ht h
    have hok : typeOK tab ts t = true := by
      unfold closedT at hc
      rw [List.all_eq_true] at hc
      exact hc t (by simpa using ht)
    unfold typeOK at hok
    split at hok
    · rename_i i hi
      obtain ⟨tf, z, dd, h1, h2, h3, h4, _⟩ := tiOf_inv (ti_ok hT hi)
      split at hok
      · rename_i hd
        have hs := Nat.eq_of_beq_eq_true hok
        obtain ⟨b, rfl, _⟩ := DataW.trod_bool (by rw [h2, td_bool (h3.trans hd)]) h
        refine ⟨.v (.bool b), i, hi, by simp [RepC], ?_, by simp [hs], by simp [dcells, hs], ?_⟩
        · simp only [dcells, Reps]; exact ⟨_, _, rfl, ⟨by simp [RepC], rfl, rfl⟩, rfl⟩
        · unfold GoodT; exact ⟨i, hi, by rw [hd]; exact ⟨b, rfl⟩⟩
      · rename_i k hd
        have hs := Nat.eq_of_beq_eq_true hok
        obtain ⟨m, rfl, _, hwf⟩ := DataW.trod_int (by rw [h2, td_int (h3.trans hd)]) h
        refine ⟨.v (.int k m), i, hi, by simp [RepC], ?_, by simp [hs], by simp [dcells, hs], ?_⟩
        · simp only [dcells, Reps]; exact ⟨_, _, rfl, ⟨by simp [RepC], rfl, rfl⟩, rfl⟩
        · unfold GoodT; exact ⟨i, hi, by rw [hd]; exact ⟨m, rfl, hwf⟩⟩
      · rename_i hd
        have hs := Nat.eq_of_beq_eq_true hok
        obtain ⟨s, rfl, _, hwf⟩ := DataW.trod_string (by rw [h2, td_str (h3.trans hd)]) h
        refine ⟨.v (.string s), i, hi, by simp [RepC], ?_, by simp [hs], by simp [dcells, hs], ?_⟩
        · simp only [dcells, Reps]; exact ⟨_, _, rfl, ⟨by simp [RepC], rfl, rfl⟩, rfl⟩
        · unfold GoodT; exact ⟨i, hi, by rw [hd]; exact ⟨s, rfl, hwf⟩⟩
      · rename_i e hd
        simp only [Bool.and_eq_true] at hok
        obtain ⟨⟨he, hs⟩, hsz⟩ := hok
        have hs := Nat.eq_of_beq_eq_true hs
        split at hsz
        · rename_i ie hie
          have hsz := Nat.le_of_ble_eq_true hsz
          rcases DataW.trod_slice (by rw [h2, td_slice (h3.trans hd)]) h with ⟨rfl, _⟩ | ⟨a, len, cap, elems, rest, n', hf, rfl, _, hb, hlc, hcm, hel, hcells, _, _⟩
          · have hr : RepC (allOf w) (.lst ie.size [] .no) [.slice none 0 0] := by
              simp only [RepC, CapOK]; exact ⟨_, rfl, trivial, .inl ⟨by trivial, none, 0, rfl, fun _ => rfl⟩⟩
            refine ⟨.lst ie.size [] .no, i, hi, hr, ?_, by simp [hs], by simp [dcells, hs], ?_⟩
            · simp only [dcells, Reps]; exact ⟨_, _, rfl, ⟨hr, rfl, rfl⟩, rfl⟩
            · unfold GoodT; exact ⟨i, hi, by rw [hd]; exact ⟨ie, [], hie, rfl, by simp, by simp⟩⟩
          · have : n' = n := by omega
            subst this
            rw [cellsOf_ti hT hie] at hcells
            rcases Nat.eq_zero_or_pos len with hz | hpos
            · subst hz
              have hr : RepC (allOf w) (.lst ie.size [] .no) [.slice (some a) 0 cap] := by
                simp only [RepC, CapOK]; exact ⟨_, rfl, trivial, .inl ⟨by trivial, some a, cap, rfl, fun q => by cases q⟩⟩
              refine ⟨.lst ie.size [] .no, i, hi, hr, ?_, by simp [hs], by simp [dcells, hs], ?_⟩
              · simp only [dcells, Reps]; exact ⟨_, _, rfl, ⟨hr, rfl, rfl⟩, rfl⟩
              · unfold GoodT; exact ⟨i, hi, by rw [hd]; exact ⟨ie, [], hie, rfl, by simp, by simp⟩⟩
            · have hsome : ∀ j, j < len → ∃ cs y, w.cells? base (a.add (j * ie.size)) ie.size = some cs ∧ DataW.trod enc P w base spare held n' e cs = some y := by
                intro j hj
                have hj2 := hcells j hj
                rw [List.getElem?_eq_getElem (by omega)] at hj2
                rw [Option.bind_eq_some_iff] at hj2
                obtain ⟨cs, q1, q2⟩ := hj2
                exact ⟨cs, _, q1, q2⟩
              have hspot : a.spot = none := by
                obtain ⟨cs, y, q1, _⟩ := hsome 0 hpos
                obtain ⟨_, hlen, hcc⟩ := World.cells?_some q1
                have q2 := hcc 0 (by omega)
                rw [List.getElem?_eq_getElem (by omega)] at q2
                have q3 : (a.add (0 * ie.size)).add 0 = a := by simp [Addr.add]
                rw [q3] at q2
                cases hsp : a.spot with
                | none => rfl
                | some s =>
                  unfold World.cell? at q2
                  split at q2
                  · simp [hsp] at q2
                  · cases q2
              obtain ⟨b, off, sp⟩ := a
              simp only at hspot; subst hspot
              obtain ⟨xs, f1, f2, f3⟩ := rd_elems (spare := spare) (held := held) (enc := enc) (P := P) (base := base) hie rfl he ih len 0 fun j _ hj => hsome j (by omega)
              have hr : RepC (allOf w) (.lst ie.size xs .no) [.slice (some ⟨b, off, none⟩) len cap] := by
                simp only [RepC, CapOK]
                refine ⟨_, rfl, trivial, .inr ⟨b, off, cap, by rw [f1], by rw [f1]; exact hlc, by simpa using f2⟩⟩
              refine ⟨.lst ie.size xs .no, i, hi, hr, ?_, by simp [hs], by simp [dcells, hs], ?_⟩
              · simp only [dcells, Reps]; exact ⟨_, _, rfl, ⟨hr, rfl, rfl⟩, rfl⟩
              · unfold GoodT; exact ⟨i, hi, by rw [hd]; exact ⟨ie, xs, hie, rfl, by rw [f1]; omega, f3⟩⟩
        · cases hsz
      · rename_i fs hd
        split at hok
        · rename_i tot hfo
          have hs := Nat.eq_of_beq_eq_true hok
          obtain ⟨gs, e1, e2⟩ := td_struct (h3.trans hd)
          obtain ⟨xs, n', hf, _, hl, hxl, hx⟩ := DataW.trod_struct (by rw [h2, e1]) h
          have : n' = n := by omega
          subst this
          rw [cellsOf_ti hT hi] at hl
          obtain ⟨_, ds, f1, f2, f3, f4⟩ := rd_fields hT (cs := cs) ih gs.toList 0 tot (by rw [e2]; exact hfo) (by omega) fun f hfm => by
            obtain ⟨j, hj⟩ := List.getElem?_of_mem hfm
            have hj' : gs[j]? = some f := by simpa using hj
            have q := hx j f hj'
            have hjl : j < xs.length := by rw [hxl]; exact (Array.getElem?_eq_some_iff.1 hj').1
            rw [List.getElem?_eq_getElem hjl] at q
            exact ⟨_, q⟩
          simp only [List.drop_zero, Nat.sub_zero] at f2 f3
          rw [List.take_of_length_le (by omega)] at f2
          refine ⟨.agg (ds.flatMap dcells), i, hi, by simp only [RepC]; exact f2, f2, hl, by simp only [dcells]; omega, ?_⟩
          unfold GoodT
          exact ⟨i, hi, by rw [hd]; exact ⟨ds, rfl, by rw [f1, ← e2]; simp, fun j f d0 q1 q2 => f4 j f d0 (by rw [e2]; exact q1) q2⟩⟩
        · cases hok
      · rename_i m e hd
        simp only [Bool.and_eq_true] at hok
        obtain ⟨he, hsz⟩ := hok
        split at hsz
        · rename_i ie hie
          have hsz := Nat.eq_of_beq_eq_true hsz
          obtain ⟨xs, n', hf, _, hl, hxl, hx⟩ := DataW.trod_array (by rw [h2, td_array (h3.trans hd)]) h
          have : n' = n := by omega
          subst this
          rw [cellsOf_ti hT hi] at hl
          rw [cellsOf_ti hT hie] at hx
          obtain ⟨ds, f1, f2, f3, f4⟩ := rd_arr (cs := cs) hie rfl he ih m 0 fun j _ hj => by
            have q := hx j (by omega)
            rw [List.getElem?_eq_getElem (by omega)] at q
            exact ⟨_, q⟩
          simp only [Nat.zero_mul, List.drop_zero] at f2
          rw [List.take_of_length_le (by omega)] at f2
          refine ⟨.agg (ds.flatMap dcells), i, hi, by simp only [RepC]; exact f2, f2, hl, by simp only [dcells]; omega, ?_⟩
          unfold GoodT
          exact ⟨i, hi, by rw [hd]; exact ⟨ds, rfl, f1, f4⟩⟩
        · cases hsz
      · cases hok
    · cases hok
end
end Go.Proofs.Ytfepijllmfedfaa.Ab
namespace Go.Proofs.Ytfepijllmfedfaa.Ab
open Go
set_option linter.all false
section
variable {P : Program} {tab : List (Option TI)} {n t : Nat} {i : TI} {d : D}
theorem good_int {k : IntKind} (hi : ti tab t = some i) (hd : i.d = .int k) (g : GoodT tab n t d) : ∃ m, d = .v (.int k m) ∧ (Lit.int k m).wf = true := by
  cases n with
  | zero => simp [GoodT] at g
  | succ n =>
    unfold GoodT at g
    obtain ⟨i', h1, h2⟩ := g
    rw [hi] at h1; cases h1
    rw [hd] at h2; exact h2
theorem good_bool (hi : ti tab t = some i) (hd : i.d = .bool) (g : GoodT tab n t d) : ∃ b, d = .v (.bool b) := by
  cases n with
  | zero => simp [GoodT] at g
  | succ n =>
    unfold GoodT at g
    obtain ⟨i', h1, h2⟩ := g
    rw [hi] at h1; cases h1
    rw [hd] at h2; exact h2
theorem good_str (hi : ti tab t = some i) (hd : i.d = .str) (g : GoodT tab n t d) : ∃ s : ByteArray, d = .v (.string s) ∧ s.size ≤ maxLen := by
  cases n with
  | zero => simp [GoodT] at g
  | succ n =>
    unfold GoodT at g
    obtain ⟨i', h1, h2⟩ := g
    rw [hi] at h1; cases h1
    rw [hd] at h2; exact h2
theorem good_struct {fs : List (Nat × Nat)} (hi : ti tab t = some i) (hd : i.d = .struct fs) (g : GoodT tab n t d) : ∃ (n' : Nat) (ds : List D), n = n' + 1 ∧ d = .agg (ds.flatMap dcells) ∧ ds.length = fs.length ∧ ∀ (j : Nat) (f : Nat × Nat) (d0 : D), fs[j]? = some f → ds[j]? = some d0 → GoodT tab n' f.1 d0 := by
  cases n with
  | zero => simp [GoodT] at g
  | succ n =>
    unfold GoodT at g
    obtain ⟨i', h1, h2⟩ := g
    rw [hi] at h1; cases h1
    rw [hd] at h2
    obtain ⟨ds, h4, h5, h6⟩ := h2
    exact ⟨n, ds, rfl, h4, h5, h6⟩
theorem shape_of {w : World} {r : Reach} {base : Nat} {v : Value} (hT : TabOK P tab) (hv : Value.okWide P w r base t v) (g : GoodT tab n t d) : d.shape v = true := by
  cases n with
  | zero => simp [GoodT] at g
  | succ n =>
    unfold GoodT at g
    obtain ⟨i, hi, g⟩ := g
    obtain ⟨tf, z, dd, h1, h2, h3, _⟩ := tiOf_inv (ti_ok hT hi)
    unfold Value.okWide at hv
    rw [h2] at hv
    split at g
    · rename_i hd
      have := td_bool (h3.trans hd); subst this
      obtain ⟨b, rfl⟩ := g
      cases v <;> first | rfl | (simp [Cell.okWide, Cell.ok, h2] at hv)
    · rename_i k hd
      have := td_int (h3.trans hd); subst this
      obtain ⟨b, rfl, _⟩ := g
      cases v <;> first | rfl | (simp [Cell.okWide, Cell.ok, h2] at hv)
    · rename_i hd
      have := td_str (h3.trans hd); subst this
      obtain ⟨b, rfl, _⟩ := g
      cases v <;> first | rfl | (simp [Cell.okWide, Cell.ok, h2] at hv)
    · rename_i e hd
      have := td_slice (h3.trans hd); subst this
      obtain ⟨ie, xs, _, rfl, _⟩ := g
      cases v <;> first | rfl | (simp [Cell.okWide, Cell.ok, h2] at hv)
    · rename_i fs hd
      obtain ⟨gs, rfl, _⟩ := td_struct (h3.trans hd)
      obtain ⟨ds, rfl, _⟩ := g
      simp only at hv
      obtain ⟨cs, rfl, _⟩ := hv
      rfl
    · rename_i m e hd
      have := td_array (h3.trans hd); subst this
      obtain ⟨ds, rfl, _⟩ := g
      simp only at hv
      obtain ⟨cs, rfl, _⟩ := hv
      rfl
    · exact g.elim
theorem rd_arg {H : Type} {enc : TypeId × Value → H} {w : World} {base : Nat} {spare : Nat → Bool} {held : Bool} {v : Value} {x : DataW H} {ps : List MemPlace} {r : Reach} {b0 : Nat} (hT : TabOK P tab) (ts : List Nat) (hc : closedT tab ts = true) (ht : ts.contains t = true)
    (hv : Value.okWide P w r b0 t v) (h : DataW.Trod enc P w base spare held t v x ps) : ∃ n d, GoodT tab n t d ∧ Rep (allOf w) d v := by
  obtain ⟨n, hn⟩ := h
  obtain ⟨d, i, h1, h2, h3, h4, h5, h6⟩ := rd hT hc n t _ _ ht hn
  exact ⟨n, d, h6, h2, shape_of hT hv h6⟩
end
end Go.Proofs.Ytfepijllmfedfaa.Ab
namespace Go.Proofs.Ytfepijllmfedfaa
open Go.ChangeShapes Go.WideShapes Go.ChangeAt Go.RowKit Go.Joins
set_option linter.all false
theorem own : ownKnob Try.prog.godebug = none := by kernel_rfl
theorem laidOut' : laidOutB Try.prog = true := by kernel_rfl
theorem args_back {H : Type} {enc : TypeId × Value → H} {P : Program} {W : World} (hl : laidOutB P = true) : ∀ {ts : List TypeId} {vs : List Value} {ds : List (DataW H)} {ps : List MemPlace},
    (ts.all fun t => P.readableRec t && decide (t < P.types.size)) = true → DataW.TrodAll enc P W 0 (fun _ => true) true ts vs ds ps → (∀ x ∈ ps, x.block < W.heap.size) → ∀ W', Below W.heap.size W W' →
    ∀ sp : Nat → Bool, (∀ x ∈ ps, sp x.block = true) → DataW.TrodAll enc P W' 0 sp true ts vs ds ps
  | [], vs, ds, ps, _, h, _, W', hb, sp, hsp => by
    obtain ⟨rfl, rfl, rfl⟩ := trodAll_nil h
    exact trodAll_mk0
  | t :: ts, vs, ds, ps, hr, h, hlt, W', hb, sp, hsp => by
    obtain ⟨v, vs', d, ds', p, q, rfl, rfl, rfl, h0, h1⟩ := trodAll_cons h
    simp only [List.all_cons, Bool.and_eq_true, decide_eq_true_eq] at hr
    exact trodAll_cons_mk (WideElems.Trod_stays hl hr.1.1 hr.1.2 h0 (fun x hx => hb.same (hlt x (by simp [hx]))) (fun x hx => hsp x (by simp [hx])))
      (args_back hl hr.2 h1 (fun x hx => hlt x (by simp [hx])) W' hb sp (fun x hx => hsp x (by simp [hx])))
end Go.Proofs.Ytfepijllmfedfaa
namespace Go.Proofs.Ytfepijllmfedfaa.Ab
open Go
set_option linter.all false
section
variable {H : Type} {enc : TypeId × Value → H} {P : Program} {w : World} {base : Nat} {spare : Nat → Bool} {held : Bool} {tab : List (Option TI)} {ts : List Nat}
end
end Go.Proofs.Ytfepijllmfedfaa.Ab
namespace Go.Proofs.Ytfepijllmfedfaa.Ab
open Go
set_option linter.all false
section
variable {α β : Type} [DecidableEq α]
def mget : List (α × β) → α → Option β
  | [], _ => none
  | (a, b) :: l, k => if a = k then some b else mget l k
def mput : List (α × β) → α → β → List (α × β)
  | [], k, v => [(k, v)]
  | (a, b) :: l, k, v => if a = k then (k, v) :: l else (a, b) :: mput l k v
def mgetD (l : List (α × β)) (k : α) (z : β) : β := (mget l k).getD z
def ffind : List α → α → List MapEntry → Nat → Option (Nat × Value)
  | a :: ks, k, e :: me, i => if a = k then some (i, e.val) else ffind ks k me (i + 1)
  | _, _, _, _ => none
end
structure KeyOK (P : Program) (kt : TypeId) {α : Type} [DecidableEq α] (f : α → Value) : Prop where
  find : ∀ (w : World) (k : α) (me : List MapEntry) (ks : List α), me.map (·.key) = ks.map f → (Instr.findKey kt (f k) me).run P w = .ok (ffind ks k me 0) w
  check : ∀ (w : World) (e : Bool) (k : α), (Instr.checkKey e 10000 kt (f k)).run P w = .ok () w
  stays : ∀ (w : World) (k : α), (Instr.keyThatStays (f k) (f k)).run P w = .ok (f k) w
theorem str_key {P : Program} {kt : TypeId} (h : P.underlying kt = some .string) : KeyOK P kt (fun s : ByteArray => Value.string s) where
  find w k me ks e := by
    refine MapKept.run_findKey h ?_
    have : ∀ (ks : List ByteArray) (me : List MapEntry) (i : Nat), me.map (·.key) = ks.map (fun s => Value.string s) → Instr.findNow .string (.string k) me i = some (ffind ks k me i) := by
      intro ks
      induction ks with
      | nil => intro me i e; simp at e; subst e; rfl
      | cons a ks ih =>
        intro me i e
        cases me with
        | nil => cases e
        | cons m me =>
          simp only [List.map_cons, List.cons.injEq] at e
          have hb : (k == a) = decide (a = k) := by
            by_cases q : a = k
            · subst q; rw [decide_eq_true rfl]; exact (MapKept.bytes_beq _ _).2 rfl
            · rw [decide_eq_false q]
              cases hq : k == a with
              | false => rfl
              | true => exact absurd ((MapKept.bytes_beq _ _).1 hq).symm q
          unfold Instr.findNow ffind
          rw [e.1]
          simp only [Instr.sameNow, hb]
          by_cases q : a = k
          · rw [decide_eq_true q, if_pos q]
          · rw [decide_eq_false q, if_neg q]; exact ih me (i + 1) e.2
    exact this ks me 0 e
  check w e k := by
    have := MapKept.run_checkKey (w := w) h (k := .string k) (by simp [MapKept.IsKey]) e 9999
    exact this
  stays w k := MapKept.run_keyThatStays (d := .string) (by simp [MapKept.IsKey])
section
variable {α β : Type} [DecidableEq α] {f : α → Value} {e : β → D} {H : Hp}
theorem mapR_keys : ∀ {l : List (α × β)} {me : List MapEntry}, MapR H (l.map fun p => (f p.1, e p.2)) me → me.map (·.key) = (l.map (·.1)).map f
  | [], me, h => by simp [MapR] at h; subst h; rfl
  | p :: l, me, h => by
    simp only [List.map_cons, MapR] at h
    obtain ⟨m, me', rfl, h1, _, h2⟩ := h
    simp only [List.map_cons, h1, mapR_keys h2]
theorem mapR_find (k : α) : ∀ {l : List (α × β)} {me : List MapEntry} (i : Nat), MapR H (l.map fun p => (f p.1, e p.2)) me →
    (mget l k = none ∧ ffind (l.map (·.1)) k me i = none ∧ ∀ (v : β) (y : Value) (b : Nat), Rep H (e v) y → MapR H ((mput l k v).map fun p => (f p.1, e p.2)) (me ++ [⟨f k, y, b⟩])) ∨
    ∃ j b m, mget l k = some b ∧ ffind (l.map (·.1)) k me i = some (i + j, m.val) ∧ Rep H (e b) m.val ∧ me[j]? = some m ∧ m.key = f k ∧ ∀ (v : β) (y : Value), Rep H (e v) y → MapR H ((mput l k v).map fun p => (f p.1, e p.2)) (me.modify j fun x => { x with key := f k, val := y })
  | [], me, i, h => by
    simp [MapR] at h; subst h
    refine .inl ⟨rfl, rfl, fun v y b hy => ?_⟩
    simp only [mput, List.map_cons, List.map_nil, MapR, List.nil_append]
    exact ⟨_, _, rfl, rfl, hy, rfl⟩
  | p :: l, me, i, h => by
    simp only [List.map_cons, MapR] at h
    obtain ⟨m, me', rfl, h1, h2, h3⟩ := h
    by_cases q : p.1 = k
    · refine .inr ⟨0, p.2, m, by unfold mget; rw [if_pos q], by simp only [List.map_cons, ffind]; rw [if_pos q]; rfl, h2, rfl, by rw [h1, q], fun v y hy => ?_⟩
      simp only [mput, if_pos q, List.map_cons, MapR, List.modify_zero_cons]
      exact ⟨_, _, rfl, rfl, hy, h3⟩
    · rcases mapR_find k (i + 1) h3 with ⟨g1, g2, g3⟩ | ⟨j, b, m', g1, g2, g3, g4, g5, g6⟩
      · refine .inl ⟨by unfold mget; rw [if_neg q]; exact g1, by simp only [List.map_cons, ffind]; rw [if_neg q]; exact g2, fun v y b hy => ?_⟩
        simp only [mput, if_neg q, List.map_cons, MapR, List.cons_append]
        exact ⟨_, _, rfl, h1, h2, g3 v y b hy⟩
      · refine .inr ⟨j + 1, b, m', by unfold mget; rw [if_neg q]; exact g1, by simp only [List.map_cons, ffind]; rw [if_neg q, g2]; congr 2; omega, g3, by simpa using g4, g5, fun v y hy => ?_⟩
        simp only [mput, if_neg q, List.map_cons, MapR, List.modify_succ_cons]
        exact ⟨_, _, rfl, h1, h2, g6 v y hy⟩
end
theorem Core.allocMap {C : Ctx} {H : Hp} {h : List (Nat × Blk)} {k : List (Nat × Value)} {w : World} (c : Core C H h k w) :
    Core C H ((w.heap.size, .mp []) :: h) k (w.alloc (.map #[] 0)) := by
  have c0 : Core ⟨H, w, []⟩ H [(w.heap.size, .mp [])] [] (w.alloc (.map #[] 0)) := by
    refine ⟨fun a v e => cell_alloc _ (c.ag a v e), Hp.le_refl H, fun _ _ x => .inl x, fun b hb _ => ?_, ?_, ?_, by simp, ?_, ?_, ⟨rfl, rfl, rfl, Nat.le_refl _⟩⟩
    · rw [heap_alloc, if_neg (by exact Nat.ne_of_lt hb)]
    · rw [size_alloc]; exact Nat.le_succ _
    · intro p hp
      simp only [List.mem_singleton] at hp; subst hp
      refine ⟨#[], 0, by rw [heap_alloc, if_pos rfl], rfl, fun o => ?_⟩
      cases e : H ⟨w.heap.size, o, none⟩ with
      | none => rfl
      | some v => exact absurd (c.ag.lt e) (Nat.lt_irrefl _)
    · simp [claims, blkClaim]
    · intro b hb
      simp [claims, blkClaim] at hb; subst hb
      exact .inr (Nat.le_refl _)
  exact Core.call (h1 := []) (k1 := []) (h2 := h) (k2 := k) c c0
theorem Core.setMap {C : Ctx} {H : Hp} {h : List (Nat × Blk)} {k : List (Nat × Value)} {w : World} (c : Core C H h k w) {j b : Nat} {es es' : List (Value × D)} {me : Array MapEntry} {ck : Nat} (hj : h[j]? = some (b, .mp es))
    (hr : MapR H es' me.toList) : Core C H (h.set j (b, .mp es')) k { w with heap := w.heap.setIfInBounds b (.map me ck) } := by
  have hlt : j < h.length := (List.getElem?_eq_some_iff.1 hj).1
  have p1 : h.Perm ([(b, .mp es)] ++ h.eraseIdx j) := perm_at hj
  have c1 := c.perm p1 (List.Perm.refl k)
  obtain ⟨me0, ck0, h1, h2, h3⟩ := c.blks _ (List.mem_of_getElem? hj)
  have hs := MapKept.heap_set (w := w) (o' := .map me ck) h1
  have c2 : Core ⟨H, w, claims [(b, Blk.mp es)] []⟩ H [(b, .mp es')] [] { w with heap := w.heap.setIfInBounds b (.map me ck) } := by
    refine ⟨fun a v e => ?_, Hp.le_refl H, fun _ _ x => .inl x, fun i _ hm => hs.2 i (by simpa [claims, blkClaim] using hm), by simp, ?_, by simp, by simp [claims, blkClaim], ?_, ⟨rfl, rfl, rfl, Nat.le_refl _⟩⟩
    · have hne : a.block ≠ b := fun e2 => by
        obtain ⟨ab, ao, sp0⟩ := a
        simp only at e2; subst e2
        have hc := c.ag _ _ e
        cases sp0 with
        | none => rw [h3] at e; cases e
        | some s => simp [World.cell?, h1] at hc
      have := c.ag a v e
      simp only [World.cell?] at this ⊢
      rw [hs.2 _ hne]; exact this
    · intro p hp
      simp only [List.mem_singleton] at hp; subst hp
      exact ⟨me, ck, hs.1, hr, h3⟩
    · intro x hx
      exact .inl (by simpa [claims, blkClaim] using hx)
  have c3 := Core.call (h1 := [(b, .mp es)]) (k1 := []) (h2 := h.eraseIdx j) (k2 := k) (by simpa using c1) c2
  refine c3.perm ?_ (by simp)
  have p2 : (h.set j (b, Blk.mp es'))[j]? = some (b, Blk.mp es') := by rw [List.getElem?_set_self hlt]
  have p3 := perm_at p2
  rw [List.eraseIdx_set_eq] at p3
  exact p3.symm
section
variable {P : Program} {C : Ctx} {N : Nat} {ops rest : List Oper} {o : Oper} {t : List (Nat × D)} {h : List (Nat × Blk)} {k : List (Nat × Value)} {Q : Exit → S → Prop} {tab : List (Option TI)}
theorem p_makeMap {i : Nat} {T : TypeId} (ho : o.op = .makeMap T none) (hw : wantD ops t o = some true) (hd : o.dst = some i) (hi : Nat.blt i N = true)
    (g : ∀ b : Nat, opsD P C N ops rest ⟨(i, .v (.map (some b))) :: t, (b, .mp []) :: h, k⟩ Q) : opsD P C N ops (o :: rest) ⟨t, h, k⟩ Q :=
  ops_val (s := ⟨t, h, k⟩) hw hd hi fun H a w c kt => by
    refine ⟨.map (some w.heap.size), _, H, .v (.map (some w.heap.size)), _, k, ?_, Hp.le_refl H, c.allocMap, rep_v rfl, g w.heap.size⟩
    unfold execOp
    rw [ho]
    refine exec_v ?_
    rfl
theorem run_zv {w : World} {t : TypeId} {z : Value} (h : (P.info? t).bind (·.zero) = some z) : (Go.zeroValue t).run P w = .ok z w := by
  cases hi : P.info? t with
  | none => rw [hi] at h; cases h
  | some i =>
    rw [hi] at h
    have ht : (Go.typeInfo t).run P w = .ok i w := by
      unfold Go.typeInfo Go.program
      rw [run_bind_ok (a := P) rfl, hi]; rfl
    unfold Go.zeroValue
    rw [run_bind_ok ht]
    simp only [Option.bind_some] at h
    rw [h]; rfl
section
variable {α β : Type} [DecidableEq α] {f : α → Value} {e : β → D}
theorem p_lookup {i b kt et : Nat} {T : TypeId} {x ix : Operand} {l : List (α × β)} {es : List (Value × D)} {kk : α} {dk dr : D} {z : β} {zv : Value} {ti0 : TI} (j : Nat) (hT : TabOK P tab) (ho : o.op = .lookup T x ix false) (hw : wantD ops t o = some true) (hd : o.dst = some i) (hi : Nat.blt i N = true)
    (hx : opD t x = some (.v (.map (some b)))) (hj : h[j]? = some (b, .mp es)) (hes : es = l.map fun p => (f p.1, e p.2)) (hix : opD t ix = some dk) (hti : ti tab T = some ti0) (hs : ti0.d = .map kt et) (K : KeyOK P kt f) (hk : ∀ H v, Rep H dk v → v = f kk)
    (hz : (P.info? et).bind (·.zero) = some zv) (hzr : ∀ H, Rep H (e z) zv) (hr : dr = e (mgetD l kk z))
    (g : opsD P C N ops rest ⟨(i, dr) :: t, h, k⟩ Q) : opsD P C N ops (o :: rest) ⟨t, h, k⟩ Q :=
  ops_val (s := ⟨t, h, k⟩) hw hd hi fun H a w core kt' => by
    subst hes; subst hr
    obtain ⟨dd, h1, h2⟩ := run_underlying (w := w) (ti_ok hT hti)
    have := td_map (h2.trans hs); subst this
    obtain ⟨me, ck, g1, g2, g3⟩ := core.blks _ (List.mem_of_getElem? hj)
    have hkv := hk H _ (opD_ok kt' hix)
    have hfk := K.find w kk me.toList (l.map (·.1)) (mapR_keys g2)
    have key : ∃ v, (Instr.lookup T (a.eval x) (a.eval ix) false).run P w = .ok v w ∧ Rep H (e (mgetD l kk z)) v := by
      rw [hkv, rep_v_inv (opD_ok kt' hx)]
      unfold Instr.lookup mgetD
      rcases mapR_find kk 0 g2 with ⟨q1, q2, _⟩ | ⟨j', b', m, q1, q2, q3, _⟩
      · refine ⟨zv, ?_, by rw [q1]; exact hzr H⟩
        rw [q2] at hfk
        simp only [run_bind, h1, Result.andThen, MapKept.run_getObj_map g1, run_pure, K.check, hfk, run_zv hz]
        simp
      · refine ⟨m.val, ?_, by rw [q1]; exact q3⟩
        rw [q2] at hfk
        simp only [run_bind, h1, Result.andThen, MapKept.run_getObj_map g1, run_pure, K.check, hfk]
        simp
    obtain ⟨v, e1, e2⟩ := key
    refine ⟨v, w, H, _, h, k, ?_, Hp.le_refl H, core, e2, g⟩
    unfold execOp
    rw [ho]
    exact exec_v e1
theorem p_mapUpdate {b kt et : Nat} {T : TypeId} {x ix y : Operand} {l : List (α × β)} {es : List (Value × D)} {h' : List (Nat × Blk)} {kk : α} {vv : β} {dk dv : D} {ti0 : TI} (j : Nat) (hT : TabOK P tab) (ho : o.op = .mapUpdate T x ix y) (hw : wantD ops t o = some true) (hd : o.dst = none)
    (hx : opD t x = some (.v (.map (some b)))) (hj : h[j]? = some (b, .mp es)) (hes : es = l.map fun p => (f p.1, e p.2)) (hix : opD t ix = some dk) (hy : opD t y = some dv) (hti : ti tab T = some ti0) (hs : ti0.d = .map kt et) (K : KeyOK P kt f) (hk : ∀ H v, Rep H dk v → v = f kk) (hv : Wk dv (e vv))
    (he : h.set j (b, .mp ((mput l kk vv).map fun p => (f p.1, e p.2))) = h')
    (g : opsD P C N ops rest ⟨t, h', k⟩ Q) : opsD P C N ops (o :: rest) ⟨t, h, k⟩ Q :=
  ops_unit (s := ⟨t, h, k⟩) hw hd fun H a w core kt' => by
    subst hes; subst he
    obtain ⟨dd, h1, h2⟩ := run_underlying (w := w) (ti_ok hT hti)
    have := td_map (h2.trans hs); subst this
    obtain ⟨me, ck, g1, g2, g3⟩ := core.blks _ (List.mem_of_getElem? hj)
    have hkv := hk H _ (opD_ok kt' hix)
    have hfk := K.find w kk me.toList (l.map (·.1)) (mapR_keys g2)
    have hyv : Rep H (e vv) (a.eval y) := hv H _ (opD_ok kt' hy)
    have key : ∃ me' ck', (Instr.mapUpdate T (a.eval x) (a.eval ix) (a.eval y)).run P w = .ok () { w with heap := w.heap.setIfInBounds b (.map me' ck') } ∧ MapR H ((mput l kk vv).map fun p => (f p.1, e p.2)) me'.toList := by
      rw [hkv, rep_v_inv (opD_ok kt' hx)]
      unfold Instr.mapUpdate
      rcases mapR_find kk 0 g2 with ⟨q1, q2, q3⟩ | ⟨j', b', m, q1, q2, q3, q4, q5, q6⟩
      · refine ⟨me.push ⟨f kk, a.eval y, ck⟩, ck + 1, ?_, by rw [Array.toList_push]; exact q3 vv _ ck hyv⟩
        rw [q2] at hfk
        simp only [run_bind, h1, Result.andThen, MapKept.run_getObj_map g1, run_pure, K.check, hfk, MapKept.run_setObj_map _ g1]
      · refine ⟨me.modify j' fun x => { x with key := f kk, val := a.eval y }, ck, ?_, by rw [Array.toList_modify]; exact q6 vv _ hyv⟩
        rw [q2] at hfk
        have hm : me[j']? = some m := by rw [← Array.getElem?_toList]; exact q4
        rw [Nat.zero_add] at hfk
        simp only [run_bind, h1, Result.andThen, MapKept.run_getObj_map g1, run_pure, K.check, hfk, hm, Option.map_some, Option.getD_some, q5, K.stays, MapKept.run_setObj_map _ g1]
    obtain ⟨me', ck', e1, e2⟩ := key
    refine ⟨_, H, _, k, ?_, Hp.le_refl H, core.setMap (ck := ck') hj e2, g⟩
    unfold execOp
    rw [ho]
    show ((Instr.mapUpdate T (a.eval x) (a.eval ix) (a.eval y)) >>= fun _ => pure Next.skip).run P w = _
    rw [run_bind_ok e1]; rfl
end
end
end Go.Proofs.Ytfepijllmfedfaa.Ab
namespace Go.Proofs.Ytfepijllmfedfaa.Ab
open Go
set_option linter.all false
theorem reps_v (H : Hp) : ∀ us : List Value, us.all one = true → Reps H (us.map .v) us
  | [], _ => rfl
  | u :: us, h => by
    simp only [List.all_cons, Bool.and_eq_true] at h
    simp only [List.map_cons, Reps]
    exact ⟨u, us, rfl, ⟨by simp [RepC], h.1, rfl⟩, reps_v H us h.2⟩
theorem reps_v_inv {H : Hp} : ∀ {us vs : List Value}, Reps H (us.map .v) vs → vs = us
  | [], vs, h => h
  | u :: us, vs, h => by
    simp only [List.map_cons, Reps] at h
    obtain ⟨v, vs', rfl, ⟨h1, _⟩, h2⟩ := h
    simp only [RepC, List.cons.injEq, and_true] at h1
    rw [h1, reps_v_inv h2]
theorem rep_va (H : Hp) {us : List Value} (h : us.all one = true) : Rep H (.agg (us.map .v)) (.agg us.toArray) :=
  ⟨by simpa [RepC, Value.cells] using reps_v H us h, rfl⟩
theorem rep_va_inv {H : Hp} {us : List Value} {v : Value} (h : Rep H (.agg (us.map .v)) v) : v = .agg us.toArray := by
  obtain ⟨vs, rfl, h2⟩ := rep_agg_inv h
  rw [reps_v_inv h2]
def keyF (tab : List (Option TI)) (us : List Value) (g : Nat × Nat) : Bool :=
  match ti tab g.1, us[g.2]? with
  | some i, some x => match i.d, x with
    | .int k, .int k' _ => keq k k'
    | .bool, .bool _ => true
    | .str, .string _ => true
    | _, _ => false
  | _, _ => false
theorem keyF_ok {P : Program} {w : World} {tab : List (Option TI)} (hT : TabOK P tab) {us : List Value} (h1 : us.all one = true) {g : Nat × Nat} (h : keyF tab us g = true) (e : Bool) (n : Nat) :
    ∃ v, (Go.part g.1 us.toArray g.2).run P w = .ok v w ∧ (Instr.checkKey e (n + 1) g.1 v).run P w = .ok () w := by
  unfold keyF at h
  split at h
  · rename_i i x hi hx
    have hag : i.agg = false := by
      unfold TI.agg
      split at h <;> first | (rename_i hd; rw [hd]) | cases h
    obtain ⟨v, p1, q1⟩ := run_part (P := P) (w := w) (H := fun _ => none) (ti_ok hT hi) (reps_v _ us h1) (d := .v x) (off := g.2) (by simp [partD, hag, hx])
    have e1 := rep_v_inv q1; subst e1
    refine ⟨v, p1, ?_⟩
    obtain ⟨ti', z, dd, h3, h4, h5, _⟩ := tiOf_inv (ti_ok hT hi)
    split at h
    · rename_i k k' a hd
      have := keq_eq h; subst this
      exact MapKept.run_checkKey (by rw [h4, td_int (h5.trans hd)]) (k := .int k a) (by simp [MapKept.IsKey]) e n
    · rename_i a hd
      exact MapKept.run_checkKey (by rw [h4, td_bool (h5.trans hd)]) (k := .bool a) (by simp [MapKept.IsKey]) e n
    · rename_i a hd
      exact MapKept.run_checkKey (by rw [h4, td_str (h5.trans hd)]) (k := .string a) (by simp [MapKept.IsKey]) e n
    · cases h
  · cases h
theorem check_struct {P : Program} {w : World} {tab : List (Option TI)} (hT : TabOK P tab) {kt : TypeId} {ti0 : TI} {fs : List (Nat × Nat)} (hti : ti tab kt = some ti0) (hfs : ti0.d = .struct fs) {us : List Value} (h1 : us.all one = true)
    (hk : fs.all (keyF tab us) = true) (e : Bool) (n : Nat) : (Instr.checkKey e (n + 2) kt (.agg us.toArray)).run P w = .ok () w := by
  obtain ⟨dd, g1, g2⟩ := run_underlying (w := w) (ti_ok hT hti)
  obtain ⟨gs, rfl, h8⟩ := td_struct (g2.trans hfs)
  rw [show n + 2 = (n + 1) + 1 from rfl, Instr.checkKey]
  simp only [Sem.run_bind, g1, Result.andThen_ok]
  rw [← Array.forIn_toList]
  generalize gs.toList = L at h8
  clear g1 g2 hfs hti
  induction L generalizing fs with
  | nil => simp
  | cons f L ih =>
    subst h8
    simp only [List.map_cons, List.all_cons, Bool.and_eq_true] at hk
    obtain ⟨v, p1, p2⟩ := keyF_ok (w := w) hT h1 hk.1 e n
    simp only at p1 p2
    by_cases hn : f.name = "_"
    · simp only [List.forIn_cons, Sem.run_bind, hn, ne_eq, not_true_eq_false, if_false, Result.andThen_ok, Sem.run_pure]
      exact ih hk.2 rfl
    · simp only [List.forIn_cons, Sem.run_bind, hn, ne_eq, not_false_eq_true, if_true, Result.andThen_ok, p1, p2, Sem.run_pure]
      exact ih hk.2 rfl
theorem stays_struct {P : Program} {w : World} {us : List Value} (h : us.all (fun x => match x with | .int _ _ => true | .bool _ => true | .string _ => true | _ => false) = true) :
    (Instr.keyThatStays (.agg us.toArray) (.agg us.toArray)).run P w = .ok (.agg us.toArray) w := by
  have hb : Instr.sameBits 10000 (.agg us.toArray) (.agg us.toArray) = true := by
    show Instr.sameBits (9999 + 1) _ _ = true
    simp only [Instr.sameBits, beq_self_eq_true, Bool.true_and, List.all_eq_true]
    intro p hp
    have : p.1 = p.2 ∧ p.1 ∈ us := by
      clear h
      generalize us = l at hp
      induction l with
      | nil => simp at hp
      | cons a l ih =>
        simp only [List.zip_cons_cons, List.mem_cons] at hp
        rcases hp with rfl | hp
        · simp
        · obtain ⟨e1, e2⟩ := ih hp
          exact ⟨e1, by simp [e2]⟩
    obtain ⟨e1, e2⟩ := this
    have hx := List.all_eq_true.1 h _ e2
    rw [← e1]
    cases hq : p.1 <;> rw [hq] at hx <;> simp at hx
    · exact MapKept.sameBits_self (d := .bool) (by simp [MapKept.IsKey]) _
    · exact MapKept.sameBits_self (d := .int _) (by simp [MapKept.IsKey]; rfl) _
    · exact MapKept.sameBits_self (d := .string) (by simp [MapKept.IsKey]) _
  unfold Instr.keyThatStays
  rw [hb]; rfl
theorem find_asking {P : Program} {w : World} {kt : TypeId} {α : Type} [DecidableEq α] {f : α → Value} (k : α) (heq : ∀ a, (Op.equal kt (f k) (f a)).run P w = .ok (decide (a = k)) w) :
    ∀ (ks : List α) (me : List MapEntry) (i : Nat), me.map (·.key) = ks.map f → (Instr.findAsking kt (f k) me i).run P w = .ok (ffind ks k me i) w
  | [], me, i, e => by simp at e; subst e; rfl
  | a :: ks, [], i, e => by cases e
  | a :: ks, m :: me, i, e => by
    simp only [List.map_cons, List.cons.injEq] at e
    unfold Instr.findAsking ffind
    rw [e.1, run_bind_ok (heq a)]
    by_cases q : a = k
    · rw [decide_eq_true q, if_pos q]; rfl
    · rw [decide_eq_false q, if_neg q]
      exact find_asking k heq ks me (i + 1) e.2
theorem struct_key {P : Program} {tab : List (Option TI)} {kt : TypeId} {α : Type} [DecidableEq α] {g : α → List Value} {ti0 : TI} {fs : List (Nat × Nat)} (hT : TabOK P tab) (hE : EqT P kt) (hti : ti tab kt = some ti0) (hfs : ti0.d = .struct fs)
    (h1 : ∀ a, (g a).all (fun x => match x with | .int _ _ => true | .bool _ => true | .string _ => true | _ => false) = true) (h2 : ∀ a, fs.all (keyF tab (g a)) = true)
    (h3 : ∀ a b, eqL tab fs ((g a).map .v) ((g b).map .v) = some (decide (b = a))) : KeyOK P kt (fun a => .agg (g a).toArray) := by
  have ho : ∀ a, (g a).all one = true := fun a => by
    have := h1 a
    rw [List.all_eq_true] at this ⊢
    intro x hx
    have := this x hx
    cases x <;> simp at this <;> rfl
  refine ⟨fun w k me ks e => ?_, fun w e k => check_struct hT hti hfs (ho k) (h2 k) e 9998, fun w k => stays_struct (h1 k)⟩
  obtain ⟨ti', z, dd', h5, h6, h7, _⟩ := tiOf_inv (ti_ok hT hti)
  obtain ⟨gs, rfl, h8⟩ := td_struct (h7.trans hfs)
  have hf : P.fieldsOf kt = gs := by unfold Program.fieldsOf; rw [h6]
  rw [run_findKey_eq w (by rw [h6])]
  refine find_asking k (fun a => ?_) ks me 0 e
  show (Op.equalIn (9999 + 1) kt _ _).run P w = _
  rw [run_equalIn_struct w 9999 kt _ _ (by rw [h6, hf]) hE.stood]
  have hn := hE.names
  rw [hf] at hn ⊢
  exact eqL_ok (H := fun _ => none) hT (reps_v _ _ (ho k)) (reps_v _ _ (ho a)) 9998 gs.toList fs _ h8 hn (h3 k a)
section
variable {P : Program} {C : Ctx} {o : Oper} {t : List (Nat × D)} {h : List (Nat × Blk)} {k : List (Nat × Value)} {tab : List (Option TI)} {α β : Type} [DecidableEq α] {f : α → Value} {e : β → D}
theorem xm_lookup {b kt et : Nat} {T : TypeId} {x ix : Operand} {l : List (α × β)} {es : List (Value × D)} {kk : α} {dk dr : D} {z : β} {zv : Value} {ti0 : TI} (j : Nat) (hT : TabOK P tab) (ho : o.op = .lookup T x ix false)
    (hx : opD t x = some (.v (.map (some b)))) (hj : h[j]? = some (b, .mp es)) (hes : es = l.map fun p => (f p.1, e p.2)) (hix : opD t ix = some dk) (hti : ti tab T = some ti0) (hs : ti0.d = .map kt et) (K : KeyOK P kt f) (hk : ∀ H v, Rep H dk v → v = f kk)
    (hz : (P.info? et).bind (·.zero) = some zv) (hzr : ∀ H, Rep H (e z) zv) (hr : dr = e (mgetD l kk z)) : ExM P C h k o t dr := fun hh H a w core kt' => by
  subst hes; subst hr
  obtain ⟨dd, h1, h2⟩ := run_underlying (w := w) (ti_ok hT hti)
  have := td_map (h2.trans hs); subst this
  obtain ⟨me, ck, g1, g2, g3⟩ := core.blks _ (List.mem_append_left _ (List.mem_of_getElem? hj))
  have hkv := hk H _ (opD_ok kt' hix)
  have hfk := K.find w kk me.toList (l.map (·.1)) (mapR_keys g2)
  have key : ∃ v, (Instr.lookup T (a.eval x) (a.eval ix) false).run P w = .ok v w ∧ Rep H (e (mgetD l kk z)) v := by
    rw [hkv, rep_v_inv (opD_ok kt' hx)]
    unfold Instr.lookup mgetD
    rcases mapR_find kk 0 g2 with ⟨q1, q2, _⟩ | ⟨j', b', m, q1, q2, q3, _⟩
    · refine ⟨zv, ?_, by rw [q1]; exact hzr H⟩
      rw [q2] at hfk
      simp only [run_bind, h1, Result.andThen, MapKept.run_getObj_map g1, run_pure, K.check, hfk, run_zv hz]
      simp
    · refine ⟨m.val, ?_, by rw [q1]; exact q3⟩
      rw [q2] at hfk
      simp only [run_bind, h1, Result.andThen, MapKept.run_getObj_map g1, run_pure, K.check, hfk]
      simp
  obtain ⟨v, e1, e2⟩ := key
  refine ⟨v, ?_, e2⟩
  unfold execOp
  rw [ho]
  exact exec_v e1
end
end Go.Proofs.Ytfepijllmfedfaa.Ab
namespace Go.Proofs.Ytfepijllmfedfaa.Ab
open Go
set_option linter.all false
noncomputable def cmp_isNaN_string (a0 : ByteArray) : Option (Bool) :=
  some (!decide (a0 = a0))
set_option maxRecDepth 100000 in
set_option maxHeartbeats 2000000 in
theorem cmp_isNaN_string_ok (a0 : ByteArray) (r : Bool) (h0 : cmp_isNaN_string a0 = some r) : CallsD Try.prog 26 [.v (.string a0)] [] [] (fun d h k => d = .v (.bool r) ∧ h = [] ∧ k = []) := by
  have hm := yes_of h0
  unfold cmp_isNaN_string at hm
  clear h0
  refine enterX htab Try.func26 rfl rfl rfl rfl rfl (fun C => ?_)
  refine wpD_sr ?_
  refine pu ?_
  refine ops_n2 ?_
  iterate 4 refine pu ?_
  refine ops_nt ?_
  refine wpD_ret ?_
  have er1 := yes_eq hm; subst er1
  refine rP (t' := [(2, .v (.bool (!decide (a0 = a0))))]) [] [] 0 (wC wN) (lT lN) ?_
  exact ⟨rfl, rfl, rfl⟩
noncomputable def cmp_Compare_string (a0 : ByteArray) (a1 : ByteArray) : Option (Int) :=
  ((cmp_isNaN_string a0).bind fun x1 => ((cmp_isNaN_string a1).bind fun x2 => (bif x1 then (bif x2 then some (0 : Int) else some (-1 : Int)) else (bif x2 then some (1 : Int) else (bif (ltB a0 a1) then some (-1 : Int) else (bif (!(ltB a0 a1 || a0.toList == a1.toList)) then some (1 : Int) else some (0 : Int)))))))
set_option maxRecDepth 100000 in
set_option maxHeartbeats 2000000 in
theorem cmp_Compare_string_ok (a0 : ByteArray) (a1 : ByteArray) (r : Int) (h0 : cmp_Compare_string a0 a1 = some r) : CallsD Try.prog 22 [.v (.string a0), .v (.string a1)] [] [] (fun d h k => d = .v (.int .i64 r) ∧ h = [] ∧ k = []) := by
  have hm := yes_of h0
  unfold cmp_Compare_string at hm
  clear h0
  refine enterX htab Try.func22 rfl rfl rfl rfl rfl (fun C => ?_)
  refine wpD_sr ?_
  refine pu ?_
  refine ops_n2 ?_
  refine pu ?_
  obtain ⟨x1, q1, hm⟩ := yes_bind hm
  refine p_call0 (cmp_isNaN_string_ok a0 x1 q1) rfl rfl rfl rfl rfl Wl ?_
  rintro _ rfl
  refine pu ?_
  refine ops_n2 ?_
  refine pu ?_
  obtain ⟨x2, q2, hm⟩ := yes_bind hm
  refine p_call0 (cmp_isNaN_string_ok a1 x2 q2) rfl rfl rfl rfl rfl Wl ?_
  rintro _ rfl
  refine pu ?_
  refine ops_nt ?_
  refine wpD_seq ?_
  refine wpD_sr ?_
  refine pu ?_
  refine ops_nt ?_
  refine wpD_cond rfl (fun hc5 => ?_) (fun hc5 => ?_)
  ·replace hm := yes_t hc5 hm
   refine wpD_seq ?_
   refine wpD_sr ?_
   refine pu ?_
   refine ops_nt ?_
   refine wpD_cond rfl (fun hc7 => ?_) (fun hc7 => ?_)
   ·replace hm := yes_t hc7 hm
    refine wpD_sr ?_
    refine pu ?_
    refine ops_nt ?_
    refine wpD_ret ?_
    refine then_ret ?_
    refine then_ret ?_
    have er8 := yes_eq hm; subst er8
    refine rP (t' := [(4, .v (.int .i64 (0 : Int)))]) [] [] 0 (wC wN) (lT lN) ?_
    exact ⟨rfl, rfl, rfl⟩
   ·replace hm := yes_f hc7 hm
    refine wpD_skip ?_
    refine then_normal ?_
    refine wpD_sr ?_
    refine pu ?_
    refine ops_nt ?_
    refine wpD_ret ?_
    refine then_ret ?_
    have er9 := yes_eq hm; subst er9
    refine rP (t' := [(4, .v (.int .i64 (-1 : Int)))]) [] [] 0 (wC wN) (lT lN) ?_
    exact ⟨rfl, rfl, rfl⟩
  ·replace hm := yes_f hc5 hm
   refine wpD_skip ?_
   refine then_normal ?_
   refine wpD_seq ?_
   refine wpD_sr ?_
   refine pu ?_
   refine ops_nt ?_
   refine wpD_cond rfl (fun hc11 => ?_) (fun hc11 => ?_)
   ·replace hm := yes_t hc11 hm
    refine wpD_sr ?_
    refine pu ?_
    refine ops_nt ?_
    refine wpD_ret ?_
    refine then_ret ?_
    have er12 := yes_eq hm; subst er12
    refine rP (t' := [(4, .v (.int .i64 (1 : Int)))]) [] [] 0 (wC wN) (lT lN) ?_
    exact ⟨rfl, rfl, rfl⟩
   ·replace hm := yes_f hc11 hm
    refine wpD_skip ?_
    refine then_normal ?_
    refine wpD_seq ?_
    refine wpD_sr ?_
    refine pu ?_
    refine pu ?_
    refine p_ltS rfl rfl rfl rfl rfl rfl rfl ?_
    refine ops_nt ?_
    refine wpD_cond rfl (fun hc14 => ?_) (fun hc14 => ?_)
    ·replace hm := yes_t hc14 hm
     refine wpD_sr ?_
     refine pu ?_
     refine ops_nt ?_
     refine wpD_ret ?_
     refine then_ret ?_
     have er15 := yes_eq hm; subst er15
     refine rP (t' := [(4, .v (.int .i64 (-1 : Int)))]) [] [] 0 (wC wN) (lT lN) ?_
     exact ⟨rfl, rfl, rfl⟩
    ·replace hm := yes_f hc14 hm
     refine wpD_skip ?_
     refine then_normal ?_
     refine wpD_seq ?_
     refine wpD_sr ?_
     refine pu ?_
     refine pu ?_
     refine p_ltS rfl rfl rfl rfl rfl rfl rfl ?_
     refine ops_nt ?_
     refine wpD_cond rfl (fun hc16 => ?_) (fun hc16 => ?_)
     ·replace hm := yes_t hc16 hm
      refine wpD_sr ?_
      refine pu ?_
      refine ops_nt ?_
      refine wpD_ret ?_
      refine then_ret ?_
      have er17 := yes_eq hm; subst er17
      refine rP (t' := [(4, .v (.int .i64 (1 : Int)))]) [] [] 0 (wC wN) (lT lN) ?_
      exact ⟨rfl, rfl, rfl⟩
     ·replace hm := yes_f hc16 hm
      refine wpD_skip ?_
      refine then_normal ?_
      refine wpD_sr ?_
      refine pu ?_
      refine ops_nt ?_
      refine wpD_ret ?_
      have er18 := yes_eq hm; subst er18
      refine rP (t' := [(4, .v (.int .i64 (0 : Int)))]) [] [] 0 (wC wN) (lT lN) ?_
      exact ⟨rfl, rfl, rfl⟩
noncomputable def cmp_isNaN_int (a0 : Int) : Option (Bool) :=
  some (a0 != a0)
set_option maxRecDepth 100000 in
set_option maxHeartbeats 2000000 in
theorem cmp_isNaN_int_ok (a0 : Int) (r : Bool) (h0 : cmp_isNaN_int a0 = some r) : CallsD Try.prog 27 [.v (.int .i64 a0)] [] [] (fun d h k => d = .v (.bool r) ∧ h = [] ∧ k = []) := by
  have hm := yes_of h0
  unfold cmp_isNaN_int at hm
  clear h0
  refine enterX htab Try.func27 rfl rfl rfl rfl rfl (fun C => ?_)
  refine wpD_sr ?_
  refine pu ?_
  refine ops_n2 ?_
  iterate 4 refine pu ?_
  refine ops_nt ?_
  refine wpD_ret ?_
  have er1 := yes_eq hm; subst er1
  refine rP (t' := [(2, .v (.bool (a0 != a0)))]) [] [] 0 (wC wN) (lT lN) ?_
  exact ⟨rfl, rfl, rfl⟩
noncomputable def cmp_Compare_int (a0 : Int) (a1 : Int) : Option (Int) :=
  ((cmp_isNaN_int a0).bind fun x1 => ((cmp_isNaN_int a1).bind fun x2 => (bif x1 then (bif x2 then some (0 : Int) else some (-1 : Int)) else (bif x2 then some (1 : Int) else (bif (decide (a0 < a1)) then some (-1 : Int) else (bif (decide (a1 < a0)) then some (1 : Int) else some (0 : Int)))))))
set_option maxRecDepth 100000 in
set_option maxHeartbeats 2000000 in
theorem cmp_Compare_int_ok (a0 : Int) (a1 : Int) (r : Int) (h0 : cmp_Compare_int a0 a1 = some r) : CallsD Try.prog 23 [.v (.int .i64 a0), .v (.int .i64 a1)] [] [] (fun d h k => d = .v (.int .i64 r) ∧ h = [] ∧ k = []) := by
  have hm := yes_of h0
  unfold cmp_Compare_int at hm
  clear h0
  refine enterX htab Try.func23 rfl rfl rfl rfl rfl (fun C => ?_)
  refine wpD_sr ?_
  refine pu ?_
  refine ops_n2 ?_
  refine pu ?_
  obtain ⟨x1, q1, hm⟩ := yes_bind hm
  refine p_call0 (cmp_isNaN_int_ok a0 x1 q1) rfl rfl rfl rfl rfl Wl ?_
  rintro _ rfl
  refine pu ?_
  refine ops_n2 ?_
  refine pu ?_
  obtain ⟨x2, q2, hm⟩ := yes_bind hm
  refine p_call0 (cmp_isNaN_int_ok a1 x2 q2) rfl rfl rfl rfl rfl Wl ?_
  rintro _ rfl
  refine pu ?_
  refine ops_nt ?_
  refine wpD_seq ?_
  refine wpD_sr ?_
  refine pu ?_
  refine ops_nt ?_
  refine wpD_cond rfl (fun hc5 => ?_) (fun hc5 => ?_)
  ·replace hm := yes_t hc5 hm
   refine wpD_seq ?_
   refine wpD_sr ?_
   refine pu ?_
   refine ops_nt ?_
   refine wpD_cond rfl (fun hc7 => ?_) (fun hc7 => ?_)
   ·replace hm := yes_t hc7 hm
    refine wpD_sr ?_
    refine pu ?_
    refine ops_nt ?_
    refine wpD_ret ?_
    refine then_ret ?_
    refine then_ret ?_
    have er8 := yes_eq hm; subst er8
    refine rP (t' := [(4, .v (.int .i64 (0 : Int)))]) [] [] 0 (wC wN) (lT lN) ?_
    exact ⟨rfl, rfl, rfl⟩
   ·replace hm := yes_f hc7 hm
    refine wpD_skip ?_
    refine then_normal ?_
    refine wpD_sr ?_
    refine pu ?_
    refine ops_nt ?_
    refine wpD_ret ?_
    refine then_ret ?_
    have er9 := yes_eq hm; subst er9
    refine rP (t' := [(4, .v (.int .i64 (-1 : Int)))]) [] [] 0 (wC wN) (lT lN) ?_
    exact ⟨rfl, rfl, rfl⟩
  ·replace hm := yes_f hc5 hm
   refine wpD_skip ?_
   refine then_normal ?_
   refine wpD_seq ?_
   refine wpD_sr ?_
   refine pu ?_
   refine ops_nt ?_
   refine wpD_cond rfl (fun hc11 => ?_) (fun hc11 => ?_)
   ·replace hm := yes_t hc11 hm
    refine wpD_sr ?_
    refine pu ?_
    refine ops_nt ?_
    refine wpD_ret ?_
    refine then_ret ?_
    have er12 := yes_eq hm; subst er12
    refine rP (t' := [(4, .v (.int .i64 (1 : Int)))]) [] [] 0 (wC wN) (lT lN) ?_
    exact ⟨rfl, rfl, rfl⟩
   ·replace hm := yes_f hc11 hm
    refine wpD_skip ?_
    refine then_normal ?_
    refine wpD_seq ?_
    refine wpD_sr ?_
    iterate 3 refine pu ?_
    refine ops_nt ?_
    refine wpD_cond rfl (fun hc14 => ?_) (fun hc14 => ?_)
    ·replace hm := yes_t hc14 hm
     refine wpD_sr ?_
     refine pu ?_
     refine ops_nt ?_
     refine wpD_ret ?_
     refine then_ret ?_
     have er15 := yes_eq hm; subst er15
     refine rP (t' := [(4, .v (.int .i64 (-1 : Int)))]) [] [] 0 (wC wN) (lT lN) ?_
     exact ⟨rfl, rfl, rfl⟩
    ·replace hm := yes_f hc14 hm
     refine wpD_skip ?_
     refine then_normal ?_
     refine wpD_seq ?_
     refine wpD_sr ?_
     iterate 3 refine pu ?_
     refine ops_nt ?_
     refine wpD_cond rfl (fun hc16 => ?_) (fun hc16 => ?_)
     ·replace hm := yes_t hc16 hm
      refine wpD_sr ?_
      refine pu ?_
      refine ops_nt ?_
      refine wpD_ret ?_
      refine then_ret ?_
      have er17 := yes_eq hm; subst er17
      refine rP (t' := [(4, .v (.int .i64 (1 : Int)))]) [] [] 0 (wC wN) (lT lN) ?_
      exact ⟨rfl, rfl, rfl⟩
     ·replace hm := yes_f hc16 hm
      refine wpD_skip ?_
      refine then_normal ?_
      refine wpD_sr ?_
      refine pu ?_
      refine ops_nt ?_
      refine wpD_ret ?_
      have er18 := yes_eq hm; subst er18
      refine rP (t' := [(4, .v (.int .i64 (0 : Int)))]) [] [] 0 (wC wN) (lT lN) ?_
      exact ⟨rfl, rfl, rfl⟩
noncomputable def cmp_Or_int (a0 : List Int) : Option (Int) :=
  (Option.bind (α := (Unit) ⊕ (Int)) (loopM (fun (s15 : Int) => (bif (decide (s15 < (a0.length : Int))) then ((idx a0 s15).bind fun x25 => (bif (x25 != (0 : Int)) then some (.done (.inr x25)) else some (.next (IntKind.i64.wrap (s15 + (1 : Int)))))) else some (.done (.inl ())))) (0 : Int)) (Sum.elim (fun y14 => some (0 : Int)) (fun r => some r)))
set_option maxRecDepth 100000 in
set_option maxHeartbeats 2000000 in
theorem cmp_Or_int_ok (a0 : List Int) (r : Int) (h0 : cmp_Or_int a0 = some r) : CallsD Try.prog 21 [.lst 1 (a0.map eI64) .no] [] [] (fun d h k => d = .v (.int .i64 r) ∧ h = [] ∧ k = []) := by
  have hm := yes_of h0
  unfold cmp_Or_int at hm
  clear h0
  refine enterX htab Try.func21 rfl rfl rfl rfl rfl (fun C => ?_)
  refine wpD_sr ?_
  refine pu ?_
  refine ops_n2 ?_
  refine pu ?_
  refine ops_nt ?_
  refine wpD_seq ?_
  refine wpD_sr ?_
  refine pu ?_
  refine p_lenL htab rfl rfl rfl rfl rfl rfl rfl (by first | exact map_len | rfl) ?_
  refine pu ?_
  refine ops_nt ?_
  obtain ⟨x14, q14, ho14⟩ := yes_bind hm
  refine wpD_midX (τ := Unit) (Y := Unit) (fun y14 z14 => (⟨[(3, .v (.int .i64 (0 : Int)))], [], []⟩ : S)) x14 ?_ ?_
  ·clear hm; have hm := yes_of q14
   refine wpD_block ?_
   obtain ⟨u15, hl15, hq15⟩ := yes_m hm
   refine loop_M (Y := Unit) hl15 (fun s15 z15 => (⟨[(3, .v (.int .i64 (0 : Int))), (6, .lst 1 (a0.map eI64) .no), (7, .v (.int .i64 (a0.length : Int))), (8, .v (.int .i64 s15))], [], []⟩ : S)) ?_ ?_
   ·skip
    exact WkX.of () (WkS.perm (WkS.cons rfl (Wk.refl _) (WkS.cons rfl (Wk.refl _) (WkS.cons rfl (Wk.refl _) (WkS.cons rfl (Wk.refl _) (WkS.nil))))) Pf Pf)
   ·intro G15 s15 z15 hm
    refine wpD_sr ?_
    refine pu ?_
    refine ops_nt ?_
    refine wpD_seq ?_
    refine wpD_cond rfl (fun hc24 => ?_) (fun hc24 => ?_)
    ·replace hm := yes_t hc24 hm
     refine wpD_skip ?_
     refine then_normal ?_
     refine wpD_seq ?_
     refine wpD_block ?_
     refine wpD_sr ?_
     obtain ⟨x25, q25, hm⟩ := yes_bind hm
     refine p_elem htab rfl rfl rfl rfl rfl rfl rfl rfl rfl rfl (idx_nonneg q25) (idx_map q25) ?_
     refine p_loadEl htab rfl rfl rfl rfl rfl rfl rfl rfl ?_
     refine pu ?_
     refine ops_n2 ?_
     iterate 3 refine pu ?_
     refine ops_nt ?_
     refine wpD_cond rfl (fun hc26 => ?_) (fun hc26 => ?_)
     ·replace hm := yes_t hc26 hm
      refine wpD_sr ?_
      refine pu ?_
      refine pu ?_
      refine ops_nt ?_
      refine wpD_ret ?_
      refine block_ret ?_
      refine then_ret ?_
      have e15 := lp_done hm; subst e15; clear hm; have hm := hq15
      refine then_ret ?_
      refine block_ret ?_
      have e14 := yes_eq hm; subst e14; refine midX_inr ?_; clear hm; have hm := ho14; simp only [Sum.elim_inr] at hm
      refine then_ret ?_
      have er27 := yes_eq hm; subst er27
      refine rP (t' := [(2, .v (.int .i64 x25))]) [] [] 0 (wC wN) (lT lN) ?_
      exact ⟨rfl, rfl, rfl⟩
     ·replace hm := yes_f hc26 hm
      refine wpD_skip ?_
      refine block_normal ?_
      refine then_normal ?_
      refine wpD_region ?_
      refine pu ?_
      refine pu ?_
      refine ops_nil ?_
      refine then_normal ⟨_, lp_next hm, ?_⟩
      exact WkX.of () (WkS.perm (WkS.cons rfl (Wk.refl _) (WkS.cons rfl (Wk.refl _) (WkS.cons rfl (Wk.refl _) (WkS.cons rfl (Wk.refl _) (WkS.nil))))) Pf Pf)
    ·replace hm := yes_f hc24 hm
     refine wpD_exit ?_
     refine then_exit ?_
     have e15 := lp_done hm; subst e15; clear hm; have hm := hq15
     refine then_exit ?_
     refine block_hit ?_
     have e14 := yes_eq hm; subst e14
     refine midX_inl ?_
     exact WkX.of () (WkS.perm (WkS.cons rfl (Wk.refl _) (WkS.nil)) Pf Pf)
  ·intro y14 s14 hx14 hw14; subst hx14; clear hm; have hm := ho14; simp only [Sum.elim_inl] at hm; clear q14 ho14
   refine then_normal ?_
   refine wpD_wkX hw14 (fun z14 => ?_)
   refine wpD_sr ?_
   refine pu ?_
   refine pu ?_
   refine ops_nt ?_
   refine wpD_ret ?_
   have er28 := yes_eq hm; subst er28
   refine rP (t' := [(2, .v (.int .i64 (0 : Int)))]) [] [] 0 (wC wN) (lT lN) ?_
   exact ⟨rfl, rfl, rfl⟩
structure TApiCell where
  gName : ByteArray
  gAt : Int
def eTApiCell (x : TApiCell) : D := .agg [.v (.string x.gName), .v (.int .i64 x.gAt)]
structure TApiWord where
  gPtr : Bool
  gN : Int
  gTo : TApiCell
def eTApiWord (x : TApiWord) : D := .agg [.v (.bool x.gPtr), .v (.int .i64 x.gN), .v (.string x.gTo.gName), .v (.int .i64 x.gTo.gAt)]
structure TMemHeld where
  gC : TApiCell
  gW : TApiWord
def eTMemHeld (x : TMemHeld) : D := .agg [.v (.string x.gC.gName), .v (.int .i64 x.gC.gAt), .v (.bool x.gW.gPtr), .v (.int .i64 x.gW.gN), .v (.string x.gW.gTo.gName), .v (.int .i64 x.gW.gTo.gAt)]
abbrev nlMe1_1 : List (List Nat) := [[],[0],[0,1],[],[3],[3,4],[0,1,2,3,4,5],[],[7],[7,8],[],[10],[10,11],[0,1,2,3,4,5,6,7,8,9,10,11,12],[0,1,2,3,4,5,6,7,8,9,10,11,12,13],[0,1,2,3,4,5,6,7,8,9,10,11,12,13,14],[0,1,2,3,4,5,6,7,8,9,10,11,12,13,14,15]]
noncomputable def mem_Mem_All_1 (a0 : TMemHeld) (a1 : TMemHeld) : Option (Int) :=
  ((cmp_Compare_string a0.gC.gName a1.gC.gName).bind fun x3 => ((cmp_Compare_int a0.gC.gAt a1.gC.gAt).bind fun x4 => ((cmp_Or_int ([x3, x4] : List Int)).bind fun x5 => some x5)))
set_option maxRecDepth 100000 in
set_option maxHeartbeats 2000000 in
theorem mem_Mem_All_1_ok (a0 : TMemHeld) (a1 : TMemHeld) (r : Int) (h0 : mem_Mem_All_1 a0 a1 = some r) : CallsD Try.prog 20 [eTMemHeld a0, eTMemHeld a1] [] [] (fun d h k => d = .v (.int .i64 r) ∧ h = [] ∧ k = []) := by
  have hm := yes_of h0
  unfold mem_Mem_All_1 at hm
  clear h0
  refine enterX htab Try.func20 rfl rfl rfl rfl rfl (fun C => ?_)
  refine wpD_sr ?_
  refine p_box rfl rfl rfl rfl rfl rfl rfl (fun b1 => ?_)
  refine p_box rfl rfl rfl rfl rfl rfl rfl (fun b2 => ?_)
  refine pu ?_
  refine ops_nt ?_
  refine wpD_seq ?_
  obtain ⟨x3, q3, hm⟩ := yes_bind hm
  refine wpD_draws 13 [] [[],[0],[0,1],[],[3],[3,4],[0,1,3,4],[],[7],[7,8],[],[10],[10,11]] [0,1,3,4,6,7,8,10,11] nlMe1_1 (by kernel_rfl) (by kernel_rfl) (by kernel_rfl) (by rfl) (by rfl) (by kernel_rfl) ?_
  iterate 9 apply Exists.intro
  intro bs
  refine zep ?_
  refine zep ?_
  refine z_qM rfl rfl (xm_load 0 htab rfl rfl rfl rfl rfl) rfl rfl rfl rfl rfl rfl ?_
  refine zep ?_
  refine zep ?_
  refine z_qM rfl rfl (xm_load 1 htab rfl rfl rfl rfl rfl) rfl rfl rfl rfl rfl rfl ?_
  refine z_call rfl rfl (cmp_Compare_string_ok a0.gC.gName a1.gC.gName x3 q3) rfl rfl Wl rfl rfl rfl rfl rfl rfl ?_
  refine zep ?_
  refine zep ?_
  refine z_qM rfl rfl (xm_load 0 htab rfl rfl rfl rfl rfl) rfl rfl rfl rfl rfl rfl ?_
  refine zep ?_
  refine zep ?_
  refine z_qM rfl rfl (xm_load 1 htab rfl rfl rfl rfl rfl) rfl rfl rfl rfl rfl rfl ?_
  refine z_nil rfl rfl (fun e he => by simp [isAl] at he) ?_
  obtain ⟨x4, q4, hm⟩ := yes_bind hm
  refine p_call0 (cmp_Compare_int_ok a0.gC.gAt a1.gC.gAt x4 q4) rfl rfl rfl rfl rfl Wl ?_
  rintro _ rfl
  refine p_lit htab rfl rfl rfl rfl rfl rfl rfl rfl rfl rfl rfl rfl rfl rfl ?_
  refine p_eq (i := 19) (d' := .lst 1 (([x3, x4] : List Int).map eI64) .full) rfl (Wk.lst0 (.cons (WkC.refl _) (.cons (WkC.refl _) (.nil)))) ?_
  obtain ⟨x5, q5, hm⟩ := yes_bind hm
  refine p_call0 (cmp_Or_int_ok ([x3, x4] : List Int) x5 q5) rfl rfl rfl rfl rfl (WkL.cons (Wk.no) Wl) ?_
  rintro _ rfl
  refine pu ?_
  refine ops_nt ?_
  refine wpD_ret ?_
  have er6 := yes_eq hm; subst er6
  refine rP (t' := [(4, .v (.int .i64 x5))]) [] [] 0 (wC wN) (lT lN) ?_
  exact ⟨rfl, rfl, rfl⟩
end Go.Proofs.Ytfepijllmfedfaa.Ab
namespace Go.Proofs.Ytfepijllmfedfaa.Ab
open Go
set_option linter.all false
section
variable {α : Type} [Inhabited α]
theorem put_heap {w : World} {enc : α → Value} {b n : Nat} {fs xs : List α} {rest : List Value} {T : TypeId} {os : Array Obj} (h1 : w.heap[b]? = some (.cells (xs.map enc ++ rest).toArray T (0, 0))) (hl : fs.length = xs.length) :
    (Sort.grow (Sort.putRow enc (Sort.ahead w n) b 0 fs.toArray) os).heap[b]? = some (.cells (fs.map enc ++ rest).toArray T (0, 0)) ∧ (∀ i, i < w.heap.size → i ≠ b → (Sort.grow (Sort.putRow enc (Sort.ahead w n) b 0 fs.toArray) os).heap[i]? = w.heap[i]?) ∧ w.heap.size ≤ (Sort.grow (Sort.putRow enc (Sort.ahead w n) b 0 fs.toArray) os).heap.size ∧ Env w (Sort.grow (Sort.putRow enc (Sort.ahead w n) b 0 fs.toArray) os) := by
  have hb := (Array.getElem?_eq_some_iff.1 h1).1
  have hsz : (Sort.putRow enc (Sort.ahead w n) b 0 fs.toArray).heap.size = w.heap.size := by simp [Sort.putRow, Sort.mapBlock, Sort.ahead]
  refine ⟨?_, fun i hi hne => ?_, by simp [Sort.grow, hsz], ⟨rfl, rfl, rfl, by simp [Sort.grow, Sort.putRow, Sort.mapBlock, Sort.ahead]⟩⟩
  · show ((Sort.putRow enc (Sort.ahead w n) b 0 fs.toArray).heap ++ os)[b]? = _
    rw [Array.getElem?_append_left (by rw [hsz]; exact hb)]
    simp only [Sort.putRow, Sort.mapBlock, Sort.ahead, Array.getElem?_modify, if_true, h1, Option.map_some, Sort.onCells]
    congr 2
    unfold Sort.putCells
    apply Array.ext_getElem?
    intro k
    simp only [Array.getElem?_mapIdx, List.getElem?_toArray, List.size_toArray, Nat.zero_le, true_and, Nat.zero_add, Nat.sub_zero]
    by_cases hk : k < fs.length
    · rw [List.getElem?_append_left (by simpa [← hl] using hk), List.getElem?_append_left (by simpa using hk)]
      simp only [List.getElem?_map, List.getElem?_eq_getElem hk, List.getElem?_eq_getElem (show k < xs.length by omega), Option.map_some, if_pos hk]
      congr 1
      rw [getElem!_pos fs.toArray k (by simpa using hk)]
      simp
    · rw [List.getElem?_append_right (by simp; omega), List.getElem?_append_right (by simp; omega)]
      simp only [List.length_map, hl]
      cases rest[k - xs.length]? with
      | none => rfl
      | some v => simp only [Option.map_some]; rw [if_neg (by omega)]
  · show ((Sort.putRow enc (Sort.ahead w n) b 0 fs.toArray).heap ++ os)[i]? = _
    rw [Array.getElem?_append_left (by rw [hsz]; exact hi)]
    simp only [Sort.putRow, Sort.mapBlock, Sort.ahead, Array.getElem?_modify]
    rw [if_neg (Ne.symm hne)]
theorem row_same {H : Hp} {w : World} {r : Nat} {kk : Nat} {xs : List D} {y : Value} (hA : Ag H w) (h : BlkOK H w (r, .row kk xs y)) (nd : (claims [(r, Blk.row kk xs y)] []).Nodup) : Core ⟨H, w, claims [(r, Blk.row kk xs y)] []⟩ H [(0, .row kk xs y)] [] w := by
  refine ⟨hA, Hp.le_refl H, fun _ _ x => .inl x, fun _ _ _ => rfl, Nat.le_refl _, ?_, by simp, ?_, ?_, Env.refl w⟩
  · intro p hp
    simp only [List.mem_singleton] at hp; subst hp
    exact h
  · have e : claims [(0, Blk.row kk xs y)] [] = claims [(r, Blk.row kk xs y)] [] := rfl
    rw [e]; exact nd
  · intro x hx
    exact .inl (by simpa [claims, blkClaim] using hx)
end
end Go.Proofs.Ytfepijllmfedfaa.Ab
namespace Go.Proofs.Ytfepijllmfedfaa.Ab
open Go
set_option linter.all false
section
variable {α : Type} [Inhabited α] {k : Nat} {encL : α → List Value}
def rowK (encL : α → List Value) (xs : List α) : List D := xs.map fun x => .agg ((encL x).map .v)
theorem flat_vK {H : Hp} : ∀ {xs : List α} {us : List Value}, FlatR H k (rowK encL xs) us → us = xs.flatMap encL
  | [], us, h => h
  | x :: xs, us, h => by
    obtain ⟨u1, u2, rfl, hl, ⟨h1, h2⟩, h3⟩ := h
    simp only [RepC] at h1
    rw [reps_v_inv h1, flat_vK h3]; rfl
theorem vK_flat {H : Hp} (hk : ∀ x, (encL x).length = k) (he : ∀ x, (encL x).all one = true) : ∀ (xs : List α), FlatR H k (rowK encL xs) (xs.flatMap encL)
  | [] => rfl
  | x :: xs => ⟨encL x, xs.flatMap encL, rfl, hk x, ⟨by simp only [RepC]; exact reps_v H _ (he x), List.all_eq_true.1 (he x)⟩, vK_flat hk he xs⟩
theorem flen (hk : ∀ x, (encL x).length = k) : ∀ xs : List α, (xs.flatMap encL).length = xs.length * k
  | [] => by simp
  | x :: xs => by simp only [List.flatMap_cons, List.length_append, hk, flen hk xs, List.length_cons, Nat.add_mul]; omega
theorem fget (hk : ∀ x, (encL x).length = k) (h0 : 0 < k) : ∀ (xs : List α) (t : Nat), t < xs.length * k → (xs.flatMap encL)[t]! = (encL xs[t / k]!)[t % k]!
  | [], t, h => by simp at h
  | x :: xs, t, h => by
    rw [List.flatMap_cons]
    by_cases hl : t < k
    · rw [Nat.div_eq_of_lt hl, Nat.mod_eq_of_lt hl]
      have hlx : t < (encL x).length := by rw [hk]; exact hl
      rw [getElem!_pos _ t (by rw [List.length_append]; omega), List.getElem_append_left hlx]
      simp only [List.getElem!_cons_zero]
      rw [getElem!_pos _ t hlx]
    · obtain ⟨u, rfl⟩ : ∃ u, t = u + k := ⟨t - k, by omega⟩
      have hu : u < xs.length * k := by simp only [List.length_cons, Nat.add_mul] at h; omega
      have hfl := flen hk xs
      rw [Nat.add_div_right _ h0, Nat.add_mod_right]
      rw [getElem!_pos _ (u + k) (by rw [List.length_append, hk]; omega), List.getElem_append_right (by rw [hk]; omega)]
      have := fget hk h0 xs u hu
      rw [getElem!_pos (xs.flatMap encL) u (by omega)] at this
      simp only [hk, Nat.add_sub_cancel]
      rw [this]
      congr 2
theorem flatK_eq (hk : ∀ x, (encL x).length = k) (h0 : 0 < k) (xs : List α) : Sort.flatK encL k xs.toArray = (xs.flatMap encL).toArray := by
  have hfl := flen hk xs
  refine Sort.ext_get! (by simp [hfl]) fun t ht => ?_
  have ht' : t < xs.length * k := by simpa using ht
  rw [Sort.get_flatK _ _ _ t (by simpa using ht')]
  have h2 := fget hk h0 xs t ht'
  have h3 : (xs.flatMap encL).toArray[t]! = (xs.flatMap encL)[t]! := by simp
  rw [h3, h2]
  have h4 : t / k < xs.length := Nat.div_lt_of_lt_mul (by rw [Nat.mul_comm]; exact ht')
  congr 2
  simp
theorem row_holdsK (hk : ∀ x, (encL x).length = k) (h0 : 0 < k) {H : Hp} {w : World} {r : Nat} {xs : List α} {z : Z3} (h : BlkOK H w (r, .row k (rowK encL xs) (SL z))) :
    (xs = [] ∧ z.2.1 = 0) ∨ ∃ b m T rest, z = (some ⟨b, 0, none⟩, xs.length, m) ∧ xs.length ≤ m ∧ 0 < m ∧ w.heap[b]? = some (.cells (xs.flatMap encL ++ rest).toArray T (0, 0)) ∧ m * k ≤ (xs.flatMap encL ++ rest).length ∧ (∀ o, H ⟨b, o, none⟩ = none) ∧ claims [(r, Blk.row k (rowK encL xs) (SL z))] [] = [b] ∧ Sort.HoldsK encL k w b 0 xs.toArray := by
  rcases h with ⟨a, e, h⟩ | ⟨b, m, us, rest, T, e, g0, hm, h1, h2, h3, h4⟩
  · left
    simp only [Value.slice.injEq] at e
    exact ⟨by simpa [rowK] using h, e.2.1⟩
  · right
    have hu := flat_vK h2
    subst hu
    simp only [rowK, List.length_map] at g0 e
    obtain ⟨z1, z2, z3⟩ := z
    simp only [Value.slice.injEq] at e
    obtain ⟨rfl, rfl, rfl⟩ := e
    refine ⟨b, z3, T, rest, rfl, g0, hm, h1, h3, h4, by simp [claims, blkClaim, sliceClaim, hm], ?_⟩
    unfold Sort.HoldsK
    rw [flatK_eq hk h0]
    intro j hj
    have hj' : j < (xs.flatMap encL).length := by simpa using hj
    constructor
    · simp only [World.cell?, h1, Option.isSome_none, Bool.false_eq_true, if_false, List.getElem?_toArray, Nat.zero_add]
      rw [List.getElem?_append_left hj', List.getElem?_eq_getElem hj', getElem!_pos _ j hj]
      simp
    · simp [World.frozen?, h1]
theorem row_putK (hk : ∀ x, (encL x).length = k) (he : ∀ x, (encL x).all one = true) {H : Hp} {w : World} {b m n : Nat} {fs xs : List α} {rest : List Value} {T : TypeId} {os : Array Obj} (hA : Ag H w) (h1 : w.heap[b]? = some (.cells (xs.flatMap encL ++ rest).toArray T (0, 0))) (h0 : xs.length ≤ m) (hm : 0 < m) (h3 : m * k ≤ (xs.flatMap encL ++ rest).length) (h4 : ∀ o, H ⟨b, o, none⟩ = none) (hl : fs.length = xs.length) :
    Core ⟨H, w, [b]⟩ H [(0, .row k (rowK encL fs) (SL (some ⟨b, 0, none⟩, fs.length, m)))] [] (Sort.grow (Sort.putRow id (Sort.ahead w n) b 0 (fs.flatMap encL).toArray) os) := by
  have hfl : (fs.flatMap encL).length = (xs.flatMap encL).length := by rw [flen hk, flen hk, hl]
  obtain ⟨p1, p2, p3, p4⟩ := put_heap (enc := id) (n := n) (os := os) (fs := fs.flatMap encL) (xs := xs.flatMap encL) (by rw [List.map_id]; exact h1) hfl
  rw [List.map_id] at p1
  refine ⟨fun a v e => ?_, Hp.le_refl H, fun _ _ x => .inl x, fun i hi hne => p2 i hi (by simpa using hne), p3, ?_, by simp, ?_, ?_, p4⟩
  · have hc := hA a v e
    have hlt := hA.lt e
    by_cases q : a.block = b
    · obtain ⟨ab, ao, asp⟩ := a
      simp only at q; subst q
      cases asp with
      | some sp => simp [World.cell?, h1] at hc
      | none => rw [h4 ao] at e; cases e
    · simp only [World.cell?] at hc ⊢
      rw [p2 _ hlt q]; exact hc
  · intro p hp
    simp only [List.mem_singleton] at hp; subst hp
    refine .inr ⟨b, m, fs.flatMap encL, rest, T, by simp [SL, rowK], by simp [rowK]; omega, hm, p1, vK_flat hk he _, ?_, h4⟩
    rw [List.length_append] at h3 ⊢
    omega
  · simp [claims, blkClaim, sliceClaim, hm]
  · intro x hx; simp [claims, blkClaim, sliceClaim, hm] at hx; subst hx; exact .inl (by simp)
theorem sort_rowK {P : Program} {f : FuncId} (hk : ∀ x, (encL x).length = k) (h00 : 0 < k) (he : ∀ x, (encL x).all one = true) {S : List α → List α} (hS : ∀ xs, (S xs).length = xs.length) (hg : Goes P f) (ex : List Value) (dx : List D) (hdx : ∀ H vs, RepsV H dx vs → vs = ex)
    (hc : ∀ (b m : Nat) (xs : List α) (w : World), Sort.HoldsK encL k w b 0 xs.toArray → b < w.heap.size → xs.length < 4611686018427387904 → Calls P f (.slice (some ⟨b, 0, none⟩) xs.length m :: ex).toArray w fun e w' => e = .returned (.tuple #[]) ∧ ∃ n os, w' = Sort.grow (Sort.putRowK encL k (Sort.ahead w n) b 0 (S xs).toArray) os)
    (hn : ∀ (a : Option Addr) (m : Nat) (w : World), Calls P f (.slice a 0 m :: ex).toArray w fun e w' => e = .returned (.tuple #[]) ∧ w' = w)
    (xs : List α) (z : Z3) (hb : xs.length < 4611686018427387904) : CallsD P f (.v (SL z) :: dx) [(0, .row k (rowK encL xs) (SL z))] [] (fun d h k' => d = .tup [] ∧ h = [(0, .row k (rowK encL (S xs)) (SL z))] ∧ k' = []) := by
  refine ⟨hg, fun H w vs hv hA hblk _ nd => ?_⟩
  simp only [RepsV] at hv
  obtain ⟨u, us, rfl, hu, hus⟩ := hv
  have := rep_v_inv hu
  subst this
  have := hdx H us hus
  subst this
  have hrow := hblk _ (List.mem_singleton.2 rfl)
  have unit : ∀ H', Rep H' (.tup []) (.tuple #[]) := fun H' => ⟨by simp only [Value.cells, RepC]; exact ⟨[], rfl, by simp [RepsV]⟩, rfl⟩
  rcases row_holdsK hk h00 hrow with ⟨rfl, h0⟩ | ⟨b, m, T, rest, rfl, h0, hm, h1, h3, h4, hcl, hH⟩
  · obtain ⟨z1, z2, z3⟩ := z
    simp only at h0; subst h0
    have hS0 : S [] = [] := List.eq_nil_of_length_eq_zero (by rw [hS]; rfl)
    refine (hn z1 z3 w).mono fun e w' ⟨he', hw⟩ => ?_
    subst hw
    exact ⟨_, H, .tup [], _, [], he', unit H, row_same hA hrow nd, rfl, by rw [hS0], rfl⟩
  · refine (hc b m xs w hH (Array.getElem?_eq_some_iff.1 h1).1 hb).mono fun e w' ⟨he', n, os, hw⟩ => ?_
    subst hw
    have hp := row_putK (n := n) (os := os) hk he hA h1 h0 hm h3 h4 (hS xs)
    rw [hS] at hp
    refine ⟨_, H, .tup [], _, [], he', unit H, ?_, rfl, rfl, rfl⟩
    rw [hcl]
    unfold Sort.putRowK
    rw [flatK_eq hk h00]; exact hp
noncomputable def pdqL (lt : α → α → Bool) (xs : List α) : List α := (Sort.pdq lt xs.toArray 0 xs.length (Lib.bitLen xs.length) true true).toList
theorem pdqL_all {lt : α → α → Bool} (hO : Sort.SWO lt) (xs : List α) : (pdqL lt xs).length = xs.length ∧ (pdqL lt xs).Perm xs ∧ (pdqL lt xs).Pairwise fun x y => lt y x = false := by
  have h := Sort.pdq_sorts lt hO xs.toArray 0 xs.length (Lib.bitLen xs.length) true true (Nat.zero_le _) (by simp) (Or.inl rfl)
  obtain ⟨⟨h1, _, h2⟩, h3⟩ := h
  have hs : (pdqL lt xs).length = xs.length := by unfold pdqL; simpa using h1
  refine ⟨hs, ?_, ?_⟩
  · have e1 : (Sort.pdq lt xs.toArray 0 xs.length (Lib.bitLen xs.length) true true).extract 0 xs.length = Sort.pdq lt xs.toArray 0 xs.length (Lib.bitLen xs.length) true true := by
      rw [Array.extract_eq_self_of_le (by simpa using Nat.le_of_eq h1)]
    rw [e1] at h2
    simpa [pdqL] using h2
  · rw [List.pairwise_iff_getElem]
    intro i j hi hj hij
    have := h3 i j (Nat.zero_le _) hij (by omega)
    have hsz : (Sort.pdq lt xs.toArray 0 xs.length (Lib.bitLen xs.length) true true).size = xs.length := by simpa using h1
    rw [getElem!_pos _ j (by omega), getElem!_pos _ i (by omega)] at this
    simpa [pdqL] using this
end
end Go.Proofs.Ytfepijllmfedfaa.Ab
namespace Go.Proofs.Ytfepijllmfedfaa.Ab
open Go Go.RowKit
set_option linter.all false
def bsOf (l : List UInt8) : ByteArray := ⟨l.toArray⟩
def lsOf (b : ByteArray) : List UInt8 := b.data.toList
theorem bs_ls (b : ByteArray) : bsOf (lsOf b) = b := by cases b; simp [bsOf, lsOf]
end Go.Proofs.Ytfepijllmfedfaa.Ab
namespace Go.Proofs.Ytfepijllmfedfaa.Ab
open Go
set_option linter.all false
section
variable {α : Type} {R : α → α → Prop}
def Rise (R : α → α → Prop) (l : List α) : Prop := l.Pairwise fun a b => R a b ∧ a ≠ b
variable [Inhabited α] [DecidableEq α]
end
def leS (a b : ByteArray) : Prop := lsOf a ≤ lsOf b
theorem lsOf_inj {a b : ByteArray} (h : lsOf a = lsOf b) : a = b := by rw [← bs_ls a, ← bs_ls b, h]
end Go.Proofs.Ytfepijllmfedfaa.Ab
namespace Go.Proofs.Ytfepijllmfedfaa.Ab
open Go
set_option linter.all false
section
variable {α : Type} [DecidableEq α] (lt : α → α → Bool)
def insT (w : α) : List α → List α
  | [] => [w]
  | x :: l => if w = x then x :: l else if lt w x = true then w :: x :: l else x :: insT w l
theorem insT_mem (w : α) : ∀ l x, x ∈ insT lt w l ↔ x = w ∨ x ∈ l
  | [], x => by simp [insT]
  | y :: l, x => by
    unfold insT
    split
    · rename_i h; subst h; simp
    · split
      · simp
      · rw [List.mem_cons, insT_mem w l x, List.mem_cons]
        constructor
        · rintro (h | h | h)
          · exact .inr (.inl h)
          · exact .inl h
          · exact .inr (.inr h)
        · rintro (h | h | h)
          · exact .inr (.inl h)
          · exact .inl h
          · exact .inr (.inr h)
theorem insT_len (w : α) : ∀ l, (insT lt w l).length ≤ l.length + 1
  | [] => by simp [insT]
  | y :: l => by
    have := insT_len w l
    unfold insT
    split
    · simp
    · split
      · simp
      · simp only [List.length_cons]; omega
variable {R : α → α → Prop} (hlt : ∀ a b, lt a b = true ↔ (R a b ∧ a ≠ b)) (to : ∀ a b, R a b ∨ R b a) (tr : ∀ a b c, R a b → R b c → R a c) (an : ∀ a b, R a b → R b a → a = b)
include hlt to tr an in
theorem insT_rise (w : α) : ∀ l, Rise R l → Rise R (insT lt w l)
  | [], _ => by simp [insT, Rise]
  | y :: l, h => by
    unfold Rise at h
    rw [List.pairwise_cons] at h
    unfold insT
    split
    · exact List.pairwise_cons.2 h
    · rename_i hne
      split
      · rename_i hl
        have hr := (hlt w y).1 hl
        refine List.pairwise_cons.2 ⟨fun z hz => ?_, List.pairwise_cons.2 h⟩
        rcases List.mem_cons.1 hz with rfl | hz
        · exact hr
        · have h2 := h.1 z hz
          refine ⟨tr _ _ _ hr.1 h2.1, fun e => ?_⟩
          subst e
          exact hne (an _ _ hr.1 h2.1)
      · rename_i hl
        refine List.pairwise_cons.2 ⟨fun z hz => ?_, insT_rise w l h.2⟩
        rcases (insT_mem lt w l z).1 hz with rfl | hz
        · refine ⟨?_, fun e => hne e.symm⟩
          rcases to z y with k | k
          · exact absurd ((hlt z y).2 ⟨k, hne⟩) hl
          · exact k
        · exact h.1 z hz
def insA (ws : List α) : List α := ws.foldl (fun acc w => insT lt w acc) []
include hlt to tr an in
theorem insA_all (ws : List α) : Rise R (insA lt ws) ∧ (∀ x, x ∈ insA lt ws ↔ x ∈ ws) ∧ (insA lt ws).length ≤ ws.length := by
  have key : ∀ (ws acc : List α), Rise R acc → Rise R (ws.foldl (fun acc w => insT lt w acc) acc) ∧ (∀ x, x ∈ ws.foldl (fun acc w => insT lt w acc) acc ↔ x ∈ acc ∨ x ∈ ws) ∧ (ws.foldl (fun acc w => insT lt w acc) acc).length ≤ acc.length + ws.length := by
    intro ws
    induction ws with
    | nil => intro acc h; exact ⟨h, by simp, by simp⟩
    | cons w ws ih =>
      intro acc h
      obtain ⟨h1, h2, h3⟩ := ih (insT lt w acc) (insT_rise lt hlt to tr an w acc h)
      have hl := insT_len lt w acc
      refine ⟨h1, fun x => ?_, by simp only [List.foldl_cons, List.length_cons]; omega⟩
      rw [List.foldl_cons, h2 x, insT_mem, List.mem_cons]
      constructor
      · rintro ((h | h) | h)
        · exact .inr (.inl h)
        · exact .inl h
        · exact .inr (.inr h)
      · rintro (h | h | h)
        · exact .inl (.inr h)
        · exact .inl (.inl h)
        · exact .inr h
  obtain ⟨h1, h2, h3⟩ := key ws [] (by simp [Rise])
  exact ⟨h1, fun x => (h2 x).trans (by simp), by simpa [insA] using h3⟩
variable (ir : ∀ a, lt a a = false)
end
theorem bl_eq : ∀ x y : List UInt8, Op.bytesLess x y = decide (x < y)
  | [], [] => by simp [Op.bytesLess]
  | [], b :: y => by simp [Op.bytesLess]
  | a :: x, [] => by simp [Op.bytesLess]
  | a :: x, b :: y => by
    rw [Op.bytesLess, bl_eq x y, Bool.eq_iff_iff, decide_eq_true_iff, List.cons_lt_cons_iff]
    simp
theorem ltB_iff (a b : ByteArray) : ltB a b = true ↔ (leS a b ∧ a ≠ b) := by
  unfold ltB leS
  rw [ByteArray.toList_eq, ByteArray.toList_eq, bl_eq, decide_eq_true_iff]
  show lsOf a < lsOf b ↔ _
  constructor
  · intro h
    exact ⟨List.le_of_lt h, fun e => by subst e; exact List.lt_irrefl _ h⟩
  · rintro ⟨h, k⟩
    by_cases q : lsOf a < lsOf b
    · exact q
    · exact absurd (lsOf_inj (List.le_antisymm h (List.not_lt.1 q))) k
theorem ltB_irr (a : ByteArray) : ltB a a = false := by
  cases h : ltB a a
  · rfl
  · exact absurd rfl ((ltB_iff a a).1 h).2
theorem insB_all (ws : List ByteArray) : Rise leS (insA ltB ws) ∧ (∀ x, x ∈ insA ltB ws ↔ x ∈ ws) ∧ (insA ltB ws).length ≤ ws.length :=
  insA_all ltB ltB_iff (fun a b => List.le_total _ _) (fun a b c => List.le_trans) (fun a b h k => lsOf_inj (List.le_antisymm h k)) ws
end Go.Proofs.Ytfepijllmfedfaa.Ab
namespace Go.Proofs.Ytfepijllmfedfaa.Ab
open Go Go.RowKit Go.Shelf Go.Proofs.Ytfepijllmfedfaa
set_option linter.all false
theorem or2 (a b : Int) : cmp_Or_int [a, b] = some (if a = 0 then b else a) := by
  unfold cmp_Or_int
  by_cases ha : a = 0
  · subst ha
    rw [loopM_next (s' := (1 : Int)) (by simp [idx]; rfl)]
    by_cases hb : b = 0
    · subst hb
      rw [loopM_next (s' := (2 : Int)) (by simp [idx]; rfl), loopM_done (t := .inl ()) (by simp)]; rfl
    · have hb' : (b != 0) = true := by simpa using hb
      rw [loopM_done (t := .inr b) (by simp [idx, hb'])]; rfl
  · have ha' : (a != 0) = true := by simpa using ha
    rw [loopM_done (t := .inr a) (by simp [idx, ha']), if_neg ha]; rfl
theorem cmpI_eq (a b : Int) : cmp_Compare_int a b = some (if a < b then -1 else if b < a then 1 else 0) := by
  unfold cmp_Compare_int
  have h : ∀ x : Int, cmp_isNaN_int x = some false := fun x => by unfold cmp_isNaN_int; simp
  rw [h, h]
  simp only [Option.bind_some, cond_false]
  by_cases h1 : a < b
  · simp [h1]
  · by_cases h2 : b < a
    · simp [h1, h2]
    · simp [h1, h2]
theorem leS_to (a b : ByteArray) : leS a b ∨ leS b a := List.le_total _ _
theorem leS_tr {a b c : ByteArray} (h : leS a b) (k : leS b c) : leS a c := List.le_trans h k
theorem leS_an {a b : ByteArray} (h : leS a b) (k : leS b a) : a = b := lsOf_inj (List.le_antisymm h k)
theorem gtB (a b : ByteArray) (h : ltB a b = false) : (!(ltB a b || a.toList == b.toList)) = ltB b a := by
  rw [h, Bool.false_or, Bool.eq_iff_iff, ltB_iff, Bool.not_eq_true']
  have hq : (a.toList == b.toList) = decide (a = b) := by
    rw [ByteArray.toList_eq, ByteArray.toList_eq, Bool.eq_iff_iff, beq_iff_eq, decide_eq_true_iff]
    exact ⟨fun h => lsOf_inj h, fun h => by rw [h]⟩
  rw [hq, decide_eq_false_iff_not]
  constructor
  · intro hne
    refine ⟨?_, fun e => hne e.symm⟩
    rcases leS_to b a with k | k
    · exact k
    · have := (ltB_iff a b).2 ⟨k, hne⟩
      rw [h] at this; cases this
  · rintro ⟨_, h2⟩ e
    exact h2 e.symm
def cfS (a b : ByteArray) : Int := if ltB a b = true then -1 else if ltB b a = true then 1 else 0
theorem cmpS_eq (a b : ByteArray) : cmp_Compare_string a b = some (cfS a b) := by
  unfold cmp_Compare_string cfS
  have h : ∀ x : ByteArray, cmp_isNaN_string x = some false := fun x => by unfold cmp_isNaN_string; simp
  rw [h, h]
  simp only [Option.bind_some, cond_false]
  cases h1 : ltB a b
  · have hg := gtB a b h1
    rw [h1, Bool.false_or] at hg
    rw [Bool.false_or, hg]
    cases h2 : ltB b a <;> simp
  · simp
def cfH (x y : TMemHeld) : Int := if cfS x.gC.gName y.gC.gName = 0 then (if x.gC.gAt < y.gC.gAt then -1 else if y.gC.gAt < x.gC.gAt then 1 else 0) else cfS x.gC.gName y.gC.gName
theorem all1_eq (x y : TMemHeld) : mem_Mem_All_1 x y = some (cfH x y) := by
  unfold mem_Mem_All_1 cfH
  rw [cmpS_eq, Option.bind_some, cmpI_eq, Option.bind_some, or2, Option.bind_some]
theorem cfS_lt (a b : ByteArray) : cfS a b < 0 ↔ ltB a b = true := by
  unfold cfS
  cases ltB a b <;> cases ltB b a <;> simp
theorem cfS_z (a b : ByteArray) : cfS a b = 0 ↔ a = b := by
  constructor
  · intro h
    unfold cfS at h
    split at h
    · cases h
    · split at h
      · cases h
      · rename_i h1 h2
        rcases leS_to a b with k | k
        · by_cases e : a = b
          · exact e
          · exact absurd ((ltB_iff _ _).2 ⟨k, e⟩) h1
        · by_cases e : a = b
          · exact e
          · exact absurd ((ltB_iff _ _).2 ⟨k, fun e2 => e e2.symm⟩) h2
  · rintro rfl
    unfold cfS; rw [ltB_irr]; rfl
def ltC (x y : TApiCell) : Prop := ltB x.gName y.gName = true ∨ (x.gName = y.gName ∧ x.gAt < y.gAt)
theorem cfH_lt (x y : TMemHeld) : cfH x y < 0 ↔ ltC x.gC y.gC := by
  unfold cfH ltC
  by_cases h : cfS x.gC.gName y.gC.gName = 0
  · rw [if_pos h]
    have e := (cfS_z _ _).1 h
    rw [e, ltB_irr]
    by_cases h1 : x.gC.gAt < y.gC.gAt
    · simp [h1]
    · by_cases h2 : y.gC.gAt < x.gC.gAt
      · simp [h1, h2]
      · simp [h1, h2]
  · rw [if_neg h, cfS_lt]
    have : x.gC.gName ≠ y.gC.gName := fun e => h ((cfS_z _ _).2 e)
    simp [this]
theorem ltB_tr {a b c : ByteArray} (h : ltB a b = true) (k : ltB b c = true) : ltB a c = true := by
  have h1 := (ltB_iff _ _).1 h
  have h2 := (ltB_iff _ _).1 k
  refine (ltB_iff _ _).2 ⟨leS_tr h1.1 h2.1, fun e => ?_⟩
  subst e
  exact h1.2 (leS_an h1.1 h2.1)
theorem ltB_tot (a b : ByteArray) : ltB a b = true ∨ a = b ∨ ltB b a = true := by
  by_cases e : a = b
  · exact .inr (.inl e)
  · rcases leS_to a b with k | k
    · exact .inl ((ltB_iff _ _).2 ⟨k, e⟩)
    · exact .inr (.inr ((ltB_iff _ _).2 ⟨k, fun q => e q.symm⟩))
theorem ltC_irr (x : TApiCell) : ¬ ltC x x := by
  unfold ltC; rw [ltB_irr]; simp
theorem ltC_tr {x y z : TApiCell} (h : ltC x y) (k : ltC y z) : ltC x z := by
  unfold ltC at *
  rcases h with h | ⟨h1, h2⟩ <;> rcases k with k | ⟨k1, k2⟩
  · exact .inl (ltB_tr h k)
  · exact .inl (by rw [← k1]; exact h)
  · exact .inl (by rw [h1]; exact k)
  · exact .inr ⟨h1.trans k1, by omega⟩
theorem ltC_tot (x y : TApiCell) : ltC x y ∨ x = y ∨ ltC y x := by
  obtain ⟨n, a⟩ := x
  obtain ⟨m, b⟩ := y
  unfold ltC
  simp only [TApiCell.mk.injEq]
  rcases ltB_tot n m with h | h | h
  · exact .inl (.inl h)
  · subst h
    rcases Int.lt_trichotomy a b with k | k | k
    · exact .inl (.inr ⟨rfl, k⟩)
    · exact .inr (.inl ⟨rfl, k⟩)
    · exact .inr (.inr (.inr ⟨rfl, k⟩))
  · exact .inr (.inr (.inl h))
theorem swo_H : Sort.SWO (ltOf cfH) where
  irrefl x := by unfold ltOf; rw [decide_eq_false_iff_not, cfH_lt]; exact ltC_irr _
  trans x y z h1 h2 := by
    unfold ltOf at *
    rw [decide_eq_true_iff, cfH_lt] at *; exact ltC_tr h1 h2
  ntrans x y z h1 h2 := by
    unfold ltOf at *
    rw [decide_eq_false_iff_not, cfH_lt] at *
    intro h
    rcases ltC_tot x.gC y.gC with k | k | k
    · exact h1 k
    · rw [k] at h; exact h2 h
    · exact h2 (ltC_tr k h)
def kcH (x : TMemHeld) : List Value := [.string x.gC.gName, .int .i64 x.gC.gAt, .bool x.gW.gPtr, .int .i64 x.gW.gN, .string x.gW.gTo.gName, .int .i64 x.gW.gTo.gAt]
instance : Inhabited TMemHeld := ⟨⟨⟨ByteArray.empty, 0⟩, ⟨false, 0, ⟨ByteArray.empty, 0⟩⟩⟩⟩
noncomputable def sortH (xs : List TMemHeld) : List TMemHeld := pdqL (ltOf cfH) xs
def len62H (xs : List TMemHeld) : Bool := decide (xs.length < 4611686018427387904)
theorem all1_calls (x y : TMemHeld) (W : World) : Calls Try.prog 20 #[.agg (kcH x).toArray, .agg (kcH y).toArray] W fun e w' => e = .returned (.int .i64 (cfH x y)) ∧ ∃ q os', w' = Sort.grow (W.drewN q) os' :=
  grown_of (us := [.agg (kcH x).toArray, .agg (kcH y).toArray]) (mem_Mem_All_1_ok x y _ (all1_eq x y)) W (by simp only [RepsV]; exact ⟨_, _, rfl, rep_va (fun _ => none) (us := kcH x) rfl, _, _, rfl, rep_va (fun _ => none) (us := kcH y) rfl, rfl⟩)
theorem sortH_ok (a0 : List TMemHeld) (z : Z3) (h : len62H a0 = true) : CallsD Try.prog 19 [.v (SL z), .fn (.func 20) [] []] [(0, .row 6 (a0.map eTMemHeld) (SL z))] [] (fun d h k => d = .tup [] ∧ h = [(0, .row 6 ((sortH a0).map eTMemHeld) (SL z))] ∧ k = []) := by
  unfold len62H at h
  rw [decide_eq_true_iff] at h
  have := sort_rowK (P := Try.prog) (f := 19) (encL := kcH) (k := 6) (fun _ => rfl) (by decide) (fun _ => rfl) (S := sortH) (fun xs => (pdqL_all swo_H xs).1) ⟨_, Try.func19, rfl, rfl⟩ [.func (.func 20) #[] #[]] [.fn (.func 20) [] []] (fun H vs h => by
      simp only [RepsV] at h
      obtain ⟨u, us, rfl, hu, rfl⟩ := h
      obtain ⟨vs, ws, rfl, h1, h2⟩ := rep_fn_inv hu
      simp only [RepsV] at h1 h2
      subst h1 h2; rfl)
    (fun b m xs w hH hb hl => by
      have := AnyQ.slices_SortFunc_eq Try.sort19 6 (fun w => run_isAgg (ti_ok htab (t := Try.sort19_ren.t 24) rfl)) (fun w => run_sizeOf (ti_ok htab (t := Try.sort19_ren.t 24) rfl)) kcH (fun _ => rfl) (fun x v hv => by simp [kcH] at hv; rcases hv with rfl | rfl | rfl | rfl | rfl | rfl <;> rfl) cfH swo_H 20 #[] b 0 m xs.toArray w (fun args w => by rfl) (fun _ _ _ _ x y => all1_calls x y _) hH hb (by simpa using hl)
      refine this.mono fun e w' ⟨he, n, os, hw⟩ => ⟨he, n, os, ?_⟩
      rw [hw]
      unfold sortWorldK sortH pdqL
      simp)
    (fun a m w => AnyF.slices_SortFunc_none Try.sort19 a m _ w) a0 z h
  exact this
end Go.Proofs.Ytfepijllmfedfaa.Ab
namespace Go.Proofs.Ytfepijllmfedfaa.Ab
open Go
set_option linter.all false
abbrev GL := List Nat
def isG (rl : GL) (e : Nat) : Bool := rl.contains e
def dG (vl : GL) (e : Nat) (d : D) (v : Value) : D := bif isG vl e then .v v else d
section
variable (P : Program) (C : Ctx) (N : Nat) (l : List Oper) (m : Nat) (De : Nat → D) (al : AL) (rl vl : GL) (G : Nat → Value → List (Nat × Blk) → List (Nat × Value) → Prop) (h0 : Nat → List (Nat × Blk)) (k0 : Nat → List (Nat × Value)) (pre : List (List Nat)) (ev : List Nat) (h : List (Nat × Blk)) (k : List (Nat × Value)) (Q : Exit → S → Prop)
def dEg (bs : Nat → Value) (e : Nat) : D := bif isAl al e then .ptr (blk (bs e)) 0 else dG vl e (De e) (bs e)
def TOKg (H0 : Hp) (bs : Nat → Value) (vals : Nat → Value) (te : TE) (a : Act) : Prop :=
  ∀ j d o, look3 te j = some (d, o) → ∃ v, a.tmps[j]? = some v ∧ (o = none → ∀ H, H0.le H → Rep H d v) ∧ ∀ e, o = some e → v = vals e ∧ d = dEg De al vl bs e ∧ ev.contains e = true
end
section
variable {P : Program} {C : Ctx} {N : Nat} {l : List Oper} {m : Nat} {De : Nat → D} {al : AL} {rl vl : GL} {G : Nat → Value → List (Nat × Blk) → List (Nat × Value) → Prop} {h0 : Nat → List (Nat × Blk)} {k0 : Nat → List (Nat × Value)} {pre : List (List Nat)} {ev : List Nat} {h : List (Nat × Blk)} {k : List (Nat × Value)} {Q : Exit → S → Prop} {tab : List (Option TI)} {bs : Nat → Value} {i : Nat} {o : Oper} {rest : List Oper} {te : TE}
theorem TOKg.put {H0 : Hp} {vals : Nat → Value} {a : Act} (kt : TOKg De al vl ev H0 bs vals te a) {j : Nat} {d : D} {o : Option Nat} {v : Value} (hj : j < a.tmps.size) (h1 : o = none → ∀ H, H0.le H → Rep H d v) (h2 : ∀ e, o = some e → v = vals e ∧ d = dEg De al vl bs e ∧ ev.contains e = true) :
    TOKg De al vl ev H0 bs vals ((j, d, o) :: te) (a.put (some j) v) := by
  intro j' d' o' e
  simp only [look3] at e
  simp only [Act.put]
  cases hb : Nat.beq j j' with
  | true =>
    rw [hb] at e; simp at e
    obtain ⟨rfl, rfl⟩ := e
    have := Nat.eq_of_beq_eq_true hb; subst this
    exact ⟨v, by simp [hj], h1, h2⟩
  | false =>
    rw [hb] at e; simp at e
    have hne : j ≠ j' := Nat.ne_of_beq_eq_false hb
    obtain ⟨u, h3, h4⟩ := kt j' d' o' e
    exact ⟨u, by rw [Array.getElem?_setIfInBounds_ne hne]; exact h3, h4⟩
end
section
variable {P : Program} {C : Ctx} {N : Nat} {l : List Oper} {m : Nat} {De : Nat → D} {al : AL} {rl vl : GL} {G : Nat → Value → List (Nat × Blk) → List (Nat × Value) → Prop} {h0 : Nat → List (Nat × Blk)} {k0 : Nat → List (Nat × Value)} {pre : List (List Nat)} {ev : List Nat} {h : List (Nat × Blk)} {k : List (Nat × Value)} {Q : Exit → S → Prop} {tab : List (Option TI)} {bs : Nat → Value} {i : Nat} {o : Oper} {rest : List Oper} {te : TE}
end
end Go.Proofs.Ytfepijllmfedfaa.Ab
namespace Go.Proofs.Ytfepijllmfedfaa.Ab
open Go
set_option linter.all false
theorem mk61 : KeyOK Try.prog 9 (fun s : ByteArray => Value.string s) := str_key (by kernel_rfl)
theorem mz61 : (Try.prog.info? 3).bind (·.zero) = some (.int .i64 (0 : Int)) := by kernel_rfl
theorem mr61 (H : Hp) : Rep H (eI64 (0 : Int)) (.int .i64 (0 : Int)) := rep_v rfl
instance : DecidableEq TApiCell := fun a b => decidable_of_iff (a.gName = b.gName ∧ a.gAt = b.gAt) (by cases a; cases b; simp)
def kcTApiCell (x : TApiCell) : List Value := [.string x.gName, .int .i64 x.gAt]
theorem keTApiCell (a b : TApiCell) : (decide (a.gName = b.gName) && (a.gAt == b.gAt && true)) = decide (b = a) := by
  rw [Bool.eq_iff_iff, decide_eq_true_iff]
  obtain ⟨a0, a1⟩ := a
  obtain ⟨b0, b1⟩ := b
  simp only [Bool.and_eq_true, decide_eq_true_eq, beq_iff_eq, and_true, TApiCell.mk.injEq]
  constructor <;> intro h <;> simp_all
theorem mk62 : KeyOK Try.prog 35 (fun a => Value.agg (kcTApiCell a).toArray) := struct_key (g := kcTApiCell) htab eqt35 rfl rfl (fun _ => rfl) (fun _ => rfl) (fun a b => (show eqL tab _ _ _ = some ((decide (a.gName = b.gName) && (a.gAt == b.gAt && true))) from rfl).trans (congrArg some (keTApiCell a b)))
theorem mz62 : (Try.prog.info? 37).bind (·.zero) = some (.agg #[.bool false, .int .i64 (0 : Int), .string ByteArray.empty, .int .i64 (0 : Int)]) := by kernel_rfl
theorem mr62 (H : Hp) : Rep H (eTApiWord (⟨false, (0 : Int), (⟨ByteArray.empty, (0 : Int)⟩ : TApiCell)⟩ : TApiWord)) (.agg #[.bool false, .int .i64 (0 : Int), .string ByteArray.empty, .int .i64 (0 : Int)]) := rep_va H (us := [.bool false, .int .i64 (0 : Int), .string ByteArray.empty, .int .i64 (0 : Int)]) rfl
structure TApiGlobal where
  gName : ByteArray
  gPtr : Bool
  gSize : Int
  gAt : Int
def eTApiGlobal (x : TApiGlobal) : D := .agg [.v (.string x.gName), .v (.bool x.gPtr), .v (.int .i64 x.gSize), .v (.int .i64 x.gAt)]
structure TApiVar where
  gName : ByteArray
  gPtr : Bool
def eTApiVar (x : TApiVar) : D := .agg [.v (.string x.gName), .v (.bool x.gPtr)]
structure TApiExpr where
  gOp : Int
  gN : Int
  gName : ByteArray
  gKids : List TApiExpr
  gAt : Int
mutual
def eTApiExpr : TApiExpr → D
  | ⟨f0, f1, f2, f3, f4⟩ => .agg [.v (.int .i64 f0), .v (.int .i64 f1), .v (.string f2), .lst 5 (eTApiExpr_l f3) .no, .v (.int .i64 f4)]
def eTApiExpr_l : List TApiExpr → List D
  | [] => []
  | x :: l => eTApiExpr x :: eTApiExpr_l l
end
structure TApiStmt where
  gOp : Int
  gName : ByteArray
  gFunc : ByteArray
  gExps : List TApiExpr
  gKids : List TApiStmt
  gElse : List TApiStmt
  gAt : Int
mutual
def eTApiStmt : TApiStmt → D
  | ⟨f0, f1, f2, f3, f4, f5, f6⟩ => .agg [.v (.int .i64 f0), .v (.string f1), .v (.string f2), .lst 5 (f3.map eTApiExpr) .no, .lst 7 (eTApiStmt_l f4) .no, .lst 7 (eTApiStmt_l f5) .no, .v (.int .i64 f6)]
def eTApiStmt_l : List TApiStmt → List D
  | [] => []
  | x :: l => eTApiStmt x :: eTApiStmt_l l
end
structure TApiFunc where
  gName : ByteArray
  gParams : List TApiVar
  gLocals : List TApiVar
  gBody : List TApiStmt
  gAt : Int
def eTApiFunc (x : TApiFunc) : D := .agg [.v (.string x.gName), .lst 2 (x.gParams.map eTApiVar) .no, .lst 2 (x.gLocals.map eTApiVar) .no, .lst 7 (x.gBody.map eTApiStmt) .no, .v (.int .i64 x.gAt)]
structure TApiProgram where
  gGlobals : List TApiGlobal
  gFuncs : List TApiFunc
def eTApiProgram (x : TApiProgram) : D := .agg [.lst 4 (x.gGlobals.map eTApiGlobal) .no, .lst 5 (x.gFuncs.map eTApiFunc) .no]
structure TMemMem where
  gSizes : List (ByteArray × Int)
  gWords : List (TApiCell × TApiWord)
  gCells : List TApiCell
noncomputable def mem_New (a0 : TApiProgram) : Option (TMemMem) :=
  (Option.bind (α := List TApiCell × List (ByteArray × Int) × List (TApiCell × TApiWord)) (loopM (fun (s190 : Int × List TApiCell × List (ByteArray × Int) × List (TApiCell × TApiWord)) => (bif (decide (s190.1 < (a0.gGlobals.length : Int))) then ((idx a0.gGlobals s190.1).bind fun x329 => (bif (decide ((0 : Int) < (mgetD s190.2.2.1 x329.gName (0 : Int)))) then some (.next ((IntKind.i64.wrap (s190.1 + (1 : Int))), s190.2.1, s190.2.2.1, s190.2.2.2)) else (Option.bind (α := Bool) (bif (!x329.gPtr) then some (decide ((0 : Int) < x329.gSize)) else some false) fun y333 => (Option.bind (α := Int) (bif y333 then some x329.gSize else some (1 : Int)) fun y336 => (Option.bind (α := List TApiCell × List (TApiCell × TApiWord)) (loopM (fun (s355 : Int × List TApiCell × List (TApiCell × TApiWord)) => (bif (decide (s355.1 < y336)) then ((app 24 s355.2.1 ([(⟨x329.gName, s355.1⟩ : TApiCell)] : List TApiCell)).bind fun x370 => some (.next ((IntKind.i64.wrap (s355.1 + (1 : Int))), x370, (mput s355.2.2 (⟨x329.gName, s355.1⟩ : TApiCell) (⟨x329.gPtr, (0 : Int), (⟨ByteArray.empty, (0 : Int)⟩ : TApiCell)⟩ : TApiWord))))) else some (.done (s355.2.1, s355.2.2)))) ((0 : Int), s190.2.1, s190.2.2.2)) fun y354 => some (.next ((IntKind.i64.wrap (s190.1 + (1 : Int))), y354.1, (mput s190.2.2.1 x329.gName y336), y354.2))))))) else some (.done (s190.2.1, s190.2.2.1, s190.2.2.2)))) ((0 : Int), ([] : List TApiCell), ([] : List (ByteArray × Int)), ([] : List (TApiCell × TApiWord)))) fun y189 => some (⟨y189.2.1, y189.2.2, y189.1⟩ : TMemMem))
set_option maxRecDepth 100000 in
set_option maxHeartbeats 2000000 in
theorem mem_New_ok (a0 : TApiProgram) (r : TMemMem) (h0 : mem_New a0 = some r) : CallsD Try.prog 6 [eTApiProgram a0] [] [] (fun d h k => ∃ y0 y1 y2 y3, d = .ptr y0 0 ∧ h = [(y0, Blk.cells [.v (.map (some y1)), .v (.map (some y2)), .lst 2 (r.gCells.map eTApiCell) (.cur y3)] 64), (y1, Blk.mp (r.gSizes.map fun p => ((fun s : ByteArray => Value.string s) p.1, eI64 p.2))), (y2, Blk.mp (r.gWords.map fun p => ((fun a => Value.agg (kcTApiCell a).toArray) p.1, eTApiWord p.2)))] ∧ k = [(2, y3)]) := by
  have hm := yes_of h0
  unfold mem_New at hm
  clear h0
  refine enterX htab Try.func6 rfl rfl rfl rfl rfl (fun C => ?_)
  refine wpD_sr ?_
  refine p_box rfl rfl rfl rfl rfl rfl rfl (fun b1 => ?_)
  refine pu ?_
  refine ops_n2 ?_
  refine p_makeMap rfl rfl rfl rfl (fun b2 => ?_)
  refine p_makeMap rfl rfl rfl rfl (fun b3 => ?_)
  refine p_build (r := [.v (.map (some b2)), .v (.map (some b3)), .lst 1 [] .full]) htab rfl rfl rfl rfl rfl rfl rfl rfl rfl ?_
  refine p_box rfl rfl rfl rfl rfl rfl rfl (fun b4 => ?_)
  refine pu ?_
  refine ops_nt ?_
  refine wpD_seq ?_
  refine wpD_sr ?_
  refine pu ?_
  refine pL 2 ?_
  refine p_lenL htab rfl rfl rfl rfl rfl rfl rfl (by first | exact map_len | rfl) ?_
  refine pu ?_
  refine ops_nt ?_
  obtain ⟨y189, q189, ho189⟩ := yes_bind hm
  refine wpD_mid (Y := Value) (fun z189 => (⟨[(3, .ptr b4 0)], [(b3, Blk.mp (y189.2.2.map fun p => ((fun a => Value.agg (kcTApiCell a).toArray) p.1, eTApiWord p.2))), (b2, Blk.mp (y189.2.1.map fun p => ((fun s : ByteArray => Value.string s) p.1, eI64 p.2))), (b4, Blk.cells [.v (.map (some b2)), .v (.map (some b3)), .lst 2 (y189.1.map eTApiCell) (.cur z189)] 64)], [(2, z189)]⟩ : S)) ?_ ?_
  ·clear hm; have hm := yes_of q189
   refine wpD_block ?_
   obtain ⟨u190, hl190, hq190⟩ := yes_m hm
   refine loop_M (Y := Value) hl190 (fun s190 z190 => (⟨[(3, .ptr b4 0), (14, .lst 4 (a0.gGlobals.map eTApiGlobal) .no), (15, .v (.int .i64 (a0.gGlobals.length : Int))), (16, .v (.int .i64 s190.1))], [(b3, Blk.mp (s190.2.2.2.map fun p => ((fun a => Value.agg (kcTApiCell a).toArray) p.1, eTApiWord p.2))), (b2, Blk.mp (s190.2.2.1.map fun p => ((fun s : ByteArray => Value.string s) p.1, eI64 p.2))), (b4, Blk.cells [.v (.map (some b2)), .v (.map (some b3)), .lst 2 (s190.2.1.map eTApiCell) (.cur z190)] 64)], [(2, z190)]⟩ : S)) ?_ ?_
   ·skip
    refine WkX.cellF (off := 2) 2 3 rfl rfl (by first | exact Or.inl rfl | exact Or.inr rfl) (fun w327 => ?_)
    exact WkX.of w327 (WkS.perm (WkS.cons rfl (Wk.refl _) (WkS.cons rfl (Wk.refl _) (WkS.cons rfl (Wk.refl _) (WkS.cons rfl (Wk.refl _) (WkS.nil))))) ((perm_at (j := 0) rfl).trans (List.Perm.cons _ ((perm_at (j := 0) rfl).trans (List.Perm.cons _ ((perm_at (j := 1) rfl).trans (List.Perm.cons _ Pf)))))) Pf)
   ·intro G190 s190 z190 hm
    refine wpD_sr ?_
    refine pu ?_
    refine ops_nt ?_
    refine wpD_seq ?_
    refine wpD_cond rfl (fun hc328 => ?_) (fun hc328 => ?_)
    ·replace hm := yes_t hc328 hm
     refine wpD_skip ?_
     refine then_normal ?_
     refine wpD_seq ?_
     refine wpD_block ?_
     refine wpD_sr ?_
     obtain ⟨x329, q329, hm⟩ := yes_bind hm
     refine p_elem htab rfl rfl rfl rfl rfl rfl rfl rfl rfl rfl (idx_nonneg q329) (idx_map q329) ?_
     refine p_loadEl (d := eTApiGlobal x329) htab rfl rfl rfl rfl rfl rfl rfl rfl ?_
     refine p_alloc htab rfl rfl rfl rfl rfl rfl rfl (fun b330 => ?_)
     refine pS3 (ds' := [.v (.string x329.gName), .v (.bool x329.gPtr), .v (.int .i64 x329.gSize), .v (.int .i64 x329.gAt)]) ?_
     refine ops_nt ?_
     refine wpD_seq ?_
     refine wpD_seq ?_
     refine wpD_draws 6 [] [[],[0],[0,1],[0,1,2],[],[4]] [0,1,2,3,4] [[],[0],[0,1],[0,1,2],[],[4],[0,1,2,3,4,5],[0,1,2,3,4,5,6]] (by kernel_rfl) (by kernel_rfl) (by kernel_rfl) (by rfl) (by rfl) (by kernel_rfl) ?_
     iterate 5 apply Exists.intro
     intro bs
     iterate 3 refine zep ?_
     refine z_eM rfl rfl (xm_load 2 htab rfl rfl rfl rfl rfl) rfl rfl rfl rfl rfl rfl ?_
     refine zep ?_
     refine z_qM rfl rfl (xm_load 3 htab rfl rfl rfl rfl rfl) rfl rfl rfl rfl rfl rfl ?_
     refine z_nil rfl rfl (fun e he => by simp [isAl] at he) ?_
     refine p_lookup (l := s190.2.2.1) (f := (fun s : ByteArray => Value.string s)) (e := eI64) (kk := x329.gName) (z := (0 : Int)) (dr := .v (.int .i64 (mgetD s190.2.2.1 x329.gName (0 : Int)))) 1 htab rfl rfl rfl rfl rfl rfl rfl rfl rfl rfl mk61 (fun H v h => rep_v_inv h) mz61 mr61 rfl ?_
     refine pu ?_
     refine ops_nt ?_
     refine wpD_cond rfl (fun hc331 => ?_) (fun hc331 => ?_)
     ·replace hm := yes_t hc331 hm
      refine wpD_exit ?_
      refine then_exit ?_
      refine block_hit ?_
      refine then_normal ?_
      refine wpD_region ?_
      refine pu ?_
      refine pu ?_
      refine ops_nil ?_
      refine then_normal ⟨_, lp_next hm, ?_⟩
      exact WkX.of z190 (WkS.perm (WkS.cons rfl (Wk.refl _) (WkS.cons rfl (Wk.refl _) (WkS.cons rfl (Wk.refl _) (WkS.cons rfl (Wk.refl _) (WkS.nil))))) Pf Pf)
     ·replace hm := yes_f hc331 hm
      refine wpD_skip ?_
      refine then_normal ?_
      refine wpD_sr ?_
      refine pu ?_
      refine ops_nt ?_
      refine wpD_seq ?_
      refine wpD_seq ?_
      obtain ⟨y333, q333, ho333⟩ := yes_bind hm
      refine wpD_mid (Y := Unit) (fun z333 => (⟨[(3, .ptr b4 0), (5, .ptr b330 0), (6, .v (.int .i64 (1 : Int))), (14, .lst 4 (a0.gGlobals.map eTApiGlobal) .no), (15, .v (.int .i64 (a0.gGlobals.length : Int))), (16, .v (.int .i64 s190.1)), (35, .v (.bool y333))], [(b3, Blk.mp (s190.2.2.2.map fun p => ((fun a => Value.agg (kcTApiCell a).toArray) p.1, eTApiWord p.2))), (b2, Blk.mp (s190.2.2.1.map fun p => ((fun s : ByteArray => Value.string s) p.1, eI64 p.2))), (b4, Blk.cells [.v (.map (some b2)), .v (.map (some b3)), .lst 2 (s190.2.1.map eTApiCell) (.cur z190)] 64), (b330, Blk.cells [.v (.string x329.gName), .v (.bool x329.gPtr), .v (.int .i64 x329.gSize), .v (.int .i64 x329.gAt)] 29)], [(2, z190)]⟩ : S)) ?_ ?_
      ·clear hm; have hm := yes_of q333
       refine wpD_region ?_
       refine pu ?_
       refine pL 3 ?_
       refine pu ?_
       refine pu ?_
       refine p_split (i := 31) rfl (fun hg334 => ?_) (fun hg334 => ?_)
       ·replace hm := yes_t hg334 hm
        refine pu ?_
        refine pL 3 ?_
        refine pu ?_
        refine p_pickT rfl rfl rfl rfl rfl rfl ?_
        refine ops_nil ?_
        have e333 := yes_eq hm; subst e333
        refine ⟨rfl, ?_⟩
        exact WkX.of () (WkS.perm (WkS.cons rfl (Wk.refl _) (WkS.cons rfl (Wk.refl _) (WkS.cons rfl (Wk.refl _) (WkS.cons rfl (Wk.refl _) (WkS.cons rfl (Wk.refl _) (WkS.cons rfl (Wk.refl _) (WkS.cons rfl (Wk.refl _) (WkS.nil)))))))) Pf Pf)
       ·replace hm := yes_f hg334 hm
        iterate 3 refine pK ?_
        refine p_pickF rfl rfl rfl rfl rfl rfl ?_
        refine ops_nil ?_
        have e333 := yes_eq hm; subst e333
        refine ⟨rfl, ?_⟩
        exact WkX.of () (WkS.perm (WkS.cons rfl (Wk.refl _) (WkS.cons rfl (Wk.refl _) (WkS.cons rfl (Wk.refl _) (WkS.cons rfl (Wk.refl _) (WkS.cons rfl (Wk.refl _) (WkS.cons rfl (Wk.refl _) (WkS.cons rfl (Wk.refl _) (WkS.nil)))))))) Pf Pf)
      ·intro s333 hw333; clear hm; have hm := ho333; clear q333 ho333
       refine then_normal ?_
       refine wpD_wkX hw333 (fun z333 => ?_)
       obtain ⟨y336, q336, ho336⟩ := yes_bind hm
       refine wpD_mid (Y := Unit) (fun z336 => (⟨[(3, .ptr b4 0), (5, .ptr b330 0), (6, .v (.int .i64 y336)), (14, .lst 4 (a0.gGlobals.map eTApiGlobal) .no), (15, .v (.int .i64 (a0.gGlobals.length : Int))), (16, .v (.int .i64 s190.1))], [(b3, Blk.mp (s190.2.2.2.map fun p => ((fun a => Value.agg (kcTApiCell a).toArray) p.1, eTApiWord p.2))), (b2, Blk.mp (s190.2.2.1.map fun p => ((fun s : ByteArray => Value.string s) p.1, eI64 p.2))), (b4, Blk.cells [.v (.map (some b2)), .v (.map (some b3)), .lst 2 (s190.2.1.map eTApiCell) (.cur z190)] 64), (b330, Blk.cells [.v (.string x329.gName), .v (.bool x329.gPtr), .v (.int .i64 x329.gSize), .v (.int .i64 x329.gAt)] 29)], [(2, z190)]⟩ : S)) ?_ ?_
       ·clear hm; have hm := yes_of q336
        refine wpD_cond rfl (fun hc337 => ?_) (fun hc337 => ?_)
        ·replace hm := yes_t hc337 hm
         refine wpD_region ?_
         refine pu ?_
         refine pL 3 ?_
         refine pu ?_
         refine ops_nil ?_
         have e336 := yes_eq hm; subst e336
         refine ⟨rfl, ?_⟩
         exact WkX.of () (WkS.perm (WkS.cons rfl (Wk.refl _) (WkS.cons rfl (Wk.refl _) (WkS.cons rfl (Wk.refl _) (WkS.cons rfl (Wk.refl _) (WkS.cons rfl (Wk.refl _) (WkS.cons rfl (Wk.refl _) (WkS.nil))))))) Pf Pf)
        ·replace hm := yes_f hc337 hm
         refine wpD_skip ?_
         have e336 := yes_eq hm; subst e336
         refine ⟨rfl, ?_⟩
         exact WkX.of () (WkS.perm (WkS.cons rfl (Wk.refl _) (WkS.cons rfl (Wk.refl _) (WkS.cons rfl (Wk.refl _) (WkS.cons rfl (Wk.refl _) (WkS.cons rfl (Wk.refl _) (WkS.cons rfl (Wk.refl _) (WkS.nil))))))) Pf Pf)
       ·intro s336 hw336; clear hm; have hm := ho336; clear q336 ho336
        refine then_normal ?_
        refine wpD_wkX hw336 (fun z336 => ?_)
        refine wpD_seq ?_
        refine wpD_draws 7 [] [[],[0],[0,1],[0,1,2],[],[4],[]] [0,1,2,3,4] [[],[0],[0,1],[0,1,2],[],[4],[],[0,1,2,3,4,5,6]] (by kernel_rfl) (by kernel_rfl) (by kernel_rfl) (by rfl) (by rfl) (by kernel_rfl) ?_
        iterate 5 apply Exists.intro
        intro bs
        iterate 3 refine zep ?_
        refine z_eM rfl rfl (xm_load 2 htab rfl rfl rfl rfl rfl) rfl rfl rfl rfl rfl rfl ?_
        refine zep ?_
        refine z_qM rfl rfl (xm_load 3 htab rfl rfl rfl rfl rfl) rfl rfl rfl rfl rfl rfl ?_
        refine zqp ?_
        refine z_nil rfl rfl (fun e he => by simp [isAl] at he) ?_
        refine p_mapUpdate (l := s190.2.2.1) (f := (fun s : ByteArray => Value.string s)) (e := eI64) (kk := x329.gName) (vv := y336) (h' := [(b3, Blk.mp (s190.2.2.2.map fun p => ((fun a => Value.agg (kcTApiCell a).toArray) p.1, eTApiWord p.2))), (b2, Blk.mp ((mput s190.2.2.1 x329.gName y336).map fun p => ((fun s : ByteArray => Value.string s) p.1, eI64 p.2))), (b4, Blk.cells [.v (.map (some b2)), .v (.map (some b3)), .lst 2 (s190.2.1.map eTApiCell) (.cur z190)] 64), (b330, Blk.cells [.v (.string x329.gName), .v (.bool x329.gPtr), .v (.int .i64 x329.gSize), .v (.int .i64 x329.gAt)] 29)]) 1 htab rfl rfl rfl rfl rfl rfl rfl rfl rfl rfl mk61 (fun H v h => rep_v_inv h) (Wk.refl _) rfl ?_
        refine ops_n2 ?_
        refine pu ?_
        refine pu ?_
        refine ops_nt ?_
        obtain ⟨y354, q354, ho354⟩ := yes_bind hm
        refine wpD_mid (Y := Value) (fun z354 => (⟨[(3, .ptr b4 0), (14, .lst 4 (a0.gGlobals.map eTApiGlobal) .no), (15, .v (.int .i64 (a0.gGlobals.length : Int))), (16, .v (.int .i64 s190.1))], [(b3, Blk.mp (y354.2.map fun p => ((fun a => Value.agg (kcTApiCell a).toArray) p.1, eTApiWord p.2))), (b2, Blk.mp ((mput s190.2.2.1 x329.gName y336).map fun p => ((fun s : ByteArray => Value.string s) p.1, eI64 p.2))), (b4, Blk.cells [.v (.map (some b2)), .v (.map (some b3)), .lst 2 (y354.1.map eTApiCell) (.cur z354)] 64)], [(2, z354)]⟩ : S)) ?_ ?_
        ·clear hm; have hm := yes_of q354
         refine wpD_block ?_
         obtain ⟨u355, hl355, hq355⟩ := yes_m hm
         refine loop_M (Y := Value) hl355 (fun s355 z355 => (⟨[(3, .ptr b4 0), (5, .ptr b330 0), (14, .lst 4 (a0.gGlobals.map eTApiGlobal) .no), (15, .v (.int .i64 (a0.gGlobals.length : Int))), (16, .v (.int .i64 s190.1)), (45, .v (.int .i64 y336)), (46, .v (.int .i64 s355.1))], [(b3, Blk.mp (s355.2.2.map fun p => ((fun a => Value.agg (kcTApiCell a).toArray) p.1, eTApiWord p.2))), (b2, Blk.mp ((mput s190.2.2.1 x329.gName y336).map fun p => ((fun s : ByteArray => Value.string s) p.1, eI64 p.2))), (b4, Blk.cells [.v (.map (some b2)), .v (.map (some b3)), .lst 2 (s355.2.1.map eTApiCell) (.cur z355)] 64), (b330, Blk.cells [.v (.string x329.gName), .v (.bool x329.gPtr), .v (.int .i64 x329.gSize), .v (.int .i64 x329.gAt)] 29)], [(2, z355)]⟩ : S)) ?_ ?_
         ·skip
          exact WkX.of z190 (WkS.perm (WkS.cons rfl (Wk.refl _) (WkS.cons rfl (Wk.refl _) (WkS.cons rfl (Wk.refl _) (WkS.cons rfl (Wk.refl _) (WkS.cons rfl (Wk.refl _) (WkS.cons rfl (Wk.refl _) (WkS.cons rfl (Wk.refl _) (WkS.nil)))))))) Pf Pf)
         ·intro G355 s355 z355 hm
          refine wpD_sr ?_
          refine pu ?_
          refine ops_nt ?_
          refine wpD_seq ?_
          refine wpD_cond rfl (fun hc368 => ?_) (fun hc368 => ?_)
          ·replace hm := yes_t hc368 hm
           refine wpD_skip ?_
           refine then_normal ?_
           refine wpD_seq ?_
           refine wpD_block ?_
           refine wpD_sr ?_
           refine pu ?_
           refine pu ?_
           refine ops_n2 ?_
           refine pu ?_
           refine pL 3 ?_
           refine pu ?_
           refine p_build (r := [.v (.string x329.gName), .v (.int .i64 s355.1)]) htab rfl rfl rfl rfl rfl rfl rfl rfl rfl ?_
           refine p_alloc htab rfl rfl rfl rfl rfl rfl rfl (fun b369 => ?_)
           refine pS4 (ds' := [.v (.string x329.gName), .v (.int .i64 s355.1)]) ?_
           refine ops_nt ?_
           refine wpD_seq ?_
           refine wpD_draws 8 [] [[],[0],[0,1],[0,1,2],[],[],[5],[5]] [0,1,2,3,4,5,7] [[],[0],[0,1],[0,1,2],[],[],[5],[5,6],[0,1,2,3,4,5,6,7]] (by kernel_rfl) (by kernel_rfl) (by kernel_rfl) (by rfl) (by rfl) (by kernel_rfl) ?_
           iterate 7 apply Exists.intro
           intro bs
           iterate 3 refine zep ?_
           refine z_eM rfl rfl (xm_load 2 htab rfl rfl rfl rfl rfl) rfl rfl rfl rfl rfl rfl ?_
           refine z_eM rfl rfl (xm_load (d := eTApiCell (⟨x329.gName, s355.1⟩ : TApiCell)) 4 htab rfl rfl rfl rfl rfl) rfl rfl rfl rfl rfl rfl ?_
           refine zep ?_
           refine z_qM rfl rfl (xm_load 3 htab rfl rfl rfl rfl rfl) rfl rfl rfl rfl rfl rfl ?_
           refine z_e rfl rfl (x_build (r := [.v (.bool x329.gPtr), .v (.int .i64 (0 : Int)), .v (.string ByteArray.empty), .v (.int .i64 (0 : Int))]) htab rfl rfl rfl rfl rfl rfl) rfl rfl rfl rfl rfl rfl ?_
           refine z_nil rfl rfl (fun e he => by simp [isAl] at he) ?_
           refine p_mapUpdate (l := s355.2.2) (f := (fun a => Value.agg (kcTApiCell a).toArray)) (e := eTApiWord) (kk := (⟨x329.gName, s355.1⟩ : TApiCell)) (vv := (⟨x329.gPtr, (0 : Int), (⟨ByteArray.empty, (0 : Int)⟩ : TApiCell)⟩ : TApiWord)) (h' := [(b3, Blk.mp ((mput s355.2.2 (⟨x329.gName, s355.1⟩ : TApiCell) (⟨x329.gPtr, (0 : Int), (⟨ByteArray.empty, (0 : Int)⟩ : TApiCell)⟩ : TApiWord)).map fun p => ((fun a => Value.agg (kcTApiCell a).toArray) p.1, eTApiWord p.2))), (b2, Blk.mp ((mput s190.2.2.1 x329.gName y336).map fun p => ((fun s : ByteArray => Value.string s) p.1, eI64 p.2))), (b4, Blk.cells [.v (.map (some b2)), .v (.map (some b3)), .lst 2 (s355.2.1.map eTApiCell) (.cur z355)] 64), (b330, Blk.cells [.v (.string x329.gName), .v (.bool x329.gPtr), .v (.int .i64 x329.gSize), .v (.int .i64 x329.gAt)] 29), (b369, Blk.cells [.v (.string x329.gName), .v (.int .i64 s355.1)] 35)]) 0 htab rfl rfl rfl rfl rfl rfl rfl rfl rfl rfl mk62 (fun H v h => rep_va_inv (us := kcTApiCell (⟨x329.gName, s355.1⟩ : TApiCell)) h) (Wk.refl _) rfl ?_
           refine ops_nt ?_
           obtain ⟨x370, q370, hm⟩ := yes_bind hm
           refine wpD_app 8 [] [[],[],[1],[1,2],[1,2,3],[],[5],[1,2,3,4,5,6]] [0,1,2,3,4,5,6,7] [[],[],[1],[1,2],[1,2,3],[],[5],[1,2,3,4,5,6],[0,1,2,3,4,5,6,7],[0,1,2,3,4,5,6,7,8],[0,1,2,3,4,5,6,7,8,9]] 7 2 0 (by kernel_rfl) (by kernel_rfl) (by kernel_rfl) (by rfl) (by rfl) (by kernel_rfl) rfl ?_
           iterate 8 apply Exists.intro
           refine ⟨.any, ?_⟩
           intro bs v370
           iterate 4 refine zh_e rfl rfl (ex_pure htab rfl) rfl rfl rfl rfl rfl rfl rfl rfl ?_
           refine zh_M rfl rfl (fun _ => xm_load 2 htab rfl rfl rfl rfl rfl) (offB rfl) rfl rfl rfl rfl rfl rfl rfl rfl ?_
           refine zh_M rfl rfl (fun _ => xm_load (d := eTApiCell (⟨x329.gName, s355.1⟩ : TApiCell)) 4 htab rfl rfl rfl rfl rfl) (offB rfl) rfl rfl rfl rfl rfl rfl rfl rfl ?_
           refine zh_E rfl rfl (ExE.wk (x_lit htab rfl rfl rfl rfl rfl rfl rfl rfl rfl rfl rfl) (show Wk _ (.lst 2 (([(⟨x329.gName, s355.1⟩ : TApiCell)] : List TApiCell).map eTApiCell) .full) from Wk.lst0 (.cons (WkC.refl _) (.nil)))) rfl rfl rfl rfl rfl rfl rfl rfl ?_
           refine zh_app htab rfl rfl rfl rfl rfl rfl rfl rfl (rep_of rfl) rfl (app_kC rfl) (perm_at (j := 0) rfl) rfl rfl rfl rfl rfl rfl rfl rfl rfl (app_bound q370) (app_map q370) ?_
           refine zh_nil rfl rfl rfl rfl (fun e he => by simp [isAl] at he) ?_
           refine pu ?_
           refine pu ?_
           refine pS2 (ds' := [.v (.map (some b2)), .v (.map (some b3)), .lst 2 (x370.map eTApiCell) (.cur v370)]) ?_
           refine ops_nil ?_
           refine block_normal ?_
           refine then_normal ?_
           refine wpD_region ?_
           refine pu ?_
           refine pu ?_
           refine ops_nil ?_
           refine then_normal ⟨_, lp_next hm, ?_⟩
           exact WkX.of v370 (WkS.perm (WkS.cons rfl (Wk.refl _) (WkS.cons rfl (Wk.refl _) (WkS.cons rfl (Wk.refl _) (WkS.cons rfl (Wk.refl _) (WkS.cons rfl (Wk.refl _) (WkS.cons rfl (Wk.refl _) (WkS.cons rfl (Wk.refl _) (WkS.nil)))))))) Pf Pf)
          ·replace hm := yes_f hc368 hm
           refine wpD_exit ?_
           refine then_exit ?_
           have e355 := lp_done hm; subst e355; clear hm; have hm := hq355
           refine then_exit ?_
           refine block_hit ?_
           have e354 := yes_eq hm; subst e354
           refine ⟨rfl, ?_⟩
           exact WkX.of z355 (WkS.perm (WkS.cons rfl (Wk.refl _) (WkS.cons rfl (Wk.refl _) (WkS.cons rfl (Wk.refl _) (WkS.cons rfl (Wk.refl _) (WkS.nil))))) Pf Pf)
        ·intro s354 hw354; clear hm; have hm := ho354; clear q354 ho354
         refine block_normal ?_
         refine then_normal ?_
         refine wpD_wkX hw354 (fun z354 => ?_)
         refine wpD_region ?_
         refine pu ?_
         refine pu ?_
         refine ops_nil ?_
         refine then_normal ⟨_, lp_next hm, ?_⟩
         exact WkX.of z354 (WkS.perm (WkS.cons rfl (Wk.refl _) (WkS.cons rfl (Wk.refl _) (WkS.cons rfl (Wk.refl _) (WkS.cons rfl (Wk.refl _) (WkS.nil))))) Pf Pf)
    ·replace hm := yes_f hc328 hm
     refine wpD_exit ?_
     refine then_exit ?_
     have e190 := lp_done hm; subst e190; clear hm; have hm := hq190
     refine then_exit ?_
     refine block_hit ?_
     have e189 := yes_eq hm; subst e189
     refine ⟨rfl, ?_⟩
     exact WkX.of z190 (WkS.perm (WkS.cons rfl (Wk.refl _) (WkS.nil)) Pf Pf)
  ·intro s189 hw189; clear hm; have hm := ho189; clear q189 ho189
   refine then_normal ?_
   refine wpD_wkX hw189 (fun z189 => ?_)
   refine wpD_sr ?_
   refine pu ?_
   refine pu ?_
   refine ops_nt ?_
   refine wpD_ret ?_
   have er371 := yes_eq hm; subst er371
   refine rP (t' := [(2, .ptr b4 0)]) [2,1,0] [0] 3 (wC wN) (lT lN) ?_
   exact ⟨b4, b2, b3, z189, rfl, rfl, rfl⟩
noncomputable def mem_Mem_All (m0 : TMemMem) : Option (List TMemHeld) :=
  (Option.bind (α := List TMemHeld) (loopM (fun (s24 : List TMemHeld × Int) => (bif (decide (s24.2 < (m0.gCells.length : Int))) then ((idx m0.gCells s24.2).bind fun x42 => ((app 64 s24.1 ([(⟨x42, (⟨(mgetD m0.gWords x42 (⟨false, (0 : Int), (⟨ByteArray.empty, (0 : Int)⟩ : TApiCell)⟩ : TApiWord)).gPtr, (mgetD m0.gWords x42 (⟨false, (0 : Int), (⟨ByteArray.empty, (0 : Int)⟩ : TApiCell)⟩ : TApiWord)).gN, ((mgetD m0.gWords x42 (⟨false, (0 : Int), (⟨ByteArray.empty, (0 : Int)⟩ : TApiCell)⟩ : TApiWord)).gTo)⟩ : TApiWord)⟩ : TMemHeld)] : List TMemHeld)).bind fun x44 => some (.next (x44, (IntKind.i64.wrap (s24.2 + (1 : Int))))))) else some (.done s24.1))) (([] : List TMemHeld), (0 : Int))) fun y23 => ((need (len62H y23)).bind fun x45 => some (sortH y23)))
set_option maxRecDepth 100000 in
set_option maxHeartbeats 2000000 in
theorem mem_Mem_All_ok (m0 : TMemMem) (o0 : Nat) (T0 : TypeId) (z0_0 : Nat) (z0_1 : Nat) (c0_2 : Cap) (r : List TMemHeld) (h0 : mem_Mem_All m0 = some r) : CallsD Try.prog 14 [.ptr o0 0] [(o0, Blk.cells [.v (.map (some z0_0)), .v (.map (some z0_1)), .lst 2 (m0.gCells.map eTApiCell) c0_2] T0), (z0_0, Blk.mp (m0.gSizes.map fun p => ((fun s : ByteArray => Value.string s) p.1, eI64 p.2))), (z0_1, Blk.mp (m0.gWords.map fun p => ((fun a => Value.agg (kcTApiCell a).toArray) p.1, eTApiWord p.2)))] [] (fun d h k => ∃ y0, d = .lst 6 (r.map eTMemHeld) (.cur y0) ∧ h = [(o0, Blk.cells [.v (.map (some z0_0)), .v (.map (some z0_1)), .lst 2 (m0.gCells.map eTApiCell) c0_2] T0), (z0_0, Blk.mp (m0.gSizes.map fun p => ((fun s : ByteArray => Value.string s) p.1, eI64 p.2))), (z0_1, Blk.mp (m0.gWords.map fun p => ((fun a => Value.agg (kcTApiCell a).toArray) p.1, eTApiWord p.2)))] ∧ k = [(6, y0)]) := by
  have hm := yes_of h0
  unfold mem_Mem_All at hm
  clear h0
  refine enterX htab Try.func14 rfl rfl rfl rfl rfl (fun C => ?_)
  refine wpD_sr ?_
  refine pu ?_
  refine ops_n2 ?_
  refine pu ?_
  refine ops_nt ?_
  refine wpD_seq ?_
  refine wpD_sr ?_
  refine pu ?_
  refine p_eqP htab rfl rfl rfl rfl rfl rfl rfl rfl rfl rfl ?_
  refine ops_nt ?_
  refine wpD_false rfl ?_
  refine wpD_skip ?_
  refine then_normal ?_
  refine wpD_seq ?_
  refine wpD_sr ?_
  iterate 3 refine pu ?_
  refine pL 0 ?_
  refine p_lenL htab rfl rfl rfl rfl rfl rfl rfl (by first | exact map_len | rfl) ?_
  refine pu ?_
  refine ops_nt ?_
  obtain ⟨y23, q23, ho23⟩ := yes_bind hm
  refine wpD_mid (Y := Z3) (fun z23 => (⟨[(3, .v (SL z23))], [(0, Blk.row 6 (y23.map eTMemHeld) (SL z23)), (o0, Blk.cells [.v (.map (some z0_0)), .v (.map (some z0_1)), .lst 2 (m0.gCells.map eTApiCell) c0_2] T0), (z0_0, Blk.mp (m0.gSizes.map fun p => ((fun s : ByteArray => Value.string s) p.1, eI64 p.2))), (z0_1, Blk.mp (m0.gWords.map fun p => ((fun a => Value.agg (kcTApiCell a).toArray) p.1, eTApiWord p.2)))], []⟩ : S)) ?_ ?_
  ·clear hm; have hm := yes_of q23
   refine wpD_block ?_
   obtain ⟨u24, hl24, hq24⟩ := yes_m hm
   refine loop_M (Y := Z3) hl24 (fun s24 z24 => (⟨[(0, .ptr o0 0), (3, .v (SL z24)), (12, .lst 2 (m0.gCells.map eTApiCell) c0_2), (13, .v (.int .i64 (m0.gCells.length : Int))), (14, .v (.int .i64 s24.2))], [(0, Blk.row 6 (s24.1.map eTMemHeld) (SL z24)), (o0, Blk.cells [.v (.map (some z0_0)), .v (.map (some z0_1)), .lst 2 (m0.gCells.map eTApiCell) c0_2] T0), (z0_0, Blk.mp (m0.gSizes.map fun p => ((fun s : ByteArray => Value.string s) p.1, eI64 p.2))), (z0_1, Blk.mp (m0.gWords.map fun p => ((fun a => Value.agg (kcTApiCell a).toArray) p.1, eTApiWord p.2)))], []⟩ : S)) ?_ ?_
   ·skip
    refine WkX.rowN (i := 3) 6 rfl (fun w40 => ?_)
    exact WkX.of w40 (WkS.perm (WkS.cons rfl (Wk.refl _) (WkS.cons rfl (Wk.refl _) (WkS.cons rfl (Wk.refl _) (WkS.cons rfl (Wk.refl _) (WkS.cons rfl (Wk.refl _) (WkS.nil)))))) Pf Pf)
   ·intro G24 s24 z24 hm
    refine wpD_sr ?_
    refine pu ?_
    refine ops_nt ?_
    refine wpD_seq ?_
    refine wpD_cond rfl (fun hc41 => ?_) (fun hc41 => ?_)
    ·replace hm := yes_t hc41 hm
     refine wpD_skip ?_
     refine then_normal ?_
     refine wpD_seq ?_
     refine wpD_block ?_
     refine wpD_sr ?_
     obtain ⟨x42, q42, hm⟩ := yes_bind hm
     refine p_elem htab rfl rfl rfl rfl rfl rfl rfl rfl rfl rfl (idx_nonneg q42) (idx_map q42) ?_
     refine p_loadEl (d := eTApiCell x42) htab rfl rfl rfl rfl rfl rfl rfl rfl ?_
     refine p_alloc htab rfl rfl rfl rfl rfl rfl rfl (fun b43 => ?_)
     refine pS4 (ds' := [.v (.string x42.gName), .v (.int .i64 x42.gAt)]) ?_
     refine ops_nt ?_
     refine wpD_draws 10 [] [[],[],[],[2],[2,3],[2,3,4],[],[2,3,4,5,6],[1,2,3,4,5,6,7],[1,2,3,4,5,6,7,8]] [0,1,2,3,4,5,6,7,8,9] [[],[],[],[2],[2,3],[2,3,4],[],[2,3,4,5,6],[1,2,3,4,5,6,7],[1,2,3,4,5,6,7,8],[0,1,2,3,4,5,6,7,8,9],[0,1,2,3,4,5,6,7,8,9,10]] (by kernel_rfl) (by kernel_rfl) (by kernel_rfl) (by rfl) (by rfl) (by kernel_rfl) ?_
     iterate 10 apply Exists.intro
     intro bs
     refine zep ?_
     refine z_eM rfl rfl (xm_load (d := eTApiCell x42) 4 htab rfl rfl rfl rfl rfl) rfl rfl rfl rfl rfl rfl ?_
     iterate 3 refine zep ?_
     refine z_eM rfl rfl (xm_load 1 htab rfl rfl rfl rfl rfl) rfl rfl rfl rfl rfl rfl ?_
     refine z_eM rfl rfl (xm_load (d := eTApiCell x42) 4 htab rfl rfl rfl rfl rfl) rfl rfl rfl rfl rfl rfl ?_
     refine z_eM rfl rfl ((xm_lookup (l := m0.gWords) (f := (fun a => Value.agg (kcTApiCell a).toArray)) (e := eTApiWord) (kk := x42) (z := (⟨false, (0 : Int), (⟨ByteArray.empty, (0 : Int)⟩ : TApiCell)⟩ : TApiWord)) (dr := eTApiWord (⟨(mgetD m0.gWords x42 (⟨false, (0 : Int), (⟨ByteArray.empty, (0 : Int)⟩ : TApiCell)⟩ : TApiWord)).gPtr, (mgetD m0.gWords x42 (⟨false, (0 : Int), (⟨ByteArray.empty, (0 : Int)⟩ : TApiCell)⟩ : TApiWord)).gN, ((mgetD m0.gWords x42 (⟨false, (0 : Int), (⟨ByteArray.empty, (0 : Int)⟩ : TApiCell)⟩ : TApiWord)).gTo)⟩ : TApiWord)) 3 htab rfl rfl rfl rfl rfl rfl rfl mk62 (fun H v h => rep_va_inv (us := kcTApiCell x42) h) mz62 mr62 rfl)) rfl rfl rfl rfl rfl rfl ?_
     refine z_e rfl rfl (x_build (r := [.v (.string x42.gName), .v (.int .i64 x42.gAt), .v (.bool ((mgetD m0.gWords x42 (⟨false, (0 : Int), (⟨ByteArray.empty, (0 : Int)⟩ : TApiCell)⟩ : TApiWord)).gPtr)), .v (.int .i64 ((mgetD m0.gWords x42 (⟨false, (0 : Int), (⟨ByteArray.empty, (0 : Int)⟩ : TApiCell)⟩ : TApiWord)).gN)), .v (.string (((mgetD m0.gWords x42 (⟨false, (0 : Int), (⟨ByteArray.empty, (0 : Int)⟩ : TApiCell)⟩ : TApiWord)).gTo).gName)), .v (.int .i64 (((mgetD m0.gWords x42 (⟨false, (0 : Int), (⟨ByteArray.empty, (0 : Int)⟩ : TApiCell)⟩ : TApiWord)).gTo).gAt))]) htab rfl rfl rfl rfl rfl rfl) rfl rfl rfl rfl rfl rfl ?_
     refine z_E rfl rfl (ExE.wk (x_lit htab rfl rfl rfl rfl rfl rfl rfl rfl rfl rfl rfl) (show Wk _ (.lst 6 (([(⟨x42, (⟨(mgetD m0.gWords x42 (⟨false, (0 : Int), (⟨ByteArray.empty, (0 : Int)⟩ : TApiCell)⟩ : TApiWord)).gPtr, (mgetD m0.gWords x42 (⟨false, (0 : Int), (⟨ByteArray.empty, (0 : Int)⟩ : TApiCell)⟩ : TApiWord)).gN, ((mgetD m0.gWords x42 (⟨false, (0 : Int), (⟨ByteArray.empty, (0 : Int)⟩ : TApiCell)⟩ : TApiWord)).gTo)⟩ : TApiWord)⟩ : TMemHeld)] : List TMemHeld).map eTMemHeld) .full) from Wk.lst0 (.cons (WkC.refl _) (.nil)))) rfl rfl rfl rfl rfl rfl ?_
     refine z_nil rfl rfl (fun e he => by simp [isAl] at he) ?_
     obtain ⟨x44, q44, hm⟩ := yes_bind hm
     refine p_appR2 0 htab rfl rfl rfl rfl rfl rfl rfl rfl rfl rfl rfl rfl rfl rfl rfl rfl (app_bound q44) (app_map q44) (fun v44 => ?_)
     refine pu ?_
     refine ops_nil ?_
     refine block_normal ?_
     refine then_normal ?_
     refine wpD_region ?_
     refine pu ?_
     refine pu ?_
     refine ops_nil ?_
     refine then_normal ⟨_, lp_next hm, ?_⟩
     exact WkX.of v44 (WkS.perm (WkS.cons rfl (Wk.refl _) (WkS.cons rfl (Wk.refl _) (WkS.cons rfl (Wk.refl _) (WkS.cons rfl (Wk.refl _) (WkS.cons rfl (Wk.refl _) (WkS.nil)))))) Pf Pf)
    ·replace hm := yes_f hc41 hm
     refine wpD_exit ?_
     refine then_exit ?_
     have e24 := lp_done hm; subst e24; clear hm; have hm := hq24
     refine then_exit ?_
     refine block_hit ?_
     have e23 := yes_eq hm; subst e23
     refine ⟨rfl, ?_⟩
     exact WkX.of z24 (WkS.perm (WkS.cons rfl (Wk.refl _) (WkS.nil)) Pf Pf)
  ·intro s23 hw23; clear hm; have hm := ho23; clear q23 ho23
   refine then_normal ?_
   refine wpD_wkX hw23 (fun z23 => ?_)
   refine wpD_sr ?_
   refine pu ?_
   obtain ⟨x45, q45, hm⟩ := yes_bind hm
   refine pG (sortH_ok y23 z23 (need_ok q45)) Wl Pf Pf ?_
   rintro _ _ _ ⟨rfl, rfl, rfl⟩
   refine ops_n2 ?_
   refine pu ?_
   refine pu ?_
   refine ops_nt ?_
   refine wpD_ret ?_
   have er46 := yes_eq hm; subst er46
   refine retX.wk (WkS.frz 0 rfl rfl) ?_
   refine retX.wk (WkS.tld 2 0 rfl rfl) ?_
   refine retX.wk (WkS.tld 3 0 rfl rfl) ?_
   refine retX.wk (WkS.tld 30 0 rfl rfl) ?_
   refine retX.wk (WkS.tld 32 0 rfl rfl) ?_
   refine retX.wk (WkS.drop 0 rfl) ?_
   refine rP (t' := [(2, .lst 6 ((sortH y23).map eTMemHeld) (.cur (SL z23)))]) [0,0,0] [0] 3 (wC wN) (lT lN) ?_
   exact ⟨(SL z23), rfl, rfl, rfl⟩
noncomputable def mem_Mem_Place (m0 : TMemMem) (a1 : ByteArray) (a2 : Int) : Option (TApiCell × Int) :=
  (bif ((mgetD m0.gSizes a1 (0 : Int)) == (0 : Int)) then some ((⟨ByteArray.empty, (0 : Int)⟩ : TApiCell), (7 : Int)) else (Option.bind (α := Bool) (bif (decide (a2 < (0 : Int))) then some true else some (decide ((mgetD m0.gSizes a1 (0 : Int)) ≤ a2))) fun y11 => (bif y11 then some ((⟨ByteArray.empty, (0 : Int)⟩ : TApiCell), (11 : Int)) else some ((⟨a1, a2⟩ : TApiCell), (0 : Int)))))
set_option maxRecDepth 100000 in
set_option maxHeartbeats 2000000 in
theorem mem_Mem_Place_ok (m0 : TMemMem) (a1 : ByteArray) (a2 : Int) (o0 : Nat) (T0 : TypeId) (z0_0 : Nat) (z0_1 : Nat) (c0_2 : Cap) (r : TApiCell × Int) (h0 : mem_Mem_Place m0 a1 a2 = some r) : CallsD Try.prog 12 [.ptr o0 0, .v (.string a1), .v (.int .i64 a2)] [(o0, Blk.cells [.v (.map (some z0_0)), .v (.map (some z0_1)), .lst 2 (m0.gCells.map eTApiCell) c0_2] T0), (z0_0, Blk.mp (m0.gSizes.map fun p => ((fun s : ByteArray => Value.string s) p.1, eI64 p.2))), (z0_1, Blk.mp (m0.gWords.map fun p => ((fun a => Value.agg (kcTApiCell a).toArray) p.1, eTApiWord p.2)))] [] (fun d h k => d = .tup [eTApiCell r.1, .v (.int .i64 r.2)] ∧ h = [(o0, Blk.cells [.v (.map (some z0_0)), .v (.map (some z0_1)), .lst 2 (m0.gCells.map eTApiCell) c0_2] T0), (z0_0, Blk.mp (m0.gSizes.map fun p => ((fun s : ByteArray => Value.string s) p.1, eI64 p.2))), (z0_1, Blk.mp (m0.gWords.map fun p => ((fun a => Value.agg (kcTApiCell a).toArray) p.1, eTApiWord p.2)))] ∧ k = []) := by
  have hm := yes_of h0
  unfold mem_Mem_Place at hm
  clear h0
  refine enterX htab Try.func12 rfl rfl rfl rfl rfl (fun C => ?_)
  refine wpD_sr ?_
  refine p_alloc htab rfl rfl rfl rfl rfl rfl rfl (fun b1 => ?_)
  refine pu ?_
  refine ops_nt ?_
  refine wpD_seq ?_
  refine wpD_sr ?_
  refine pu ?_
  refine p_eqP htab rfl rfl rfl rfl rfl rfl rfl rfl rfl rfl ?_
  refine ops_nt ?_
  refine wpD_false rfl ?_
  refine wpD_skip ?_
  refine then_normal ?_
  refine wpD_sr ?_
  iterate 3 refine pu ?_
  refine pL 0 ?_
  refine pu ?_
  refine p_lookup (l := m0.gSizes) (f := (fun s : ByteArray => Value.string s)) (e := eI64) (kk := a1) (z := (0 : Int)) (dr := .v (.int .i64 (mgetD m0.gSizes a1 (0 : Int)))) 1 htab rfl rfl rfl rfl rfl rfl rfl rfl rfl rfl mk61 (fun H v h => rep_v_inv h) mz61 mr61 rfl ?_
  refine pu ?_
  refine ops_nt ?_
  refine wpD_seq ?_
  refine wpD_block ?_
  refine wpD_sr ?_
  iterate 3 refine pu ?_
  refine ops_nt ?_
  refine wpD_cond rfl (fun hc8 => ?_) (fun hc8 => ?_)
  ·replace hm := yes_t hc8 hm
   refine wpD_sr ?_
   refine p_build (r := [.v (.string ByteArray.empty), .v (.int .i64 (0 : Int))]) htab rfl rfl rfl rfl rfl rfl rfl rfl rfl ?_
   refine pS3 (ds' := [.v (.string ByteArray.empty), .v (.int .i64 (0 : Int))]) ?_
   refine pu ?_
   refine ops_nt ?_
   refine wpD_ret ?_
   refine block_ret ?_
   refine then_ret ?_
   have er9 := yes_eq hm; subst er9
   refine rP (t' := [(6, .ptr b1 0), (7, .v (.int .i64 (7 : Int)))]) [0,0,0,0] [] 3 (wC (wC wN)) (lC 3 (lT lN)) ?_
   exact ⟨rfl, rfl, rfl⟩
  ·replace hm := yes_f hc8 hm
   refine wpD_seq ?_
   obtain ⟨y11, q11, ho11⟩ := yes_bind hm
   refine wpD_mid (Y := Unit) (fun z11 => (⟨[(1, .v (.string a1)), (2, .v (.int .i64 a2)), (6, .ptr b1 0), (22, .v (.bool y11))], [(o0, Blk.cells [.v (.map (some z0_0)), .v (.map (some z0_1)), .lst 2 (m0.gCells.map eTApiCell) c0_2] T0), (z0_0, Blk.mp (m0.gSizes.map fun p => ((fun s : ByteArray => Value.string s) p.1, eI64 p.2))), (z0_1, Blk.mp (m0.gWords.map fun p => ((fun a => Value.agg (kcTApiCell a).toArray) p.1, eTApiWord p.2))), (b1, Blk.cells [.v (.string ByteArray.empty), .v (.int .i64 (0 : Int))] 35)], []⟩ : S)) ?_ ?_
   ·clear hm; have hm := yes_of q11
    refine wpD_region ?_
    iterate 3 refine pu ?_
    refine p_split (i := 25) rfl (fun hg12 => ?_) (fun hg12 => ?_)
    ·replace hm := yes_t hg12 hm
     iterate 3 refine pK ?_
     refine p_pickT rfl rfl rfl rfl rfl rfl ?_
     refine pu ?_
     refine ops_nil ?_
     have e11 := yes_eq hm; subst e11
     refine ⟨rfl, ?_⟩
     exact WkX.of () (WkS.perm (WkS.cons rfl (Wk.refl _) (WkS.cons rfl (Wk.refl _) (WkS.cons rfl (Wk.refl _) (WkS.cons rfl (Wk.refl _) (WkS.nil))))) Pf Pf)
    ·replace hm := yes_f hg12 hm
     iterate 3 refine pu ?_
     refine p_pickF rfl rfl rfl rfl rfl rfl ?_
     refine pu ?_
     refine ops_nil ?_
     have e11 := yes_eq hm; subst e11
     refine ⟨rfl, ?_⟩
     exact WkX.of () (WkS.perm (WkS.cons rfl (Wk.refl _) (WkS.cons rfl (Wk.refl _) (WkS.cons rfl (Wk.refl _) (WkS.cons rfl (Wk.refl _) (WkS.nil))))) Pf Pf)
   ·intro s11 hw11; clear hm; have hm := ho11; clear q11 ho11
    refine then_normal ?_
    refine wpD_wkX hw11 (fun z11 => ?_)
    refine wpD_cond rfl (fun hc14 => ?_) (fun hc14 => ?_)
    ·replace hm := yes_t hc14 hm
     refine wpD_sr ?_
     refine p_build (r := [.v (.string ByteArray.empty), .v (.int .i64 (0 : Int))]) htab rfl rfl rfl rfl rfl rfl rfl rfl rfl ?_
     refine pS3 (ds' := [.v (.string ByteArray.empty), .v (.int .i64 (0 : Int))]) ?_
     refine pu ?_
     refine ops_nt ?_
     refine wpD_ret ?_
     refine block_ret ?_
     refine then_ret ?_
     have er15 := yes_eq hm; subst er15
     refine rP (t' := [(6, .ptr b1 0), (7, .v (.int .i64 (11 : Int)))]) [0,0,0,0] [] 3 (wC (wC wN)) (lC 3 (lT lN)) ?_
     exact ⟨rfl, rfl, rfl⟩
    ·replace hm := yes_f hc14 hm
     refine wpD_skip ?_
     refine block_normal ?_
     refine then_normal ?_
     refine wpD_sr ?_
     refine pu ?_
     refine pu ?_
     refine p_build (r := [.v (.string a1), .v (.int .i64 a2)]) htab rfl rfl rfl rfl rfl rfl rfl rfl rfl ?_
     refine pS3 (ds' := [.v (.string a1), .v (.int .i64 a2)]) ?_
     refine pu ?_
     refine ops_nt ?_
     refine wpD_ret ?_
     have er16 := yes_eq hm; subst er16
     refine rP (t' := [(6, .ptr b1 0), (7, .v (.int .i64 (0 : Int)))]) [0,0,0,0] [] 3 (wC (wC wN)) (lC 3 (lT lN)) ?_
     exact ⟨rfl, rfl, rfl⟩
noncomputable def mem_Mem_known (m0 : TMemMem) (a1 : TApiCell) : Option (Int) :=
  (bif (decide (a1.gName = (ByteArray.mk #[]))) then some (12 : Int) else ((mem_Mem_Place m0 a1.gName a1.gAt).bind fun x5 => some x5.2))
set_option maxRecDepth 100000 in
set_option maxHeartbeats 2000000 in
theorem mem_Mem_known_ok (m0 : TMemMem) (a1 : TApiCell) (o0 : Nat) (T0 : TypeId) (z0_0 : Nat) (z0_1 : Nat) (c0_2 : Cap) (r : Int) (h0 : mem_Mem_known m0 a1 = some r) : CallsD Try.prog 18 [.ptr o0 0, eTApiCell a1] [(o0, Blk.cells [.v (.map (some z0_0)), .v (.map (some z0_1)), .lst 2 (m0.gCells.map eTApiCell) c0_2] T0), (z0_0, Blk.mp (m0.gSizes.map fun p => ((fun s : ByteArray => Value.string s) p.1, eI64 p.2))), (z0_1, Blk.mp (m0.gWords.map fun p => ((fun a => Value.agg (kcTApiCell a).toArray) p.1, eTApiWord p.2)))] [] (fun d h k => d = .v (.int .i64 r) ∧ h = [(o0, Blk.cells [.v (.map (some z0_0)), .v (.map (some z0_1)), .lst 2 (m0.gCells.map eTApiCell) c0_2] T0), (z0_0, Blk.mp (m0.gSizes.map fun p => ((fun s : ByteArray => Value.string s) p.1, eI64 p.2))), (z0_1, Blk.mp (m0.gWords.map fun p => ((fun a => Value.agg (kcTApiCell a).toArray) p.1, eTApiWord p.2)))] ∧ k = []) := by
  have hm := yes_of h0
  unfold mem_Mem_known at hm
  clear h0
  refine enterX htab Try.func18 rfl rfl rfl rfl rfl (fun C => ?_)
  refine wpD_sr ?_
  refine p_box rfl rfl rfl rfl rfl rfl rfl (fun b1 => ?_)
  refine pu ?_
  refine ops_nt ?_
  refine wpD_seq ?_
  refine wpD_sr ?_
  refine pu ?_
  refine p_eqP htab rfl rfl rfl rfl rfl rfl rfl rfl rfl rfl ?_
  refine pu ?_
  refine pu ?_
  refine pL 3 ?_
  refine pu ?_
  refine p_pickT rfl rfl rfl rfl rfl rfl ?_
  refine ops_nt ?_
  refine wpD_cond rfl (fun hc3 => ?_) (fun hc3 => ?_)
  ·replace hm := yes_t hc3 hm
   refine wpD_sr ?_
   refine pu ?_
   refine ops_nt ?_
   refine wpD_ret ?_
   refine then_ret ?_
   have er4 := yes_eq hm; subst er4
   refine rP (t' := [(4, .v (.int .i64 (12 : Int)))]) [0,0,0] [] 3 (wC wN) (lT lN) ?_
   exact ⟨rfl, rfl, rfl⟩
  ·replace hm := yes_f hc3 hm
   refine wpD_skip ?_
   refine then_normal ?_
   refine wpD_sr ?_
   refine pu ?_
   refine pu ?_
   refine pL 3 ?_
   refine pu ?_
   refine pL 3 ?_
   obtain ⟨x5, q5, hm⟩ := yes_bind hm
   refine pG (mem_Mem_Place_ok m0 a1.gName a1.gAt o0 T0 z0_0 z0_1 c0_2 x5 q5) Wl Pf Pf ?_
   rintro _ _ _ ⟨rfl, rfl, rfl⟩
   iterate 3 refine pu ?_
   refine p_alloc htab rfl rfl rfl rfl rfl rfl rfl (fun b6 => ?_)
   refine pS4 (ds' := [.v (.string x5.1.gName), .v (.int .i64 x5.1.gAt)]) ?_
   refine pu ?_
   refine ops_n2 ?_
   refine pu ?_
   refine pu ?_
   refine ops_nt ?_
   refine wpD_ret ?_
   have er7 := yes_eq hm; subst er7
   refine rP (t' := [(4, .v (.int .i64 x5.2))]) [0,0,0] [] 3 (wC wN) (lT lN) ?_
   exact ⟨rfl, rfl, rfl⟩
noncomputable def mem_Mem_Set (m0 : TMemMem) (a1 : TApiCell) (a2 : TApiWord) : Option (Int × TMemMem) :=
  ((mem_Mem_known m0 a1).bind fun x3 => (bif (x3 != (0 : Int)) then some (x3, m0) else (bif (!(((mgetD m0.gWords a1 (⟨false, (0 : Int), (⟨ByteArray.empty, (0 : Int)⟩ : TApiCell)⟩ : TApiWord)).gPtr) == a2.gPtr)) then some ((9 : Int), m0) else some ((0 : Int), (⟨m0.gSizes, (mput m0.gWords a1 a2), m0.gCells⟩ : TMemMem)))))
set_option maxRecDepth 100000 in
set_option maxHeartbeats 2000000 in
theorem mem_Mem_Set_ok (m0 : TMemMem) (a1 : TApiCell) (a2 : TApiWord) (o0 : Nat) (T0 : TypeId) (z0_0 : Nat) (z0_1 : Nat) (c0_2 : Cap) (r : Int × TMemMem) (h0 : mem_Mem_Set m0 a1 a2 = some r) : CallsD Try.prog 10 [.ptr o0 0, eTApiCell a1, eTApiWord a2] [(o0, Blk.cells [.v (.map (some z0_0)), .v (.map (some z0_1)), .lst 2 (m0.gCells.map eTApiCell) c0_2] T0), (z0_0, Blk.mp (m0.gSizes.map fun p => ((fun s : ByteArray => Value.string s) p.1, eI64 p.2))), (z0_1, Blk.mp (m0.gWords.map fun p => ((fun a => Value.agg (kcTApiCell a).toArray) p.1, eTApiWord p.2)))] [] (fun d h k => ∃ y0 y1, d = .v (.int .i64 r.1) ∧ h = [(o0, Blk.cells [.v (.map (some y0)), .v (.map (some y1)), .lst 2 (r.2.gCells.map eTApiCell) c0_2] T0), (y0, Blk.mp (r.2.gSizes.map fun p => ((fun s : ByteArray => Value.string s) p.1, eI64 p.2))), (y1, Blk.mp (r.2.gWords.map fun p => ((fun a => Value.agg (kcTApiCell a).toArray) p.1, eTApiWord p.2)))] ∧ k = []) := by
  have hm := yes_of h0
  unfold mem_Mem_Set at hm
  clear h0
  refine enterX htab Try.func10 rfl rfl rfl rfl rfl (fun C => ?_)
  refine wpD_sr ?_
  refine p_box rfl rfl rfl rfl rfl rfl rfl (fun b1 => ?_)
  refine p_box rfl rfl rfl rfl rfl rfl rfl (fun b2 => ?_)
  refine pu ?_
  refine ops_nt ?_
  refine wpD_seq ?_
  refine wpD_sr ?_
  refine pu ?_
  refine p_load (d := eTApiCell a1) 3 htab rfl rfl rfl rfl rfl rfl rfl rfl ?_
  obtain ⟨x3, q3, hm⟩ := yes_bind hm
  refine pG (mem_Mem_known_ok m0 a1 o0 T0 z0_0 z0_1 c0_2 x3 q3) Wl Pf Pf ?_
  rintro _ _ _ ⟨rfl, rfl, rfl⟩
  refine pu ?_
  refine ops_n2 ?_
  refine pu ?_
  refine pu ?_
  refine ops_nt ?_
  refine wpD_cond rfl (fun hc5 => ?_) (fun hc5 => ?_)
  ·replace hm := yes_t hc5 hm
   refine wpD_sr ?_
   refine pu ?_
   refine pu ?_
   refine ops_nt ?_
   refine wpD_ret ?_
   refine then_ret ?_
   have er6 := yes_eq hm; subst er6
   refine rP (t' := [(6, .v (.int .i64 x3))]) [0,0,0] [] 3 (wC wN) (lT lN) ?_
   exact ⟨z0_0, z0_1, rfl, rfl, rfl⟩
  ·replace hm := yes_f hc5 hm
   refine wpD_skip ?_
   refine then_normal ?_
   refine wpD_seq ?_
   refine wpD_seq ?_
   refine wpD_draws 9 [] [[],[0],[0,1],[0,1,2],[],[0,1,2,3,4],[0,1,2,3,4,5],[],[7]] [0,1,2,3,4,5,7] [[],[0],[0,1],[0,1,2],[],[0,1,2,3,4],[0,1,2,3,4,5],[],[7],[0,1,2,3,4,5,6,7,8]] (by kernel_rfl) (by kernel_rfl) (by kernel_rfl) (by rfl) (by rfl) (by kernel_rfl) ?_
   iterate 7 apply Exists.intro
   intro bs
   iterate 3 refine zep ?_
   refine z_eM rfl rfl (xm_load 0 htab rfl rfl rfl rfl rfl) rfl rfl rfl rfl rfl rfl ?_
   refine z_eM rfl rfl (xm_load (d := eTApiCell a1) 3 htab rfl rfl rfl rfl rfl) rfl rfl rfl rfl rfl rfl ?_
   refine z_eM rfl rfl ((xm_lookup (l := m0.gWords) (f := (fun a => Value.agg (kcTApiCell a).toArray)) (e := eTApiWord) (kk := a1) (z := (⟨false, (0 : Int), (⟨ByteArray.empty, (0 : Int)⟩ : TApiCell)⟩ : TApiWord)) (dr := eTApiWord (⟨(mgetD m0.gWords a1 (⟨false, (0 : Int), (⟨ByteArray.empty, (0 : Int)⟩ : TApiCell)⟩ : TApiWord)).gPtr, (mgetD m0.gWords a1 (⟨false, (0 : Int), (⟨ByteArray.empty, (0 : Int)⟩ : TApiCell)⟩ : TApiWord)).gN, ((mgetD m0.gWords a1 (⟨false, (0 : Int), (⟨ByteArray.empty, (0 : Int)⟩ : TApiCell)⟩ : TApiWord)).gTo)⟩ : TApiWord)) 2 htab rfl rfl rfl rfl rfl rfl rfl mk62 (fun H v h => rep_va_inv (us := kcTApiCell a1) h) mz62 mr62 rfl)) rfl rfl rfl rfl rfl rfl ?_
   refine zqp ?_
   refine zep ?_
   refine z_qM rfl rfl (xm_load 4 htab rfl rfl rfl rfl rfl) rfl rfl rfl rfl rfl rfl ?_
   refine z_nil rfl rfl (fun e he => by simp [isAl] at he) ?_
   refine pu ?_
   refine ops_nt ?_
   refine wpD_cond rfl (fun hc8 => ?_) (fun hc8 => ?_)
   ·replace hm := yes_t hc8 hm
    refine wpD_sr ?_
    refine pu ?_
    refine ops_nt ?_
    refine wpD_ret ?_
    refine then_ret ?_
    have er9 := yes_eq hm; subst er9
    refine rP (t' := [(6, .v (.int .i64 (9 : Int)))]) [0,0,0] [] 3 (wC wN) (lT lN) ?_
    exact ⟨z0_0, z0_1, rfl, rfl, rfl⟩
   ·replace hm := yes_f hc8 hm
    refine wpD_skip ?_
    refine then_normal ?_
    refine wpD_seq ?_
    refine wpD_draws 6 [] [[],[0],[0,1],[0,1,2],[],[]] [0,1,2,3,4,5] [[],[0],[0,1],[0,1,2],[],[],[0,1,2,3,4,5]] (by kernel_rfl) (by kernel_rfl) (by kernel_rfl) (by rfl) (by rfl) (by kernel_rfl) ?_
    iterate 6 apply Exists.intro
    intro bs
    iterate 3 refine zep ?_
    refine z_eM rfl rfl (xm_load 0 htab rfl rfl rfl rfl rfl) rfl rfl rfl rfl rfl rfl ?_
    refine z_eM rfl rfl (xm_load (d := eTApiCell a1) 3 htab rfl rfl rfl rfl rfl) rfl rfl rfl rfl rfl rfl ?_
    refine z_eM rfl rfl (xm_load (d := eTApiWord a2) 4 htab rfl rfl rfl rfl rfl) rfl rfl rfl rfl rfl rfl ?_
    refine z_nil rfl rfl (fun e he => by simp [isAl] at he) ?_
    refine p_mapUpdate (l := m0.gWords) (f := (fun a => Value.agg (kcTApiCell a).toArray)) (e := eTApiWord) (kk := a1) (vv := a2) (h' := [(o0, Blk.cells [.v (.map (some z0_0)), .v (.map (some z0_1)), .lst 2 (m0.gCells.map eTApiCell) c0_2] T0), (z0_0, Blk.mp (m0.gSizes.map fun p => ((fun s : ByteArray => Value.string s) p.1, eI64 p.2))), (z0_1, Blk.mp ((mput m0.gWords a1 a2).map fun p => ((fun a => Value.agg (kcTApiCell a).toArray) p.1, eTApiWord p.2))), (b1, Blk.cells [.v (.string a1.gName), .v (.int .i64 a1.gAt)] 35), (b2, Blk.cells [.v (.bool a2.gPtr), .v (.int .i64 a2.gN), .v (.string a2.gTo.gName), .v (.int .i64 a2.gTo.gAt)] 37)]) 2 htab rfl rfl rfl rfl rfl rfl rfl rfl rfl rfl mk62 (fun H v h => rep_va_inv (us := kcTApiCell a1) h) (Wk.refl _) rfl ?_
    refine ops_n2 ?_
    refine pu ?_
    refine ops_nt ?_
    refine wpD_ret ?_
    have er10 := yes_eq hm; subst er10
    refine rP (t' := [(6, .v (.int .i64 (0 : Int)))]) [0,0,0] [] 3 (wC wN) (lT lN) ?_
    exact ⟨z0_0, z0_1, rfl, rfl, rfl⟩
noncomputable def l19_lives : Option (Bool) :=
  ((mem_New (⟨([(⟨(ByteArray.mk #[97]), false, (2 : Int), (0 : Int)⟩ : TApiGlobal)] : List TApiGlobal), []⟩ : TApiProgram)).bind fun x5 => ((mem_Mem_All x5).bind fun x7 => (bif ((x7.length : Int) == (2 : Int)) then ((mem_Mem_Set x5 (⟨(ByteArray.mk #[97]), (1 : Int)⟩ : TApiCell) (⟨false, (7 : Int), (⟨ByteArray.empty, (0 : Int)⟩ : TApiCell)⟩ : TApiWord)).bind fun x11 => (bif (x11.1 == (0 : Int)) then ((mem_Mem_All x11.2).bind fun x14 => ((idx x14 (1 : Int)).bind fun x15 => some (x15.gW.gN == (7 : Int)))) else some false)) else some false)))
set_option maxRecDepth 100000 in
set_option maxHeartbeats 2000000 in
theorem l19_lives_ok  (r : Bool) (h0 : l19_lives = some r) : CallsD Try.prog 5 [] [] [] (fun d h k => d = .v (.bool r) ∧ h = [] ∧ k = []) := by
  have hm := yes_of h0
  unfold l19_lives at hm
  clear h0
  refine enterX htab Try.func5 rfl rfl rfl rfl rfl (fun C => ?_)
  refine wpD_sr ?_
  refine pu ?_
  refine ops_n2 ?_
  refine p_build (r := [.v (.string (ByteArray.mk #[97])), .v (.bool false), .v (.int .i64 (2 : Int)), .v (.int .i64 (0 : Int))]) htab rfl rfl rfl rfl rfl rfl rfl rfl rfl ?_
  refine p_lit htab rfl rfl rfl rfl rfl rfl rfl rfl rfl rfl rfl rfl rfl rfl ?_
  refine p_eq (i := 3) (d' := .lst 4 (([(⟨(ByteArray.mk #[97]), false, (2 : Int), (0 : Int)⟩ : TApiGlobal)] : List TApiGlobal).map eTApiGlobal) .full) rfl (Wk.lst0 (.cons (WkC.refl _) (.nil))) ?_
  refine p_build (r := [.lst 4 (([(⟨(ByteArray.mk #[97]), false, (2 : Int), (0 : Int)⟩ : TApiGlobal)] : List TApiGlobal).map eTApiGlobal) .full, .lst 1 [] .full]) htab rfl rfl rfl rfl rfl rfl rfl rfl rfl ?_
  obtain ⟨x5, q5, hm⟩ := yes_bind hm
  refine p_callG (mem_New_ok (⟨([(⟨(ByteArray.mk #[97]), false, (2 : Int), (0 : Int)⟩ : TApiGlobal)] : List TApiGlobal), []⟩ : TApiProgram) x5 q5) rfl rfl rfl rfl rfl (WkL.cons (Wk.agg (rO (WkR.cons (WkC.nil) rfl WkR.nil))) Wl) Pf Pf ?_
  rintro _ _ _ ⟨w1, w2, w3, w4, rfl, rfl, rfl⟩
  refine pu ?_
  refine ops_n2 ?_
  refine pu ?_
  refine p_eqP htab rfl rfl rfl rfl rfl rfl rfl rfl rfl rfl ?_
  refine pu ?_
  refine pu ?_
  obtain ⟨x7, q7, hm⟩ := yes_bind hm
  refine pG (mem_Mem_All_ok x5 w1 64 w2 w3 (.cur w4) x7 q7) Wl Pf Pf ?_
  rintro _ _ _ ⟨w6, rfl, rfl, rfl⟩
  refine p_lenL htab rfl rfl rfl rfl rfl rfl rfl (by first | exact map_len | rfl) ?_
  refine pu ?_
  refine p_pickT rfl rfl rfl rfl rfl rfl ?_
  refine pu ?_
  refine p_split (i := 14) rfl (fun hg8 => ?_) (fun hg8 => ?_)
  ·replace hm := yes_t hg8 hm
   refine pu ?_
   refine p_build (r := [.v (.string (ByteArray.mk #[97])), .v (.int .i64 (1 : Int))]) htab rfl rfl rfl rfl rfl rfl rfl rfl rfl ?_
   refine p_build (r := [.v (.bool false), .v (.int .i64 (7 : Int)), .v (.string ByteArray.empty), .v (.int .i64 (0 : Int))]) htab rfl rfl rfl rfl rfl rfl rfl rfl rfl ?_
   obtain ⟨x11, q11, hm⟩ := yes_bind hm
   refine pG (mem_Mem_Set_ok x5 (⟨(ByteArray.mk #[97]), (1 : Int)⟩ : TApiCell) (⟨false, (7 : Int), (⟨ByteArray.empty, (0 : Int)⟩ : TApiCell)⟩ : TApiWord) w1 64 w2 w3 (.cur w4) x11 q11) Wl Pf Pf ?_
   rintro _ _ _ ⟨w9, w10, rfl, rfl, rfl⟩
   refine pu ?_
   refine p_pickT rfl rfl rfl rfl rfl rfl ?_
   refine pu ?_
   refine p_split (i := 21) rfl (fun hg12 => ?_) (fun hg12 => ?_)
   ·replace hm := yes_t hg12 hm
    refine pu ?_
    obtain ⟨x14, q14, hm⟩ := yes_bind hm
    refine pG (mem_Mem_All_ok x11.2 w1 64 w9 w10 (.cur w4) x14 q14) Wl Pf Pf ?_
    rintro _ _ _ ⟨w13, rfl, rfl, rfl⟩
    obtain ⟨x15, q15, hm⟩ := yes_bind hm
    refine p_elem htab rfl rfl rfl rfl rfl rfl rfl rfl rfl rfl (idx_nonneg q15) (idx_map q15) ?_
    refine pu ?_
    refine pu ?_
    refine p_loadEl htab rfl rfl rfl rfl rfl rfl rfl rfl ?_
    refine pu ?_
    refine p_pickT rfl rfl rfl rfl rfl rfl ?_
    refine pu ?_
    refine ops_nt ?_
    refine wpD_ret ?_
    have er16 := yes_eq hm; subst er16
    refine rP (t' := [(0, .v (.bool (x15.gW.gN == (7 : Int))))]) [] [] 0 (wC wN) (lT lN) ?_
    exact ⟨rfl, rfl, rfl⟩
   ·replace hm := yes_f hg12 hm
    iterate 7 refine pK ?_
    refine p_pickF rfl rfl rfl rfl rfl rfl ?_
    refine pu ?_
    refine ops_nt ?_
    refine wpD_ret ?_
    have er17 := yes_eq hm; subst er17
    refine rP (t' := [(0, .v (.bool false))]) [] [] 0 (wC wN) (lT lN) ?_
    exact ⟨rfl, rfl, rfl⟩
  ·replace hm := yes_f hg8 hm
   iterate 5 refine pK ?_
   refine p_pickF rfl rfl rfl rfl rfl rfl ?_
   refine pu ?_
   iterate 7 refine pK ?_
   refine p_pickF rfl rfl rfl rfl rfl rfl ?_
   refine pu ?_
   refine ops_nt ?_
   refine wpD_ret ?_
   have er18 := yes_eq hm; subst er18
   refine rP (t' := [(0, .v (.bool false))]) [] [] 0 (wC wN) (lT lN) ?_
   exact ⟨rfl, rfl, rfl⟩
end Go.Proofs.Ytfepijllmfedfaa.Ab
