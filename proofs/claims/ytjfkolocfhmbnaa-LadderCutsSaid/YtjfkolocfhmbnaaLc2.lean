/- The texts that ladderCuts_holds leans on, part 2. -/
import Derived.Test.YtjfkolocfhmbnaaLc1
namespace Go.Proofs.Ytjfkolocfhmbnaa.Ab
open Go
set_option linter.all false
inductive Step (σ τ : Type) where
  | next (s : σ)
  | done (t : τ)
def loopN {σ τ : Type} (f : σ → Option (Step σ τ)) : Nat → σ → Option τ
  | 0, _ => none
  | n + 1, s => match f s with
    | none => none
    | some (.next s') => loopN f n s'
    | some (.done t) => some t
theorem loopN_one {σ τ : Type} {f : σ → Option (Step σ τ)} : ∀ {n m : Nat} {s : σ} {t t' : τ}, loopN f n s = some t → loopN f m s = some t' → t = t'
  | 0, _, _, _, _, h, _ => by simp [loopN] at h
  | _ + 1, 0, _, _, _, _, h => by simp [loopN] at h
  | n + 1, m + 1, s, t, t', h, k => by
    simp only [loopN] at h k
    cases hf : f s with
    | none => rw [hf] at h; cases h
    | some x =>
      rw [hf] at h k
      cases x with
      | next s' => exact loopN_one h k
      | done u => simp at h k; rw [← h, ← k]
open Classical in
noncomputable def loopM {σ τ : Type} (f : σ → Option (Step σ τ)) (s : σ) : Option τ := if h : ∃ n t, loopN f n s = some t then some h.choose_spec.choose else none
theorem loopM_of {σ τ : Type} {f : σ → Option (Step σ τ)} {n : Nat} {s : σ} {t : τ} (h : loopN f n s = some t) : loopM f s = some t := by
  have hx : ∃ n t, loopN f n s = some t := ⟨n, t, h⟩
  unfold loopM
  rw [dif_pos hx]
  exact congrArg some (loopN_one hx.choose_spec.choose_spec h)
theorem loopM_inv {σ τ : Type} {f : σ → Option (Step σ τ)} {s : σ} {t : τ} (h : loopM f s = some t) : ∃ n, loopN f n s = some t := by
  unfold loopM at h
  split at h
  · rename_i hx
    simp only [Option.some.injEq] at h
    exact ⟨_, h ▸ hx.choose_spec.choose_spec⟩
  · cases h
theorem loopM_done {σ τ : Type} {f : σ → Option (Step σ τ)} {s : σ} {t : τ} (h : f s = some (.done t)) : loopM f s = some t := loopM_of (n := 1) (by simp [loopN, h])
theorem loopM_next {σ τ : Type} {f : σ → Option (Step σ τ)} {s s' : σ} (h : f s = some (.next s')) : loopM f s = loopM f s' := by
  cases e : loopM f s' with
  | some t =>
    obtain ⟨n, hn⟩ := loopM_inv e
    exact loopM_of (n := n + 1) (by simp [loopN, h, hn])
  | none =>
    cases e2 : loopM f s with
    | none => rfl
    | some t =>
      obtain ⟨n, hn⟩ := loopM_inv e2
      cases n with
      | zero => simp [loopN] at hn
      | succ n =>
        simp only [loopN, h] at hn
        rw [loopM_of hn] at e; cases e
theorem loopM_eq {σ τ : Type} {f : σ → Option (Step σ τ)} (I : σ → Prop) (μ : σ → Nat) (g : σ → τ)
    (h : ∀ s, I s → (∃ s', f s = some (.next s') ∧ I s' ∧ μ s' < μ s ∧ g s' = g s) ∨ f s = some (.done (g s))) (s : σ) (hs : I s) : loopM f s = some (g s) := by
  have key : ∀ n s, μ s < n → I s → loopM f s = some (g s) := by
    intro n
    induction n with
    | zero => intro s hn; omega
    | succ n ih =>
      intro s hn hs
      rcases h s hs with ⟨s', h1, h2, h3, h4⟩ | h1
      · rw [loopM_next h1, ih s' (by omega) h2, h4]
      · exact loopM_done h1
  exact key (μ s + 1) s (Nat.lt_succ_self _) hs
def Yes {α : Type} (m : Option α) (φ : α → Prop) : Prop := ∃ x, m = some x ∧ φ x
section
variable {α β : Type} {φ : α → Prop} {ψ : β → Prop}
theorem yes_bind {m : Option α} {f : α → Option β} (h : Yes (m.bind f) ψ) : ∃ a, m = some a ∧ Yes (f a) ψ := by
  obtain ⟨x, h1, h2⟩ := h
  rw [Option.bind_eq_some_iff] at h1
  obtain ⟨a, h3, h4⟩ := h1
  exact ⟨a, h3, x, h4, h2⟩
theorem yes_t {c : Bool} {a b : Option α} (hc : c = true) (h : Yes (bif c then a else b) φ) : Yes a φ := by subst hc; exact h
theorem yes_f {c : Bool} {a b : Option α} (hc : c = false) (h : Yes (bif c then a else b) φ) : Yes b φ := by subst hc; exact h
theorem yes_of {m : Option α} {r : α} (h : m = some r) : Yes m (fun x => x = r) := ⟨r, h, rfl⟩
theorem yes_eq {a r : α} (h : Yes (some a) (fun x => x = r)) : a = r := by obtain ⟨x, h1, h2⟩ := h; cases h1; exact h2
theorem yes_m {m : Option α} (h : Yes m φ) : ∃ a, m = some a ∧ Yes (some a) φ := by
  obtain ⟨x, h1, h2⟩ := h
  exact ⟨x, h1, x, rfl, h2⟩
def need (p : Bool) : Option Unit := bif p then some () else none
theorem need_ok {p : Bool} {u : Unit} (h : need p = some u) : p = true := by
  cases p with
  | true => rfl
  | false => cases h
theorem need_bind {p : Bool} (h : p = true) (f : Unit → Option α) : (need p).bind f = f () := by subst h; rfl
def idx (xs : List α) (i : Int) : Option α := bif decide (0 ≤ i) then xs[i.toNat]? else none
theorem idx_ok {xs : List α} {i : Int} {x : α} (h : idx xs i = some x) : 0 ≤ i ∧ xs[i.toNat]? = some x := by
  unfold idx at h
  by_cases hi : 0 ≤ i
  · rw [decide_eq_true hi] at h; exact ⟨hi, h⟩
  · rw [decide_eq_false hi] at h; cases h
theorem idx_nonneg {xs : List α} {i : Int} {x : α} (h : idx xs i = some x) : 0 ≤ i := (idx_ok h).1
theorem idx_map {xs : List α} {i : Int} {x : α} {e : α → D} (h : idx xs i = some x) : (xs.map e)[i.toNat]? = some (e x) := by
  rw [List.getElem?_map, (idx_ok h).2]; rfl
theorem idx_nat (xs : List α) (n : Nat) : idx xs (n : Int) = xs[n]? := by simp [idx]
def cutL (xs : List α) (l h : Int) : Option (List α) := bif decide (0 ≤ l) && decide (l ≤ h) && decide (h ≤ (xs.length : Int)) then some ((xs.drop l.toNat).take (h.toNat - l.toNat)) else none
theorem cutL_ok {xs ys : List α} {l h : Int} (e : cutL xs l h = some ys) : ys = (xs.drop l.toNat).take (h.toNat - l.toNat) ∧ l = (l.toNat : Int) ∧ h = (h.toNat : Int) ∧ l.toNat ≤ h.toNat ∧ h.toNat ≤ xs.length := by
  unfold cutL at e
  cases hc : decide (0 ≤ l) && decide (l ≤ h) && decide (h ≤ (xs.length : Int)) with
  | false => rw [hc] at e; cases e
  | true =>
    rw [hc] at e
    simp only [Bool.and_eq_true, decide_eq_true_eq] at hc
    obtain ⟨⟨h1, h2⟩, h3⟩ := hc
    simp only [cond_true, Option.some.injEq] at e
    exact ⟨e.symm, by omega, by omega, by omega, by omega⟩
theorem cutL_nat {xs : List α} {l h : Nat} (h1 : l ≤ h) (h2 : h ≤ xs.length) : cutL xs (l : Int) (h : Int) = some ((xs.drop l).take (h - l)) := by
  unfold cutL
  rw [show (decide ((0 : Int) ≤ (l : Int)) && decide ((l : Int) ≤ (h : Int)) && decide ((h : Int) ≤ (xs.length : Int))) = true by simp; omega]
  simp
def app (bb : Nat) (xs ys : List α) : Option (List α) := bif decide ((xs.length + ys.length) * bb ≤ 140737488355328) then some (xs ++ ys) else none
theorem app_ok {bb : Nat} {xs ys zs : List α} (h : app bb xs ys = some zs) : zs = xs ++ ys ∧ (xs.length + ys.length) * bb ≤ 140737488355328 := by
  unfold app at h
  cases hc : decide ((xs.length + ys.length) * bb ≤ 140737488355328) with
  | false => rw [hc] at h; cases h
  | true =>
    rw [hc] at h
    simp only [cond_true, Option.some.injEq] at h
    exact ⟨h.symm, of_decide_eq_true hc⟩
theorem app_of {bb : Nat} {xs ys : List α} (h : (xs.length + ys.length) * bb ≤ 140737488355328) : app bb xs ys = some (xs ++ ys) := by
  unfold app; rw [decide_eq_true h]; rfl
theorem app_bound {bb : Nat} {xs ys zs : List α} {e : α → D} (h : app bb xs ys = some zs) : ((xs.map e).length + (ys.map e).length) * bb ≤ 140737488355328 := by
  simpa using (app_ok h).2
theorem app_map {bb : Nat} {xs ys zs : List α} {e : α → D} (h : app bb xs ys = some zs) : xs.map e ++ ys.map e = zs.map e := by
  rw [(app_ok h).1, List.map_append]
theorem map_len {xs : List α} {e : α → D} : (xs.map e).length = xs.length := List.length_map _
end
def WkC (d d' : D) : Prop := ∀ H us, RepC H d us → RepC H d' us
def WkR (ds ds' : List D) : Prop := ∀ H us, Reps H ds us → Reps H ds' us
theorem WkC.refl (d : D) : WkC d d := fun _ _ h => h
theorem WkC.no {k : Nat} {xs : List D} {c : Cap} : WkC (.lst k xs c) (.lst k xs .no) := fun H us h => by
  simp only [RepC] at h ⊢
  obtain ⟨y, e, _, h⟩ := h
  exact ⟨y, e, trivial, h⟩
theorem WkC.nil {k k' : Nat} {c : Cap} : WkC (.lst k [] c) (.lst k' [] .no) := fun H us h => by
  simp only [RepC] at h ⊢
  obtain ⟨y, e, _, h⟩ := h
  rcases h with ⟨_, h⟩ | ⟨b, off, m, e1, e2, e3⟩
  · exact ⟨y, e, trivial, .inl ⟨by trivial, h⟩⟩
  · exact ⟨y, e, trivial, .inr ⟨b, off, m, e1, e2, by simp [Els]⟩⟩
theorem WkC.agg {ds ds' : List D} (h : WkR ds ds') : WkC (.agg ds) (.agg ds') := fun H us k => by
  simp only [RepC] at k ⊢; exact h H us k
theorem WkC.of_eq {d d' : D} (h : d = d') : WkC d d' := h ▸ WkC.refl d
theorem WkR.refl (ds : List D) : WkR ds ds := fun _ _ h => h
theorem WkR.nil : WkR [] [] := WkR.refl _
theorem WkR.cons {d d' : D} {ds ds' : List D} (h : WkC d d') (hf : d'.flat = d.flat) (k : WkR ds ds') : WkR (d :: ds) (d' :: ds') := fun H us q => by
  simp only [Reps] at q ⊢
  obtain ⟨u, us', e, ⟨h1, h2, h3⟩, h4⟩ := q
  exact ⟨u, us', e, ⟨h H _ h1, h2, hf.trans h3⟩, k H _ h4⟩
inductive WkE : List D → List D → Prop
  | nil : WkE [] []
  | cons {d d' : D} {ds ds' : List D} (h : WkC d d') (k : WkE ds ds') : WkE (d :: ds) (d' :: ds')
theorem WkE.refl : ∀ ds : List D, WkE ds ds
  | [] => .nil
  | _ :: ds => .cons (WkC.refl _) (WkE.refl ds)
theorem WkE.els {H : Hp} {k b : Nat} : ∀ {ds ds' : List D} {off : Nat}, WkE ds ds' → Els H k b off ds → Els H k b off ds'
  | _, _, _, .nil, h => h
  | _, _, _, .cons h1 h2, h => by
    simp only [Els] at h ⊢
    obtain ⟨⟨us, e1, e2, e3⟩, h3⟩ := h
    exact ⟨⟨us, e1, h1 H us e2, e3⟩, h2.els h3⟩
theorem WkE.length {ds ds' : List D} (h : WkE ds ds') : ds.length = ds'.length := by
  induction h with
  | nil => rfl
  | cons _ _ ih => simp [ih]
theorem WkE.append {ds ds' es es' : List D} (h : WkE ds ds') (k : WkE es es') : WkE (ds ++ es) (ds' ++ es') := by
  induction h with
  | nil => exact k
  | cons h1 _ ih => exact .cons h1 ih
theorem WkC.lst {k : Nat} {xs ys : List D} {c : Cap} (h : WkE xs ys) : WkC (.lst k xs c) (.lst k ys c) := fun H us q => by
  simp only [RepC] at q ⊢
  obtain ⟨y, e, hc, q⟩ := q
  refine ⟨y, e, hc, ?_⟩
  rcases q with ⟨q1, q2⟩ | ⟨b, off, m, e1, e2, e3⟩
  · subst q1
    cases h; exact .inl ⟨rfl, q2⟩
  · exact .inr ⟨b, off, m, by rw [← h.length]; exact e1, by rw [← h.length]; exact e2, h.els e3⟩
theorem WkC.trans {a b c : D} (h : WkC a b) (k : WkC b c) : WkC a c := fun H us q => k H us (h H us q)
theorem WkC.wk {d d' : D} (h : WkC d d') (hs : ∀ y, d.shape y = true → d'.shape y = true) : Wk d d' := fun H y q => ⟨h H _ q.1, hs y q.2⟩
theorem shape_agg {l l' : List D} : ∀ y, (D.agg l).shape y = true → (D.agg l').shape y = true := fun y h => by cases y <;> first | rfl | cases h
theorem shape_lst {k k' : Nat} {l l' : List D} {c c' : Cap} : ∀ y, (D.lst k l c).shape y = true → (D.lst k' l' c').shape y = true := fun y h => by cases y <;> first | rfl | cases h
theorem Wk.agg {ds ds' : List D} (h : WkR ds ds') : Wk (.agg ds) (.agg ds') := (WkC.agg h).wk shape_agg
theorem Wk.lst0 {k : Nat} {xs ys : List D} {c : Cap} (h : WkE xs ys) : Wk (.lst k xs c) (.lst k ys c) := (WkC.lst h).wk shape_lst
theorem Wk.lst {k : Nat} {xs ys : List D} {c : Cap} (h : WkE xs ys) : Wk (.lst k xs c) (.lst k ys .no) := ((WkC.lst h).trans WkC.no).wk shape_lst
theorem Wk.trans {a b c : D} (h : Wk a b) (k : Wk b c) : Wk a c := fun H y q => k H y (h H y q)
theorem WkS.trans {C : Ctx} {a b c : S} (h : WkS C a b) (k : WkS C b c) : WkS C a c := fun H x w c1 t1 => by
  obtain ⟨H1, l1, c2, t2⟩ := h H x w c1 t1
  obtain ⟨H2, l2, c3, t3⟩ := k H1 x w c2 t2
  exact ⟨H2, Hp.le_trans l1 l2, c3, t3⟩
theorem WkS.refl {C : Ctx} (s : S) : WkS C s s := fun H _ _ c t => ⟨H, Hp.le_refl H, c, t⟩
theorem WkS.blk {C : Ctx} {t : List (Nat × D)} {h h' : List (Nat × Blk)} {k : List (Nat × Value)} {b : Nat} {ds ds' : List D} {T : TypeId} (j : Nat) (hb : h[j]? = some (b, .cells ds T)) (hw : WkR ds ds') (e : h.set j (b, .cells ds' T) = h') : WkS C ⟨t, h, k⟩ ⟨t, h', k⟩ := fun H a w c kt => by
  subst e
  refine ⟨H, Hp.le_refl H, ?_, kt⟩
  obtain ⟨us, h1, h2, h3⟩ := c.blks _ (List.mem_of_getElem? hb)
  have hlt := (List.getElem?_eq_some_iff.1 hb).1
  have hget := (List.getElem?_eq_some_iff.1 hb).2
  have hcl : claims (h.set j (b, Blk.cells ds' T)) k = claims h k := by
    exact claims_set hb rfl
  refine ⟨c.ag, c.le, c.new, c.same, c.size, ?_, c.toks, by rw [hcl]; exact c.nd, by rw [hcl]; exact c.own, c.env⟩
  intro p hp
  rcases List.mem_or_eq_of_mem_set hp with hp | hp
  · exact c.blks p hp
  · subst hp; exact ⟨us, h1, hw H us h2, h3⟩
theorem TokOK.full {H : Hp} {w : World} {k : Nat} {y : Value} (h : CapOK .full y) : TokOK H w (k, y) := fun a n m e hlt => by
  subst e
  simp only [CapOK] at h; omega
theorem tokClaim_full {k : Nat} {y : Value} (h : CapOK .full y) : tokClaim (k, y) = [] := by
  unfold tokClaim
  split
  · rename_i k0 a n m e
    simp only [Prod.mk.injEq] at e
    obtain ⟨_, e⟩ := e
    subst e
    simp only [CapOK] at h
    rw [if_neg (by omega)]
  · rfl
theorem Core.tokFull {C : Ctx} {H : Hp} {h : List (Nat × Blk)} {k : List (Nat × Value)} {w : World} (c : Core C H h k w) (kk : Nat) {y : Value} (hy : CapOK .full y) : Core C H h ((kk, y) :: k) w := by
  have hcl : claims h ((kk, y) :: k) = claims h k := by unfold claims; rw [List.flatMap_cons, tokClaim_full hy]; rfl
  refine ⟨c.ag, c.le, c.new, c.same, c.size, c.blks, ?_, by rw [hcl]; exact c.nd, by rw [hcl]; exact c.own, c.env⟩
  intro p hp
  rcases List.mem_cons.1 hp with rfl | hp
  · exact TokOK.full hy
  · exact c.toks p hp
theorem lst_cur {H : Hp} {k : Nat} {xs : List D} {y : Value} (h : Rep H (.lst k xs .full) y) : CapOK .full y ∧ Rep H (.lst k xs (.cur y)) y := by
  obtain ⟨hc, hr⟩ := rep_lst_inv h
  refine ⟨hc, ?_, by have := h.2; cases y <;> first | rfl | cases this⟩
  have h1 := h.1
  simp only [RepC] at h1 ⊢
  obtain ⟨y', e, _, h3⟩ := h1
  have : y' = y := by
    have hs := h.2
    cases y <;> simp [D.shape] at hs <;> simp [Value.cells] at e <;> exact e.symm
  subst this
  exact ⟨y', e, rfl, h3⟩
section
variable {P : Program} {C : Ctx} {N : Nat} {ops rest : List Oper} {o : Oper} {t : List (Nat × D)} {h : List (Nat × Blk)} {k : List (Nat × Value)} {Q : Exit → S → Prop} {tab : List (Option TI)}
def WkX {Y : Type} (C : Ctx) (s : S) (S1 : Y → S) : Prop := ∀ H a w, Core C H s.h s.k w → TOK H s.t a → ∃ y H', H.le H' ∧ Core C H' (S1 y).h (S1 y).k w ∧ TOK H' (S1 y).t a
theorem WkX.of {Y : Type} {s : S} {S1 : Y → S} (y : Y) (h : WkS C s (S1 y)) : WkX C s S1 := fun H a w c t => by
  obtain ⟨H', h1, h2, h3⟩ := h H a w c t
  exact ⟨y, H', h1, h2, h3⟩
theorem WkX.wk {Y : Type} {s s' : S} {S1 : Y → S} (h : WkS C s s') (g : WkX C s' S1) : WkX C s S1 := fun H a w c t => by
  obtain ⟨H', h1, h2, h3⟩ := h H a w c t
  obtain ⟨y, H2, g1, g2, g3⟩ := g H' a w h2 h3
  exact ⟨y, H2, Hp.le_trans h1 g1, g2, g3⟩
theorem look_put {t : List (Nat × D)} {H : Hp} {a : Act} (kt : TOK H t a) {i : Nat} {d : D} {v : Value} (h1 : a.tmps[i]? = some v) (h2 : Rep H d v) : TOK H ((i, d) :: t) a := by
  intro j d' e
  simp only [look] at e
  cases hb : Nat.beq i j with
  | true =>
    rw [hb] at e; simp at e; subst e
    have := Nat.eq_of_beq_eq_true hb; subst this
    exact ⟨v, h1, h2⟩
  | false => rw [hb] at e; exact kt j d' (by simpa using e)
theorem WkX.tokF {Y : Type} {S1 : Y → S} {i kk : Nat} {xs : List D} (hx : look t i = some (.lst kk xs .full)) (g : ∀ y, WkX C ⟨(i, .lst kk xs (.cur y)) :: t, h, (kk, y) :: k⟩ S1) : WkX C ⟨t, h, k⟩ S1 := fun H a w c kt => by
  obtain ⟨v, h1, h2⟩ := kt i _ hx
  obtain ⟨h3, h4⟩ := lst_cur h2
  exact g v H a w (c.tokFull kk h3) (look_put kt h1 h4)
theorem rep_nil {H : Hp} {k k' : Nat} {c : Cap} {y : Value} (h : Rep H (.lst k [] c) y) (hc : CapOK c y) : Rep H (.lst k' [] c) y := by
  obtain ⟨h1, h2⟩ := h
  refine ⟨?_, by cases y <;> first | rfl | cases h2⟩
  simp only [RepC] at h1 ⊢
  obtain ⟨z, e, h3, h4⟩ := h1
  refine ⟨z, e, h3, ?_⟩
  rcases h4 with ⟨_, h4⟩ | ⟨b, off, m, e1, e2, e3⟩
  · exact .inl ⟨by trivial, h4⟩
  · exact .inr ⟨b, off, m, e1, e2, by simp [Els]⟩
theorem WkX.tokN {Y : Type} {S1 : Y → S} {i k0 : Nat} (kk : Nat) (hx : look t i = some (.lst k0 [] .full)) (g : ∀ y, WkX C ⟨(i, .lst kk [] (.cur y)) :: t, h, (kk, y) :: k⟩ S1) : WkX C ⟨t, h, k⟩ S1 := fun H a w c kt => by
  obtain ⟨v, h1, h2⟩ := kt i _ hx
  have h5 := rep_nil (k' := kk) h2 (rep_lst_inv h2).1
  obtain ⟨h3, h4⟩ := lst_cur h5
  exact g v H a w (c.tokFull kk h3) (look_put kt h1 h4)
theorem WkS.perm {t t' : List (Nat × D)} {h' hj : List (Nat × Blk)} {k' kj : List (Nat × Value)} (e : ∀ i d, look t' i = some d → ∃ d0, look t i = some d0 ∧ Wk d0 d) (hh : h.Perm (h' ++ hj)) (kk : k.Perm (k' ++ kj)) : WkS C ⟨t, h, k⟩ ⟨t', h', k'⟩ := fun H a w c kt => by
  refine ⟨H, Hp.le_refl H, (c.perm hh kk).drop (List.sublist_append_left _ _) (List.sublist_append_left _ _), ?_⟩
  intro i d hd
  obtain ⟨d0, h1, h2⟩ := e i d hd
  obtain ⟨v, h3, h4⟩ := kt i d0 h1
  exact ⟨v, h3, h2 H v h4⟩
theorem wpD_wkX {Y : Type} {c : Code} {s : S} {S1 : Y → S} (hs : WkX C s S1) (g : ∀ y, wpD P C N c (S1 y) Q) : wpD P C N c s Q := by
  rintro a w ⟨H, c0, kt, hN, hdf⟩
  obtain ⟨y, H', hle, c', kt'⟩ := hs H a w c0 kt
  exact g y a w ⟨H', c', kt', hN, hdf⟩
theorem wpD_mid {Y : Type} {c : Code} {s : S} (S1 : Y → S) (h1 : wpD P C N c s (fun x s' => x = .normal ∧ WkX C s' S1)) (h2 : ∀ s', WkX C s' S1 → Q .normal s') : wpD P C N c s Q :=
  wpD_mono h1 fun _ s' ⟨e, hw⟩ => by subst e; exact h2 s' hw
def midX {τ ρ Y : Type} (C : Ctx) (S1 : τ → Y → S) (Q : Exit → S → Prop) (x : τ ⊕ ρ) : Exit → S → Prop := fun e s =>
  match x with
  | .inl v => e = .normal ∧ WkX C s (S1 v)
  | .inr _ => e = .ret ∧ Q .ret s
theorem wpD_midX {τ ρ Y : Type} {c : Code} {s : S} (S1 : τ → Y → S) (x : τ ⊕ ρ) (h1 : wpD P C N c s (midX C S1 Q x)) (h2 : ∀ v s', x = .inl v → WkX C s' (S1 v) → Q .normal s') : wpD P C N c s Q := by
  refine wpD_mono h1 fun e s' hm => ?_
  cases x with
  | inl v =>
    obtain ⟨e1, hw⟩ := hm
    subst e1
    exact h2 v s' rfl hw
  | inr r =>
    obtain ⟨e1, hq⟩ := hm
    subst e1
    exact hq
theorem WkX.trans {Y Z : Type} {s : S} {S1 : Y → S} {S2 : Z → S} (h : WkX C s S1) (g : ∀ y, WkX C (S1 y) S2) : WkX C s S2 := fun H a w c kt => by
  obtain ⟨y, H1, l1, c1, t1⟩ := h H a w c kt
  obtain ⟨z, H2, l2, c2, t2⟩ := g y H1 a w c1 t1
  exact ⟨z, H2, Hp.le_trans l1 l2, c2, t2⟩
def LP {σ τ : Type} (t : τ) (G : σ → Prop) : Step σ τ → Prop
  | .next s => G s
  | .done u => u = t
theorem lp_next {σ τ : Type} {t : τ} {G : σ → Prop} {s : σ} (h : Yes (some (Step.next s)) (LP t G)) : G s := by obtain ⟨x, h1, h2⟩ := h; cases h1; exact h2
theorem lp_done {σ τ : Type} {t u : τ} {G : σ → Prop} (h : Yes (some (Step.done (σ := σ) u)) (LP t G)) : u = t := by obtain ⟨x, h1, h2⟩ := h; cases h1; exact h2
theorem yes_loop {σ τ : Type} {f : σ → Option (Step σ τ)} {t : τ} {n : Nat} {x : σ} (h : loopN f (n + 1) x = some t) : Yes (f x) (LP t fun x' => loopN f n x' = some t) := by
  simp only [loopN] at h
  cases e : f x with
  | none => rw [e] at h; cases h
  | some st =>
    rw [e] at h
    cases st with
    | next s' => exact ⟨_, rfl, h⟩
    | done u => exact ⟨_, rfl, by simpa [LP] using h⟩
theorem loop_M {σ τ Y : Type} {f : σ → Option (Step σ τ)} {x0 : σ} {u : τ} {s : S} {c : Code} (hl : loopM f x0 = some u) (St : σ → Y → S) (hw : WkX C s (St x0))
    (hb : ∀ (G : σ → Prop) x y, Yes (f x) (LP u G) → wpD P C N c (St x y) (thenD (fun s' => ∃ x', G x' ∧ WkX C s' (St x')) Q)) : wpD P C N (.loop c) s Q := by
  obtain ⟨n, hn⟩ := loopM_inv hl
  have key : ∀ n x y, loopN f n x = some u → roundsD P C N c Q n (St x y) := by
    intro n
    induction n with
    | zero => intro x y h; simp [loopN] at h
    | succ n ih =>
      intro x y h
      refine roundsD_succ (wpD_mono (hb _ x y (yes_loop h)) ?_)
      intro e s' q
      cases e with
      | normal =>
        obtain ⟨x', h1, h2⟩ := q
        rintro a w ⟨H, c0, kt, hN, hdf⟩
        obtain ⟨y', H', hle, c', kt'⟩ := h2 H a w c0 kt
        exact ih x' y' h1 a w ⟨H', c', kt', hN, hdf⟩
      | _ => exact q
  exact wpD_wkX hw (fun y => wpD_loop n (key n x0 y hn))
def retX (C : Ctx) (tab : List (Option TI)) (rs : List ResultVar) (R : D → List (Nat × Blk) → List (Nat × Value) → Prop) (x : Exit) (s : S) : Prop := ∀ H a w, Core C H s.h s.k w → TOK H s.t a → ∃ s' H', H.le H' ∧ Core C H' s'.h s'.k w ∧ TOK H' s'.t a ∧ retD tab rs R x s'
theorem retX.of {rs : List ResultVar} {R : D → List (Nat × Blk) → List (Nat × Value) → Prop} {x : Exit} {s s' : S} (h : WkS C s s') (g : retD tab rs R x s') : retX C tab rs R x s := fun H a w c kt => by
  obtain ⟨H', h1, h2, h3⟩ := h H a w c kt
  exact ⟨s', H', h1, h2, h3, g⟩
theorem retX.wk {rs : List ResultVar} {R : D → List (Nat × Blk) → List (Nat × Value) → Prop} {x : Exit} {s s' : S} (h : WkS C s s') (g : retX C tab rs R x s') : retX C tab rs R x s := fun H a w c kt => by
  obtain ⟨H', h1, h2, h3⟩ := h H a w c kt
  obtain ⟨s2, H2, g1, g2⟩ := g H' a w h2 h3
  exact ⟨s2, H2, Hp.le_trans h1 g1, g2⟩
theorem retX.wkX {Y : Type} {S1 : Y → S} {rs : List ResultVar} {R : D → List (Nat × Blk) → List (Nat × Value) → Prop} {x : Exit} {s : S} (h : WkX C s S1) (g : ∀ y, retX C tab rs R x (S1 y)) : retX C tab rs R x s := fun H a w c kt => by
  obtain ⟨y, H', h1, h2, h3⟩ := h H a w c kt
  obtain ⟨s2, H2, g1, g2⟩ := g y H' a w h2 h3
  exact ⟨s2, H2, Hp.le_trans h1 g1, g2⟩
theorem retX.tokF {rs : List ResultVar} {R : D → List (Nat × Blk) → List (Nat × Value) → Prop} {x : Exit} {i kk : Nat} {xs : List D} (hx : look t i = some (.lst kk xs .full)) (g : ∀ y, retX C tab rs R x ⟨(i, .lst kk xs (.cur y)) :: t, h, (kk, y) :: k⟩) : retX C tab rs R x ⟨t, h, k⟩ := fun H a w c kt => by
  obtain ⟨v, h1, h2⟩ := kt i _ hx
  obtain ⟨h3, h4⟩ := lst_cur h2
  exact g v H a w (c.tokFull kk h3) (look_put kt h1 h4)
theorem retX.tokN {rs : List ResultVar} {R : D → List (Nat × Blk) → List (Nat × Value) → Prop} {x : Exit} {i k0 : Nat} (kk : Nat) (hx : look t i = some (.lst k0 [] .full)) (g : ∀ y, retX C tab rs R x ⟨(i, .lst kk [] (.cur y)) :: t, h, (kk, y) :: k⟩) : retX C tab rs R x ⟨t, h, k⟩ := fun H a w c kt => by
  obtain ⟨v, h1, h2⟩ := kt i _ hx
  have h5 := rep_nil (k' := kk) h2 (rep_lst_inv h2).1
  obtain ⟨h3, h4⟩ := lst_cur h5
  exact g v H a w (c.tokFull kk h3) (look_put kt h1 h4)
theorem enterX {f : FuncId} {fn : Func} {c : Code} {ds : List D} {R : D → List (Nat × Blk) → List (Nat × Value) → Prop} {rs : List ResultVar} (ht : TabOK P tab)
    (hf : P.funcs[f]? = some fn) (hb : fn.body = some c) (hn : (fn.name == "runtime.NumGoroutine") = false) {N : Nat} (hN : fn.ntmps = N) (hl : Nat.ble ds.length N = true) (hrs : fn.results.toList = rs)
    (hw : ∀ C, wpD P C N c ⟨argT 0 ds, h, k⟩ (retX C tab rs R)) : CallsD P f ds h k R := by
  refine enter ht hf hb hn hN hl hrs fun C => ?_
  intro a w r
  refine wp_mono (hw C a w r) ?_
  rintro x a' w' ⟨s, ⟨H, c0, kt, hN, hdf⟩, hk⟩
  obtain ⟨s', H', hle, c', kt', hr⟩ := hk H a' w' c0 kt
  exact ⟨s', ⟨H', c', kt', hN, hdf⟩, hr⟩
theorem resL_nil {s : S} : resL tab s [] [] := rfl
theorem resL_cons {s : S} {r : ResultVar} {rs : List ResultVar} {d : D} {ds : List D} (h1 : resOne tab s r d) (h2 : resL tab s rs ds) : resL tab s (r :: rs) (d :: ds) := ⟨d, ds, rfl, h1, h2⟩
theorem resOne_tmp {s : S} {i : Nat} {d : D} (h1 : look s.t i = some d) : resOne tab s (.tmp i) d := h1
theorem resOne_cell {s : S} {a b off : Nat} {T T' : TypeId} {ds : List D} {i : TI} {d : D} (j : Nat) (h1 : look s.t a = some (.ptr b off)) (h2 : s.h[j]? = some (b, Blk.cells ds T')) (h3 : ti tab T = some i) (h4 : partD i ds off = some d) : resOne tab s (.cell a T) d := ⟨j, b, off, ds, T', i, h1, h2, h3, h4⟩
theorem retD_mk {R : D → List (Nat × Blk) → List (Nat × Value) → Prop} {rs : List ResultVar} {x : Exit} {s : S} {ds : List D} {hh : List (Nat × Blk)} {kk : List (Nat × Value)} (hx : x = .ret ∨ x = .normal) (hr : resL tab s rs ds) (hs : hh.Sublist s.h) (ks : kk.Sublist s.k) (g : R (wrapD ds) hh kk) : retD tab rs R x s := ⟨hx, ds, hh, kk, hr, hs, ks, g⟩
theorem p_mapD {α : Type} {e0 : α → D} {i kk : Nat} {xs ys zs : List α} {bb : Nat} {c : Cap} (q : app bb xs ys = some zs) (hx : look t i = some (.lst kk (xs.map e0 ++ ys.map e0) c)) (g : opsD P C N ops rest ⟨(i, .lst kk (zs.map e0) c) :: t, h, k⟩ Q) : opsD P C N ops rest ⟨t, h, k⟩ Q :=
  p_eq hx (Wk.of_eq (by rw [app_map q])) g
theorem perm_set {α : Type} : ∀ {l : List α} {j : Nat} {x y : α}, l[j]? = some x → (y :: l.eraseIdx j).Perm (l.set j y)
  | [], j, x, y, h => by simp at h
  | a :: l, 0, x, y, h => by simp
  | a :: l, j + 1, x, y, h => by
    simp at h
    simp only [List.eraseIdx_cons_succ, List.set_cons_succ]
    exact (List.Perm.swap a y _).trans ((perm_set h).cons a)
end
section
variable {P : Program} {C : Ctx} {N : Nat} {ops rest : List Oper} {o : Oper} {t : List (Nat × D)} {h : List (Nat × Blk)} {k : List (Nat × Value)} {Q : Exit → S → Prop} {tab : List (Option TI)}
theorem midX_inl {τ ρ Y : Type} {S1 : τ → Y → S} {s : S} {v : τ} (g : WkX C s (S1 v)) : midX (ρ := ρ) C S1 Q (.inl v) .normal s := ⟨rfl, g⟩
theorem midX_inr {τ ρ Y : Type} {S1 : τ → Y → S} {s : S} {r : ρ} (g : Q .ret s) : midX C S1 Q (.inr r) .ret s := ⟨rfl, g⟩
theorem CallsD.drop {f : FuncId} {ds : List D} {R : D → List (Nat × Blk) → List (Nat × Value) → Prop} {d1 : D} (c : CallsD P f ds h k R) (hr : ∀ d h k, R d h k → Wk d d1) : CallsD P f ds h k (fun d h k => d = d1 ∧ h = [] ∧ k = []) := by
  refine ⟨c.1, fun H w vs h1 h2 h3 h4 h5 => (c.2 H w vs h1 h2 h3 h4 h5).mono ?_⟩
  rintro e w' ⟨v, H', d, h', k', e1, e2, e3, e4⟩
  exact ⟨v, H', d1, [], [], e1, hr d h' k' e4 H' v e2, e3.drop (List.nil_sublist _) (List.nil_sublist _), rfl, rfl, rfl⟩
theorem Ex.wk {d d' : D} (h : Ex P o t d) (k : Wk d d') : Ex P o t d' := fun H a w kt => let ⟨v, h1, h2⟩ := h H a w kt; ⟨v, h1, k H v h2⟩
theorem ExE.wk {d d' : D} (h : ExE P o t d) (k : Wk d d') : ExE P o t d' := fun H a w hA kt => let ⟨v, w', H', h1, h2, h3⟩ := h H a w hA kt; ⟨v, w', H', h1, h2, k H' v h3⟩
theorem w_eq {c : Code} {i : Nat} {d d' : D} (hx : look t i = some d) (e : Wk d d') (g : wpD P C N c ⟨(i, d') :: t, h, k⟩ Q) : wpD P C N c ⟨t, h, k⟩ Q := by
  rintro a w ⟨H, c0, kt, hN, hdf⟩
  obtain ⟨v, h1, h2⟩ := kt i _ hx
  exact g a w ⟨H, c0, look_put kt h1 (e H v h2), hN, hdf⟩
end
def eI64 (n : Int) : D := .v (.int .i64 n)
end Go.Proofs.Ytjfkolocfhmbnaa.Ab
namespace Go.Proofs.Ytjfkolocfhmbnaa.Ab
open Go
set_option linter.all false
def Le {α : Type} (m m' : Option α) : Prop := ∀ r, m = some r → m' = some r
theorem Le.refl {α : Type} (m : Option α) : Le m m := fun _ h => h
theorem Le.none {α : Type} (m : Option α) : Le Option.none m := fun _ h => by cases h
theorem Le.bind {α β : Type} {m m' : Option α} {f f' : α → Option β} (h : Le m m') (k : ∀ x, Le (f x) (f' x)) : Le (m.bind f) (m'.bind f') := fun r e => by
  rw [Option.bind_eq_some_iff] at e ⊢
  obtain ⟨a, h1, h2⟩ := e
  exact ⟨a, h a h1, k a r h2⟩
theorem Le.cond {α : Type} {c : Bool} {m m' n n' : Option α} (h : Le m m') (k : Le n n') : Le (bif c then m else n) (bif c then m' else n') := by
  cases c
  · exact k
  · exact h
theorem Le.elim {α β γ : Type} {f f' : α → Option γ} {g g' : β → Option γ} {x : α ⊕ β} (h : ∀ a, Le (f a) (f' a)) (k : ∀ b, Le (g b) (g' b)) : Le (Sum.elim f g x) (Sum.elim f' g' x) := by
  cases x
  · exact h _
  · exact k _
theorem Le.loop {σ τ : Type} {f f' : σ → Option (Step σ τ)} {s : σ} (h : ∀ s, Le (f s) (f' s)) : Le (loopM f s) (loopM f' s) := fun r e => by
  obtain ⟨n, hn⟩ := loopM_inv e
  have key : ∀ n s, loopN f n s = some r → loopN f' n s = some r := by
    intro n
    induction n with
    | zero => intro s h; simp [loopN] at h
    | succ n ih =>
      intro s e
      simp only [loopN] at e ⊢
      cases hf : f s with
      | none => rw [hf] at e; cases e
      | some x =>
        rw [hf] at e
        rw [h s x hf]
        cases x with
        | next s' => exact ih s' e
        | done t => exact e
  exact loopM_of (key n s hn)
open Classical in
noncomputable def anyN {α : Type} (f : Nat → Option α) : Option α := if h : ∃ n r, f n = some r then some h.choose_spec.choose else Option.none
theorem anyN_inv {α : Type} {f : Nat → Option α} {r : α} (h : anyN f = some r) : ∃ n, f n = some r := by
  unfold anyN at h
  split at h
  · rename_i hx
    simp only [Option.some.injEq] at h
    exact ⟨_, h ▸ hx.choose_spec.choose_spec⟩
  · cases h
section
variable {P : Program} {C : Ctx} {N : Nat} {ops rest : List Oper} {o : Oper} {t : List (Nat × D)} {h : List (Nat × Blk)} {k : List (Nat × Value)} {Q : Exit → S → Prop} {tab : List (Option TI)}
theorem x_min {T T' : TypeId} {x y : Operand} {kk : IntKind} {a b : Int} (ho : o.op = .call ⟨.builtin .min, [x, y].toArray, #[T, T']⟩) (hx : opD t x = some (.v (.int kk a))) (hy : opD t y = some (.v (.int kk b))) : Ex P o t (.v (.int kk (min a b))) := fun H ac w kt => by
  refine ⟨.int kk (min a b), exec_builtin (s := Builtin.min_) ho (fun _ _ => rfl) ?_, rep_v rfl⟩
  simp only [List.map_cons, List.map_nil, rep_v_inv (opD_ok kt hx), rep_v_inv (opD_ok kt hy)]
  show (pure (.int kk (if b < a then b else a)) : Sem Value).run P w = _
  have : min a b = if b < a then b else a := by split <;> omega
  rw [this]; rfl
theorem p_min {i : Nat} {T T' : TypeId} {x y : Operand} {kk : IntKind} {a b : Int} (ho : o.op = .call ⟨.builtin .min, [x, y].toArray, #[T, T']⟩) (hw : wantD ops t o = some true) (hd : o.dst = some i) (hi : Nat.blt i N = true) (hx : opD t x = some (.v (.int kk a))) (hy : opD t y = some (.v (.int kk b)))
    (g : opsD P C N ops rest ⟨(i, .v (.int kk (min a b))) :: t, h, k⟩ Q) : opsD P C N ops (o :: rest) ⟨t, h, k⟩ Q := ops_run (s := ⟨t, h, k⟩) hw hd hi (x_min ho hx hy) g
theorem p_isnil {i kk : Nat} {xt yt e : Nat} {x : Operand} {xs : List D} {c : Cap} {i0 : TI} (hT : TabOK P tab) (ho : o.op = .binOp .eql xt x (.const (.slice none 0 0)) yt) (hw : wantD ops t o = some true) (hd : o.dst = some i) (hi : Nat.blt i N = true) (hx : opD t x = some (.lst kk xs c)) (hi0 : ti tab xt = some i0) (hd0 : i0.d = .slice e)
    (g : ∀ b, (b = true → xs = []) → opsD P C N ops rest ⟨(i, .v (.bool b)) :: t, h, k⟩ Q) : opsD P C N ops (o :: rest) ⟨t, h, k⟩ Q := by
  refine ops_val (s := ⟨t, h, k⟩) hw hd hi fun H a w cc kt => ?_
  obtain ⟨d0, u0, u1⟩ := run_underlying (w := w) (ti_ok hT hi0)
  have e0 := td_slice (u1.trans hd0); subst e0
  have hr := opD_ok kt hx
  obtain ⟨_, hr2⟩ := rep_lst_inv hr
  have key : ∀ (ad : Option Addr) (n m : Nat), a.eval x = .slice ad n m → (execOp a.eval o).run P w = .ok (.value (.bool ad.isNone)) w := by
    intro ad n m hv
    unfold execOp
    rw [ho]
    refine exec_v ?_
    rw [hv]
    have h1 : (eqGuard .eql xt x (.const (.slice none 0 0)) (.slice ad n m) (a.eval (.const (.slice none 0 0)))).run P w = .ok () w := by simp [eqGuard, Act.eval] <;> rfl
    rw [run_bind_ok h1]
    show (do pure (.bool (← Op.equal xt (.slice ad n m) (.slice none 0 0))) : Sem Value).run P w = _
    have h2 : (Op.equal xt (.slice ad n m) (.slice none 0 0)).run P w = .ok ad.isNone w := by
      show (Op.equalIn (9999 + 1) xt _ _).run P w = _
      rw [Op.equalIn, run_bind_ok u0]
      cases ad <;> rfl
    rw [run_bind_ok h2]; rfl
  rcases hr2 with ⟨rfl, ad, m, hv, _⟩ | ⟨b, off, m, hv, _, hE⟩
  · exact ⟨.bool ad.isNone, w, H, .v (.bool ad.isNone), h, k, key _ _ _ hv, Hp.le_refl H, cc, rep_v rfl, g _ fun _ => rfl⟩
  · exact ⟨.bool false, w, H, .v (.bool false), h, k, key _ _ _ hv, Hp.le_refl H, cc, rep_v rfl, g _ fun q => by cases q⟩
theorem repsV_append {H : Hp} : ∀ {l m : List D} {us vs : List Value}, RepsV H l us → RepsV H m vs → RepsV H (l ++ m) (us ++ vs)
  | [], m, us, vs, h, k => by simp only [RepsV] at h; subst h; simpa using k
  | d :: l, m, us, vs, h, k => by
    simp only [RepsV] at h
    obtain ⟨u, us', rfl, h1, h2⟩ := h
    simp only [List.cons_append, RepsV]
    exact ⟨u, _, rfl, h1, repsV_append h2 k⟩
theorem rep_fn_inv {H : Hp} {f : Fn} {as_ cs : List D} {y : Value} (h : Rep H (.fn f as_ cs) y) : ∃ vs ws, y = .func f vs.toArray ws.toArray ∧ RepsV H as_ vs ∧ RepsV H cs ws := by
  obtain ⟨h1, h2⟩ := h
  cases y <;> simp [D.shape] at h2 <;> simp [RepC, Value.cells] at h1 <;> simp [h1]
theorem callV_run {f : FuncId} {args : List Operand} {ts : Array TypeId} {x : Operand} {a : Act} {w : World} {vs ws : List Value} (ho : o.op = .call ⟨.value x, args.toArray, ts⟩) (hx : a.eval x = .func (.func f) vs.toArray ws.toArray) (h : Goes P f) : (execOp a.eval o).run P w = .ok (.enter f (vs ++ args.map a.eval ++ ws).toArray) w := by
  unfold execOp
  rw [ho]
  simp only []
  have : (resolve a.eval ⟨.value x, args.toArray, ts⟩ o.type).run P w = .ok ⟨.fn (.func f) ws.toArray, vs.toArray ++ (args.map a.eval).toArray⟩ w := by
    simp [resolve, Deferred.ofValue, hx]
    first | done | rfl
  rw [run_bind_ok this]
  show (callFunc f (vs.toArray ++ (args.map a.eval).toArray ++ ws.toArray)).run P w = _
  rw [callFunc_run h]
  simp
theorem p_callV {f : FuncId} {x : Operand} {args : List Operand} {ts : Array TypeId} {i : Nat} {as_ cs ds da ds' : List D} {h1 h2 : List (Nat × Blk)} {k1 k2 : List (Nat × Value)} {R : D → List (Nat × Blk) → List (Nat × Value) → Prop}
    (hc : CallsD P f ds' h1 k1 R) (hx : opD t x = some (.fn (.func f) as_ cs)) (ho : o.op = .call ⟨.value x, args.toArray, ts⟩) (hw : wantD ops t o = some true) (hd : o.dst = some i) (hi : Nat.blt i N = true) (ha : someMap args (opD t) = some ds) (hda : as_ ++ ds ++ cs = da) (hwk : WkL da ds')
    (hh : h.Perm (h1 ++ h2)) (hk : k.Perm (k1 ++ k2)) (g : ∀ d h' k', R d h' k' → opsD P C N ops rest ⟨(i, d) :: t, h' ++ h2, k' ++ k2⟩ Q) : opsD P C N ops (o :: rest) ⟨t, h, k⟩ Q := by
  subst hda
  rintro a w ⟨H, c, kt, hN, hdf⟩
  obtain ⟨vs, ws, ex, r1, r2⟩ := rep_fn_inv (opD_ok kt hx)
  unfold wpList
  rw [wantD_ok kt hw, if_pos rfl]
  refine .inl ?_
  unfold Oper.wp
  rw [callV_run ho ex hc.1, Oper.upon_enter]
  have c0 := c.perm hh hk
  have nd := (claims_append h1 h2 k1 k2).nodup_iff.1 c0.nd
  rw [List.nodup_append] at nd
  have hv := hwk H _ (repsV_append (repsV_append r1 (someMap_ok kt ha)) r2)
  have := hc.2 H w _ hv c.ag (fun p hp => c0.blks p (List.mem_append_left _ hp)) (fun p hp => c0.toks p (List.mem_append_left _ hp)) nd.1
  refine this.mono ?_
  rintro e w' ⟨v, H', d, h', k', rfl, hr, hcore, hR⟩
  simp only []
  rw [hd]
  refine g d h' k' hR _ _ ⟨H', Core.call c0 hcore, TOK.put (kt.mono hcore.le) (by rw [hN]; simpa using hi) hr, ?_, hdf⟩
  simp only [Act.put, Array.size_setIfInBounds]; exact hN
theorem p_callV0 {f : FuncId} {x : Operand} {args : List Operand} {ts : Array TypeId} {i : Nat} {as_ cs ds da ds' : List D} {R : D → Prop}
    (hc : CallsD P f ds' [] [] (fun d h k => R d ∧ h = [] ∧ k = [])) (hx : opD t x = some (.fn (.func f) as_ cs)) (ho : o.op = .call ⟨.value x, args.toArray, ts⟩) (hw : wantD ops t o = some true) (hd : o.dst = some i) (hi : Nat.blt i N = true) (ha : someMap args (opD t) = some ds) (hda : as_ ++ ds ++ cs = da) (hwk : WkL da ds')
    (g : ∀ d, R d → opsD P C N ops rest ⟨(i, d) :: t, h, k⟩ Q) : opsD P C N ops (o :: rest) ⟨t, h, k⟩ Q :=
  p_callV (h1 := []) (k1 := []) (h2 := h) (k2 := k) hc hx ho hw hd hi ha hda hwk (List.Perm.refl _) (List.Perm.refl _) fun d h' k' ⟨r, e1, e2⟩ => by subst e1; subst e2; exact g d r
end
end Go.Proofs.Ytjfkolocfhmbnaa.Ab
namespace Go.Proofs.Ytjfkolocfhmbnaa.Ab
open Go
set_option linter.all false
section
variable {P : Program} {C : Ctx} {N : Nat} {ops rest : List Oper} {o : Oper} {t : List (Nat × D)} {h : List (Nat × Blk)} {k : List (Nat × Value)} {Q : Exit → S → Prop} {tab : List (Option TI)}
end
end Go.Proofs.Ytjfkolocfhmbnaa.Ab
namespace Go.Proofs.Ytjfkolocfhmbnaa.Ab
open Go
set_option linter.all false
section
variable {P : Program} {C : Ctx} {N : Nat} {ops rest : List Oper} {o : Oper} {t : List (Nat × D)} {h : List (Nat × Blk)} {k : List (Nat × Value)} {Q : Exit → S → Prop} {tab : List (Option TI)}
end
end Go.Proofs.Ytjfkolocfhmbnaa.Ab
namespace Go.Proofs.Ytjfkolocfhmbnaa.Ab
open Go
set_option linter.all false
section
variable {P : Program} {C : Ctx} {N : Nat} {l : List Oper} {m : Nat} {De : Nat → D} {al : AL} {pre : List (List Nat)} {ev : List Nat} {h : List (Nat × Blk)} {k : List (Nat × Value)} {Q : Exit → S → Prop} {bs : Nat → Nat} {i : Nat} {o : Oper} {rest : List Oper} {te : TE}
end
end Go.Proofs.Ytjfkolocfhmbnaa.Ab
namespace Go.Proofs.Ytjfkolocfhmbnaa.Ab
open Go
set_option linter.all false
section
variable {P : Program} {C : Ctx} {N : Nat} {ops rest : List Oper} {o : Oper} {t : List (Nat × D)} {h : List (Nat × Blk)} {k : List (Nat × Value)} {Q : Exit → S → Prop} {tab : List (Option TI)}
theorem zeros_reps {H : Hp} : ∀ {l : List Value}, l.all one = true → Reps H (l.map dOf) l
  | [], _ => by simp [Reps]
  | u :: l, hz => by
    simp only [List.all_cons, Bool.and_eq_true] at hz
    simp only [List.map_cons, Reps]
    exact ⟨u, l, rfl, ⟨(dOf_ok H u).1, hz.1, (dOf_ok H u).2⟩, zeros_reps hz.2⟩
theorem x_buildA {T : TypeId} {ps : Array (Nat × Operand)} {ti0 j : TI} {n e : Nat} {r : List D} (hT : TabOK P tab) (ho : o.op = .build T ps) (hti : ti tab T = some ti0) (hfs : ti0.d = .array n e) (hj : ti tab e = some j) (hz : ti0.zero.all one = true) (eb : buildD tab ((List.range n).map fun i => (e, i * j.size)) t ps.toList (ti0.zero.map dOf) = some r) : ∀ H a w, TOK H t a → ∃ v, (execOp a.eval o).run P w = .ok (.value v) w ∧ Rep H (.agg r) v :=
  fun H a w kt => by
  obtain ⟨z, h1, h2⟩ := run_zeroValue (w := w) (ti_ok hT hti)
  obtain ⟨d, h3, h4⟩ := run_underlying (w := w) (ti_ok hT hti)
  obtain rfl := td_array (h4.trans hfs)
  have hr : Reps H (ti0.zero.map dOf) z.cells.toList := by rw [h2]; exact zeros_reps hz
  obtain ⟨vs, h6, h7⟩ := fill_ok (P := P) (place := fun i => some (i * j.size, j.size)) hT kt (fs := (List.range n).map fun i => (e, i * j.size)) (by
    intro f fl j' hf hj'
    rw [List.getElem?_map, Option.map_eq_some_iff] at hf
    obtain ⟨x, h8, h9⟩ := hf
    have := List.getElem?_eq_some_iff.1 h8
    obtain ⟨h10, h11⟩ := this
    simp only [List.getElem_range] at h11
    subst h9; subst h11
    simp only [] at hj'
    rw [hj] at hj'
    cases hj'
    rfl) ps.toList _ _ r hr eb
  refine ⟨.agg vs.toArray, ?_, rep_agg h7⟩
  unfold execOp
  rw [ho]
  refine exec_v ?_
  unfold Instr.build
  rw [run_bind_ok h1]
  simp only []
  rw [run_bind_ok h3]
  simp only []
  rw [run_bind_ok (run_sizeOf (ti_ok hT hj))]
  have e1 : (ps.map fun x => (x.1, a.eval x.2)).toList = ps.toList.map fun p => (p.1, a.eval p.2) := by simp
  rw [e1]
  have e2 : z.cells = z.cells.toList.toArray := by simp
  rw [e2]
  simp only [h6]
  rfl
theorem p_buildA {i : Nat} {T : TypeId} {ps : Array (Nat × Operand)} {ti0 j : TI} {n e : Nat} {r : List D} (hT : TabOK P tab) (ho : o.op = .build T ps) (hw : wantD ops t o = some true) (hd : o.dst = some i) (hi : Nat.blt i N = true)
    (hti : ti tab T = some ti0) (hfs : ti0.d = .array n e) (hj : ti tab e = some j) (hz : ti0.zero.all one = true) (eb : buildD tab ((List.range n).map fun i => (e, i * j.size)) t ps.toList (ti0.zero.map dOf) = some r)
    (g : opsD P C N ops rest ⟨(i, .agg r) :: t, h, k⟩ Q) : opsD P C N ops (o :: rest) ⟨t, h, k⟩ Q := ops_run (s := ⟨t, h, k⟩) hw hd hi (x_buildA hT ho hti hfs hj hz eb) g
end
end Go.Proofs.Ytjfkolocfhmbnaa.Ab
namespace Go.Proofs.Ytjfkolocfhmbnaa.Ab
open Go
set_option linter.all false
abbrev SL (z : Option Addr × Nat × Nat) : Value := .slice z.1 z.2.1 z.2.2
abbrev Z3 := Option Addr × Nat × Nat
theorem flat_els {H H' : Hp} {k b : Nat} : ∀ {xs : List D} {us : List Value} {off : Nat}, H.le H' → FlatR H k xs us → Told H' b off us → Els H' k b off xs
  | [], us, off, _, _, _ => by simp [Els]
  | x :: xs, us, off, hle, h, ht => by
    obtain ⟨u1, u2, rfl, hl, ⟨h1, h2⟩, h3⟩ := h
    simp only [Els]
    refine ⟨⟨u1, hl, RepC.mono hle x u1 h1, fun j u e => ht j u (by rw [List.getElem?_append_left (List.getElem?_eq_some_iff.1 e).1]; exact e), h2⟩, flat_els hle h3 fun j u e => ?_⟩
    have := ht (k + j) u (by rw [List.getElem?_append_right (by omega)]; rw [hl]; simpa using e)
    rw [show off + k + j = off + (k + j) by omega]; exact this
theorem flat_len {H : Hp} {k : Nat} : ∀ {xs : List D} {us : List Value}, FlatR H k xs us → us.length = xs.length * k
  | [], us, h => by
    have : us = [] := h
    subst this; simp
  | x :: xs, us, h => by
    obtain ⟨u1, u2, rfl, hl, _, h3⟩ := h
    simp [hl, flat_len h3, Nat.add_mul]; omega
theorem flat_one {H : Hp} {k : Nat} : ∀ {xs : List D} {us : List Value}, FlatR H k xs us → ∀ u ∈ us, one u = true
  | [], us, h, u, hu => by
    have : us = [] := h
    subst this; cases hu
  | x :: xs, us, h, u, hu => by
    obtain ⟨u1, u2, rfl, hl, ⟨_, h2⟩, h3⟩ := h
    rcases List.mem_append.1 hu with x | x
    · exact h2 u x
    · exact flat_one h3 u x
theorem flat_append {H : Hp} {k : Nat} : ∀ {xs ys : List D} {us vs : List Value}, FlatR H k xs us → FlatR H k ys vs → FlatR H k (xs ++ ys) (us ++ vs)
  | [], ys, us, vs, h, g => by
    have : us = [] := h
    subst this; simpa using g
  | x :: xs, ys, us, vs, h, g => by
    obtain ⟨u1, u2, rfl, hl, h1, h3⟩ := h
    exact ⟨u1, u2 ++ vs, by simp, hl, h1, flat_append h3 g⟩
theorem els_flatR {H : Hp} {k b : Nat} : ∀ {xs : List D} {off : Nat}, Els H k b off xs → ∃ us : List Value, us.length = xs.length * k ∧ Told H b off us ∧ FlatR H k xs us
  | [], off, _ => ⟨[], by simp, fun j u e => by simp at e, rfl⟩
  | x :: xs, off, h => by
    simp only [Els] at h
    obtain ⟨⟨us, h1, h2, h3, h4⟩, h5⟩ := h
    obtain ⟨vs, g1, g2, g3⟩ := els_flatR h5
    refine ⟨us ++ vs, by simp [h1, g1, Nat.add_mul]; omega, fun j u e => ?_, us, vs, rfl, h1, ⟨h2, h4⟩, g3⟩
    rw [List.getElem?_append] at e
    split at e
    · exact h3 j u e
    · have := g2 _ _ e
      rw [show off + k + (j - us.length) = off + j by omega] at this
      exact this
theorem told_sl {H : Hp} {k : Nat} {xs : List D} {y : Value} (h : RepC H (.lst k xs (.cur y)) [y]) : Rep H (.lst k xs (.cur y)) y := by
  have h0 := h
  simp only [RepC] at h
  obtain ⟨z, e, _, h⟩ := h
  simp at e
  subst e
  have h1 : one y = true := by
    rcases h with ⟨_, a, m, rfl, _⟩ | ⟨b, off, m, rfl, _⟩ <;> rfl
  exact rep_cell h0 h1 rfl
section
variable {C : Ctx} {t : List (Nat × D)} {h : List (Nat × Blk)} {k : List (Nat × Value)}
theorem row_told {H : Hp} {w : World} {r kk : Nat} {xs : List D} {y : Value} (hA : Ag H w) (hb : BlkOK H w (r, .row kk xs y)) :
    ∃ H', H.le H' ∧ Core ⟨H, w, claims [(r, .row kk xs y)] []⟩ H' [(r, .told kk xs y)] [(kk, y)] w := by
  rcases hb with ⟨a, rfl, rfl⟩ | ⟨b, m, us, rest, T, rfl, h0, hm, h1, h2, h3, h4⟩
  · refine ⟨H, Hp.le_refl H, hA, Hp.le_refl H, fun _ _ x => .inl x, fun _ _ _ => rfl, Nat.le_refl _, ?_, ?_, ?_, ?_, Env.refl w⟩
    · intro p hp
      simp only [List.mem_singleton] at hp; subst hp
      show RepC H _ _
      simp only [RepC, CapOK]
      exact ⟨_, rfl, by trivial, .inl ⟨by trivial, a, 0, rfl, fun _ => rfl⟩⟩
    · intro p hp
      simp only [List.mem_singleton] at hp; subst hp
      intro a n m e hlt
      simp only [Value.slice.injEq] at e
      omega
    · cases a <;> simp [claims, blkClaim, tokClaim]
    · cases a <;> simp [claims, blkClaim, tokClaim]
  · have hl := flat_len h2
    let H' : Hp := tell H b us
    have hle : H.le H' := fun a v e => by
      show (if a.block = b ∧ a.spot = none then us[a.off]? else H a) = some v
      rw [if_neg]
      · exact e
      · rintro ⟨q1, q2⟩
        obtain ⟨ab, ao, as_⟩ := a
        simp only at q1 q2; subst q1; subst q2
        rw [h4 ao] at e; cases e
    have htold : Told H' b 0 us := fun j u e => by
      show (if b = b ∧ (none : Option Nat) = none then us[0 + j]? else H _) = some u
      rw [if_pos ⟨rfl, rfl⟩, Nat.zero_add]; exact e
    have hcl : claims [(r, Blk.row kk xs (.slice (some ⟨b, 0, none⟩) xs.length m))] [] = [b] := by simp [claims, blkClaim, sliceClaim, hm]
    refine ⟨H', hle, ?_⟩
    rw [hcl]
    refine ⟨fun a v e => ?_, hle, fun a v e => ?_, fun _ _ _ => rfl, Nat.le_refl _, ?_, ?_, ?_, ?_, Env.refl w⟩
    · by_cases q : a.block = b ∧ a.spot = none
      · have : H' a = us[a.off]? := if_pos q
        rw [this] at e
        obtain ⟨ab, ao, as_⟩ := a
        simp only at q e
        obtain ⟨rfl, rfl⟩ := q
        simp only [World.cell?, h1, Option.isSome_none, Bool.false_eq_true, if_false, List.getElem?_toArray]
        rw [List.getElem?_append_left (List.getElem?_eq_some_iff.1 e).1]; exact e
      · have : H' a = H a := if_neg q
        rw [this] at e; exact hA a v e
    · by_cases q : a.block = b ∧ a.spot = none
      · exact .inr (.inr (by simp [q.1]))
      · have : H' a = H a := if_neg q
        rw [this] at e; exact .inl e
    · intro p hp
      simp only [List.mem_singleton] at hp; subst hp
      show RepC H' _ _
      simp only [RepC, CapOK]
      exact ⟨_, rfl, by trivial, .inr ⟨b, 0, m, rfl, h0, flat_els hle h2 htold⟩⟩
    · intro p hp
      simp only [List.mem_singleton] at hp; subst hp
      intro a n m' e hlt
      simp only [Value.slice.injEq, Option.some.injEq] at e
      obtain ⟨rfl, rfl, rfl⟩ := e
      refine ⟨_, T, h1, rfl, by simpa using h3, fun o ho => ?_⟩
      show (if b = b ∧ (none : Option Nat) = none then us[o]? else H _) = none
      rw [if_pos ⟨rfl, rfl⟩, List.getElem?_eq_none]
      simp only at ho; omega
    · simp only [claims, blkClaim, tokClaim, List.flatMap_cons, List.flatMap_nil, List.append_nil, List.nil_append]
      split <;> simp
    · intro x hx
      simp only [claims, blkClaim, tokClaim, List.flatMap_cons, List.flatMap_nil, List.append_nil, List.nil_append] at hx
      split at hx
      · exact .inl (by simpa using hx)
      · cases hx
theorem WkS.frz {h' : List (Nat × Blk)} {r kk : Nat} {xs : List D} {y : Value} (j : Nat) (hj : h[j]? = some (r, .row kk xs y)) (e : h.set j (r, .told kk xs y) = h') : WkS C ⟨t, h, k⟩ ⟨t, h', (kk, y) :: k⟩ := fun H a w c kt => by
  subst e
  have hb := c.blks _ (List.mem_of_getElem? hj)
  obtain ⟨H', hle, c'⟩ := row_told c.ag hb
  have c1 : Core C H ([(r, .row kk xs y)] ++ h.eraseIdx j) ([] ++ k) w := c.perm (perm_at hj) (List.Perm.refl _)
  exact ⟨H', hle, (Core.call c1 c').perm (perm_set hj) (List.Perm.refl _), kt.mono hle⟩
theorem WkS.tld {r kk : Nat} {xs : List D} {y : Value} (i j : Nat) (hx : look t i = some (.v y)) (hj : h[j]? = some (r, .told kk xs y)) : WkS C ⟨t, h, k⟩ ⟨(i, .lst kk xs (.cur y)) :: t, h, k⟩ := fun H a w c kt => by
  have hb := told_sl (c.blks _ (List.mem_of_getElem? hj))
  obtain ⟨v, h1, h2⟩ := kt i _ hx
  rw [rep_v_inv h2] at h1
  exact ⟨H, Hp.le_refl H, c, look_put kt h1 hb⟩
theorem WkS.drop {h' : List (Nat × Blk)} (j : Nat) (e : h.eraseIdx j = h') : WkS C ⟨t, h, k⟩ ⟨t, h', k⟩ := fun H a w c kt => by
  subst e
  exact ⟨H, Hp.le_refl H, c.drop (List.eraseIdx_sublist _ _) (List.Sublist.refl _), kt⟩
theorem row_nil {H : Hp} {w : World} {k0 kk : Nat} {v : Value} (c : Core C H h k w) (hr : Rep H (.lst k0 [] .full) v) : ∃ z : Z3, v = SL z ∧ Core C H ((0, .row kk [] (SL z)) :: h) k w := by
  obtain ⟨hc, hx⟩ := rep_lst_inv hr
  have : ∃ a, v = .slice a 0 0 := by
    rcases hx with ⟨_, a, m, rfl, _⟩ | ⟨b, off, m, rfl, hm, _⟩
    · simp only [CapOK] at hc; subst hc; exact ⟨a, rfl⟩
    · simp only [CapOK, List.length_nil] at hc; subst hc; exact ⟨_, rfl⟩
  obtain ⟨a, rfl⟩ := this
  refine ⟨(a, 0, 0), rfl, c.ag, c.le, c.new, c.same, c.size, ?_, c.toks, ?_, ?_, c.env⟩
  · intro p hp
    rcases List.mem_cons.1 hp with rfl | hp
    · exact .inl ⟨a, rfl, rfl⟩
    · exact c.blks p hp
  · have : claims ((0, Blk.row kk [] (SL (a, 0, 0))) :: h) k = claims h k := by cases a <;> simp [claims, blkClaim, sliceClaim]
    rw [this]; exact c.nd
  · have : claims ((0, Blk.row kk [] (SL (a, 0, 0))) :: h) k = claims h k := by cases a <;> simp [claims, blkClaim, sliceClaim]
    rw [this]; exact c.own
theorem WkX.rowN {Y : Type} {S1 : Y → S} {i k0 : Nat} (kk : Nat) (hx : look t i = some (.lst k0 [] .full)) (g : ∀ z : Z3, WkX C ⟨(i, .v (SL z)) :: t, (0, .row kk [] (SL z)) :: h, k⟩ S1) : WkX C ⟨t, h, k⟩ S1 := fun H a w c kt => by
  obtain ⟨v, h1, h2⟩ := kt i _ hx
  obtain ⟨z, rfl, c'⟩ := row_nil (kk := kk) c h2
  exact g z H a w c' (look_put kt h1 (rep_v rfl))
theorem row_nilC {H : Hp} {w : World} {b off k0 : Nat} {ds : List D} {T : TypeId} (kk j : Nat) (hb : h[j]? = some (b, .cells ds T)) (hd : ds[off]? = some (.lst k0 [] .full)) (c : Core C H h k w) : ∃ z : Z3, Core C H ((0, .row kk [] (SL z)) :: h.set j (b, .cells (ds.set off (.v (SL z))) T)) k w := by
  obtain ⟨us, h1, h2, h3⟩ := c.blks _ (List.mem_of_getElem? hb)
  obtain ⟨u, e1, e2, e3, e4⟩ := reps_get h2 hd
  obtain ⟨z, rfl, c'⟩ := row_nil (kk := kk) c (rep_cell e2 e3 e4)
  have hcl : claims ((0, .row kk [] (SL z)) :: h.set j (b, Blk.cells (ds.set off (.v (SL z))) T)) k = claims ((0, .row kk [] (SL z)) :: h) k := by
    have := claims_set (h := h) (k := k) (y := (b, Blk.cells (ds.set off (.v (SL z))) T)) hb rfl
    simp only [claims, List.flatMap_cons] at this ⊢
    rw [List.append_assoc, this, List.append_assoc]
  refine ⟨z, c'.ag, c'.le, c'.new, c'.same, c'.size, ?_, c'.toks, by rw [hcl]; exact c'.nd, by rw [hcl]; exact c'.own, c'.env⟩
  intro p hp
  rcases List.mem_cons.1 hp with rfl | hp
  · exact c'.blks _ (by simp)
  · rcases List.mem_or_eq_of_mem_set hp with hp | hp
    · exact c.blks p hp
    · subst hp
      exact ⟨us, h1, reps_set off h2 e1 ⟨by simp [RepC], rfl⟩, h3⟩
end
section
variable {P : Program} {C : Ctx} {N : Nat} {ops rest : List Oper} {o : Oper} {t : List (Nat × D)} {h : List (Nat × Blk)} {k : List (Nat × Value)} {Q : Exit → S → Prop} {tab : List (Option TI)}
theorem o_rowC {b off k0 : Nat} {ds : List D} {T : TypeId} (kk j : Nat) (hb : h[j]? = some (b, .cells ds T)) (hd : ds[off]? = some (.lst k0 [] .full)) (g : ∀ z : Z3, opsD P C N ops rest ⟨t, (0, .row kk [] (SL z)) :: h.set j (b, .cells (ds.set off (.v (SL z))) T), k⟩ Q) : opsD P C N ops rest ⟨t, h, k⟩ Q := fun a w ⟨H, c, kt, hn, hd'⟩ => by
  obtain ⟨z, c'⟩ := row_nilC kk j hb hd c
  exact g z a w ⟨H, c', kt, hn, hd'⟩
theorem retX.rowN {rs : List ResultVar} {R : D → List (Nat × Blk) → List (Nat × Value) → Prop} {x : Exit} {i k0 : Nat} (kk : Nat) (hx : look t i = some (.lst k0 [] .full)) (g : ∀ z : Z3, retX C tab rs R x ⟨(i, .v (SL z)) :: t, (0, .row kk [] (SL z)) :: h, k⟩) : retX C tab rs R x ⟨t, h, k⟩ := fun H a w c kt => by
  obtain ⟨v, h1, h2⟩ := kt i _ hx
  obtain ⟨z, rfl, c'⟩ := row_nil (kk := kk) c h2
  exact g z H a w c' (look_put kt h1 (rep_v rfl))
theorem row_len {H : Hp} {w : World} {r kk : Nat} {xs : List D} {y : Value} (h : BlkOK H w (r, .row kk xs y)) : ∃ a m, y = .slice a xs.length m := by
  rcases h with ⟨a, rfl, rfl⟩ | ⟨b, m, us, rest, T, rfl, _⟩
  · exact ⟨a, 0, rfl⟩
  · exact ⟨_, m, rfl⟩
theorem p_lenR {i r kk : Nat} {T e : TypeId} {x : Operand} {xs : List D} {z : Z3} {ti0 : TI} (j : Nat) (hT : TabOK P tab) (ho : o.op = .call ⟨.builtin .len, [x].toArray, #[T]⟩) (hw : wantD ops t o = some true) (hd : o.dst = some i) (hi : Nat.blt i N = true)
    (hx : opD t x = some (.v (SL z))) (hj : h[j]? = some (r, .row kk xs (SL z))) (hti : ti tab T = some ti0) (hs : ti0.d = .slice e) {n : Nat} (hn : xs.length = n) (g : opsD P C N ops rest ⟨(i, .v (.int .i64 n)) :: t, h, k⟩ Q) : opsD P C N ops (o :: rest) ⟨t, h, k⟩ Q :=
  ops_val (s := ⟨t, h, k⟩) hw hd hi fun H a w core kt => by
    obtain ⟨ad, m, hy⟩ := row_len (core.blks _ (List.mem_of_getElem? hj))
    refine ⟨.int .i64 n, w, H, .v (.int .i64 n), h, k, exec_builtin (s := Builtin.len_) ho (fun _ _ => rfl) ?_, Hp.le_refl H, core, rep_v rfl, g⟩
    have e := rep_v_inv (opD_ok kt hx)
    simp only [List.map_cons, List.map_nil, e, hy, hn]
    exact run_len_slice (ti_ok hT hti) hs
end
end Go.Proofs.Ytjfkolocfhmbnaa.Ab
namespace Go.Proofs.Ytjfkolocfhmbnaa.Ab
open Go
set_option linter.all false
theorem first_row {P : Program} {w : World} {H : Hp} {r kk : Nat} {xs : List D} {y : Value} (hb : BlkOK H w (r, .row kk xs y)) :
    ∃ us : List Value, us.length = xs.length * kk ∧ FlatR H kk xs us ∧ (Builtin.firstCells kk xs.length y).run P w = .ok us.toArray w := by
  rcases hb with ⟨a, rfl, rfl⟩ | ⟨b, m, us, rest, T, rfl, h0, hm, h1, h2, h3, h4⟩
  · refine ⟨[], by simp, rfl, ?_⟩
    cases a with
    | none => rfl
    | some a => simp only [Builtin.firstCells, List.length_nil, Nat.zero_mul]; rfl
  · have hl := flat_len h2
    refine ⟨us, hl, h2, ?_⟩
    have hr : RowAt w b 0 us := fun j u e => by
      have := row_block h1 j u (by rw [List.getElem?_append_left (List.getElem?_eq_some_iff.1 e).1]; exact e)
      exact this
    have := run_loadCells (P := P) (xs.length * kk) hr (by omega)
    rw [← hl, List.take_length] at this
    simp only [Builtin.firstCells]
    rw [← hl]; exact this
theorem first_told {P : Program} {w : World} {H : Hp} (hA : Ag H w) {kk : Nat} {xs : List D} {c : Cap} {v : Value} (hr : Rep H (.lst kk xs c) v) :
    ∃ us : List Value, us.length = xs.length * kk ∧ FlatR H kk xs us ∧ (Builtin.firstCells kk xs.length v).run P w = .ok us.toArray w := by
  obtain ⟨_, h⟩ := rep_lst_inv hr
  rcases h with ⟨rfl, a, m, rfl, _⟩ | ⟨b, off, m, rfl, hm, hE⟩
  · refine ⟨[], by simp, rfl, ?_⟩
    cases a with
    | none => rfl
    | some a => simp only [Builtin.firstCells, List.length_nil, Nat.zero_mul]; rfl
  · obtain ⟨us, h1, h2, h3⟩ := els_flatR hE
    refine ⟨us, h1, h3, ?_⟩
    have := run_loadCells (P := P) (xs.length * kk) (h2.row hA) (by omega)
    rw [← h1, List.take_length] at this
    simp only [Builtin.firstCells]
    rw [← h1]; exact this
theorem blk_drew {H : Hp} {w : World} {p : Nat × Blk} (h : BlkOK H w p) : BlkOK H (wDrew w) p := by
  obtain ⟨b, bl⟩ := p
  cases bl <;> exact h
theorem app_runR {P : Program} {tab : List (Option TI)} (hT : TabOK P tab) {H : Hp} {w : World} {r kk bb : Nat} {T T' e e' : TypeId} {ty : TypeId} {i0 i1 ie : TI} {xs ys : List D} {v1 v2 : Value}
    (hA : Ag H w) (hrow : BlkOK H w (r, .row kk xs v1)) (hown : ∀ b ∈ claims [(r, .row kk xs v1)] [], b < w.heap.size)
    (hl2 : (Builtin.lenOf v2).run P w = .ok ys.length w) (hf2 : ∀ w', (∀ b, b < w.heap.size → w'.heap[b]? = w.heap[b]?) → ∃ us : List Value, us.length = ys.length * kk ∧ FlatR H kk ys us ∧ (Builtin.firstCells kk ys.length v2).run P w' = .ok us.toArray w')
    (hi0 : ti tab T = some i0) (hd0 : i0.d = .slice e) (hi1 : ti tab T' = some i1) (hd1 : i1.d = .slice e') (hie : ti tab e = some ie) (hks : ie.size = kk) (hbb : ie.bytes = bb) (hz : ie.zero.length = kk) (hb1 : 1 ≤ bb) (hbound : (xs.length + ys.length) * bb ≤ 140737488355328) :
    ∃ (z : Z3) (w' : World), (Builtin.append_ #[T, T'] ty #[v1, v2]).run P w = .ok (SL z) w' ∧ Core ⟨H, w, claims [(r, .row kk xs v1)] []⟩ H [(0, .row kk (xs ++ ys) (SL z))] [] w' := by
  subst hks; subst hbb
  have hTe := ti_ok hT hie
  obtain ⟨d0, u0, u1⟩ := run_underlying (w := w) (ti_ok hT hi0)
  have e0 := td_slice (u1.trans hd0); subst e0
  obtain ⟨d1, u2, u3⟩ := run_underlying (w := w) (ti_ok hT hi1)
  have e1 := td_slice (u3.trans hd1); subst e1
  obtain ⟨tif, z, t1, t2, t3, t4, t5⟩ := run_typeInfo (w := w) hTe
  have hneed : xs.length + ys.length ≤ 140737488355328 := Nat.le_trans (Nat.le_mul_of_pos_right _ hb1) hbound
  have start : ∀ base cap, v1 = .slice base xs.length cap → (Builtin.append_ #[T, T'] ty #[v1, v2]).run P w =
      (if xs.length + ys.length ≤ cap then (do
          let new ← Builtin.firstCells ie.size ys.length v2
          if let some a := base then storeCells (a.add (xs.length * ie.size)) new.toList
          pure (.slice base (xs.length + ys.length) cap) : Sem Value)
       else (do
          if ((xs.length + ys.length : Nat) : Int) > IntKind.i64.max ∧ ((false = true) ∨ (← Go.typeInfo e).bytes = 0) then runtimePanic (.error "growslice: len out of range")
          if Builtin.nextslicecap (xs.length + ys.length) cap * (← Go.typeInfo e).bytes > 2 ^ 48 then (if false then runtimePanic (.error "growslice: len out of range") else do
            if !(← Builtin.mayShare ie.size xs.length ys.length base v2) then mark .noRoom
            unsupported (.resourceLimit "append: a slice or a string whose bytes no memory bears"))
          let newCap ← choose (.appendCap (xs.length + ys.length) cap e)
          askRoom (newCap * (← Go.typeInfo e).bytes)
          let old ← Builtin.firstCells ie.size xs.length v1
          let new ← Builtin.firstCells ie.size ys.length v2
          let rest := Builtin.zeroCells (← Go.zeroValue e).cells (newCap - (xs.length + ys.length))
          pure (.slice (some (← newRow e (old ++ new ++ rest))) (xs.length + ys.length) newCap) : Sem Value)).run P w := by
    intro base cap hv
    subst hv
    unfold Builtin.append_
    simp only [List.getElem?_toArray, List.getElem?_cons_zero, List.getElem?_cons_succ]
    rw [run_bind_ok u0]
    simp only []
    rw [run_bind_ok (run_sizeOf hTe)]
    rw [run_bind_ok u2]
    simp only []
    rw [run_bind_ok (a := false) (w' := w) rfl]
    simp only [Bool.false_eq_true, if_false]
    rw [run_bind_ok hl2]
    simp only [Bool.not_false, if_true]
    rfl
  obtain ⟨base, cap, hv⟩ := row_len hrow
  by_cases hle : xs.length + ys.length ≤ cap
  · obtain ⟨us2, g1, g2, g3⟩ := hf2 w (fun _ _ => rfl)
    rw [start base cap hv, if_pos hle, run_bind_ok g3]
    rcases hrow with ⟨a, e1, e2⟩ | ⟨b, m, us, rest, TT, e1, h0, hm, h1, h2, h3, h4⟩
    · -- no room at all: nothing is added
      rw [hv] at e1
      simp only [Value.slice.injEq] at e1
      obtain ⟨rfl, e3, rfl⟩ := e1
      have hy : ys = [] := List.eq_nil_of_length_eq_zero (by omega)
      subst hy; subst e2
      have hu2 : us2 = [] := List.eq_nil_of_length_eq_zero (by simpa using g1)
      subst hu2
      refine ⟨(base, 0, 0), w, ?_, hA, Hp.le_refl H, fun _ _ x => .inl x, fun _ _ _ => rfl, Nat.le_refl _, ?_, by simp, ?_, ?_, Env.refl w⟩
      · cases base with
        | none => rfl
        | some a => simp only [storeCells]; rfl
      · intro p hp
        simp only [List.mem_singleton] at hp; subst hp
        exact .inl ⟨base, rfl, rfl⟩
      · cases base <;> simp [claims, blkClaim, sliceClaim]
      · cases base <;> simp [claims, blkClaim, sliceClaim]
    · rw [hv] at e1
      simp only [Value.slice.injEq] at e1
      obtain ⟨rfl, _, rfl⟩ := e1
      have hul := flat_len h2
      have hclaim : claims [(r, Blk.row ie.size xs v1)] [] = [b] := by rw [hv]; simp [claims, blkClaim, sliceClaim, hm]
      have hmk : (xs.length + ys.length) * ie.size ≤ cap * ie.size := Nat.mul_le_mul_right _ hle
      rw [Nat.add_mul] at hmk
      have hsz : 0 + xs.length * ie.size + us2.length ≤ (us ++ rest).length := by rw [g1]; omega
      obtain ⟨w', s1, s2, s3, s4, s5⟩ := run_storeCells (P := P) (b := b) (off := xs.length * ie.size) (T := TT) us2 0 w (us ++ rest) h1 (by omega) (flat_one g2)
      simp only [Nat.add_zero] at s5
      have ecells : (us ++ rest).take (xs.length * ie.size) ++ (us2 ++ (us ++ rest).drop (xs.length * ie.size + us2.length)) = (us ++ us2) ++ rest.drop us2.length := by
        rw [List.take_append_of_le_length (by omega), List.take_of_length_le (by omega), List.drop_append, List.drop_of_length_le (by omega), List.nil_append, List.append_assoc]
        congr 3; omega
      rw [ecells] at s5
      refine ⟨(some ⟨b, 0, none⟩, xs.length + ys.length, cap), w', ?_, ?_⟩
      · simp only [addr_add, Nat.zero_add]
        rw [run_bind_ok s1]; rfl
      · rw [hclaim]
        refine ⟨fun a v0 ea => ?_, Hp.le_refl H, fun _ _ x => .inl x, fun i _ hm => s4 i (by simpa using hm), by show w.heap.size ≤ w'.heap.size; omega, ?_, by simp, ?_, ?_, s2⟩
        · have hcell := hA a v0 ea
          by_cases qb : a.block = b
          · obtain ⟨ab, ao, as_⟩ := a
            simp only at qb; subst qb
            cases as_ with
            | some sp => simp [World.cell?, h1] at hcell
            | none => rw [h4 ao] at ea; cases ea
          · simp only [World.cell?] at hcell ⊢
            rw [s4 _ qb]; exact hcell
        · intro p hp
          simp only [List.mem_singleton] at hp; subst hp
          refine .inr ⟨b, cap, us ++ us2, rest.drop us2.length, TT, by simp [SL], by simpa using hle, hm, by simpa using s5, flat_append h2 g2, ?_, h4⟩
          have := congrArg List.length ecells
          simp only [List.length_append, List.length_take, List.length_drop] at this h3 ⊢
          omega
        · simp [claims, blkClaim, sliceClaim, hm]
        · intro x hx; simp [claims, blkClaim, sliceClaim, hm] at hx; subst hx; exact .inl (by simp)
  · have hgt : ¬ xs.length + ys.length ≤ cap := hle
    rw [start base cap hv, if_neg hgt]
    have hti : (Go.typeInfo e).run P w = .ok tif w := t1
    have hbytes : tif.bytes = ie.bytes := t3
    have hno1 : ¬ (((xs.length + ys.length : Nat) : Int) > IntKind.i64.max ∧ ((false = true) ∨ tif.bytes = 0)) := by
      rintro ⟨_, q | q⟩
      · cases q
      · omega
    have hno2 : ¬ (Builtin.nextslicecap (xs.length + ys.length) cap * tif.bytes > 2 ^ 48) := by
      have h5 := next_le (Nat.lt_of_not_le hgt)
      have h6 : Builtin.nextslicecap (xs.length + ys.length) cap * ie.bytes ≤ 2 * (xs.length + ys.length) * ie.bytes := Nat.mul_le_mul_right _ h5
      rw [Nat.mul_assoc] at h6
      rw [hbytes]
      omega
    have hforced : ∀ need, (Question.appendCap need cap e).forced = false := fun _ => rfl
    obtain ⟨newCap, hcap, hchoose⟩ : ∃ newCap, xs.length + ys.length ≤ newCap ∧ (choose (.appendCap (xs.length + ys.length) cap e)).run P w = .ok newCap (wDrew w) := by
      refine ⟨_, ?_, by simp only [choose, Sem.run, hforced]; rfl⟩
      simp only [Question.cut]; omega
    obtain ⟨zz, hz1, hz2⟩ := run_zeroValue (w := wDrew w) hTe
    obtain ⟨tif2, _, hti2, _⟩ := run_typeInfo (w := wDrew w) hTe
    obtain ⟨us1, f1, f2, f3⟩ := first_row (P := P) (blk_drew hrow)
    obtain ⟨us2, g1, g2, g3⟩ := hf2 (wDrew w) (fun _ _ => rfl)
    let restA := Builtin.zeroCells zz.cells (newCap - (xs.length + ys.length))
    have hrest : restA.size = (newCap - (xs.length + ys.length)) * ie.size := by
      show (Builtin.zeroCells zz.cells _).size = _
      unfold Builtin.zeroCells
      simp only [Array.size_map, Array.size_range]
      have : zz.cells.size = ie.size := by rw [← Array.length_toList, hz2, hz]
      rw [this]
    refine ⟨(some ⟨w.heap.size, 0, none⟩, xs.length + ys.length, newCap), (wDrew w).alloc (.cells (us1.toArray ++ us2.toArray ++ restA) e), ?_, ?_⟩
    · rw [run_bind_ok hti]
      rw [if_neg hno1]
      rw [run_bind_ok hti]
      rw [if_neg hno2]
      rw [run_bind_ok hchoose, run_bind_ok hti2, run_bind_ok askRoom_run, run_bind_ok f3, run_bind_ok g3, run_bind_ok hz1]
      rfl
    · have earr : us1.toArray ++ us2.toArray ++ restA = ((us1 ++ us2) ++ restA.toList).toArray := by simp
      rw [earr]
      have hsizew : (wDrew w).heap.size = w.heap.size := rfl
      have hcells : ((wDrew w).alloc (.cells ((us1 ++ us2) ++ restA.toList).toArray e)).heap[w.heap.size]? = some (.cells ((us1 ++ us2) ++ restA.toList).toArray e (0, 0)) := by
        rw [heap_alloc, hsizew, if_pos rfl]
      have hm0 : 0 < newCap := by omega
      refine ⟨fun a v e' => cell_alloc _ (hA a v e'), Hp.le_refl H, fun _ _ x => .inl x, fun b hb _ => ?_, ?_, ?_, by simp, ?_, ?_, ⟨rfl, rfl, rfl, Nat.le_succ _⟩⟩
      · rw [heap_alloc, hsizew, if_neg (by exact Nat.ne_of_lt hb)]; rfl
      · rw [size_alloc, hsizew]; exact Nat.le_succ _
      · intro p hp
        simp only [List.mem_singleton] at hp; subst hp
        refine .inr ⟨w.heap.size, newCap, us1 ++ us2, restA.toList, e, by simp [SL], by simpa using hcap, hm0, hcells, flat_append f2 g2, ?_, fun o => ?_⟩
        · simp only [List.length_append, Array.length_toList, hrest, f1, g1]
          rw [← Nat.add_mul, ← Nat.add_mul]
          exact Nat.mul_le_mul_right _ (by omega)
        · cases q : H ⟨w.heap.size, o, none⟩ with
          | none => rfl
          | some v => exact absurd (hA.lt q) (Nat.lt_irrefl _)
      · simp [claims, blkClaim, sliceClaim, hm0]
      · intro x hx; simp [claims, blkClaim, sliceClaim, hm0] at hx; subst hx; exact .inr (Nat.le_refl _)
section
variable {P : Program} {C : Ctx} {N : Nat} {ops rest : List Oper} {o : Oper} {t : List (Nat × D)} {h : List (Nat × Blk)} {k : List (Nat × Value)} {Q : Exit → S → Prop} {tab : List (Option TI)}
theorem p_appR {i r kk bb : Nat} {T T' e e' : TypeId} {x y : Operand} {xs ys : List D} {c' : Cap} {z : Z3} {i0 i1 ie : TI} (j : Nat) (hT : TabOK P tab) (ho : o.op = .call ⟨.builtin .append, [x, y].toArray, #[T, T']⟩) (hw : wantD ops t o = some true) (hd : o.dst = some i) (hi : Nat.blt i N = true)
    (hx : opD t x = some (.v (SL z))) (hj : h[j]? = some (r, .row kk xs (SL z))) (hy : opD t y = some (.lst kk ys c'))
    (hi0 : ti tab T = some i0) (hd0 : i0.d = .slice e) (hi1 : ti tab T' = some i1) (hd1 : i1.d = .slice e') (hie : ti tab e = some ie) (hks : ie.size = kk) (hbb : ie.bytes = bb) (hz : ie.zero.length = kk) (hb1 : Nat.ble 1 bb = true) (hbound : (xs.length + ys.length) * bb ≤ 140737488355328)
    (g : ∀ z' : Z3, opsD P C N ops rest ⟨(i, .v (SL z')) :: t, h.set j (0, .row kk (xs ++ ys) (SL z')), k⟩ Q) : opsD P C N ops (o :: rest) ⟨t, h, k⟩ Q :=
  ops_val (s := ⟨t, h, k⟩) hw hd hi fun H a w core kt => by
    have hry := opD_ok kt hy
    obtain ⟨a2, m2, ey⟩ := rep_slice_len hry
    have c1 : Core C H ([(r, .row kk xs (SL z))] ++ h.eraseIdx j) ([] ++ k) w := core.perm (perm_at hj) (List.Perm.refl _)
    have hbl := core.blks _ (List.mem_of_getElem? hj)
    obtain ⟨z', w', h1, h2⟩ := app_runR (P := P) (ty := o.type) (v1 := SL z) (v2 := a.eval y) hT core.ag hbl (fun b hb => c1.lt b (by
      have := (claims_append [(r, Blk.row kk xs (SL z))] (h.eraseIdx j) [] k).mem_iff (a := b)
      exact this.2 (List.mem_append_left _ hb))) (by rw [ey]; rfl) (fun w2 hw2 => first_told (fun a' v e' => by
        have := core.ag a' v e'
        have hlt := core.ag.lt e'
        unfold World.cell? at this ⊢
        rw [hw2 _ hlt]; exact this) hry) hi0 hd0 hi1 hd1 hie hks hbb hz (Nat.le_of_ble_eq_true hb1) hbound
    have c2 := Core.call c1 h2
    refine ⟨SL z', w', H, .v (SL z'), h.set j (0, .row kk (xs ++ ys) (SL z')), k, exec_builtin (s := Builtin.append_) ho (fun _ _ => rfl) ?_, Hp.le_refl H, c2.perm (perm_set hj) (List.Perm.refl _), rep_v rfl, g z'⟩
    have e := rep_v_inv (opD_ok kt hx)
    simpa [e] using h1
end
end Go.Proofs.Ytjfkolocfhmbnaa.Ab
namespace Go.Proofs.Ytjfkolocfhmbnaa.Ab
open Go
set_option linter.all false
section
variable {P : Program} {C : Ctx} {N : Nat} {ops rest : List Oper} {o : Oper} {t : List (Nat × D)} {h : List (Nat × Blk)} {k : List (Nat × Value)} {Q : Exit → S → Prop} {tab : List (Option TI)}
theorem p_appR2 {i r kk bb : Nat} {T T' e e' : TypeId} {x y : Operand} {xs ys zs : List D} {c' : Cap} {z : Z3} {i0 i1 ie : TI} (j : Nat) (hT : TabOK P tab) (ho : o.op = .call ⟨.builtin .append, [x, y].toArray, #[T, T']⟩) (hw : wantD ops t o = some true) (hd : o.dst = some i) (hi : Nat.blt i N = true)
    (hx : opD t x = some (.v (SL z))) (hj : h[j]? = some (r, .row kk xs (SL z))) (hy : opD t y = some (.lst kk ys c'))
    (hi0 : ti tab T = some i0) (hd0 : i0.d = .slice e) (hi1 : ti tab T' = some i1) (hd1 : i1.d = .slice e') (hie : ti tab e = some ie) (hks : ie.size = kk) (hbb : ie.bytes = bb) (hz : ie.zero.length = kk) (hb1 : Nat.ble 1 bb = true) (hbound : (xs.length + ys.length) * bb ≤ 140737488355328) (em : xs ++ ys = zs)
    (g : ∀ z' : Z3, opsD P C N ops rest ⟨(i, .v (SL z')) :: t, h.set j (0, .row kk zs (SL z')), k⟩ Q) : opsD P C N ops (o :: rest) ⟨t, h, k⟩ Q := by
  subst em
  exact p_appR j hT ho hw hd hi hx hj hy hi0 hd0 hi1 hd1 hie hks hbb hz hb1 hbound g
theorem p_app0R {i k0 kk bb : Nat} {T T' e e' : TypeId} {x y : Operand} {ys zs : List D} {c' : Cap} {i0 i1 ie : TI} (hT : TabOK P tab) (ho : o.op = .call ⟨.builtin .append, [x, y].toArray, #[T, T']⟩) (hw : wantD ops t o = some true) (hd : o.dst = some i) (hi : Nat.blt i N = true)
    (hx : opD t x = some (.lst k0 [] .full)) (hy : opD t y = some (.lst kk ys c'))
    (hi0 : ti tab T = some i0) (hd0 : i0.d = .slice e) (hi1 : ti tab T' = some i1) (hd1 : i1.d = .slice e') (hie : ti tab e = some ie) (hks : ie.size = kk) (hbb : ie.bytes = bb) (hz : ie.zero.length = kk) (hb1 : Nat.ble 1 bb = true) (hbound : ys.length * bb ≤ 140737488355328) (em : ys = zs)
    (g : ∀ z' : Z3, opsD P C N ops rest ⟨(i, .v (SL z')) :: t, (0, .row kk zs (SL z')) :: h, k⟩ Q) : opsD P C N ops (o :: rest) ⟨t, h, k⟩ Q := by
  subst em
  refine ops_val (s := ⟨t, h, k⟩) hw hd hi fun H a w core kt => ?_
  have hry := opD_ok kt hy
  obtain ⟨a2, m2, ey⟩ := rep_slice_len hry
  obtain ⟨z, ez, c1⟩ := row_nil (kk := kk) core (opD_ok kt hx)
  have hbl := c1.blks _ (List.mem_cons_self ..)
  obtain ⟨z', w', h1, h2⟩ := app_runR (P := P) (ty := o.type) (v1 := SL z) (v2 := a.eval y) (xs := []) (ys := ys) hT c1.ag hbl (fun b hb => c1.lt b (by
      have := (claims_append [(0, Blk.row kk [] (SL z))] h [] k).mem_iff (a := b)
      exact this.2 (List.mem_append_left _ hb))) (by rw [ey]; rfl) (fun w2 hw2 => first_told (fun a' v e' => by
        have := core.ag a' v e'
        have hlt := core.ag.lt e'
        unfold World.cell? at this ⊢
        rw [hw2 _ hlt]; exact this) hry) hi0 hd0 hi1 hd1 hie hks hbb hz (Nat.le_of_ble_eq_true hb1) (by simpa using hbound)
  have c2 := Core.call (h1 := [(0, .row kk [] (SL z))]) (k1 := []) (h2 := h) (k2 := k) c1 h2
  refine ⟨SL z', w', H, .v (SL z'), (0, .row kk ys (SL z')) :: h, k, exec_builtin (s := Builtin.append_) ho (fun _ _ => rfl) ?_, Hp.le_refl H, c2, rep_v rfl, g z'⟩
  simpa [ez] using h1
theorem p_callG {f : FuncId} {args : List Operand} {ts : Array TypeId} {i : Nat} {ds ds' : List D} {h1 h2 : List (Nat × Blk)} {k1 k2 : List (Nat × Value)} {R : D → List (Nat × Blk) → List (Nat × Value) → Prop}
    (hc : CallsD P f ds' h1 k1 R) (ho : o.op = .call ⟨.value (.func f), args.toArray, ts⟩) (hw : wantD ops t o = some true) (hd : o.dst = some i) (hi : Nat.blt i N = true) (ha : someMap args (opD t) = some ds) (hwk : WkL ds ds')
    (hh : h.Perm (h1 ++ h2)) (hk : k.Perm (k1 ++ k2)) (g : ∀ d h' k', R d h' k' → opsD P C N ops rest ⟨(i, d) :: t, h' ++ h2, k' ++ k2⟩ Q) : opsD P C N ops (o :: rest) ⟨t, h, k⟩ Q :=
  ops_call (s := ⟨t, h, k⟩) hc ho hw hd hi ha hwk hh hk g
theorem WkC.any {d : D} : WkC d .any := fun _ _ _ => by simp only [RepC]
end
end Go.Proofs.Ytjfkolocfhmbnaa.Ab
namespace Go.Proofs.Ytjfkolocfhmbnaa.Ab
open Go
set_option linter.all false
theorem Core.newRow {C : Ctx} {H : Hp} {h : List (Nat × Blk)} {k : List (Nat × Value)} {w : World} (c : Core C H h k w) {xs : List D} {us rest : List Value} {kk m : Nat} {T : TypeId} (hf : FlatR H kk xs us) (hm : xs.length ≤ m) (hl : m * kk ≤ (us ++ rest).length) (z : m = 0 → xs = []) :
    Core C H ((0, .row kk xs (SL (some ⟨w.heap.size, 0, none⟩, xs.length, m))) :: h) k (w.alloc (.cells (us ++ rest).toArray T)) := by
  have c0 : Core ⟨H, w, []⟩ H [(0, .row kk xs (SL (some ⟨w.heap.size, 0, none⟩, xs.length, m)))] [] (w.alloc (.cells (us ++ rest).toArray T)) := by
    refine ⟨fun a v e => cell_alloc _ (c.ag a v e), Hp.le_refl H, fun _ _ x => .inl x, fun b hb _ => ?_, ?_, ?_, by simp, ?_, ?_, ⟨rfl, rfl, rfl, Nat.le_refl _⟩⟩
    · rw [heap_alloc, if_neg (by exact Nat.ne_of_lt hb)]
    · rw [size_alloc]; exact Nat.le_succ _
    · intro p hp
      simp only [List.mem_singleton] at hp; subst hp
      by_cases q : m = 0
      · subst q
        have := z rfl
        subst this
        exact .inl ⟨_, rfl, rfl⟩
      · refine .inr ⟨w.heap.size, m, us, rest, T, rfl, hm, by omega, by rw [heap_alloc, if_pos rfl], hf, hl, fun o => ?_⟩
        cases e : H ⟨w.heap.size, o, none⟩ with
        | none => rfl
        | some v => exact absurd (c.ag.lt e) (Nat.lt_irrefl _)
    · simp only [claims, blkClaim, sliceClaim, List.flatMap_cons, List.flatMap_nil, List.append_nil]
      split <;> simp
    · intro b hb
      simp only [claims, blkClaim, sliceClaim, List.flatMap_cons, List.flatMap_nil, List.append_nil] at hb
      split at hb
      · simp at hb; subst hb
        exact .inr (Nat.le_refl _)
      · cases hb
  have := Core.call (h1 := []) (k1 := []) (h2 := h) (k2 := k) c c0
  simpa using this
section
variable {P : Program} {C : Ctx} {N : Nat} {ops rest : List Oper} {o : Oper} {t : List (Nat × D)} {h : List (Nat × Blk)} {k : List (Nat × Value)} {Q : Exit → S → Prop} {tab : List (Option TI)}
end
end Go.Proofs.Ytjfkolocfhmbnaa.Ab
namespace Go.Proofs.Ytjfkolocfhmbnaa.Ab
open Go
set_option linter.all false
theorem loop_pre {σ τ α β : Type} {f : σ → Option (Step σ τ)} (l : List β) (g : List β → α) (st : α → Nat → σ) (fin : α → τ)
    (h1 : ∀ pre x post, l = pre ++ x :: post → f (st (g pre) pre.length) = some (.next (st (g (pre ++ [x])) (pre.length + 1))))
    (h2 : f (st (g l) l.length) = some (.done (fin (g l)))) : loopM f (st (g []) 0) = some (fin (g l)) := by
  have key : ∀ (post pre : List β), l = pre ++ post → loopM f (st (g pre) pre.length) = some (fin (g l)) := by
    intro post
    induction post with
    | nil => intro pre h; rw [List.append_nil] at h; subst h; exact loopM_done h2
    | cons x post ih =>
      intro pre h
      rw [loopM_next (h1 pre x post h)]
      have := ih (pre ++ [x]) (by simp [h])
      simpa using this
  simpa using key l [] rfl
theorem idx_pre {β : Type} (pre : List β) (x : β) (post : List β) : idx (pre ++ x :: post) (pre.length : Int) = some x := by
  rw [idx_nat]; simp
theorem lt_pre {β : Type} {l pre : List β} {x : β} {post : List β} (h : l = pre ++ x :: post) : decide ((pre.length : Int) < (l.length : Int)) = true := by
  subst h; simp; omega
theorem lt_end {β : Type} (l : List β) : decide ((l.length : Int) < (l.length : Int)) = false := by simp
theorem inc_pre {β : Type} {l pre : List β} {x : β} {post : List β} (h : l = pre ++ x :: post) (hb : l.length ≤ 4611686018427387904) : IntKind.i64.wrap ((pre.length : Int) + 1) = ((pre.length + 1 : Nat) : Int) := by
  have : pre.length < l.length := by subst h; simp
  rw [IntKind.wrap_i64]; omega
theorem pre_mem {β : Type} {l pre : List β} {x : β} {post : List β} (h : l = pre ++ x :: post) : x ∈ l := by subst h; simp
theorem app_len {β : Type} {bb : Nat} {xs ys : List β} (hb : bb ≤ 4096) (h : xs.length + ys.length ≤ 8388608) : app bb xs ys = some (xs ++ ys) := by
  refine app_of ?_
  have := Nat.mul_le_mul h hb
  omega
def all2 {β γ : Type} (t : β → γ → Bool) : List β → List γ → Bool
  | [], [] => true
  | x :: l, y :: m => t x y && all2 t l m
  | _, _ => false
theorem all2_len {β γ : Type} {t : β → γ → Bool} : ∀ {l : List β} {m : List γ}, l.length ≠ m.length → all2 t l m = false
  | [], [], h => absurd rfl h
  | [], _ :: _, _ => rfl
  | _ :: _, [], _ => rfl
  | x :: l, y :: m, h => by
    show (t x y && all2 t l m) = false
    rw [all2_len (by simpa using h), Bool.and_false]
theorem loop_all2 {β γ : Type} (t : β → γ → Bool) {l : List β} {m : List γ} (hl : l.length = m.length) {f : Int → Option (Step Int (Unit ⊕ Bool))}
    (h1 : ∀ p x q p' y q', l = p ++ x :: q → m = p' ++ y :: q' → p.length = p'.length → f (p.length : Int) = some (bif t x y then .next ((p.length + 1 : Nat) : Int) else .done (.inr false)))
    (h2 : f (l.length : Int) = some (.done (.inl ()))) : loopM f (0 : Int) = some (bif all2 t l m then .inl () else .inr false) := by
  have key : ∀ (q p : List β) (q' p' : List γ), l = p ++ q → m = p' ++ q' → p.length = p'.length → loopM f (p.length : Int) = some (bif all2 t q q' then .inl () else .inr false) := by
    intro q
    induction q with
    | nil =>
      intro p q' p' e e' hp
      have : q' = [] := by
        subst e e'
        simp only [List.append_nil, List.length_append] at hl
        exact List.eq_nil_of_length_eq_zero (by omega)
      subst this
      rw [List.append_nil] at e; subst e
      rw [loopM_done h2]; rfl
    | cons x q ih =>
      intro p q' p' e e' hp
      cases q' with
      | nil =>
        subst e e'
        simp only [List.append_nil, List.length_append, List.length_cons] at hl
        omega
      | cons y q' =>
        have h := h1 p x q p' y q' e e' hp
        show _ = some (bif (t x y && all2 t q q') then _ else _)
        cases ht : t x y
        · rw [ht, cond_false] at h
          rw [loopM_done h, Bool.false_and]; rfl
        · rw [ht, cond_true] at h
          rw [loopM_next h, Bool.true_and]
          have := ih (p ++ [x]) q' (p' ++ [y]) (by simp [e]) (by simp [e']) (by simp [hp])
          simpa using this
  exact key l [] m [] rfl rfl rfl
theorem pairs {β γ : Type} (t : β → γ → Bool) (l : List β) (m : List γ) {f : Int → Option (Step Int (Unit ⊕ Bool))}
    (h1 : ∀ p x q p' y q', l = p ++ x :: q → m = p' ++ y :: q' → p.length = p'.length → f (p.length : Int) = some (bif t x y then .next ((p.length + 1 : Nat) : Int) else .done (.inr false)))
    (h2 : f (l.length : Int) = some (.done (.inl ()))) :
    (bif ((l.length : Int) != (m.length : Int)) then some false else (Option.bind (α := (Unit) ⊕ (Bool)) (loopM f (0 : Int)) (Sum.elim (fun _ => some true) (fun r => some r)))) = some (all2 t l m) := by
  by_cases hl : l.length = m.length
  · rw [show ((l.length : Int) != (m.length : Int)) = false by simp [hl], cond_false, loop_all2 t hl h1 h2, Option.bind_some]
    cases all2 t l m <;> rfl
  · rw [show ((l.length : Int) != (m.length : Int)) = true by simpa using fun h => hl (by omega), cond_true, all2_len hl]
theorem idx_pre2 {β : Type} {m p : List β} {x : β} {q : List β} {n : Nat} (h : m = p ++ x :: q) (hn : n = p.length) : idx m (n : Int) = some x := by
  subst h hn; exact idx_pre _ _ _
theorem all2_refl {β : Type} {t : β → β → Bool} : ∀ {l : List β}, (∀ x ∈ l, t x x = true) → all2 t l l = true
  | [], _ => rfl
  | x :: l, h => by
    show (t x x && all2 t l l) = true
    rw [h x (by simp), all2_refl fun y hy => h y (List.mem_cons_of_mem _ hy)]; rfl
end Go.Proofs.Ytjfkolocfhmbnaa.Ab
namespace Go.Proofs.Ytjfkolocfhmbnaa.Ab
open Go
set_option linter.all false
theorem Le.of {α : Type} {m m' : Option α} {r : α} (h : Le m m') (e : m = some r) : m' = some r := h r e
end Go.Proofs.Ytjfkolocfhmbnaa.Ab
namespace Go.Proofs.Ytjfkolocfhmbnaa.Ab
open Go
set_option linter.all false
abbrev RL := List (Nat × Nat × List D)
def isR (rl : RL) (e : Nat) : Bool := rl.any fun x => x.1 == e
def dR (rl : RL) (e : Nat) (d : D) (v : Value) : D := bif isR rl e then .v v else d
section
variable (P : Program) (C : Ctx) (N : Nat) (l : List Oper) (m : Nat) (De : Nat → D) (al : AL) (rl : RL) (pre : List (List Nat)) (ev : List Nat) (h : List (Nat × Blk)) (k : List (Nat × Value)) (Q : Exit → S → Prop)
def dEr (bs : Nat → Value) (e : Nat) : D := bif isAl al e then .ptr (blk (bs e)) 0 else dR rl e (De e) (bs e)
def TOKr (H0 : Hp) (bs : Nat → Value) (vals : Nat → Value) (te : TE) (a : Act) : Prop :=
  ∀ j d o, look3 te j = some (d, o) → ∃ v, a.tmps[j]? = some v ∧ (o = none → ∀ H, H0.le H → Rep H d v) ∧ ∀ e, o = some e → v = vals e ∧ d = dEr De al rl bs e ∧ ev.contains e = true
end
section
variable {P : Program} {C : Ctx} {N : Nat} {l : List Oper} {m : Nat} {De : Nat → D} {al : AL} {rl : RL} {pre : List (List Nat)} {ev : List Nat} {h : List (Nat × Blk)} {k : List (Nat × Value)} {Q : Exit → S → Prop} {tab : List (Option TI)} {bs : Nat → Value} {i : Nat} {o : Oper} {rest : List Oper} {te : TE}
theorem TOKr.put {H0 : Hp} {vals : Nat → Value} {a : Act} (kt : TOKr De al rl ev H0 bs vals te a) {j : Nat} {d : D} {o : Option Nat} {v : Value} (hj : j < a.tmps.size) (h1 : o = none → ∀ H, H0.le H → Rep H d v) (h2 : ∀ e, o = some e → v = vals e ∧ d = dEr De al rl bs e ∧ ev.contains e = true) :
    TOKr De al rl ev H0 bs vals ((j, d, o) :: te) (a.put (some j) v) := by
  intro j' d' o' e
  simp only [look3] at e
  simp only [Act.put]
  cases hb : Nat.beq j j' with
  | true =>
    rw [hb] at e; simp at e
    obtain ⟨rfl, rfl⟩ := e
    have := Nat.eq_of_beq_eq_true hb; subst this
    exact ⟨v, by simp [hj], h1, h2⟩
  | false =>
    rw [hb] at e; simp at e
    have hne : j ≠ j' := Nat.ne_of_beq_eq_false hb
    obtain ⟨u, h3, h4⟩ := kt j' d' o' e
    exact ⟨u, by rw [Array.getElem?_setIfInBounds_ne hne]; exact h3, h4⟩
end
section
variable {P : Program} {C : Ctx} {N : Nat} {l : List Oper} {m : Nat} {De : Nat → D} {al : AL} {rl : RL} {pre : List (List Nat)} {ev : List Nat} {h : List (Nat × Blk)} {k : List (Nat × Value)} {Q : Exit → S → Prop} {tab : List (Option TI)} {bs : Nat → Value} {i : Nat} {o : Oper} {rest : List Oper} {te : TE}
end
end Go.Proofs.Ytjfkolocfhmbnaa.Ab
namespace Go.Proofs.Ytjfkolocfhmbnaa.Ab
open Go
set_option linter.all false
def tab : List (Option TI) := [none,
  some ⟨.other, 1, 8, [.nilFunc]⟩,
  some ⟨.int .i64, 1, 8, [.int .i64 0]⟩,
  some ⟨.int .i64, 1, 8, [.int .i64 0]⟩,
  some ⟨.bool, 1, 1, [.bool false]⟩,
  some ⟨.int .u8, 1, 1, [.int .u8 0]⟩,
  some ⟨.int .u8, 1, 1, [.int .u8 0]⟩,
  some ⟨.struct [(2, 0), (3, 1), (4, 2), (6, 3)], 4, 24, [.int .i64 0, .int .i64 0, .bool false, .int .u8 0]⟩,
  some ⟨.struct [(2, 0), (3, 1), (4, 2), (6, 3)], 4, 24, [.int .i64 0, .int .i64 0, .bool false, .int .u8 0]⟩,
  some ⟨.str, 1, 16, [.string ByteArray.empty]⟩,
  some ⟨.str, 1, 16, [.string ByteArray.empty]⟩,
  some ⟨.str, 1, 16, [.string ByteArray.empty]⟩,
  some ⟨.int .u64, 1, 8, [.int .u64 0]⟩,
  some ⟨.struct [(9, 0), (12, 1)], 2, 24, [.string ByteArray.empty, .int .u64 0]⟩,
  some ⟨.struct [(9, 0), (12, 1)], 2, 24, [.string ByteArray.empty, .int .u64 0]⟩,
  some ⟨.ptr 101, 1, 8, [.pointer none]⟩,
  some ⟨.ptr 104, 1, 8, [.pointer none]⟩,
  some ⟨.ptr 113, 1, 8, [.pointer none]⟩,
  some ⟨.struct [(17, 0)], 1, 8, [.pointer none]⟩,
  some ⟨.struct [(17, 0)], 1, 8, [.pointer none]⟩,
  none,
  some ⟨.int .i32, 1, 4, [.int .i32 0]⟩,
  some ⟨.slice 3, 1, 24, [.slice none 0 0]⟩,
  some ⟨.other, 1, 8, [.nilFunc]⟩,
  some ⟨.other, 1, 8, [.nilFunc]⟩,
  some ⟨.other, 1, 8, [.nilFunc]⟩,
  some ⟨.other, 1, 8, [.nilFunc]⟩,
  some ⟨.other, 1, 8, [.nilFunc]⟩,
  some ⟨.slice 44, 1, 24, [.slice none 0 0]⟩,
  some ⟨.slice 41, 1, 24, [.slice none 0 0]⟩,
  some ⟨.struct [(28, 0), (29, 1)], 2, 48, [.slice none 0 0, .slice none 0 0]⟩,
  some ⟨.struct [(28, 0), (29, 1)], 2, 48, [.slice none 0 0, .slice none 0 0]⟩,
  some ⟨.other, 1, 8, [.nilFunc]⟩,
  some ⟨.other, 1, 8, [.nilFunc]⟩,
  some ⟨.other, 1, 8, [.nilFunc]⟩,
  some ⟨.other, 1, 8, [.nilFunc]⟩,
  some ⟨.other, 1, 8, [.nilFunc]⟩,
  some ⟨.other, 1, 8, [.nilFunc]⟩,
  some ⟨.slice 115, 1, 24, [.slice none 0 0]⟩,
  some ⟨.slice 61, 1, 24, [.slice none 0 0]⟩,
  some ⟨.struct [(9, 0), (38, 1), (38, 2), (39, 3), (3, 4)], 5, 96, [.string ByteArray.empty, .slice none 0 0, .slice none 0 0, .slice none 0 0, .int .i64 0]⟩,
  some ⟨.struct [(9, 0), (38, 1), (38, 2), (39, 3), (3, 4)], 5, 96, [.string ByteArray.empty, .slice none 0 0, .slice none 0 0, .slice none 0 0, .int .i64 0]⟩,
  some ⟨.other, 1, 8, [.nilFunc]⟩,
  some ⟨.struct [(9, 0), (4, 1), (3, 2), (3, 3)], 4, 40, [.string ByteArray.empty, .bool false, .int .i64 0, .int .i64 0]⟩,
  some ⟨.struct [(9, 0), (4, 1), (3, 2), (3, 3)], 4, 40, [.string ByteArray.empty, .bool false, .int .i64 0, .int .i64 0]⟩,
  some ⟨.other, 1, 8, [.nilFunc]⟩,
  some ⟨.other, 1, 8, [.nilFunc]⟩,
  some ⟨.int .u64, 1, 8, [.int .u64 0]⟩,
  some ⟨.int .u64, 1, 8, [.int .u64 0]⟩,
  some ⟨.array 2 48, 2, 16, [.int .u64 0, .int .u64 0]⟩,
  some ⟨.array 2 48, 2, 16, [.int .u64 0, .int .u64 0]⟩,
  some ⟨.other, 1, 8, [.nilFunc]⟩,
  some ⟨.other, 1, 8, [.nilFunc]⟩,
  some ⟨.other, 1, 8, [.nilFunc]⟩,
  some ⟨.other, 1, 8, [.nilFunc]⟩,
  some ⟨.other, 1, 8, [.nilFunc]⟩,
  some ⟨.struct [(22, 0)], 1, 24, [.slice none 0 0]⟩,
  some ⟨.struct [(22, 0)], 1, 24, [.slice none 0 0]⟩,
  some ⟨.other, 1, 8, [.nilFunc]⟩,
  some ⟨.slice 64, 1, 24, [.slice none 0 0]⟩,
  some ⟨.struct [(3, 0), (9, 1), (9, 2), (59, 3), (39, 4), (39, 5), (3, 6)], 7, 120, [.int .i64 0, .string ByteArray.empty, .string ByteArray.empty, .slice none 0 0, .slice none 0 0, .slice none 0 0, .int .i64 0]⟩,
  some ⟨.struct [(3, 0), (9, 1), (9, 2), (59, 3), (39, 4), (39, 5), (3, 6)], 7, 120, [.int .i64 0, .string ByteArray.empty, .string ByteArray.empty, .slice none 0 0, .slice none 0 0, .slice none 0 0, .int .i64 0]⟩,
  some ⟨.other, 1, 8, [.nilFunc]⟩,
  some ⟨.struct [(3, 0), (3, 1), (9, 2), (59, 3), (3, 4)], 5, 64, [.int .i64 0, .int .i64 0, .string ByteArray.empty, .slice none 0 0, .int .i64 0]⟩,
  some ⟨.struct [(3, 0), (3, 1), (9, 2), (59, 3), (3, 4)], 5, 64, [.int .i64 0, .int .i64 0, .string ByteArray.empty, .slice none 0 0, .int .i64 0]⟩,
  some ⟨.other, 1, 8, [.nilFunc]⟩,
  some ⟨.other, 1, 8, [.nilFunc]⟩,
  some ⟨.other, 1, 8, [.nilFunc]⟩,
  some ⟨.other, 1, 8, [.nilFunc]⟩,
  some ⟨.int .i64, 1, 8, [.int .i64 0]⟩,
  none,
  some ⟨.other, 1, 8, [.nilFunc]⟩,
  some ⟨.other, 1, 8, [.nilFunc]⟩,
  some ⟨.other, 1, 8, [.nilFunc]⟩,
  none,
  some ⟨.other, 1, 8, [.nilFunc]⟩,
  some ⟨.other, 1, 8, [.nilFunc]⟩,
  some ⟨.int .u32, 1, 4, [.int .u32 0]⟩,
  some ⟨.other, 1, 8, [.nilFunc]⟩,
  some ⟨.other, 1, 8, [.nilFunc]⟩,
  some ⟨.other, 1, 8, [.nilFunc]⟩,
  some ⟨.other, 1, 8, [.nilFunc]⟩,
  some ⟨.other, 1, 8, [.nilFunc]⟩,
  some ⟨.other, 1, 8, [.nilFunc]⟩,
  some ⟨.other, 1, 8, [.nilFunc]⟩,
  some ⟨.ptr 57, 1, 8, [.pointer none]⟩,
  some ⟨.int .u64, 1, 8, [.int .u64 0]⟩,
  some ⟨.other, 1, 8, [.nilFunc]⟩,
  some ⟨.other, 1, 8, [.nilFunc]⟩,
  some ⟨.other, 1, 8, [.nilFunc]⟩,
  some ⟨.ptr 3, 1, 8, [.pointer none]⟩,
  some ⟨.other, 1, 8, [.nilFunc]⟩,
  some ⟨.other, 1, 8, [.nilFunc]⟩,
  some ⟨.other, 1, 8, [.nilFunc]⟩,
  some ⟨.other, 1, 8, [.nilFunc]⟩,
  some ⟨.ptr 86, 1, 8, [.pointer none]⟩,
  none,
  some ⟨.other, 1, 8, [.nilFunc]⟩,
  some ⟨.other, 1, 8, [.nilFunc]⟩,
  some ⟨.other, 1, 8, [.nilFunc]⟩,
  some ⟨.struct [(17, 0), (17, 1), (17, 2), (9, 3)], 4, 40, [.pointer none, .pointer none, .pointer none, .string ByteArray.empty]⟩,
  some ⟨.struct [(17, 0), (17, 1), (17, 2), (9, 3)], 4, 40, [.pointer none, .pointer none, .pointer none, .string ByteArray.empty]⟩,
  some ⟨.array 0 16, 0, 0, []⟩,
  some ⟨.struct [(102, 0)], 0, 0, []⟩,
  some ⟨.struct [(102, 0)], 0, 0, []⟩,
  some ⟨.other, 1, 8, [.nilFunc]⟩,
  some ⟨.int .u8, 1, 1, [.int .u8 0]⟩,
  some ⟨.int .u8, 1, 1, [.int .u8 0]⟩,
  some ⟨.other, 1, 8, [.nilFunc]⟩,
  some ⟨.ptr 5, 1, 8, [.pointer none]⟩,
  some ⟨.int .i32, 1, 4, [.int .i32 0]⟩,
  some ⟨.int .i32, 1, 4, [.int .i32 0]⟩,
  some ⟨.struct [(12, 0), (12, 1), (77, 2), (106, 3), (5, 4), (5, 5), (107, 6), (108, 7), (109, 8), (110, 9), (111, 10)], 11, 48, [.int .u64 0, .int .u64 0, .int .u32 0, .int .u8 0, .int .u8 0, .int .u8 0, .int .u8 0, .nilFunc, .pointer none, .int .i32 0, .int .i32 0]⟩,
  some ⟨.struct [(12, 0), (12, 1), (77, 2), (106, 3), (5, 4), (5, 5), (107, 6), (108, 7), (109, 8), (110, 9), (111, 10)], 11, 48, [.int .u64 0, .int .u64 0, .int .u32 0, .int .u8 0, .int .u8 0, .int .u8 0, .int .u8 0, .nilFunc, .pointer none, .int .i32 0, .int .i32 0]⟩,
  some ⟨.struct [(9, 0), (4, 1)], 2, 24, [.string ByteArray.empty, .bool false]⟩,
  some ⟨.struct [(9, 0), (4, 1)], 2, 24, [.string ByteArray.empty, .bool false]⟩,
  none]
theorem htab : TabOK Try.prog tab := tab_ok (P := Try.prog) (by kernel_rfl)
abbrev eqn50 : List Nat := [50]
theorem eqs50 : ∀ t ∈ eqn50, EqT Try.prog t := by
  intro t h
  simp only [eqn50, List.mem_cons, List.not_mem_nil, or_false] at h
  subst h; exact ⟨by kernel_rfl, by kernel_rfl, by kernel_rfl⟩
theorem eqg50 : Program.eqGuardType Try.prog (Program.depth Try.prog) 50 = false := by kernel_rfl
theorem ti3 : ti tab 3 = some ⟨.int .i64, 1, 8, [.int .i64 0]⟩ := rfl
theorem ti22 : ti tab 22 = some ⟨.slice 3, 1, 24, [.slice none 0 0]⟩ := rfl
end Go.Proofs.Ytjfkolocfhmbnaa.Ab
namespace Go.Proofs.Ytjfkolocfhmbnaa.Ab
open Go
set_option linter.all false
section
variable {P : Program} {C : Ctx} {N : Nat} {ops rest : List Oper} {o : Oper} {t : List (Nat × D)} {h : List (Nat × Blk)} {k : List (Nat × Value)} {Q : Exit → S → Prop}
theorem wpD_sr {id : Nat} {ops : List Oper} {y : Code} {s : S} (g : opsD P C N ops ops s (thenD (fun s' => wpD P C N y s' Q) Q)) : wpD P C N (.seq (.region id ops.toArray false) y) s Q := wpD_seq (wpD_region g)
theorem ops_nt {next : S → Prop} {s : S} (g : next s) : opsD P C N ops [] s (thenD next Q) := ops_nil (then_normal g)
theorem ops_n2 {id : Nat} {ops2 : List Oper} {y : Code} {s : S} {Q' : Exit → S → Prop} (g : opsD P C N ops2 ops2 s (thenD (fun s' => wpD P C N y s' Q) Q)) : opsD P C N ops [] s (thenD (fun s' => wpD P C N (.seq (.region id ops2.toArray false) y) s' Q) Q') := ops_nt (wpD_sr g)
theorem pu {i : Nat} {d : D} (g : opsD Try.prog C N ops rest ⟨(i, d) :: t, h, k⟩ Q) (hw : wantD ops t o = some true := by rfl) (hd : o.dst = some i := by rfl) (hi : Nat.blt i N = true := by rfl) (e : evP tab t o.op = some d := by rfl) : opsD Try.prog C N ops (o :: rest) ⟨t, h, k⟩ Q := p_pure htab hw hd hi e g
theorem p_st0 {hr : List (Nat × Blk)} {b off : Nat} {T T' : TypeId} {x y : Operand} {ds ds' : List D} {ti0 : TI} {d : D} (ho : o.op = .store T x y) (hw : wantD ops t o = some true) (hd : o.dst = none) (hx : opD t x = some (.ptr b off)) (hT : ti tab T = some ti0) (hy : opD t y = some d) (hs : stor d = true) (hsz : Nat.beq (dcells d).length ti0.size = true) (hle : Nat.ble (off + ti0.size) ds.length = true) (e : lay ds off (dcells d) = ds') (g : opsD Try.prog C N ops rest ⟨t, (b, .cells ds' T') :: hr, k⟩ Q) : opsD Try.prog C N ops (o :: rest) ⟨t, (b, .cells ds T') :: hr, k⟩ Q := p_store 0 htab ho hw hd hx rfl hT hy hs hsz hle e rfl g
theorem p_st1 {a0 : Nat × Blk} {hr : List (Nat × Blk)} {b off : Nat} {T T' : TypeId} {x y : Operand} {ds ds' : List D} {ti0 : TI} {d : D} (ho : o.op = .store T x y) (hw : wantD ops t o = some true) (hd : o.dst = none) (hx : opD t x = some (.ptr b off)) (hT : ti tab T = some ti0) (hy : opD t y = some d) (hs : stor d = true) (hsz : Nat.beq (dcells d).length ti0.size = true) (hle : Nat.ble (off + ti0.size) ds.length = true) (e : lay ds off (dcells d) = ds') (g : opsD Try.prog C N ops rest ⟨t, a0 :: (b, .cells ds' T') :: hr, k⟩ Q) : opsD Try.prog C N ops (o :: rest) ⟨t, a0 :: (b, .cells ds T') :: hr, k⟩ Q := p_store 1 htab ho hw hd hx rfl hT hy hs hsz hle e rfl g
theorem WkS.bl1 {a0 : Nat × Blk} {hr : List (Nat × Blk)} {b : Nat} {ds ds' : List D} {T : TypeId} (hw : WkR ds ds') : WkS C ⟨t, a0 :: (b, .cells ds T) :: hr, k⟩ ⟨t, a0 :: (b, .cells ds' T) :: hr, k⟩ := WkS.blk 1 rfl hw rfl
theorem p_st3 {a0 a1 a2 : Nat × Blk} {hr : List (Nat × Blk)} {b off : Nat} {T T' : TypeId} {x y : Operand} {ds ds' : List D} {ti0 : TI} {d : D} (ho : o.op = .store T x y) (hw : wantD ops t o = some true) (hd : o.dst = none) (hx : opD t x = some (.ptr b off)) (hT : ti tab T = some ti0) (hy : opD t y = some d) (hs : stor d = true) (hsz : Nat.beq (dcells d).length ti0.size = true) (hle : Nat.ble (off + ti0.size) ds.length = true) (e : lay ds off (dcells d) = ds') (g : opsD Try.prog C N ops rest ⟨t, a0 :: a1 :: a2 :: (b, .cells ds' T') :: hr, k⟩ Q) : opsD Try.prog C N ops (o :: rest) ⟨t, a0 :: a1 :: a2 :: (b, .cells ds T') :: hr, k⟩ Q := p_store 3 htab ho hw hd hx rfl hT hy hs hsz hle e rfl g
theorem p_st4 {a0 a1 a2 a3 : Nat × Blk} {hr : List (Nat × Blk)} {b off : Nat} {T T' : TypeId} {x y : Operand} {ds ds' : List D} {ti0 : TI} {d : D} (ho : o.op = .store T x y) (hw : wantD ops t o = some true) (hd : o.dst = none) (hx : opD t x = some (.ptr b off)) (hT : ti tab T = some ti0) (hy : opD t y = some d) (hs : stor d = true) (hsz : Nat.beq (dcells d).length ti0.size = true) (hle : Nat.ble (off + ti0.size) ds.length = true) (e : lay ds off (dcells d) = ds') (g : opsD Try.prog C N ops rest ⟨t, a0 :: a1 :: a2 :: a3 :: (b, .cells ds' T') :: hr, k⟩ Q) : opsD Try.prog C N ops (o :: rest) ⟨t, a0 :: a1 :: a2 :: a3 :: (b, .cells ds T') :: hr, k⟩ Q := p_store 4 htab ho hw hd hx rfl hT hy hs hsz hle e rfl g
theorem p_st5 {a0 a1 a2 a3 a4 : Nat × Blk} {hr : List (Nat × Blk)} {b off : Nat} {T T' : TypeId} {x y : Operand} {ds ds' : List D} {ti0 : TI} {d : D} (ho : o.op = .store T x y) (hw : wantD ops t o = some true) (hd : o.dst = none) (hx : opD t x = some (.ptr b off)) (hT : ti tab T = some ti0) (hy : opD t y = some d) (hs : stor d = true) (hsz : Nat.beq (dcells d).length ti0.size = true) (hle : Nat.ble (off + ti0.size) ds.length = true) (e : lay ds off (dcells d) = ds') (g : opsD Try.prog C N ops rest ⟨t, a0 :: a1 :: a2 :: a3 :: a4 :: (b, .cells ds' T') :: hr, k⟩ Q) : opsD Try.prog C N ops (o :: rest) ⟨t, a0 :: a1 :: a2 :: a3 :: a4 :: (b, .cells ds T') :: hr, k⟩ Q := p_store 5 htab ho hw hd hx rfl hT hy hs hsz hle e rfl g
end
section
variable {P : Program} {C : Ctx} {N : Nat} {l : List Oper} {m : Nat} {De : Nat → D} {al : AL} {pre : List (List Nat)} {ev : List Nat} {h : List (Nat × Blk)} {k : List (Nat × Value)} {Q : Exit → S → Prop} {bs : Nat → Nat} {i : Nat} {o : Oper} {rest : List Oper} {te : TE}
theorem zqp {j : Nat} {x : Value} {p : List Nat} {t : List (Nat × D)} (g : Zw Try.prog C N l m De al pre ev h k Q bs (i + 1) rest ((j, .v x, none) :: te)) (hp : pre.getD i [] = p := by rfl) (ht : vis p te = t := by rfl) (hx : evP tab t o.op = some (.v x) := by rfl) (hw : wantD l (vis [] te) o = some true := by rfl) (hd : o.dst = some j := by rfl) (hi : Nat.blt j N = true := by rfl) (hne : ev.contains i = false := by rfl) (hone : one x = true := by rfl) (hpe : p.all ev.contains = true := by rfl) : Zw Try.prog C N l m De al pre ev h k Q bs i (o :: rest) te :=
  z_q hp ht (ex_pure htab hx) hw hd hi hne hone hpe g
theorem zep {j : Nat} {p : List Nat} {t : List (Nat × D)} {d : D} (g : Zw Try.prog C N l m De al pre ev h k Q bs (i + 1) rest ((j, d, some i) :: te)) (hp : pre.getD i [] = p := by rfl) (ht : vis p te = t := by rfl) (hx : evP tab t o.op = some d := by rfl) (hw : wantD l (vis [] te) o = some true := by rfl) (hd : o.dst = some j := by rfl) (hi : Nat.blt j N = true := by rfl) (he : ev.contains i = true := by rfl) (hna : isAl al i = false := by rfl) (hDe : De i = d := by rfl) : Zw Try.prog C N l m De al pre ev h k Q bs i (o :: rest) te :=
  z_e hp ht (ex_pure htab hx) hw hd hi he hna hDe g
end
def pickE {α : Type} : List Nat → List α → List α
  | [], _ => []
  | j :: js, l => match l[j]? with
    | some x => x :: pickE js (l.eraseIdx j)
    | none => []
def restE {α : Type} : List Nat → List α → List α
  | [], l => l
  | j :: js, l => match l[j]? with
    | some _ => restE js (l.eraseIdx j)
    | none => l
theorem pickE_perm {α : Type} : ∀ (js : List Nat) (l : List α), l.Perm (pickE js l ++ restE js l)
  | [], l => List.Perm.refl _
  | j :: js, l => by
    unfold pickE restE
    cases h : l[j]? with
    | none => exact List.Perm.refl _
    | some x => exact (perm_at h).trans ((pickE_perm js (l.eraseIdx j)).cons x)
section
variable {P : Program} {C : Ctx} {N : Nat} {ops rest : List Oper} {o : Oper} {t : List (Nat × D)} {h : List (Nat × Blk)} {k : List (Nat × Value)} {Q : Exit → S → Prop}
theorem rP {rs : List ResultVar} {R : D → List (Nat × Blk) → List (Nat × Value) → Prop} {x : Exit} {t' : List (Nat × D)} {ds : List D} (js ks : List Nat) (n : Nat) (e : ∀ i d, look t' i = some d → ∃ d0, look t i = some d0 ∧ Wk d0 d) (hr : resL tab ⟨t', pickE js h, pickE ks k⟩ rs ds) (g : R (wrapD ds) ((pickE js h).take n) (pickE ks k)) (hx : x = .ret ∨ x = .normal := by first | exact .inl rfl | exact .inr rfl) : retX C tab rs R x ⟨t, h, k⟩ :=
  retX.of (s' := ⟨t', pickE js h, pickE ks k⟩) (WkS.perm e (pickE_perm js h) (pickE_perm ks k)) (retD_mk hx hr (List.take_sublist n _) (List.Sublist.refl _) g)
theorem wC {t t' : List (Nat × D)} {j : Nat} {d0 : D} (g : ∀ i d, look t' i = some d → ∃ d1, look t i = some d1 ∧ Wk d1 d) (h0 : look t j = some d0 := by rfl) : ∀ i d, look ((j, d0) :: t') i = some d → ∃ d1, look t i = some d1 ∧ Wk d1 d := WkS.cons h0 (Wk.refl _) g
theorem wN {t : List (Nat × D)} : ∀ i d, look [] i = some d → ∃ d0, look t i = some d0 ∧ Wk d0 d := WkS.nil
theorem lN {s : S} : resL tab s [] [] := rfl
theorem lT {s : S} {i : Nat} {rs : List ResultVar} {d : D} {ds : List D} (h2 : resL tab s rs ds) (h1 : look s.t i = some d := by rfl) : resL tab s (.tmp i :: rs) (d :: ds) := resL_cons (resOne_tmp h1) h2
theorem lC {s : S} {a b off : Nat} {T T' : TypeId} {ds : List D} {i : TI} {d : D} {rs : List ResultVar} {ds' : List D} (j : Nat) (hr : resL tab s rs ds') (h1 : look s.t a = some (.ptr b off) := by rfl) (h2 : s.h[j]? = some (b, Blk.cells ds T') := by rfl) (h3 : ti tab T = some i := by rfl) (h4 : partD i ds off = some d := by rfl) : resL tab s (.cell a T :: rs) (d :: ds') := resL_cons (resOne_cell j h1 h2 h3 h4) hr
theorem Pf {α : Type} {l : List α} : l.Perm l := List.Perm.refl l
theorem Wl {ds : List D} : WkL ds ds := WkL.refl ds
theorem pL {i b off : Nat} {T T' : TypeId} {x : Operand} {ds : List D} {ti0 : TI} {d : D} (j : Nat) (g : opsD Try.prog C N ops rest ⟨(i, d) :: t, h, k⟩ Q) (ho : o.op = .load T x := by rfl) (hw : wantD ops t o = some true := by rfl) (hd : o.dst = some i := by rfl) (hi : Nat.blt i N = true := by rfl) (hx : opD t x = some (.ptr b off) := by rfl) (hb : h[j]? = some (b, .cells ds T') := by rfl) (hT : ti tab T = some ti0 := by rfl) (e : partD ti0 ds off = some d := by rfl) : opsD Try.prog C N ops (o :: rest) ⟨t, h, k⟩ Q := p_load j htab ho hw hd hi hx hb hT e g
theorem pG {f : FuncId} {args : List Operand} {ts : Array TypeId} {i : Nat} {ds ds' : List D} {h1 h2 : List (Nat × Blk)} {k1 k2 : List (Nat × Value)} {R : D → List (Nat × Blk) → List (Nat × Value) → Prop} (hc : CallsD Try.prog f ds' h1 k1 R) (hwk : WkL ds ds') (hh : h.Perm (h1 ++ h2)) (hk : k.Perm (k1 ++ k2)) (g : ∀ d h' k', R d h' k' → opsD Try.prog C N ops rest ⟨(i, d) :: t, h' ++ h2, k' ++ k2⟩ Q) (ho : o.op = .call ⟨.value (.func f), args.toArray, ts⟩ := by rfl) (hw : wantD ops t o = some true := by rfl) (hd : o.dst = some i := by rfl) (hi : Nat.blt i N = true := by rfl) (ha : someMap args (opD t) = some ds := by rfl) : opsD Try.prog C N ops (o :: rest) ⟨t, h, k⟩ Q := p_callG hc ho hw hd hi ha hwk hh hk g
theorem pK {i : Nat} (g : opsD Try.prog C N ops rest ⟨(i, .v (.tuple #[])) :: t, h, k⟩ Q) (hw : wantD ops t o = some false := by rfl) (hd : o.dst = some i := by rfl) (hi : Nat.blt i N = true := by rfl) : opsD Try.prog C N ops (o :: rest) ⟨t, h, k⟩ Q := p_skip hw hd hi g
theorem pS0 {hr : List (Nat × Blk)} {b off : Nat} {T T' : TypeId} {x y : Operand} {ds ds' : List D} {ti0 : TI} {d : D} (g : opsD Try.prog C N ops rest ⟨t, (b, .cells ds' T') :: hr, k⟩ Q) (ho : o.op = .store T x y := by rfl) (hw : wantD ops t o = some true := by rfl) (hd : o.dst = none := by rfl) (hx : opD t x = some (.ptr b off) := by rfl) (hT : ti tab T = some ti0 := by rfl) (hy : opD t y = some d := by rfl) (hs : stor d = true := by rfl) (hsz : Nat.beq (dcells d).length ti0.size = true := by rfl) (hle : Nat.ble (off + ti0.size) ds.length = true := by rfl) (e : lay ds off (dcells d) = ds' := by rfl) : opsD Try.prog C N ops (o :: rest) ⟨t, (b, .cells ds T') :: hr, k⟩ Q := p_st0 ho hw hd hx hT hy hs hsz hle e g
theorem pS1 {a0 : Nat × Blk} {hr : List (Nat × Blk)} {b off : Nat} {T T' : TypeId} {x y : Operand} {ds ds' : List D} {ti0 : TI} {d : D} (g : opsD Try.prog C N ops rest ⟨t, a0 :: (b, .cells ds' T') :: hr, k⟩ Q) (ho : o.op = .store T x y := by rfl) (hw : wantD ops t o = some true := by rfl) (hd : o.dst = none := by rfl) (hx : opD t x = some (.ptr b off) := by rfl) (hT : ti tab T = some ti0 := by rfl) (hy : opD t y = some d := by rfl) (hs : stor d = true := by rfl) (hsz : Nat.beq (dcells d).length ti0.size = true := by rfl) (hle : Nat.ble (off + ti0.size) ds.length = true := by rfl) (e : lay ds off (dcells d) = ds' := by rfl) : opsD Try.prog C N ops (o :: rest) ⟨t, a0 :: (b, .cells ds T') :: hr, k⟩ Q := p_st1 ho hw hd hx hT hy hs hsz hle e g
theorem pS3 {a0 a1 a2 : Nat × Blk} {hr : List (Nat × Blk)} {b off : Nat} {T T' : TypeId} {x y : Operand} {ds ds' : List D} {ti0 : TI} {d : D} (g : opsD Try.prog C N ops rest ⟨t, a0 :: a1 :: a2 :: (b, .cells ds' T') :: hr, k⟩ Q) (ho : o.op = .store T x y := by rfl) (hw : wantD ops t o = some true := by rfl) (hd : o.dst = none := by rfl) (hx : opD t x = some (.ptr b off) := by rfl) (hT : ti tab T = some ti0 := by rfl) (hy : opD t y = some d := by rfl) (hs : stor d = true := by rfl) (hsz : Nat.beq (dcells d).length ti0.size = true := by rfl) (hle : Nat.ble (off + ti0.size) ds.length = true := by rfl) (e : lay ds off (dcells d) = ds' := by rfl) : opsD Try.prog C N ops (o :: rest) ⟨t, a0 :: a1 :: a2 :: (b, .cells ds T') :: hr, k⟩ Q := p_st3 ho hw hd hx hT hy hs hsz hle e g
theorem pS4 {a0 a1 a2 a3 : Nat × Blk} {hr : List (Nat × Blk)} {b off : Nat} {T T' : TypeId} {x y : Operand} {ds ds' : List D} {ti0 : TI} {d : D} (g : opsD Try.prog C N ops rest ⟨t, a0 :: a1 :: a2 :: a3 :: (b, .cells ds' T') :: hr, k⟩ Q) (ho : o.op = .store T x y := by rfl) (hw : wantD ops t o = some true := by rfl) (hd : o.dst = none := by rfl) (hx : opD t x = some (.ptr b off) := by rfl) (hT : ti tab T = some ti0 := by rfl) (hy : opD t y = some d := by rfl) (hs : stor d = true := by rfl) (hsz : Nat.beq (dcells d).length ti0.size = true := by rfl) (hle : Nat.ble (off + ti0.size) ds.length = true := by rfl) (e : lay ds off (dcells d) = ds' := by rfl) : opsD Try.prog C N ops (o :: rest) ⟨t, a0 :: a1 :: a2 :: a3 :: (b, .cells ds T') :: hr, k⟩ Q := p_st4 ho hw hd hx hT hy hs hsz hle e g
theorem pS5 {a0 a1 a2 a3 a4 : Nat × Blk} {hr : List (Nat × Blk)} {b off : Nat} {T T' : TypeId} {x y : Operand} {ds ds' : List D} {ti0 : TI} {d : D} (g : opsD Try.prog C N ops rest ⟨t, a0 :: a1 :: a2 :: a3 :: a4 :: (b, .cells ds' T') :: hr, k⟩ Q) (ho : o.op = .store T x y := by rfl) (hw : wantD ops t o = some true := by rfl) (hd : o.dst = none := by rfl) (hx : opD t x = some (.ptr b off) := by rfl) (hT : ti tab T = some ti0 := by rfl) (hy : opD t y = some d := by rfl) (hs : stor d = true := by rfl) (hsz : Nat.beq (dcells d).length ti0.size = true := by rfl) (hle : Nat.ble (off + ti0.size) ds.length = true := by rfl) (e : lay ds off (dcells d) = ds' := by rfl) : opsD Try.prog C N ops (o :: rest) ⟨t, a0 :: a1 :: a2 :: a3 :: a4 :: (b, .cells ds T') :: hr, k⟩ Q := p_st5 ho hw hd hx hT hy hs hsz hle e g
end
section
variable {P : Program} {C : Ctx} {N : Nat} {l : List Oper} {m : Nat} {De : Nat → D} {al : AL} {pre : List (List Nat)} {ev : List Nat} {h : List (Nat × Blk)} {k : List (Nat × Value)} {Q : Exit → S → Prop} {bs : Nat → Nat} {i : Nat} {o : Oper} {rest : List Oper} {te : TE}
end
end Go.Proofs.Ytjfkolocfhmbnaa.Ab
namespace Go.Proofs.Ytjfkolocfhmbnaa.Ab
open Go
set_option linter.all false
theorem flat_split {H : Hp} {k : Nat} : ∀ (n : Nat) {xs : List D} {us : List Value}, FlatR H k xs us → ∃ u1 u2, us = u1 ++ u2 ∧ FlatR H k (xs.take n) u1 ∧ FlatR H k (xs.drop n) u2
  | 0, xs, us, h => ⟨[], us, rfl, rfl, h⟩
  | n + 1, [], us, h => by
    have : us = [] := h
    subst this
    exact ⟨[], [], rfl, rfl, rfl⟩
  | n + 1, x :: xs, us, h => by
    obtain ⟨v1, v2, rfl, hl, h1, h3⟩ := h
    obtain ⟨u1, u2, rfl, h4, h5⟩ := flat_split n h3
    exact ⟨v1 ++ u1, u2, by simp, ⟨v1, u1, rfl, hl, h1, h4⟩, h5⟩
section
variable {P : Program} {C : Ctx} {N : Nat} {ops rest : List Oper} {o : Oper} {t : List (Nat × D)} {h : List (Nat × Blk)} {k : List (Nat × Value)} {Q : Exit → S → Prop} {tab : List (Option TI)}
theorem Core.reblk {H : Hp} {w : World} (c : Core C H h k w) {j : Nat} {p q : Nat × Blk} (hj : h[j]? = some p) (hc : blkClaim q = blkClaim p) (hq : BlkOK H w q) : Core C H (h.set j q) k w := by
  have hcl := claims_set (k := k) hj hc
  refine ⟨c.ag, c.le, c.new, c.same, c.size, fun x hx => ?_, c.toks, by rw [hcl]; exact c.nd, by rw [hcl]; exact c.own, c.env⟩
  rcases List.mem_or_eq_of_mem_set hx with hx | rfl
  · exact c.blks x hx
  · exact hq
theorem p_cutR {α : Type} {e0 : α → D} {i kk r : Nat} {T e : TypeId} {x : Operand} {hi : Option Operand} {n' : Option Int} {xs ys : List α} {n : Int} {z : Z3} {ti0 tie : TI} (j : Nat) (q : cutL xs 0 n = some ys) (hT : TabOK P tab) (ho : o.op = .slice T x none hi none) (hw : wantD ops t o = some true) (hd : o.dst = some i) (hi0 : Nat.blt i N = true)
    (hx : opD t x = some (.v (SL z))) (hj : h[j]? = some (r, .row kk (xs.map e0) (SL z))) (e2 : optI t hi = some n') (hti : ti tab T = some ti0) (hs : ti0.d = .slice e) (hte : ti tab e = some tie) (hk : tie.size = kk) (h2 : n'.getD (xs.length : Int) = n)
    (g : ∀ z' : Z3, opsD P C N ops rest ⟨(i, .v (SL z')) :: t, h.set j (0, .row kk (ys.map e0) (SL z')), k⟩ Q) : opsD P C N ops (o :: rest) ⟨t, h, k⟩ Q := by
  obtain ⟨q1, q2, q3, q4, q5⟩ := cutL_ok q
  simp only [Int.toNat_zero, List.drop_zero, Nat.sub_zero] at q1 q4
  generalize hn : n.toNat = M at *
  subst q3
  refine ops_val (s := ⟨t, h, k⟩) hw hd hi0 fun H a w c kt => ?_
  obtain ⟨d, h3, h4⟩ := run_underlying (w := w) (ti_ok hT hti)
  have := td_slice (h4.trans hs); subst this
  have hb := c.blks _ (List.mem_of_getElem? hj)
  have hxv := rep_v_inv (opD_ok kt hx)
  have key : ∀ ad m, SL z = .slice ad xs.length m → xs.length ≤ m → (execOp a.eval o).run P w = .ok (.value (.slice (if m = 0 then ad else ad.map (·.add (0 * kk))) (M - 0) (m - 0))) w := by
    intro ad m hy hm
    unfold execOp
    rw [ho]
    refine exec_v ?_
    rw [hxv, hy]
    unfold Instr.sliceAt
    rw [run_bind_ok h3]
    simp only [Instr.slice]
    rw [run_bind_ok h3]
    have := bounds_run (P := P) (w := w) kt (isS := true) (len := xs.length) (cap := m) (lo := none) (l := 0) (mx := none) (m' := none) (m := m) (l' := none) rfl e2 rfl rfl h2 rfl (fun x => absurd rfl x) (Nat.zero_le _) (by omega) (Nat.le_refl _)
    simp only [Option.map_none] at this ⊢
    simp only [run_bind, run_pure, this, run_sizeOf (ti_ok hT hte), hk]
  rcases hb with ⟨a0, hy, hnil⟩ | ⟨b, m, us, rs, T', hy, h0, hm, h1, hf, hr, hH⟩
  · have hxs : xs = [] := by simpa using hnil
    subst hxs
    simp only [List.length_nil] at q5
    have hM : M = 0 := by omega
    subst hM
    have hys : ys = [] := by rw [q1]; rfl
    subst hys
    have hk0 := key a0 0 hy (Nat.le_refl _)
    refine ⟨_, _, H, _, _, _, hk0, Hp.le_refl H, ?_, ?_, g (a0, 0, 0)⟩
    · exact c.reblk hj (by rw [show blkClaim (0, Blk.row kk (([] : List α).map e0) (SL (a0, 0, 0))) = sliceClaim (SL (a0, 0, 0)) from rfl, show blkClaim (r, Blk.row kk (([] : List α).map e0) (SL z)) = sliceClaim (SL z) from rfl, hy]) (.inl ⟨a0, rfl, rfl⟩)
    · exact rep_v rfl
  · simp only [List.length_map] at hy h0
    have hk0 := key _ m hy h0
    rw [if_neg (by omega)] at hk0
    simp only [Option.map_some, addr_add, Nat.zero_mul, Nat.add_zero, Nat.sub_zero] at hk0
    obtain ⟨u1, u2, rfl, hf1, _⟩ := flat_split M hf
    refine ⟨_, _, H, _, _, _, hk0, Hp.le_refl H, ?_, ?_, g (some ⟨b, 0, none⟩, M, m)⟩
    · refine c.reblk hj ?_ (.inr ⟨b, m, u1, u2 ++ rs, T', ?_, ?_, hm, by rw [← List.append_assoc]; exact h1, ?_, by rw [← List.append_assoc]; exact hr, hH⟩)
      · rw [show blkClaim (0, Blk.row kk (ys.map e0) (SL (some ⟨b, 0, none⟩, M, m))) = sliceClaim (SL (some ⟨b, 0, none⟩, M, m)) from rfl, show blkClaim (r, Blk.row kk (xs.map e0) (SL z)) = sliceClaim (SL z) from rfl, hy]
        rfl
      · rw [q1]; simp [SL]; omega
      · rw [q1]; simp; omega
      · rw [q1, List.map_take]; exact hf1
    · exact rep_v rfl
end
theorem grown_of {P : Program} {f : FuncId} {us : List Value} {ds : List D} {r : Value} (c : CallsD P f ds [] [] (fun d h k => d = .v r ∧ h = [] ∧ k = [])) (W : World) (h1 : RepsV (fun _ => none) ds us) :
    Calls P f us.toArray W fun e w' => e = .returned r ∧ ∃ q os', w' = Sort.grow (W.drewN q) os' := by
  have := c.2 (fun _ => none) W us h1 (fun a v e => by cases e) (by simp) (by simp) (by simp [claims])
  refine this.mono fun e w' ⟨v, H', d, h', k', he, hr, hc, h2, _, _⟩ => ?_
  subst h2
  have := rep_v_inv hr
  subst this
  refine ⟨he, w'.drawn - W.drawn, w'.heap.extract W.heap.size w'.heap.size, ?_⟩
  have hsz := hc.size
  have hsame : ∀ b, b < W.heap.size → w'.heap[b]? = W.heap[b]? := fun b hb => hc.same b hb (by simp [claims])
  obtain ⟨e1, e2, e3, e4⟩ := hc.env
  simp only at hsz e1 e2 e3 e4
  obtain ⟨hp, tp, dr, os, out⟩ := w'
  simp only at *
  subst e1 e2 e3
  unfold Sort.grow World.drewN
  simp only [World.mk.injEq, true_and, and_true]
  refine ⟨?_, by omega⟩
  apply Array.ext_getElem?
  intro j
  rw [Array.getElem?_append]
  split
  · rename_i hj; rw [hsame j hj]
  · rename_i hj
    rw [Array.getElem?_extract]
    by_cases hl : j < hp.size
    · rw [if_pos (by omega)]; congr 1; omega
    · rw [Array.getElem?_eq_none (by omega), if_neg (by omega)]
end Go.Proofs.Ytjfkolocfhmbnaa.Ab
namespace Go.Proofs.Ytjfkolocfhmbnaa.Ab
open Go
set_option linter.all false
def eqD (tab : List (Option TI)) (ts : List Nat) : Nat → Nat → D → D → Option Bool
  | 0, _, _, _ => none
  | n + 1, t, x, y => match ti tab t with
    | none => none
    | some i => match i.d, x, y with
      | .struct fs, .agg ds, .agg es => bif ts.contains t then fs.foldr (fun f acc => match ti tab f.1 with
          | none => none
          | some j => match partD j ds f.2, partD j es f.2 with
            | some p, some q => match eqD tab ts n f.1 p q, acc with
              | some b, some r => some (b && r)
              | _, _ => none
            | _, _ => none) (some true) else none
      | .array m e, .agg ds, .agg es => bif ts.contains t then (match ti tab e with
          | none => none
          | some j => (List.range m).foldr (fun k acc => match partD j ds (k * j.size), partD j es (k * j.size) with
            | some p, some q => match eqD tab ts n e p q, acc with
              | some b, some r => some (b && r)
              | _, _ => none
            | _, _ => none) (some true)) else none
      | _, .v a, .v b => eqV i.d a b
      | _, _, _ => none
section
variable {P : Program} {C : Ctx} {N : Nat} {ops rest : List Oper} {o : Oper} {t : List (Nat × D)} {h : List (Nat × Blk)} {k : List (Nat × Value)} {Q : Exit → S → Prop} {tab : List (Option TI)}
theorem eqD_ok (hT : TabOK P tab) {ts : List Nat} (hE : ∀ t ∈ ts, EqT P t) {H : Hp} {w : World} (d : Nat) : ∀ (n t : Nat) (x y : D) (u v : Value) (b : Bool), eqD tab ts n t x y = some b → Rep H x u → Rep H y v → (Op.equalIn (d + n) t u v).run P w = .ok b w
  | 0, _, _, _, _, _, _, e, _, _ => by simp [eqD] at e
  | n + 1, t, x, y, u, v, b, e, hu, hv => by
    simp only [eqD] at e
    split at e
    · cases e
    · rename_i i hi
      obtain ⟨ti', z, dd, h5, h6, h7, _⟩ := tiOf_inv (ti_ok hT hi)
      split at e
      · rename_i fs ds es hd
        cases hc : ts.contains t with
        | false => rw [hc] at e; cases e
        | true =>
          rw [hc] at e
          simp only [cond_true] at e
          have hEt := hE t (by simpa using hc)
          obtain ⟨us, rfl, h2⟩ := rep_agg_inv hu
          obtain ⟨vs, rfl, h4⟩ := rep_agg_inv hv
          obtain ⟨gs, rfl, h8⟩ := td_struct (h7.trans hd)
          have hf : P.fieldsOf t = gs := by unfold Program.fieldsOf; rw [h6]
          show (Op.equalIn ((d + n) + 1) t _ _).run P w = _
          rw [run_equalIn_struct w (d + n) t _ _ (by rw [h6, hf]) hEt.stood]
          have hn := hEt.names
          rw [hf] at hn ⊢
          generalize gs.toList = L at h8 hn
          subst h8
          clear h6 h7 hd hi hf
          induction L generalizing b with
          | nil => simp at e; subst e; rfl
          | cons g L ih =>
            simp only [List.all_cons, Bool.and_eq_true, bne_iff_ne] at hn
            simp only [List.map_cons, List.foldr_cons] at e
            split at e
            · cases e
            · rename_i j hj
              split at e
              · rename_i p q hp hq
                split at e
                · rename_i b0 r0 hb hr
                  simp only [Option.some.injEq] at e
                  have ih' := ih r0 hn.2 hr
                  obtain ⟨v1, p1, q1⟩ := run_part (P := P) (w := w) (ti_ok hT hj) h2 hp
                  obtain ⟨v2, p2, q2⟩ := run_part (P := P) (w := w) (ti_ok hT hj) h4 hq
                  unfold Op.eqFields
                  rw [if_pos hn.1, run_bind_ok p1, run_bind_ok p2, run_bind_ok (eqD_ok hT hE d n _ _ _ _ _ _ hb q1 q2)]
                  cases b0 with
                  | false => simp at e; subst e; rfl
                  | true => simp at e; subst e; simpa using ih'
                · cases e
              · cases e
      · rename_i m e' ds es hd
        cases hc : ts.contains t with
        | false => rw [hc] at e; cases e
        | true =>
          rw [hc] at e
          simp only [cond_true] at e
          split at e
          · cases e
          · rename_i j hj
            obtain ⟨us, rfl, h2⟩ := rep_agg_inv hu
            obtain ⟨vs, rfl, h4⟩ := rep_agg_inv hv
            have hdd := td_array (h7.trans hd); subst hdd
            obtain ⟨ie, _, _, h8, _, _, h9, _⟩ := tiOf_inv (ti_ok hT hj)
            have hce : P.cellsOf e' = j.size := by unfold Program.cellsOf; rw [h8]; exact h9
            show (Op.equalIn ((d + n) + 1) t _ _).run P w = _
            rw [run_equalIn_array w (d + n) _ _ h6 h8, hce]
            generalize List.range m = L at e
            clear h6 h7 hd hi
            induction L generalizing b with
            | nil => simp at e; subst e; rfl
            | cons g L ih =>
              simp only [List.foldr_cons] at e
              split at e
              · rename_i p q hp hq
                split at e
                · rename_i b0 r0 hb hr
                  simp only [Option.some.injEq] at e
                  have ih' := ih r0 hr
                  obtain ⟨v1, p1, q1⟩ := run_part (P := P) (w := w) (ti_ok hT hj) h2 hp
                  obtain ⟨v2, p2, q2⟩ := run_part (P := P) (w := w) (ti_ok hT hj) h4 hq
                  unfold Op.eqItems
                  rw [run_bind_ok p1, run_bind_ok p2, run_bind_ok (eqD_ok hT hE d n _ _ _ _ _ _ hb q1 q2)]
                  cases b0 with
                  | false => simp at e; subst e; rfl
                  | true => simp at e; subst e; simpa using ih'
                · cases e
              · cases e
      · rename_i a c hne1 hne2
        have := rep_v_inv hu; subst this
        have := rep_v_inv hv; subst this
        exact eqV_ok (ti_ok hT hi) (d + n) e
      · cases e
theorem x_eqC {op : BinOp} {neg : Bool} {xt yt : TypeId} {x y : Operand} {ds es : D} {b : Bool} (ts : List Nat) (hT : TabOK P tab) (ho : o.op = .binOp op xt x y yt)
    (hop : isNeq op = some neg) (hE : ∀ t ∈ ts, EqT P t) (hg : P.eqGuardType P.depth xt = false) (hx : opD t x = some ds) (hy : opD t y = some es) (ha : (match ds, es with | .agg _, .agg _ => true | _, _ => false) = true) (e : eqD tab ts 8 xt ds es = some b) : ∀ H a w, TOK H t a → ∃ v, (execOp a.eval o).run P w = .ok (.value v) w ∧ Rep H (.v (.bool (bif neg then !b else b))) v :=
  fun H a w kt => by
    refine ⟨.bool (bif neg then !b else b), ?_, rep_v rfl⟩
    have hu := opD_ok kt hx
    have hv := opD_ok kt hy
    cases ds <;> cases es <;> simp only [Bool.false_eq_true] at ha
    have hq := eqD_ok (w := w) hT hE 9992 8 xt _ _ _ _ b e hu hv
    obtain ⟨us, h1, h2⟩ := rep_agg_inv hu
    obtain ⟨vs, h3, h4⟩ := rep_agg_inv hv
    unfold execOp
    rw [ho]
    refine exec_v ?_
    rw [h1, h3] at hq ⊢
    rw [run_bind_ok (run_eqGuard_agg w op xt x y _ _ hg)]
    have hq' : (Op.equalIn 10000 xt (.agg us.toArray) (.agg vs.toArray)).run P w = .ok b w := hq
    cases op <;> simp [isNeq] at hop <;> subst hop
    · rw [run_eql_struct, hq']; rfl
    · rw [run_neq_struct, hq']; rfl
theorem p_eqC {i : Nat} {op : BinOp} {neg : Bool} {xt yt : TypeId} {x y : Operand} {ds es : D} {b : Bool} (ts : List Nat) (hT : TabOK P tab) (ho : o.op = .binOp op xt x y yt) (hw : wantD ops t o = some true) (hd : o.dst = some i) (hi : Nat.blt i N = true)
    (hop : isNeq op = some neg) (hE : ∀ t ∈ ts, EqT P t) (hg : P.eqGuardType P.depth xt = false) (hx : opD t x = some ds) (hy : opD t y = some es) (ha : (match ds, es with | .agg _, .agg _ => true | _, _ => false) = true) (e : eqD tab ts 8 xt ds es = some b)
    (g : opsD P C N ops rest ⟨(i, .v (.bool (bif neg then !b else b))) :: t, h, k⟩ Q) : opsD P C N ops (o :: rest) ⟨t, h, k⟩ Q :=
  ops_run (s := ⟨t, h, k⟩) hw hd hi (x_eqC ts hT ho hop hE hg hx hy ha e) g
end
section
variable {P : Program} {C : Ctx} {N : Nat} {ops rest : List Oper} {o : Oper} {t : List (Nat × D)} {h : List (Nat × Blk)} {k : List (Nat × Value)} {Q : Exit → S → Prop} {tab : List (Option TI)}
end
end Go.Proofs.Ytjfkolocfhmbnaa.Ab
namespace Go.Proofs.Ytjfkolocfhmbnaa.Ab
open Go
set_option linter.all false
structure TLadderRank where
  g0 : Int
  g1 : Int
def eTLadderRank (x : TLadderRank) : D := .agg [.v (.int .u64 x.g0), .v (.int .u64 x.g1)]
noncomputable def ladder_of (a0 : Int) : Option (TLadderRank) :=
  (bif (decide (a0 < (0 : Int))) then some (⟨(IntKind.u64.wrap (0 - (IntKind.u64.wrap a0))), (0 : Int)⟩ : TLadderRank) else some (⟨(IntKind.u64.wrap a0), (1 : Int)⟩ : TLadderRank))
set_option maxRecDepth 100000 in
set_option maxHeartbeats 2000000 in
theorem ladder_of_ok (a0 : Int) (r : TLadderRank) (h0 : ladder_of a0 = some r) : CallsD Try.prog 20 [.v (.int .i64 a0)] [] [] (fun d h k => d = eTLadderRank r ∧ h = [] ∧ k = []) := by
  have hm := yes_of h0
  unfold ladder_of at hm
  clear h0
  refine enterX htab Try.func20 rfl rfl rfl rfl rfl (fun C => ?_)
  refine wpD_sr ?_
  refine p_alloc htab rfl rfl rfl rfl rfl rfl rfl (fun b1 => ?_)
  refine ops_nt ?_
  refine wpD_seq ?_
  refine wpD_sr ?_
  refine pu ?_
  refine pu ?_
  refine ops_nt ?_
  refine wpD_cond rfl (fun hc3 => ?_) (fun hc3 => ?_)
  ·replace hm := yes_t hc3 hm
   refine wpD_sr ?_
   iterate 3 refine pu ?_
   refine p_buildA (r := [.v (.int .u64 (IntKind.u64.wrap (0 - (IntKind.u64.wrap a0)))), .v (.int .u64 (0 : Int))]) htab rfl rfl rfl rfl rfl rfl rfl rfl rfl ?_
   refine pS0 (ds' := [.v (.int .u64 (IntKind.u64.wrap (0 - (IntKind.u64.wrap a0)))), .v (.int .u64 (0 : Int))]) ?_
   refine ops_nt ?_
   refine wpD_ret ?_
   refine then_ret ?_
   have er4 := yes_eq hm; subst er4
   refine rP (t' := [(2, .ptr b1 0)]) [0] [] 0 (wC wN) (lC 0 lN) ?_
   exact ⟨rfl, rfl, rfl⟩
  ·replace hm := yes_f hc3 hm
   refine wpD_skip ?_
   refine then_normal ?_
   refine wpD_sr ?_
   refine pu ?_
   refine pu ?_
   refine p_buildA (r := [.v (.int .u64 (IntKind.u64.wrap a0)), .v (.int .u64 (1 : Int))]) htab rfl rfl rfl rfl rfl rfl rfl rfl rfl ?_
   refine pS0 (ds' := [.v (.int .u64 (IntKind.u64.wrap a0)), .v (.int .u64 (1 : Int))]) ?_
   refine ops_nt ?_
   refine wpD_ret ?_
   have er5 := yes_eq hm; subst er5
   refine rP (t' := [(2, .ptr b1 0)]) [0] [] 0 (wC wN) (lC 0 lN) ?_
   exact ⟨rfl, rfl, rfl⟩
noncomputable def cmp_isNaN_uint64 (a0 : Int) : Option (Bool) :=
  some (a0 != a0)
set_option maxRecDepth 100000 in
set_option maxHeartbeats 2000000 in
theorem cmp_isNaN_uint64_ok (a0 : Int) (r : Bool) (h0 : cmp_isNaN_uint64 a0 = some r) : CallsD Try.prog 40 [.v (.int .u64 a0)] [] [] (fun d h k => d = .v (.bool r) ∧ h = [] ∧ k = []) := by
  have hm := yes_of h0
  unfold cmp_isNaN_uint64 at hm
  clear h0
  refine enterX htab Try.func40 rfl rfl rfl rfl rfl (fun C => ?_)
  refine wpD_sr ?_
  refine pu ?_
  refine ops_n2 ?_
  iterate 4 refine pu ?_
  refine ops_nt ?_
  refine wpD_ret ?_
  have er1 := yes_eq hm; subst er1
  refine rP (t' := [(2, .v (.bool (a0 != a0)))]) [] [] 0 (wC wN) (lT lN) ?_
  exact ⟨rfl, rfl, rfl⟩
noncomputable def cmp_Compare_uint64 (a0 : Int) (a1 : Int) : Option (Int) :=
  ((cmp_isNaN_uint64 a0).bind fun x1 => ((cmp_isNaN_uint64 a1).bind fun x2 => (bif x1 then (bif x2 then some (0 : Int) else some (-1 : Int)) else (bif x2 then some (1 : Int) else (bif (decide (a0 < a1)) then some (-1 : Int) else (bif (decide (a1 < a0)) then some (1 : Int) else some (0 : Int)))))))
set_option maxRecDepth 100000 in
set_option maxHeartbeats 2000000 in
theorem cmp_Compare_uint64_ok (a0 : Int) (a1 : Int) (r : Int) (h0 : cmp_Compare_uint64 a0 a1 = some r) : CallsD Try.prog 22 [.v (.int .u64 a0), .v (.int .u64 a1)] [] [] (fun d h k => d = .v (.int .i64 r) ∧ h = [] ∧ k = []) := by
  have hm := yes_of h0
  unfold cmp_Compare_uint64 at hm
  clear h0
  refine enterX htab Try.func22 rfl rfl rfl rfl rfl (fun C => ?_)
  refine wpD_sr ?_
  refine pu ?_
  refine ops_n2 ?_
  refine pu ?_
  obtain ⟨x1, q1, hm⟩ := yes_bind hm
  refine p_call0 (cmp_isNaN_uint64_ok a0 x1 q1) rfl rfl rfl rfl rfl Wl ?_
  rintro _ rfl
  refine pu ?_
  refine ops_n2 ?_
  refine pu ?_
  obtain ⟨x2, q2, hm⟩ := yes_bind hm
  refine p_call0 (cmp_isNaN_uint64_ok a1 x2 q2) rfl rfl rfl rfl rfl Wl ?_
  rintro _ rfl
  refine pu ?_
  refine ops_nt ?_
  refine wpD_seq ?_
  refine wpD_sr ?_
  refine pu ?_
  refine ops_nt ?_
  refine wpD_cond rfl (fun hc5 => ?_) (fun hc5 => ?_)
  ·replace hm := yes_t hc5 hm
   refine wpD_seq ?_
   refine wpD_sr ?_
   refine pu ?_
   refine ops_nt ?_
   refine wpD_cond rfl (fun hc7 => ?_) (fun hc7 => ?_)
   ·replace hm := yes_t hc7 hm
    refine wpD_sr ?_
    refine pu ?_
    refine ops_nt ?_
    refine wpD_ret ?_
    refine then_ret ?_
    refine then_ret ?_
    have er8 := yes_eq hm; subst er8
    refine rP (t' := [(4, .v (.int .i64 (0 : Int)))]) [] [] 0 (wC wN) (lT lN) ?_
    exact ⟨rfl, rfl, rfl⟩
   ·replace hm := yes_f hc7 hm
    refine wpD_skip ?_
    refine then_normal ?_
    refine wpD_sr ?_
    refine pu ?_
    refine ops_nt ?_
    refine wpD_ret ?_
    refine then_ret ?_
    have er9 := yes_eq hm; subst er9
    refine rP (t' := [(4, .v (.int .i64 (-1 : Int)))]) [] [] 0 (wC wN) (lT lN) ?_
    exact ⟨rfl, rfl, rfl⟩
  ·replace hm := yes_f hc5 hm
   refine wpD_skip ?_
   refine then_normal ?_
   refine wpD_seq ?_
   refine wpD_sr ?_
   refine pu ?_
   refine ops_nt ?_
   refine wpD_cond rfl (fun hc11 => ?_) (fun hc11 => ?_)
   ·replace hm := yes_t hc11 hm
    refine wpD_sr ?_
    refine pu ?_
    refine ops_nt ?_
    refine wpD_ret ?_
    refine then_ret ?_
    have er12 := yes_eq hm; subst er12
    refine rP (t' := [(4, .v (.int .i64 (1 : Int)))]) [] [] 0 (wC wN) (lT lN) ?_
    exact ⟨rfl, rfl, rfl⟩
   ·replace hm := yes_f hc11 hm
    refine wpD_skip ?_
    refine then_normal ?_
    refine wpD_seq ?_
    refine wpD_sr ?_
    iterate 3 refine pu ?_
    refine ops_nt ?_
    refine wpD_cond rfl (fun hc14 => ?_) (fun hc14 => ?_)
    ·replace hm := yes_t hc14 hm
     refine wpD_sr ?_
     refine pu ?_
     refine ops_nt ?_
     refine wpD_ret ?_
     refine then_ret ?_
     have er15 := yes_eq hm; subst er15
     refine rP (t' := [(4, .v (.int .i64 (-1 : Int)))]) [] [] 0 (wC wN) (lT lN) ?_
     exact ⟨rfl, rfl, rfl⟩
    ·replace hm := yes_f hc14 hm
     refine wpD_skip ?_
     refine then_normal ?_
     refine wpD_seq ?_
     refine wpD_sr ?_
     iterate 3 refine pu ?_
     refine ops_nt ?_
     refine wpD_cond rfl (fun hc16 => ?_) (fun hc16 => ?_)
     ·replace hm := yes_t hc16 hm
      refine wpD_sr ?_
      refine pu ?_
      refine ops_nt ?_
      refine wpD_ret ?_
      refine then_ret ?_
      have er17 := yes_eq hm; subst er17
      refine rP (t' := [(4, .v (.int .i64 (1 : Int)))]) [] [] 0 (wC wN) (lT lN) ?_
      exact ⟨rfl, rfl, rfl⟩
     ·replace hm := yes_f hc16 hm
      refine wpD_skip ?_
      refine then_normal ?_
      refine wpD_sr ?_
      refine pu ?_
      refine ops_nt ?_
      refine wpD_ret ?_
      have er18 := yes_eq hm; subst er18
      refine rP (t' := [(4, .v (.int .i64 (0 : Int)))]) [] [] 0 (wC wN) (lT lN) ?_
      exact ⟨rfl, rfl, rfl⟩
noncomputable def cmp_Or_int (a0 : List Int) : Option (Int) :=
  (Option.bind (α := (Unit) ⊕ (Int)) (loopM (fun (s15 : Int) => (bif (decide (s15 < (a0.length : Int))) then ((idx a0 s15).bind fun x25 => (bif (x25 != (0 : Int)) then some (.done (.inr x25)) else some (.next (IntKind.i64.wrap (s15 + (1 : Int)))))) else some (.done (.inl ())))) (0 : Int)) (Sum.elim (fun y14 => some (0 : Int)) (fun r => some r)))
set_option maxRecDepth 100000 in
set_option maxHeartbeats 2000000 in
theorem cmp_Or_int_ok (a0 : List Int) (r : Int) (h0 : cmp_Or_int a0 = some r) : CallsD Try.prog 21 [.lst 1 (a0.map eI64) .no] [] [] (fun d h k => d = .v (.int .i64 r) ∧ h = [] ∧ k = []) := by
  have hm := yes_of h0
  unfold cmp_Or_int at hm
  clear h0
  refine enterX htab Try.func21 rfl rfl rfl rfl rfl (fun C => ?_)
  refine wpD_sr ?_
  refine pu ?_
  refine ops_n2 ?_
  refine pu ?_
  refine ops_nt ?_
  refine wpD_seq ?_
  refine wpD_sr ?_
  refine pu ?_
  refine p_lenL htab rfl rfl rfl rfl rfl rfl rfl (by first | exact map_len | rfl) ?_
  refine pu ?_
  refine ops_nt ?_
  obtain ⟨x14, q14, ho14⟩ := yes_bind hm
  refine wpD_midX (τ := Unit) (Y := Unit) (fun y14 z14 => (⟨[(3, .v (.int .i64 (0 : Int)))], [], []⟩ : S)) x14 ?_ ?_
  ·clear hm; have hm := yes_of q14
   refine wpD_block ?_
   obtain ⟨u15, hl15, hq15⟩ := yes_m hm
   refine loop_M (Y := Unit) hl15 (fun s15 z15 => (⟨[(3, .v (.int .i64 (0 : Int))), (6, .lst 1 (a0.map eI64) .no), (7, .v (.int .i64 (a0.length : Int))), (8, .v (.int .i64 s15))], [], []⟩ : S)) ?_ ?_
   ·skip
    exact WkX.of () (WkS.perm (WkS.cons rfl (Wk.refl _) (WkS.cons rfl (Wk.refl _) (WkS.cons rfl (Wk.refl _) (WkS.cons rfl (Wk.refl _) (WkS.nil))))) Pf Pf)
   ·intro G15 s15 z15 hm
    refine wpD_sr ?_
    refine pu ?_
    refine ops_nt ?_
    refine wpD_seq ?_
    refine wpD_cond rfl (fun hc24 => ?_) (fun hc24 => ?_)
    ·replace hm := yes_t hc24 hm
     refine wpD_skip ?_
     refine then_normal ?_
     refine wpD_seq ?_
     refine wpD_block ?_
     refine wpD_sr ?_
     obtain ⟨x25, q25, hm⟩ := yes_bind hm
     refine p_elem htab rfl rfl rfl rfl rfl rfl rfl rfl rfl rfl (idx_nonneg q25) (idx_map q25) ?_
     refine p_loadEl htab rfl rfl rfl rfl rfl rfl rfl rfl ?_
     refine pu ?_
     refine ops_n2 ?_
     iterate 3 refine pu ?_
     refine ops_nt ?_
     refine wpD_cond rfl (fun hc26 => ?_) (fun hc26 => ?_)
     ·replace hm := yes_t hc26 hm
      refine wpD_sr ?_
      refine pu ?_
      refine pu ?_
      refine ops_nt ?_
      refine wpD_ret ?_
      refine block_ret ?_
      refine then_ret ?_
      have e15 := lp_done hm; subst e15; clear hm; have hm := hq15
      refine then_ret ?_
      refine block_ret ?_
      have e14 := yes_eq hm; subst e14; refine midX_inr ?_; clear hm; have hm := ho14; simp only [Sum.elim_inr] at hm
      refine then_ret ?_
      have er27 := yes_eq hm; subst er27
      refine rP (t' := [(2, .v (.int .i64 x25))]) [] [] 0 (wC wN) (lT lN) ?_
      exact ⟨rfl, rfl, rfl⟩
     ·replace hm := yes_f hc26 hm
      refine wpD_skip ?_
      refine block_normal ?_
      refine then_normal ?_
      refine wpD_region ?_
      refine pu ?_
      refine pu ?_
      refine ops_nil ?_
      refine then_normal ⟨_, lp_next hm, ?_⟩
      exact WkX.of () (WkS.perm (WkS.cons rfl (Wk.refl _) (WkS.cons rfl (Wk.refl _) (WkS.cons rfl (Wk.refl _) (WkS.cons rfl (Wk.refl _) (WkS.nil))))) Pf Pf)
    ·replace hm := yes_f hc24 hm
     refine wpD_exit ?_
     refine then_exit ?_
     have e15 := lp_done hm; subst e15; clear hm; have hm := hq15
     refine then_exit ?_
     refine block_hit ?_
     have e14 := yes_eq hm; subst e14
     refine midX_inl ?_
     exact WkX.of () (WkS.perm (WkS.cons rfl (Wk.refl _) (WkS.nil)) Pf Pf)
  ·intro y14 s14 hx14 hw14; subst hx14; clear hm; have hm := ho14; simp only [Sum.elim_inl] at hm; clear q14 ho14
   refine then_normal ?_
   refine wpD_wkX hw14 (fun z14 => ?_)
   refine wpD_sr ?_
   refine pu ?_
   refine pu ?_
   refine ops_nt ?_
   refine wpD_ret ?_
   have er28 := yes_eq hm; subst er28
   refine rP (t' := [(2, .v (.int .i64 (0 : Int)))]) [] [] 0 (wC wN) (lT lN) ?_
   exact ⟨rfl, rfl, rfl⟩
noncomputable def ladder_ahead (a0 : Int) (a1 : Int) : Option (Int) :=
  ((ladder_of a0).bind fun x1 => ((ladder_of a1).bind fun x2 => (bif (x1.g0 == x2.g0 && (x1.g1 == x2.g1 && true)) then some (0 : Int) else ((cmp_Compare_uint64 x1.g0 x2.g0).bind fun x8 => ((cmp_Compare_uint64 x1.g1 x2.g1).bind fun x9 => ((cmp_Or_int ([x8, x9] : List Int)).bind fun x10 => some x10))))))
set_option maxRecDepth 100000 in
set_option maxHeartbeats 2000000 in
theorem ladder_ahead_ok (a0 : Int) (a1 : Int) (r : Int) (h0 : ladder_ahead a0 a1 = some r) : CallsD Try.prog 11 [.v (.int .i64 a0), .v (.int .i64 a1)] [] [] (fun d h k => d = .v (.int .i64 r) ∧ h = [] ∧ k = []) := by
  have hm := yes_of h0
  unfold ladder_ahead at hm
  clear h0
  refine enterX htab Try.func11 rfl rfl rfl rfl rfl (fun C => ?_)
  refine wpD_sr ?_
  refine pu ?_
  refine ops_n2 ?_
  refine pu ?_
  obtain ⟨x1, q1, hm⟩ := yes_bind hm
  refine p_call0 (ladder_of_ok a0 x1 q1) rfl rfl rfl rfl rfl Wl ?_
  rintro _ rfl
  refine pu ?_
  obtain ⟨x2, q2, hm⟩ := yes_bind hm
  refine p_call0 (ladder_of_ok a1 x2 q2) rfl rfl rfl rfl rfl Wl ?_
  rintro _ rfl
  refine p_alloc htab rfl rfl rfl rfl rfl rfl rfl (fun b3 => ?_)
  refine p_alloc htab rfl rfl rfl rfl rfl rfl rfl (fun b4 => ?_)
  refine pS0 (ds' := [.v (.int .u64 x1.g0), .v (.int .u64 x1.g1)]) ?_
  refine pS1 (ds' := [.v (.int .u64 x2.g0), .v (.int .u64 x2.g1)]) ?_
  refine ops_nt ?_
  refine wpD_seq ?_
  refine wpD_sr ?_
  refine p_load (d := eTLadderRank x1) 0 htab rfl rfl rfl rfl rfl rfl rfl rfl ?_
  refine p_load (d := eTLadderRank x2) 1 htab rfl rfl rfl rfl rfl rfl rfl rfl ?_
  refine p_eqC eqn50 htab rfl rfl rfl rfl rfl eqs50 eqg50 rfl rfl rfl rfl ?_
  refine ops_nt ?_
  refine wpD_cond rfl (fun hc6 => ?_) (fun hc6 => ?_)
  ·replace hm := yes_t hc6 hm
   refine wpD_sr ?_
   refine pu ?_
   refine ops_nt ?_
   refine wpD_ret ?_
   refine then_ret ?_
   have er7 := yes_eq hm; subst er7
   refine rP (t' := [(4, .v (.int .i64 (0 : Int)))]) [] [] 0 (wC wN) (lT lN) ?_
   exact ⟨rfl, rfl, rfl⟩
  ·replace hm := yes_f hc6 hm
   refine wpD_skip ?_
   refine then_normal ?_
   refine wpD_seq ?_
   obtain ⟨x8, q8, hm⟩ := yes_bind hm
   refine wpD_draws 9 [] [[],[0],[],[2],[0,2],[],[5],[],[7]] [0,2,4,5,7] [[],[0],[],[2],[0,1,2,3],[],[5],[],[7],[0,1,2,3,4,5,6,7,8],[0,1,2,3,4,5,6,7,8,9],[0,1,2,3,4,5,6,7,8,9,10],[0,1,2,3,4,5,6,7,8,9,10,11]] (by kernel_rfl) (by kernel_rfl) (by kernel_rfl) (by rfl) (by rfl) (by kernel_rfl) ?_
   iterate 5 apply Exists.intro
   intro bs
   refine z_e rfl rfl (x_elemA htab rfl rfl rfl rfl rfl rfl (by decide) (by decide)) rfl rfl rfl rfl rfl rfl ?_
   refine z_qM rfl rfl (xm_load 0 htab rfl rfl rfl rfl rfl) rfl rfl rfl rfl rfl rfl ?_
   refine z_e rfl rfl (x_elemA htab rfl rfl rfl rfl rfl rfl (by decide) (by decide)) rfl rfl rfl rfl rfl rfl ?_
   refine z_qM rfl rfl (xm_load 1 htab rfl rfl rfl rfl rfl) rfl rfl rfl rfl rfl rfl ?_
   refine z_call rfl rfl (cmp_Compare_uint64_ok x1.g0 x2.g0 x8 q8) rfl rfl Wl rfl rfl rfl rfl rfl rfl ?_
   refine z_e rfl rfl (x_elemA htab rfl rfl rfl rfl rfl rfl (by decide) (by decide)) rfl rfl rfl rfl rfl rfl ?_
   refine z_qM rfl rfl (xm_load 0 htab rfl rfl rfl rfl rfl) rfl rfl rfl rfl rfl rfl ?_
   refine z_e rfl rfl (x_elemA htab rfl rfl rfl rfl rfl rfl (by decide) (by decide)) rfl rfl rfl rfl rfl rfl ?_
   refine z_qM rfl rfl (xm_load 1 htab rfl rfl rfl rfl rfl) rfl rfl rfl rfl rfl rfl ?_
   refine z_nil rfl rfl (fun e he => by simp [isAl] at he) ?_
   obtain ⟨x9, q9, hm⟩ := yes_bind hm
   refine p_call0 (cmp_Compare_uint64_ok x1.g1 x2.g1 x9 q9) rfl rfl rfl rfl rfl Wl ?_
   rintro _ rfl
   refine p_lit htab rfl rfl rfl rfl rfl rfl rfl rfl rfl rfl rfl rfl rfl rfl ?_
   refine p_eq (i := 24) (d' := .lst 1 (([x8, x9] : List Int).map eI64) .full) rfl (Wk.lst0 (.cons (WkC.refl _) (.cons (WkC.refl _) (.nil)))) ?_
   obtain ⟨x10, q10, hm⟩ := yes_bind hm
   refine p_call0 (cmp_Or_int_ok ([x8, x9] : List Int) x10 q10) rfl rfl rfl rfl rfl (WkL.cons (Wk.no) Wl) ?_
   rintro _ rfl
   refine pu ?_
   refine ops_nt ?_
   refine wpD_ret ?_
   have er11 := yes_eq hm; subst er11
   refine rP (t' := [(4, .v (.int .i64 x10))]) [] [] 0 (wC wN) (lT lN) ?_
   exact ⟨rfl, rfl, rfl⟩
end Go.Proofs.Ytjfkolocfhmbnaa.Ab
namespace Go.Proofs.Ytjfkolocfhmbnaa.Ab
open Go
set_option linter.all false
section
variable {α : Type} [Inhabited α]
def rowE (enc : α → Value) (xs : List α) : List D := xs.map fun x => .v (enc x)
theorem flat_v {H : Hp} {enc : α → Value} : ∀ {xs : List α} {us : List Value}, FlatR H 1 (rowE enc xs) us → us = xs.map enc
  | [], us, h => h
  | x :: xs, us, h => by
    obtain ⟨u1, u2, rfl, hl, ⟨h1, h2⟩, h3⟩ := h
    simp only [RepC] at h1
    subst h1
    rw [flat_v h3]; rfl
theorem v_flat {H : Hp} {enc : α → Value} (he : ∀ x, one (enc x) = true) : ∀ (xs : List α), FlatR H 1 (rowE enc xs) (xs.map enc)
  | [] => rfl
  | x :: xs => ⟨[enc x], xs.map enc, rfl, rfl, ⟨by simp [RepC], by simp [he]⟩, v_flat he xs⟩
theorem row_holds {H : Hp} {w : World} {r : Nat} {enc : α → Value} {xs : List α} {z : Z3} (h : BlkOK H w (r, .row 1 (rowE enc xs) (SL z))) :
    (xs = [] ∧ z.2.1 = 0) ∨ ∃ b m T rest, z = (some ⟨b, 0, none⟩, xs.length, m) ∧ xs.length ≤ m ∧ 0 < m ∧ w.heap[b]? = some (.cells (xs.map enc ++ rest).toArray T (0, 0)) ∧ m ≤ (xs.map enc ++ rest).length ∧ (∀ o, H ⟨b, o, none⟩ = none) ∧ claims [(r, Blk.row 1 (rowE enc xs) (SL z))] [] = [b] ∧ Sort.Holds enc w b 0 xs.toArray := by
  rcases h with ⟨a, e, h⟩ | ⟨b, m, us, rest, T, e, h0, hm, h1, h2, h3, h4⟩
  · left
    simp only [Value.slice.injEq] at e
    exact ⟨by simpa [rowE] using h, e.2.1⟩
  · right
    have hu := flat_v h2
    subst hu
    simp only [rowE, List.length_map] at h0 e
    obtain ⟨z1, z2, z3⟩ := z
    simp only [Value.slice.injEq] at e
    obtain ⟨rfl, rfl, rfl⟩ := e
    refine ⟨b, z3, T, rest, rfl, h0, hm, h1, by simpa using h3, h4, by simp [claims, blkClaim, sliceClaim, hm], fun j hj => ?_⟩
    have hj' : j < xs.length := by simpa using hj
    constructor
    · simp only [World.cell?, h1, Option.isSome_none, Bool.false_eq_true, if_false, List.getElem?_toArray, Nat.zero_add]
      rw [List.getElem?_append_left (by simpa using hj'), List.getElem?_map, List.getElem?_eq_getElem hj']
      simp [hj']
    · simp [World.frozen?, h1]
theorem put_heap {w : World} {enc : α → Value} {b n : Nat} {fs xs : List α} {rest : List Value} {T : TypeId} {os : Array Obj} (h1 : w.heap[b]? = some (.cells (xs.map enc ++ rest).toArray T (0, 0))) (hl : fs.length = xs.length) :
    (Sort.grow (Sort.putRow enc (Sort.ahead w n) b 0 fs.toArray) os).heap[b]? = some (.cells (fs.map enc ++ rest).toArray T (0, 0)) ∧ (∀ i, i < w.heap.size → i ≠ b → (Sort.grow (Sort.putRow enc (Sort.ahead w n) b 0 fs.toArray) os).heap[i]? = w.heap[i]?) ∧ w.heap.size ≤ (Sort.grow (Sort.putRow enc (Sort.ahead w n) b 0 fs.toArray) os).heap.size ∧ Env w (Sort.grow (Sort.putRow enc (Sort.ahead w n) b 0 fs.toArray) os) := by
  have hb := (Array.getElem?_eq_some_iff.1 h1).1
  have hsz : (Sort.putRow enc (Sort.ahead w n) b 0 fs.toArray).heap.size = w.heap.size := by simp [Sort.putRow, Sort.mapBlock, Sort.ahead]
  refine ⟨?_, fun i hi hne => ?_, by simp [Sort.grow, hsz], ⟨rfl, rfl, rfl, by simp [Sort.grow, Sort.putRow, Sort.mapBlock, Sort.ahead]⟩⟩
  · show ((Sort.putRow enc (Sort.ahead w n) b 0 fs.toArray).heap ++ os)[b]? = _
    rw [Array.getElem?_append_left (by rw [hsz]; exact hb)]
    simp only [Sort.putRow, Sort.mapBlock, Sort.ahead, Array.getElem?_modify, if_true, h1, Option.map_some, Sort.onCells]
    congr 2
    unfold Sort.putCells
    apply Array.ext_getElem?
    intro k
    simp only [Array.getElem?_mapIdx, List.getElem?_toArray, List.size_toArray, Nat.zero_le, true_and, Nat.zero_add, Nat.sub_zero]
    by_cases hk : k < fs.length
    · rw [List.getElem?_append_left (by simpa [← hl] using hk), List.getElem?_append_left (by simpa using hk)]
      simp only [List.getElem?_map, List.getElem?_eq_getElem hk, List.getElem?_eq_getElem (show k < xs.length by omega), Option.map_some, if_pos hk]
      congr 1
      rw [getElem!_pos fs.toArray k (by simpa using hk)]
      simp
    · rw [List.getElem?_append_right (by simp; omega), List.getElem?_append_right (by simp; omega)]
      simp only [List.length_map, hl]
      cases rest[k - xs.length]? with
      | none => rfl
      | some v => simp only [Option.map_some]; rw [if_neg (by omega)]
  · show ((Sort.putRow enc (Sort.ahead w n) b 0 fs.toArray).heap ++ os)[i]? = _
    rw [Array.getElem?_append_left (by rw [hsz]; exact hi)]
    simp only [Sort.putRow, Sort.mapBlock, Sort.ahead, Array.getElem?_modify]
    rw [if_neg (Ne.symm hne)]
theorem row_put {H : Hp} {w : World} {enc : α → Value} (he : ∀ x, one (enc x) = true) {b m n n' : Nat} {fs xs : List α} {rest : List Value} {T : TypeId} {os : Array Obj} (hA : Ag H w) (h1 : w.heap[b]? = some (.cells (xs.map enc ++ rest).toArray T (0, 0))) (h0 : xs.length ≤ m) (hm : 0 < m) (h3 : m ≤ (xs.map enc ++ rest).length) (h4 : ∀ o, H ⟨b, o, none⟩ = none) (hl : fs.length = xs.length) (hn : n' ≤ fs.length) :
    Core ⟨H, w, [b]⟩ H [(0, .row 1 (rowE enc (fs.take n')) (SL (some ⟨b, 0, none⟩, n', m)))] [] (Sort.grow (Sort.putRow enc (Sort.ahead w n) b 0 fs.toArray) os) := by
  obtain ⟨p1, p2, p3, p4⟩ := put_heap (n := n) (os := os) h1 hl
  refine ⟨fun a v e => ?_, Hp.le_refl H, fun _ _ x => .inl x, fun i hi hne => p2 i hi (by simpa using hne), p3, ?_, by simp, ?_, ?_, p4⟩
  · have hc := hA a v e
    have hlt := hA.lt e
    by_cases q : a.block = b
    · obtain ⟨ab, ao, as_⟩ := a
      simp only at q; subst q
      cases as_ with
      | some sp => simp [World.cell?, h1] at hc
      | none => rw [h4 ao] at e; cases e
    · simp only [World.cell?] at hc ⊢
      rw [p2 _ hlt q]; exact hc
  · intro p hp
    simp only [List.mem_singleton] at hp; subst hp
    refine .inr ⟨b, m, (fs.take n').map enc, (fs.drop n').map enc ++ rest, T, by simp [SL, rowE]; omega, by simp [rowE]; omega, hm, ?_, v_flat he _, ?_, h4⟩
    · rw [p1, ← List.append_assoc, ← List.map_append, List.take_append_drop]
    · rw [← List.append_assoc, ← List.map_append, List.take_append_drop]
      simp only [List.length_append, List.length_map] at h3 ⊢
      omega
  · simp [claims, blkClaim, sliceClaim, hm]
  · intro x hx; simp [claims, blkClaim, sliceClaim, hm] at hx; subst hx; exact .inl (by simp)
theorem row_same {H : Hp} {w : World} {r : Nat} {kk : Nat} {xs : List D} {y : Value} (hA : Ag H w) (h : BlkOK H w (r, .row kk xs y)) (nd : (claims [(r, Blk.row kk xs y)] []).Nodup) : Core ⟨H, w, claims [(r, Blk.row kk xs y)] []⟩ H [(0, .row kk xs y)] [] w := by
  refine ⟨hA, Hp.le_refl H, fun _ _ x => .inl x, fun _ _ _ => rfl, Nat.le_refl _, ?_, by simp, ?_, ?_, Env.refl w⟩
  · intro p hp
    simp only [List.mem_singleton] at hp; subst hp
    exact h
  · have e : claims [(0, Blk.row kk xs y)] [] = claims [(r, Blk.row kk xs y)] [] := rfl
    rw [e]; exact nd
  · intro x hx
    exact .inl (by simpa [claims, blkClaim] using hx)
theorem sort_row {P : Program} {f : FuncId} {enc : α → Value} (he : ∀ x, one (enc x) = true) {S : List α → List α} (hS : ∀ xs, (S xs).length = xs.length) (hg : Goes P f) (ex : List Value) (dx : List D) (hdx : ∀ H vs, RepsV H dx vs → vs = ex)
    (hc : ∀ (b m : Nat) (xs : List α) (w : World), Sort.Holds enc w b 0 xs.toArray → b < w.heap.size → xs.length < 4611686018427387904 → Calls P f (.slice (some ⟨b, 0, none⟩) xs.length m :: ex).toArray w fun e w' => e = .returned (.tuple #[]) ∧ ∃ n os, w' = Sort.grow (Sort.putRow enc (Sort.ahead w n) b 0 (S xs).toArray) os)
    (hn : ∀ (a : Option Addr) (m : Nat) (w : World), Calls P f (.slice a 0 m :: ex).toArray w fun e w' => e = .returned (.tuple #[]) ∧ w' = w)
    (xs : List α) (z : Z3) (hb : xs.length < 4611686018427387904) : CallsD P f (.v (SL z) :: dx) [(0, .row 1 (rowE enc xs) (SL z))] [] (fun d h k => d = .tup [] ∧ h = [(0, .row 1 (rowE enc (S xs)) (SL z))] ∧ k = []) := by
  refine ⟨hg, fun H w vs hv hA hblk _ nd => ?_⟩
  simp only [RepsV] at hv
  obtain ⟨u, us, rfl, hu, hus⟩ := hv
  have := rep_v_inv hu
  subst this
  have := hdx H us hus
  subst this
  have hrow := hblk _ (List.mem_singleton.2 rfl)
  have unit : ∀ H', Rep H' (.tup []) (.tuple #[]) := fun H' => ⟨by simp only [Value.cells, RepC]; exact ⟨[], rfl, by simp [RepsV]⟩, rfl⟩
  rcases row_holds hrow with ⟨rfl, h0⟩ | ⟨b, m, T, rest, rfl, h0, hm, h1, h3, h4, hcl, hH⟩
  · obtain ⟨z1, z2, z3⟩ := z
    simp only at h0; subst h0
    have hS0 : S [] = [] := List.eq_nil_of_length_eq_zero (by rw [hS]; rfl)
    refine (hn z1 z3 w).mono fun e w' ⟨he', hw⟩ => ?_
    subst hw
    exact ⟨_, H, .tup [], _, [], he', unit H, row_same hA hrow nd, rfl, by rw [hS0], rfl⟩
  · refine (hc b m xs w hH (Array.getElem?_eq_some_iff.1 h1).1 hb).mono fun e w' ⟨he', n, os, hw⟩ => ?_
    subst hw
    have hp := row_put (n := n) (n' := (S xs).length) (os := os) he hA h1 h0 hm h3 h4 (hS xs) (Nat.le_refl _)
    rw [List.take_length, hS] at hp
    refine ⟨_, H, .tup [], _, [], he', unit H, ?_, rfl, rfl, rfl⟩
    rw [hcl]; exact hp
theorem cut_row {P : Program} {f : FuncId} {enc : α → Value} (he : ∀ x, one (enc x) = true) {S : List α → List α} (hS : ∀ xs, (S xs).length ≤ xs.length) (hg : Goes P f) (ex : List Value) (dx : List D) (hdx : ∀ H vs, RepsV H dx vs → vs = ex) (zr : α)
    (hc : ∀ (b m : Nat) (xs : List α) (w : World), Sort.Holds enc w b 0 xs.toArray → xs.length < 4611686018427387904 → xs.length ≤ m → Calls P f (.slice (some ⟨b, 0, none⟩) xs.length m :: ex).toArray w fun e w' => e = .returned (.slice (some ⟨b, 0, none⟩) (S xs).length m) ∧ ∃ n, w' = Sort.putRow enc (Sort.ahead w n) b 0 (S xs ++ List.replicate (xs.length - (S xs).length) zr).toArray)
    (hn : ∀ (a : Option Addr) (m : Nat) (w : World), Calls P f (.slice a 0 m :: ex).toArray w fun e w' => e = .returned (.slice a 0 m) ∧ w' = w)
    (xs : List α) (z : Z3) (hb : xs.length < 4611686018427387904) : CallsD P f (.v (SL z) :: dx) [(0, .row 1 (rowE enc xs) (SL z))] [] (fun d h k => ∃ z' : Z3, d = .v (SL z') ∧ h = [(0, .row 1 (rowE enc (S xs)) (SL z'))] ∧ k = []) := by
  refine ⟨hg, fun H w vs hv hA hblk _ nd => ?_⟩
  simp only [RepsV] at hv
  obtain ⟨u, us, rfl, hu, hus⟩ := hv
  have := rep_v_inv hu
  subst this
  have := hdx H us hus
  subst this
  have hrow := hblk _ (List.mem_singleton.2 rfl)
  rcases row_holds hrow with ⟨rfl, h0⟩ | ⟨b, m, T, rest, rfl, h0, hm, h1, h3, h4, hcl, hH⟩
  · obtain ⟨z1, z2, z3⟩ := z
    simp only at h0; subst h0
    have hS0 : S [] = [] := List.eq_nil_of_length_eq_zero (by have := hS []; simpa using this)
    refine (hn z1 z3 w).mono fun e w' ⟨he', hw⟩ => ?_
    subst hw
    exact ⟨SL (z1, 0, z3), H, .v (SL (z1, 0, z3)), _, [], he', rep_v rfl, row_same hA hrow nd, (z1, 0, z3), rfl, by rw [hS0], rfl⟩
  · refine (hc b m xs w hH hb h0).mono fun e w' ⟨he', n, hw⟩ => ?_
    have hl : (S xs ++ List.replicate (xs.length - (S xs).length) zr).length = xs.length := by
      have := hS xs; simp; omega
    have hp := row_put (n := n) (n' := (S xs).length) (os := #[]) (fs := S xs ++ List.replicate (xs.length - (S xs).length) zr) he hA h1 h0 hm h3 h4 hl (by simp)
    rw [List.take_left, Sort.grow_empty, ← hw] at hp
    refine ⟨SL (some ⟨b, 0, none⟩, (S xs).length, m), H, .v (SL (some ⟨b, 0, none⟩, (S xs).length, m)), _, [], he', rep_v rfl, ?_, (some ⟨b, 0, none⟩, (S xs).length, m), rfl, rfl, rfl⟩
    rw [hcl]; exact hp
end
end Go.Proofs.Ytjfkolocfhmbnaa.Ab
namespace Go.Proofs.Ytjfkolocfhmbnaa.Ab
open Go Go.RowKit
set_option linter.all false
theorem compactUp_le {α : Type} [Inhabited α] [DecidableEq α] (d : Array α) : ∀ m, (Lib.compactUpTo d m).length ≤ m
  | 0 => by simp [Lib.compactUpTo]
  | m + 1 => by
    have := compactUp_le d m
    rw [Lib.compactUpTo_succ, List.length_append]
    split <;> simp <;> omega
theorem compact_le {α : Type} [Inhabited α] [DecidableEq α] (xs : List α) : (Lib.compact xs).length ≤ xs.length := compactUp_le _ _
def len62I (xs : List Int) : Bool := decide (xs.length < 4611686018427387904)
def sortI (xs : List Int) : List Int := xs.mergeSort fun x y => decide (x ≤ y)
def compactI (xs : List Int) : List Int := Lib.compact xs
theorem row_int (xs : List Int) : rowE (Value.int .i64) xs = xs.map eI64 := rfl
end Go.Proofs.Ytjfkolocfhmbnaa.Ab
namespace Go.Proofs.Ytjfkolocfhmbnaa.Ab
open Go Go.RowKit Go.Shelf Go.Proofs.Ytjfkolocfhmbnaa
set_option linter.all false
theorem sortI_ok (a0 : List Int) (z : Z3) (h : len62I a0 = true) : CallsD Try.prog 13 [.v (SL z)] [(0, .row 1 (a0.map eI64) (SL z))] [] (fun d h k => d = .tup [] ∧ h = [(0, .row 1 ((sortI a0).map eI64) (SL z))] ∧ k = []) := by
  have := sort_row (P := Try.prog) (f := 13) (enc := Value.int .i64) (fun _ => rfl) (S := fun xs => xs.mergeSort fun x y => decide (x ≤ y)) (fun xs => List.length_mergeSort _) ⟨_, Try.func13, rfl, rfl⟩ [] [] (fun H vs h => by simpa [RepsV] using h)
    (fun b m xs w hH hb hl => by simpa using Try.slices_Sort_int b 0 m xs w hH hb hl) (fun a m w => Try.slices_Sort_int_none a m w) a0 z (by simpa [len62I] using h)
  rw [row_int, row_int] at this
  exact this
theorem compactI_ok (a0 : List Int) (z : Z3) (h : len62I a0 = true) : CallsD Try.prog 12 [.v (SL z)] [(0, .row 1 (a0.map eI64) (SL z))] [] (fun d h k => ∃ y0, d = .v (SL y0) ∧ h = [(0, .row 1 ((compactI a0).map eI64) (SL y0))] ∧ k = []) := by
  have := cut_row (P := Try.prog) (f := 12) (enc := Value.int .i64) (fun _ => rfl) (S := Lib.compact) compact_le ⟨_, Try.func12, rfl, rfl⟩ [] [] (fun H vs h => by simpa [RepsV] using h) 0
    (fun b m xs w hH hl hm => Try.slices_Compact_int b 0 m xs w hH (by omega) hm) (fun a m w => Try.slices_Compact_int_empty a m w) a0 z (by simpa [len62I] using h)
  rw [row_int, row_int] at this
  exact this
end Go.Proofs.Ytjfkolocfhmbnaa.Ab
namespace Go.Proofs.Ytjfkolocfhmbnaa.Ab
open Go Go.RowKit Go.Shelf Go.Proofs.Ytjfkolocfhmbnaa
set_option linter.all false
def inI (n : Int) : Bool := decide (-9223372036854775808 ≤ n) && decide (n < 9223372036854775808)
abbrev WI := {n : Int // -9223372036854775808 ≤ n ∧ n < 9223372036854775808}
instance : Inhabited WI := ⟨⟨0, by omega⟩⟩
def toW (n : Int) : WI := if h : -9223372036854775808 ≤ n ∧ n < 9223372036854775808 then ⟨n, h⟩ else ⟨0, by omega⟩
theorem toW_val {n : Int} (h : inI n = true) : (toW n).1 = n := by
  unfold inI at h
  simp only [Bool.and_eq_true, decide_eq_true_eq] at h
  unfold toW; rw [dif_pos h]
def cfA (x y : Int) : Int := if x.natAbs < y.natAbs then -1 else if y.natAbs < x.natAbs then 1 else if x < y then -1 else if y < x then 1 else 0
theorem or2 (a b : Int) : cmp_Or_int [a, b] = some (if a = 0 then b else a) := by
  unfold cmp_Or_int
  by_cases ha : a = 0
  · subst ha
    rw [loopM_next (s' := (1 : Int)) (by simp [idx]; rfl)]
    by_cases hb : b = 0
    · subst hb
      rw [loopM_next (s' := (2 : Int)) (by simp [idx]; rfl), loopM_done (t := .inl ()) (by simp)]; rfl
    · have hb' : (b != 0) = true := by simpa using hb
      rw [loopM_done (t := .inr b) (by simp [idx, hb'])]; rfl
  · have ha' : (a != 0) = true := by simpa using ha
    rw [loopM_done (t := .inr a) (by simp [idx, ha']), if_neg ha]; rfl
theorem cmpU_eq (a b : Int) : cmp_Compare_uint64 a b = some (if a < b then -1 else if b < a then 1 else 0) := by
  unfold cmp_Compare_uint64
  have h : ∀ x : Int, cmp_isNaN_uint64 x = some false := fun x => by unfold cmp_isNaN_uint64; simp
  rw [h, h]
  simp only [Option.bind_some, cond_false]
  by_cases h1 : a < b
  · simp [h1]
  · by_cases h2 : b < a
    · simp [h1, h2]
    · simp [h1, h2]
theorem of_eq (n : WI) : ladder_of n.1 = some ⟨(n.1.natAbs : Int), if n.1 < 0 then 0 else 1⟩ := by
  obtain ⟨n, h⟩ := n
  unfold ladder_of
  simp only [IntKind.wrap_u64]
  by_cases h1 : n < 0
  · rw [decide_eq_true h1, cond_true, if_pos h1]
    congr 2; omega
  · rw [decide_eq_false h1, cond_false, if_neg h1]
    congr 2; omega
theorem ahead_eq (x y : WI) : ladder_ahead x.1 y.1 = some (cfA x.1 y.1) := by
  unfold ladder_ahead
  rw [of_eq, Option.bind_some, of_eq, Option.bind_some, cmpU_eq, Option.bind_some, cmpU_eq, Option.bind_some, or2, Option.bind_some]
  obtain ⟨x, hx⟩ := x
  obtain ⟨y, hy⟩ := y
  simp only
  unfold cfA
  by_cases e1 : x.natAbs = y.natAbs
  · by_cases e2 : x = y
    · subst e2; simp
    · have : (x < 0 ∧ 0 < y ∧ x < y) ∨ (0 < x ∧ y < 0 ∧ y < x) := by omega
      rcases this with ⟨h1, h2, h3⟩ | ⟨h1, h2, h3⟩
      · have h4 : ¬ y < 0 := by omega
        simp [e1, h1, h3, h4]
      · have h4 : ¬ x < 0 := by omega
        have h5 : ¬ x < y := by omega
        simp [e1, h2, h3, h4, h5]
  · have e1' : ¬ ((x.natAbs : Int) = (y.natAbs : Int)) := by omega
    rw [show ((x.natAbs : Int) == (y.natAbs : Int)) = false by simpa using e1', Bool.false_and, cond_false]
    by_cases h1 : x.natAbs < y.natAbs
    · have h1' : (x.natAbs : Int) < (y.natAbs : Int) := by omega
      simp only [if_pos h1, if_pos h1']; rfl
    · have h1' : ¬ (x.natAbs : Int) < (y.natAbs : Int) := by omega
      have h2 : y.natAbs < x.natAbs := by omega
      have h2' : (y.natAbs : Int) < (x.natAbs : Int) := by omega
      simp only [if_neg h1, if_pos h2, if_neg h1', if_pos h2']; rfl
def cfW (x y : WI) : Int := cfA x.1 y.1
theorem cfA_lt (x y : Int) : cfA x y < 0 ↔ (x.natAbs < y.natAbs ∨ x.natAbs = y.natAbs ∧ x < y) := by
  unfold cfA
  split
  · constructor <;> intro h <;> omega
  · split
    · constructor <;> intro h <;> omega
    · split
      · constructor <;> intro h <;> omega
      · split <;> constructor <;> intro h <;> omega
theorem swo_W : Sort.SWO (ltOf cfW) where
  irrefl x := by unfold ltOf cfW; rw [decide_eq_false_iff_not, cfA_lt]; omega
  trans x y z h1 h2 := by
    unfold ltOf cfW at *
    rw [decide_eq_true_iff, cfA_lt] at *; omega
  ntrans x y z h1 h2 := by
    unfold ltOf cfW at *
    rw [decide_eq_false_iff_not, cfA_lt] at *; omega
theorem tot_W (x y : WI) (h1 : ltOf cfW x y = false) (h2 : ltOf cfW y x = false) : x = y := by
  unfold ltOf cfW at *
  rw [decide_eq_false_iff_not, cfA_lt] at *
  exact Subtype.ext (by omega)
def encW (x : WI) : Value := .int .i64 x.1
def sortA (xs : List Int) : List Int := ((xs.map toW).mergeSort fun x y => !ltOf cfW y x).map (·.1)
def len62A (xs : List Int) : Bool := decide (xs.length < 4611686018427387904) && xs.all inI
theorem row_W (ls : List WI) : rowE encW ls = (ls.map (·.1)).map eI64 := by
  unfold rowE; rw [List.map_map]; rfl
theorem row_toW {xs : List Int} (h : xs.all inI = true) : rowE encW (xs.map toW) = xs.map eI64 := by
  rw [List.all_eq_true] at h
  have e : (xs.map toW).map (fun x : WI => x.1) = xs.map id := by
    rw [List.map_map]; exact List.map_congr_left fun x hx => toW_val (h x hx)
  rw [row_W, e, List.map_id]
theorem ahead_calls (x y : WI) (W : World) : Calls Try.prog 11 #[encW x, encW y] W fun e w' => e = .returned (.int .i64 (cfW x y)) ∧ ∃ q os', w' = Sort.grow (W.drewN q) os' :=
  grown_of (us := [encW x, encW y]) (ladder_ahead_ok x.1 y.1 _ (ahead_eq x y)) W (by simp only [RepsV]; exact ⟨_, _, rfl, rep_v rfl, _, _, rfl, rep_v rfl, rfl⟩)
theorem sortA_ok (a0 : List Int) (z : Z3) (h : len62A a0 = true) : CallsD Try.prog 10 [.v (SL z), .fn (.func 11) [] []] [(0, .row 1 (a0.map eI64) (SL z))] [] (fun d h k => d = .tup [] ∧ h = [(0, .row 1 ((sortA a0).map eI64) (SL z))] ∧ k = []) := by
  unfold len62A at h
  rw [Bool.and_eq_true] at h
  have := sort_row (P := Try.prog) (f := 10) (enc := encW) (fun _ => rfl) (S := fun xs => xs.mergeSort fun x y => !ltOf cfW y x) (fun xs => List.length_mergeSort _) ⟨_, Try.func10, rfl, rfl⟩ [.func (.func 11) #[] #[]] [.fn (.func 11) [] []] (fun H vs h => by
      simp only [RepsV] at h
      obtain ⟨u, us, rfl, hu, rfl⟩ := h
      obtain ⟨vs, ws, rfl, h1, h2⟩ := rep_fn_inv hu
      simp only [RepsV] at h1 h2
      subst h1 h2; rfl)
    (fun b m xs w hH hb hl => by
      have := Try.slices_SortFunc_total encW (fun _ => rfl) cfW swo_W 11 #[] b 0 m xs.toArray w (fun args w => by rfl) (fun _ _ _ _ x y => ahead_calls x y _) hH hb (by simpa using hl) tot_W
      simpa [sortWorld] using this)
    (fun a m w => Try.slices_SortFunc_none (α := WI) a m _ w) (a0.map toW) z (by simpa using h.1)
  rw [row_toW h.2, row_W] at this
  exact this
end Go.Proofs.Ytjfkolocfhmbnaa.Ab
namespace Go.Proofs.Ytjfkolocfhmbnaa.Ab
open Go
set_option linter.all false
def slices_Clone_int_int (a0 : List Int) : Option (List Int) := app 8 a0 []
theorem slices_Clone_int_int_row_ok (a0 : List Int) (r : List Int) (h0 : slices_Clone_int_int a0 = some r) : CallsD Try.prog 9 [.lst 1 (a0.map eI64) .no] [] [] (fun d h k => ∃ y0, d = .v (SL y0) ∧ h = [(0, Blk.row 1 (r.map eI64) (SL y0))] ∧ k = []) := by
  obtain ⟨hr, hb⟩ := app_ok h0
  simp only [List.append_nil] at hr
  subst hr
  have q : app 8 ([] : List Int) r = some r := app_of (by simp only [List.length_nil, Nat.zero_add]; simpa using hb)
  refine enterX htab Try.func9 rfl rfl rfl rfl rfl (fun C => ?_)
  refine wpD_seq ?_
  refine wpD_region ?_
  refine p_pure htab rfl rfl rfl rfl ?_
  refine ops_nil ?_
  refine then_normal ?_
  refine wpD_seq ?_
  refine wpD_seq ?_
  refine wpD_region ?_
  refine p_pure htab rfl rfl rfl rfl ?_
  refine p_isnil htab rfl rfl rfl rfl rfl rfl rfl (fun b hn => ?_)
  refine ops_nil ?_
  refine then_normal ?_
  refine wpD_cond rfl (fun hc => ?_) (fun hc => ?_)
  · have hnil := hn hc
    simp only [List.map_eq_nil_iff] at hnil
    subst hnil
    refine wpD_seq ?_
    refine wpD_region ?_
    refine p_pure htab rfl rfl rfl rfl ?_
    refine ops_nil ?_
    refine then_normal ?_
    refine wpD_ret ?_
    refine then_ret ?_
    refine retX.rowN (i := 2) 1 rfl (fun y => ?_)
    refine retX.of (s' := ⟨[(2, .v (SL y))], [(0, Blk.row 1 (([] : List Int).map eI64) (SL y))], []⟩) (WkS.perm (WkS.cons rfl (Wk.refl _) (WkS.nil)) (List.Perm.refl _) (List.Perm.refl _)) (retD_mk (hh := [_]) (.inl rfl) (resL_cons (resOne_tmp rfl) (resL_nil)) (List.Sublist.refl _) (List.Sublist.refl _) ?_)
    exact ⟨y, rfl, rfl, rfl⟩
  · refine wpD_skip ?_
    refine then_normal ?_
    refine wpD_seq ?_
    refine wpD_region ?_
    refine p_lit0 htab rfl rfl rfl rfl rfl rfl rfl rfl ?_
    refine p_pure htab rfl rfl rfl rfl ?_
    refine p_app0R htab rfl rfl rfl rfl rfl rfl rfl rfl rfl rfl rfl rfl rfl rfl rfl (by simpa using hb) rfl (fun v => ?_)
    refine p_pure htab rfl rfl rfl rfl ?_
    refine ops_nil ?_
    refine then_normal ?_
    refine wpD_ret ?_
    refine retX.of (s' := ⟨[(2, .v (SL v))], [(0, Blk.row 1 (r.map eI64) (SL v))], []⟩) (WkS.perm (WkS.cons rfl (Wk.refl _) (WkS.nil)) (List.Perm.refl _) (List.Perm.refl _)) (retD_mk (hh := [_]) (.inl rfl) (resL_cons (resOne_tmp rfl) (resL_nil)) (List.Sublist.refl _) (List.Sublist.refl _) ?_)
    exact ⟨v, rfl, rfl, rfl⟩
noncomputable def ladder_around (a0 : Int) : Option (List Int) :=
  (Option.bind (α := List Int) (bif (decide ((-9223372036854775808 : Int) < a0)) then ((app 8 ([a0] : List Int) ([(IntKind.i64.wrap (a0 - (1 : Int)))] : List Int)).bind fun x5 => some x5) else some ([a0] : List Int)) fun y3 => (bif (decide (a0 < (9223372036854775807 : Int))) then ((app 8 y3 ([(IntKind.i64.wrap (a0 + (1 : Int)))] : List Int)).bind fun x8 => some x8) else some y3))
set_option maxRecDepth 100000 in
set_option maxHeartbeats 2000000 in
theorem ladder_around_ok (a0 : Int) (r : List Int) (h0 : ladder_around a0 = some r) : CallsD Try.prog 16 [.v (.int .i64 a0)] [] [] (fun d h k => ∃ y0, d = .lst 1 (r.map eI64) (.cur y0) ∧ h = [] ∧ k = [(1, y0)]) := by
  have hm := yes_of h0
  unfold ladder_around at hm
  clear h0
  refine enterX htab Try.func16 rfl rfl rfl rfl rfl (fun C => ?_)
  refine wpD_sr ?_
  refine pu ?_
  refine ops_n2 ?_
  refine pu ?_
  refine p_lit htab rfl rfl rfl rfl rfl rfl rfl rfl rfl rfl rfl rfl rfl rfl ?_
  refine p_eq (i := 5) (d' := .lst 1 (([a0] : List Int).map eI64) .full) rfl (Wk.lst0 (.cons (WkC.refl _) (.nil))) ?_
  refine pu ?_
  refine ops_nt ?_
  refine wpD_seq ?_
  refine wpD_sr ?_
  refine pu ?_
  refine pu ?_
  refine ops_nt ?_
  obtain ⟨y3, q3, ho3⟩ := yes_bind hm
  refine wpD_mid (Y := Value) (fun z3 => (⟨[(0, .v (.int .i64 a0)), (3, .lst 1 (y3.map eI64) (.cur z3))], [], [(1, z3)]⟩ : S)) ?_ ?_
  ·clear hm; have hm := yes_of q3
   refine wpD_cond rfl (fun hc4 => ?_) (fun hc4 => ?_)
   ·replace hm := yes_t hc4 hm
    refine wpD_region ?_
    iterate 3 refine pu ?_
    refine p_lit htab rfl rfl rfl rfl rfl rfl rfl rfl rfl rfl rfl rfl rfl rfl ?_
    refine p_eq (i := 11) (d' := .lst 1 (([(IntKind.i64.wrap (a0 - (1 : Int)))] : List Int).map eI64) .full) rfl (Wk.lst0 (.cons (WkC.refl _) (.nil))) ?_
    obtain ⟨x5, q5, hm⟩ := yes_bind hm
    refine p_appF htab rfl rfl rfl rfl rfl rfl rfl rfl rfl rfl rfl rfl rfl rfl rfl (app_bound q5) (fun v5 => ?_)
    refine p_mapD (i := 12) q5 rfl ?_
    refine pu ?_
    refine ops_nil ?_
    have e3 := yes_eq hm; subst e3
    refine ⟨rfl, ?_⟩
    exact WkX.of v5 (WkS.perm (WkS.cons rfl (Wk.refl _) (WkS.cons rfl (Wk.refl _) (WkS.nil))) Pf Pf)
   ·replace hm := yes_f hc4 hm
    refine wpD_skip ?_
    have e3 := yes_eq hm; subst e3
    refine ⟨rfl, ?_⟩
    refine WkX.tokF (i := 3) rfl (fun w6 => ?_)
    exact WkX.of w6 (WkS.perm (WkS.cons rfl (Wk.refl _) (WkS.cons rfl (Wk.refl _) (WkS.nil))) Pf Pf)
  ·intro s3 hw3; clear hm; have hm := ho3; clear q3 ho3
   refine then_normal ?_
   refine wpD_wkX hw3 (fun z3 => ?_)
   refine wpD_seq ?_
   refine wpD_sr ?_
   refine pu ?_
   refine pu ?_
   refine ops_nt ?_
   refine wpD_cond rfl (fun hc7 => ?_) (fun hc7 => ?_)
   ·replace hm := yes_t hc7 hm
    refine wpD_region ?_
    iterate 3 refine pu ?_
    refine p_lit htab rfl rfl rfl rfl rfl rfl rfl rfl rfl rfl rfl rfl rfl rfl ?_
    refine p_eq (i := 18) (d' := .lst 1 (([(IntKind.i64.wrap (a0 + (1 : Int)))] : List Int).map eI64) .full) rfl (Wk.lst0 (.cons (WkC.refl _) (.nil))) ?_
    obtain ⟨x8, q8, hm⟩ := yes_bind hm
    refine p_appC 0 htab rfl rfl rfl rfl rfl rfl rfl rfl rfl rfl rfl rfl rfl rfl rfl rfl rfl (app_bound q8) (fun v8 => ?_)
    refine p_mapD (i := 19) q8 rfl ?_
    refine pu ?_
    refine ops_n2 ?_
    refine pu ?_
    refine pu ?_
    refine ops_nt ?_
    refine wpD_ret ?_
    have er9 := yes_eq hm; subst er9
    refine rP (t' := [(2, .lst 1 (x8.map eI64) (.cur v8))]) [] [0] 0 (wC wN) (lT lN) ?_
    exact ⟨v8, rfl, rfl, rfl⟩
   ·replace hm := yes_f hc7 hm
    refine wpD_skip ?_
    refine then_normal ?_
    refine wpD_sr ?_
    refine pu ?_
    refine pu ?_
    refine ops_nt ?_
    refine wpD_ret ?_
    have er10 := yes_eq hm; subst er10
    refine rP (t' := [(2, .lst 1 (y3.map eI64) (.cur z3))]) [] [0] 0 (wC wN) (lT lN) ?_
    exact ⟨z3, rfl, rfl, rfl⟩
structure TApiExpr where
  gOp : Int
  gN : Int
  gName : ByteArray
  gKids : List TApiExpr
  gAt : Int
mutual
def eTApiExpr : TApiExpr → D
  | ⟨f0, f1, f2, f3, f4⟩ => .agg [.v (.int .i64 f0), .v (.int .i64 f1), .v (.string f2), .lst 5 (eTApiExpr_l f3) .no, .v (.int .i64 f4)]
def eTApiExpr_l : List TApiExpr → List D
  | [] => []
  | x :: l => eTApiExpr x :: eTApiExpr_l l
end
theorem eTApiExpr_map : ∀ l, eTApiExpr_l l = l.map eTApiExpr
  | [] => by simp [eTApiExpr_l]
  | x :: l => by simp only [eTApiExpr_l, List.map_cons, eTApiExpr_map l]
theorem eTApiExpr_eq (x : TApiExpr) : eTApiExpr x = .agg [.v (.int .i64 x.gOp), .v (.int .i64 x.gN), .v (.string x.gName), .lst 5 (x.gKids.map eTApiExpr) .no, .v (.int .i64 x.gAt)] := by
  cases x
  simp only [eTApiExpr, eTApiExpr_map]
structure TApiStmt where
  gOp : Int
  gName : ByteArray
  gFunc : ByteArray
  gExps : List TApiExpr
  gKids : List TApiStmt
  gElse : List TApiStmt
  gAt : Int
mutual
def eTApiStmt : TApiStmt → D
  | ⟨f0, f1, f2, f3, f4, f5, f6⟩ => .agg [.v (.int .i64 f0), .v (.string f1), .v (.string f2), .lst 5 (f3.map eTApiExpr) .no, .lst 7 (eTApiStmt_l f4) .no, .lst 7 (eTApiStmt_l f5) .no, .v (.int .i64 f6)]
def eTApiStmt_l : List TApiStmt → List D
  | [] => []
  | x :: l => eTApiStmt x :: eTApiStmt_l l
end
theorem eTApiStmt_map : ∀ l, eTApiStmt_l l = l.map eTApiStmt
  | [] => by simp [eTApiStmt_l]
  | x :: l => by simp only [eTApiStmt_l, List.map_cons, eTApiStmt_map l]
theorem eTApiStmt_eq (x : TApiStmt) : eTApiStmt x = .agg [.v (.int .i64 x.gOp), .v (.string x.gName), .v (.string x.gFunc), .lst 5 (x.gExps.map eTApiExpr) .no, .lst 7 (x.gKids.map eTApiStmt) .no, .lst 7 (x.gElse.map eTApiStmt) .no, .v (.int .i64 x.gAt)] := by
  cases x
  simp only [eTApiStmt, eTApiStmt_map]
noncomputable def tree_Nums_1 (a0 : TApiStmt) : Option (Unit) :=
  some ()
set_option maxRecDepth 100000 in
set_option maxHeartbeats 2000000 in
theorem tree_Nums_1_ok (a0 : TApiStmt) (r : Unit) (h0 : tree_Nums_1 a0 = some r) : CallsD Try.prog 26 [eTApiStmt a0] [] [] (fun d h k => d = .tup [] ∧ h = [] ∧ k = []) := by
  have hm := yes_of h0
  unfold tree_Nums_1 at hm
  clear h0
  refine enterX htab Try.func26 rfl rfl rfl rfl rfl (fun C => ?_)
  refine w_eq (i := 0) rfl (Wk.of_eq (eTApiStmt_eq a0)) ?_
  refine wpD_region ?_
  refine p_box rfl rfl rfl rfl rfl rfl rfl (fun b1 => ?_)
  refine ops_nil ?_
  have er2 := yes_eq hm; subst er2
  refine rP (t' := []) [] [] 0 wN lN ?_
  exact ⟨rfl, rfl, rfl⟩
structure TTreeBagInt where
  gL : List Int
noncomputable def tree_bag_int_add_r (m0 : TTreeBagInt) (a1 : Int) : Option (TTreeBagInt) :=
  ((app 8 m0.gL ([a1] : List Int)).bind fun x1 => some (⟨x1⟩ : TTreeBagInt))
set_option maxRecDepth 100000 in
set_option maxHeartbeats 2000000 in
theorem tree_bag_int_add_r_ok (m0 : TTreeBagInt) (a1 : Int) (o0 : Nat) (T0 : TypeId) (z0_0 : Z3) (r : TTreeBagInt) (h0 : tree_bag_int_add_r m0 a1 = some r) : CallsD Try.prog 28 [.ptr o0 0, .v (.int .i64 a1)] [(o0, Blk.cells [.v (SL z0_0)] T0), (0, Blk.row 1 (m0.gL.map eI64) (SL z0_0))] [] (fun d h k => ∃ y0, d = .tup [] ∧ h = [(o0, Blk.cells [.v (SL y0)] T0), (0, Blk.row 1 (r.gL.map eI64) (SL y0))] ∧ k = []) := by
  have hm := yes_of h0
  unfold tree_bag_int_add_r at hm
  clear h0
  refine enterX htab Try.func28 rfl rfl rfl rfl rfl (fun C => ?_)
  refine wpD_region ?_
  iterate 4 refine pu ?_
  refine pL 0 ?_
  refine pu ?_
  refine p_lit htab rfl rfl rfl rfl rfl rfl rfl rfl rfl rfl rfl rfl rfl rfl ?_
  refine p_eq (i := 10) (d' := .lst 1 (([a1] : List Int).map eI64) .full) rfl (Wk.lst0 (.cons (WkC.refl _) (.nil))) ?_
  obtain ⟨x1, q1, hm⟩ := yes_bind hm
  refine p_appR2 1 htab rfl rfl rfl rfl rfl rfl rfl rfl rfl rfl rfl rfl rfl rfl rfl rfl (app_bound q1) (app_map q1) (fun v1 => ?_)
  refine pu ?_
  refine pu ?_
  refine pS0 (ds' := [.v (SL v1)]) ?_
  refine ops_nil ?_
  have er2 := yes_eq hm; subst er2
  refine rP (t' := []) [0,0] [] 2 wN lN ?_
  exact ⟨v1, rfl, rfl, rfl⟩
noncomputable def tree_Nums_2_r (a0 : TApiExpr) (m0 : TTreeBagInt) : Option (TTreeBagInt) :=
  (bif (a0.gOp == (1 : Int)) then ((tree_bag_int_add_r m0 a0.gN).bind fun x4 => some x4) else some m0)
set_option maxRecDepth 100000 in
set_option maxHeartbeats 2000000 in
theorem tree_Nums_2_r_ok (a0 : TApiExpr) (m0 : TTreeBagInt) (o0 : Nat) (T0 : TypeId) (z0_0 : Z3) (r : TTreeBagInt) (h0 : tree_Nums_2_r a0 m0 = some r) : CallsD Try.prog 27 [eTApiExpr a0, .ptr o0 0] [(o0, Blk.cells [.v (SL z0_0)] T0), (0, Blk.row 1 (m0.gL.map eI64) (SL z0_0))] [] (fun d h k => ∃ y0, d = .tup [] ∧ h = [(o0, Blk.cells [.v (SL y0)] T0), (0, Blk.row 1 (r.gL.map eI64) (SL y0))] ∧ k = []) := by
  have hm := yes_of h0
  unfold tree_Nums_2_r at hm
  clear h0
  refine enterX htab Try.func27 rfl rfl rfl rfl rfl (fun C => ?_)
  refine w_eq (i := 0) rfl (Wk.of_eq (eTApiExpr_eq a0)) ?_
  refine wpD_sr ?_
  refine p_box rfl rfl rfl rfl rfl rfl rfl (fun b1 => ?_)
  refine ops_n2 ?_
  refine pu ?_
  refine pL 2 ?_
  refine pu ?_
  refine ops_nt ?_
  refine wpD_cond rfl (fun hc2 => ?_) (fun hc2 => ?_)
  ·replace hm := yes_t hc2 hm
   refine wpD_region ?_
   refine pu ?_
   refine pL 2 ?_
   obtain ⟨x4, q4, hm⟩ := yes_bind hm
   refine pG (tree_bag_int_add_r_ok m0 a0.gN o0 T0 z0_0 x4 q4) Wl Pf Pf ?_
   rintro _ _ _ ⟨w3, rfl, rfl, rfl⟩
   refine ops_nil ?_
   have er5 := yes_eq hm; subst er5
   refine rP (t' := []) [0,0] [] 2 wN lN ?_
   exact ⟨w3, rfl, rfl, rfl⟩
  ·replace hm := yes_f hc2 hm
   refine wpD_skip ?_
   have er6 := yes_eq hm; subst er6
   refine rP (t' := []) [0,0] [] 2 wN lN ?_
   exact ⟨z0_0, rfl, rfl, rfl⟩
noncomputable def tree_walk_1_r_b (g0 : (TApiExpr) → (TTreeBagInt) → Option (TTreeBagInt)) (a0 : TApiExpr) (m1 : TTreeBagInt) : Option (TTreeBagInt) :=
  ((tree_Nums_2_r a0 m1).bind fun x3 => (Option.bind (α := List Int) (loopM (fun (s30 : Int × List Int) => (bif (decide (s30.1 < (a0.gKids.length : Int))) then ((idx a0.gKids s30.1).bind fun x50 => ((g0 x50 (⟨s30.2⟩ : TTreeBagInt)).bind fun x53 => some (.next ((IntKind.i64.wrap (s30.1 + (1 : Int))), x53.gL)))) else some (.done s30.2))) ((0 : Int), x3.gL)) fun y29 => some (⟨y29⟩ : TTreeBagInt)))
set_option maxRecDepth 100000 in
set_option maxHeartbeats 2000000 in
theorem tree_walk_1_r_b_ok (g0 : (TApiExpr) → (TTreeBagInt) → Option (TTreeBagInt)) (hg0 : ∀ (a0 : TApiExpr) (m1 : TTreeBagInt) (o0 : Nat) (T0 : TypeId) (o1 : Nat) (T1 : TypeId) (z1_0 : Z3) (o2 : Nat) (T2 : TypeId) (r : TTreeBagInt) (h0 : g0 a0 m1 = some r), CallsD Try.prog 50 [eTApiExpr a0, .ptr o0 0, .ptr o2 0] [(o0, Blk.cells [.fn (.func 27) [] [.ptr o1 0]] T0), (o1, Blk.cells [.v (SL z1_0)] T1), (o2, Blk.cells [.fn (.func 50) [] [.ptr o0 0, .ptr o2 0]] T2), (0, Blk.row 1 (m1.gL.map eI64) (SL z1_0))] [] (fun d h k => ∃ y0, d = .tup [] ∧ h = [(o0, Blk.cells [.fn (.func 27) [] [.ptr o1 0]] T0), (o1, Blk.cells [.v (SL y0)] T1), (o2, Blk.cells [.fn (.func 50) [] [.ptr o0 0, .ptr o2 0]] T2), (0, Blk.row 1 (r.gL.map eI64) (SL y0))] ∧ k = [])) (a0 : TApiExpr) (m1 : TTreeBagInt) (o0 : Nat) (T0 : TypeId) (o1 : Nat) (T1 : TypeId) (z1_0 : Z3) (o2 : Nat) (T2 : TypeId) (r : TTreeBagInt) (h0 : tree_walk_1_r_b g0 a0 m1 = some r) : CallsD Try.prog 50 [eTApiExpr a0, .ptr o0 0, .ptr o2 0] [(o0, Blk.cells [.fn (.func 27) [] [.ptr o1 0]] T0), (o1, Blk.cells [.v (SL z1_0)] T1), (o2, Blk.cells [.fn (.func 50) [] [.ptr o0 0, .ptr o2 0]] T2), (0, Blk.row 1 (m1.gL.map eI64) (SL z1_0))] [] (fun d h k => ∃ y0, d = .tup [] ∧ h = [(o0, Blk.cells [.fn (.func 27) [] [.ptr o1 0]] T0), (o1, Blk.cells [.v (SL y0)] T1), (o2, Blk.cells [.fn (.func 50) [] [.ptr o0 0, .ptr o2 0]] T2), (0, Blk.row 1 (r.gL.map eI64) (SL y0))] ∧ k = []) := by
  have hm := yes_of h0
  unfold tree_walk_1_r_b at hm
  clear h0
  refine enterX htab Try.func50 rfl rfl rfl rfl rfl (fun C => ?_)
  refine w_eq (i := 0) rfl (Wk.of_eq (eTApiExpr_eq a0)) ?_
  refine wpD_sr ?_
  refine p_box rfl rfl rfl rfl rfl rfl rfl (fun b1 => ?_)
  refine ops_n2 ?_
  refine pL 0 ?_
  refine p_load (d := .agg [.v (.int .i64 a0.gOp), .v (.int .i64 a0.gN), .v (.string a0.gName), .lst 5 (a0.gKids.map eTApiExpr) .no, .v (.int .i64 a0.gAt)]) 4 htab rfl rfl rfl rfl rfl rfl rfl rfl ?_
  obtain ⟨x3, q3, hm⟩ := yes_bind hm
  refine p_callV (tree_Nums_2_r_ok a0 m1 o1 T1 z1_0 x3 q3) rfl rfl rfl rfl rfl rfl rfl (WkL.cons (Wk.trans (Wk.agg (WkR.refl _)) (Wk.of_eq (eTApiExpr_eq a0).symm)) (WkL.cons (Wk.refl _) Wl)) ((perm_at (j := 1) rfl).trans (List.Perm.cons _ ((perm_at (j := 2) rfl).trans (List.Perm.cons _ Pf)))) Pf ?_
  rintro _ _ _ ⟨w2, rfl, rfl, rfl⟩
  refine ops_n2 ?_
  refine pu ?_
  refine pL 4 ?_
  refine p_lenL htab rfl rfl rfl rfl rfl rfl rfl (by first | exact map_len | rfl) ?_
  refine pu ?_
  refine ops_nt ?_
  obtain ⟨y29, q29, ho29⟩ := yes_bind hm
  refine wpD_mid (Y := Z3) (fun z29 => (⟨[], [(0, Blk.row 1 (y29.map eI64) (SL z29)), (o1, Blk.cells [.v (SL z29)] T1), (o0, Blk.cells [.fn (.func 27) [] [.ptr o1 0]] T0), (o2, Blk.cells [.fn (.func 50) [] [.ptr o0 0, .ptr o2 0]] T2)], []⟩ : S)) ?_ ?_
  ·clear hm; have hm := yes_of q29
   refine wpD_block ?_
   obtain ⟨u30, hl30, hq30⟩ := yes_m hm
   refine loop_M (Y := Z3) hl30 (fun s30 z30 => (⟨[(2, .ptr o2 0), (10, .lst 5 (a0.gKids.map eTApiExpr) .no), (11, .v (.int .i64 (a0.gKids.length : Int))), (12, .v (.int .i64 s30.1))], [(0, Blk.row 1 (s30.2.map eI64) (SL z30)), (o1, Blk.cells [.v (SL z30)] T1), (o0, Blk.cells [.fn (.func 27) [] [.ptr o1 0]] T0), (o2, Blk.cells [.fn (.func 50) [] [.ptr o0 0, .ptr o2 0]] T2)], []⟩ : S)) ?_ ?_
   ·skip
    exact WkX.of w2 (WkS.perm (WkS.cons rfl (Wk.refl _) (WkS.cons rfl (Wk.refl _) (WkS.cons rfl (Wk.refl _) (WkS.cons rfl (Wk.refl _) (WkS.nil))))) ((perm_at (j := 1) rfl).trans (List.Perm.cons _ ((perm_at (j := 0) rfl).trans (List.Perm.cons _ ((perm_at (j := 0) rfl).trans (List.Perm.cons _ ((perm_at (j := 0) rfl).trans (List.Perm.cons _ Pf)))))))) Pf)
   ·intro G30 s30 z30 hm
    refine wpD_sr ?_
    refine pu ?_
    refine ops_nt ?_
    refine wpD_seq ?_
    refine wpD_cond rfl (fun hc49 => ?_) (fun hc49 => ?_)
    ·replace hm := yes_t hc49 hm
     refine wpD_skip ?_
     refine then_normal ?_
     refine wpD_seq ?_
     refine wpD_block ?_
     refine wpD_sr ?_
     obtain ⟨x50, q50, hm⟩ := yes_bind hm
     refine p_elem htab rfl rfl rfl rfl rfl rfl rfl rfl rfl rfl (idx_nonneg q50) (idx_map q50) ?_
     refine p_eq (i := 14) rfl (Wk.of_eq (congrArg D.el (eTApiExpr_eq x50))) ?_
     refine p_loadEl (d := .agg [.v (.int .i64 x50.gOp), .v (.int .i64 x50.gN), .v (.string x50.gName), .lst 5 (x50.gKids.map eTApiExpr) .no, .v (.int .i64 x50.gAt)]) htab rfl rfl rfl rfl rfl rfl rfl rfl ?_
     refine p_alloc htab rfl rfl rfl rfl rfl rfl rfl (fun b51 => ?_)
     refine pS4 (ds' := [.v (.int .i64 x50.gOp), .v (.int .i64 x50.gN), .v (.string x50.gName), .lst 5 (x50.gKids.map eTApiExpr) .no, .v (.int .i64 x50.gAt)]) ?_
     refine ops_nt ?_
     refine wpD_region ?_
     refine pL 3 ?_
     refine p_load (d := .agg [.v (.int .i64 x50.gOp), .v (.int .i64 x50.gN), .v (.string x50.gName), .lst 5 (x50.gKids.map eTApiExpr) .no, .v (.int .i64 x50.gAt)]) 4 htab rfl rfl rfl rfl rfl rfl rfl rfl ?_
     obtain ⟨x53, q53, hm⟩ := yes_bind hm
     refine p_callV (hg0 x50 (⟨s30.2⟩ : TTreeBagInt) o0 T0 o1 T1 z30 o2 T2 x53 q53) rfl rfl rfl rfl rfl rfl rfl (WkL.cons (Wk.trans (Wk.agg (WkR.refl _)) (Wk.of_eq (eTApiExpr_eq x50).symm)) (WkL.cons (Wk.refl _) (WkL.cons (Wk.refl _) Wl))) ((perm_at (j := 2) rfl).trans (List.Perm.cons _ ((perm_at (j := 1) rfl).trans (List.Perm.cons _ ((perm_at (j := 1) rfl).trans (List.Perm.cons _ ((perm_at (j := 0) rfl).trans (List.Perm.cons _ Pf)))))))) Pf ?_
     rintro _ _ _ ⟨w52, rfl, rfl, rfl⟩
     refine ops_nil ?_
     refine block_normal ?_
     refine then_normal ?_
     refine wpD_region ?_
     refine pu ?_
     refine pu ?_
     refine ops_nil ?_
     refine then_normal ⟨_, lp_next hm, ?_⟩
     exact WkX.of w52 (WkS.perm (WkS.cons rfl (Wk.refl _) (WkS.cons rfl (Wk.refl _) (WkS.cons rfl (Wk.refl _) (WkS.cons rfl (Wk.refl _) (WkS.nil))))) ((perm_at (j := 3) rfl).trans (List.Perm.cons _ ((perm_at (j := 1) rfl).trans (List.Perm.cons _ ((perm_at (j := 0) rfl).trans (List.Perm.cons _ ((perm_at (j := 0) rfl).trans (List.Perm.cons _ Pf)))))))) Pf)
    ·replace hm := yes_f hc49 hm
     refine wpD_exit ?_
     refine then_exit ?_
     have e30 := lp_done hm; subst e30; clear hm; have hm := hq30
     refine then_exit ?_
     refine block_hit ?_
     have e29 := yes_eq hm; subst e29
     refine ⟨rfl, ?_⟩
     exact WkX.of z30 (WkS.perm (WkS.nil) Pf Pf)
  ·intro s29 hw29; clear hm; have hm := ho29; clear q29 ho29
   refine retX.wkX hw29 (fun z29 => ?_)
   have er54 := yes_eq hm; subst er54
   refine rP (t' := []) [2,1,1,0] [] 4 wN lN ?_
   exact ⟨z29, rfl, rfl, rfl⟩
noncomputable def tree_walk_1_r_g : Nat → ((TApiExpr) → (TTreeBagInt) → Option (TTreeBagInt))
  | 0 => (fun _ _ => none)
  | n + 1 => (tree_walk_1_r_b ((tree_walk_1_r_g n)))
theorem tree_walk_1_r_g_ok : ∀ n, (∀ (a0 : TApiExpr) (m1 : TTreeBagInt) (o0 : Nat) (T0 : TypeId) (o1 : Nat) (T1 : TypeId) (z1_0 : Z3) (o2 : Nat) (T2 : TypeId) (r : TTreeBagInt) (h0 : (tree_walk_1_r_g n) a0 m1 = some r), CallsD Try.prog 50 [eTApiExpr a0, .ptr o0 0, .ptr o2 0] [(o0, Blk.cells [.fn (.func 27) [] [.ptr o1 0]] T0), (o1, Blk.cells [.v (SL z1_0)] T1), (o2, Blk.cells [.fn (.func 50) [] [.ptr o0 0, .ptr o2 0]] T2), (0, Blk.row 1 (m1.gL.map eI64) (SL z1_0))] [] (fun d h k => ∃ y0, d = .tup [] ∧ h = [(o0, Blk.cells [.fn (.func 27) [] [.ptr o1 0]] T0), (o1, Blk.cells [.v (SL y0)] T1), (o2, Blk.cells [.fn (.func 50) [] [.ptr o0 0, .ptr o2 0]] T2), (0, Blk.row 1 (r.gL.map eI64) (SL y0))] ∧ k = []))
  | 0 => fun _ _ _ _ _ _ _ _ _ _ h0 => by cases h0
  | n + 1 => by
    have ih := tree_walk_1_r_g_ok n
    exact tree_walk_1_r_b_ok (tree_walk_1_r_g n) ih
noncomputable def tree_walk_1_r (a0 : TApiExpr) (m1 : TTreeBagInt) : Option (TTreeBagInt) := anyN fun n => (tree_walk_1_r_g n) a0 m1
theorem tree_walk_1_r_ok (a0 : TApiExpr) (m1 : TTreeBagInt) (o0 : Nat) (T0 : TypeId) (o1 : Nat) (T1 : TypeId) (z1_0 : Z3) (o2 : Nat) (T2 : TypeId) (r : TTreeBagInt) (h0 : tree_walk_1_r a0 m1 = some r) : CallsD Try.prog 50 [eTApiExpr a0, .ptr o0 0, .ptr o2 0] [(o0, Blk.cells [.fn (.func 27) [] [.ptr o1 0]] T0), (o1, Blk.cells [.v (SL z1_0)] T1), (o2, Blk.cells [.fn (.func 50) [] [.ptr o0 0, .ptr o2 0]] T2), (0, Blk.row 1 (m1.gL.map eI64) (SL z1_0))] [] (fun d h k => ∃ y0, d = .tup [] ∧ h = [(o0, Blk.cells [.fn (.func 27) [] [.ptr o1 0]] T0), (o1, Blk.cells [.v (SL y0)] T1), (o2, Blk.cells [.fn (.func 50) [] [.ptr o0 0, .ptr o2 0]] T2), (0, Blk.row 1 (r.gL.map eI64) (SL y0))] ∧ k = []) :=
  let ⟨n, hn⟩ := anyN_inv h0; (tree_walk_1_r_g_ok n) a0 m1 o0 T0 o1 T1 z1_0 o2 T2 r hn
noncomputable def tree_walk_r_b (g0 : (List TApiStmt) → (TTreeBagInt) → Option (TTreeBagInt)) (a0 : List TApiStmt) (m0 : TTreeBagInt) : Option (TTreeBagInt) :=
  (Option.bind (α := List Int) (loopM (fun (s238 : Int × List Int) => (bif (decide (s238.1 < (a0.length : Int))) then ((idx a0 s238.1).bind fun x414 => ((tree_Nums_1 x414).bind fun x416 => (Option.bind (α := List Int) (loopM (fun (s442 : Int × List Int) => (bif (decide (s442.1 < (x414.gExps.length : Int))) then ((idx x414.gExps s442.1).bind fun x462 => ((tree_walk_1_r x462 (⟨s442.2⟩ : TTreeBagInt)).bind fun x465 => some (.next ((IntKind.i64.wrap (s442.1 + (1 : Int))), x465.gL)))) else some (.done s442.2))) ((0 : Int), s238.2)) fun y441 => ((g0 x414.gKids (⟨y441⟩ : TTreeBagInt)).bind fun x467 => ((g0 x414.gElse x467).bind fun x469 => some (.next ((IntKind.i64.wrap (s238.1 + (1 : Int))), x469.gL))))))) else some (.done s238.2))) ((0 : Int), m0.gL)) fun y237 => some (⟨y237⟩ : TTreeBagInt))
set_option maxRecDepth 100000 in
set_option maxHeartbeats 2000000 in
theorem tree_walk_r_b_ok (g0 : (List TApiStmt) → (TTreeBagInt) → Option (TTreeBagInt)) (hg0 : ∀ (a0 : List TApiStmt) (m0 : TTreeBagInt) (o0 : Nat) (T0 : TypeId) (z0_0 : Z3) (r : TTreeBagInt) (h0 : g0 a0 m0 = some r), CallsD Try.prog 25 [.lst 7 (a0.map eTApiStmt) .no, .fn (.func 26) [] [], .fn (.func 27) [] [.ptr o0 0]] [(o0, Blk.cells [.v (SL z0_0)] T0), (0, Blk.row 1 (m0.gL.map eI64) (SL z0_0))] [] (fun d h k => ∃ y0, d = .tup [] ∧ h = [(o0, Blk.cells [.v (SL y0)] T0), (0, Blk.row 1 (r.gL.map eI64) (SL y0))] ∧ k = [])) (a0 : List TApiStmt) (m0 : TTreeBagInt) (o0 : Nat) (T0 : TypeId) (z0_0 : Z3) (r : TTreeBagInt) (h0 : tree_walk_r_b g0 a0 m0 = some r) : CallsD Try.prog 25 [.lst 7 (a0.map eTApiStmt) .no, .fn (.func 26) [] [], .fn (.func 27) [] [.ptr o0 0]] [(o0, Blk.cells [.v (SL z0_0)] T0), (0, Blk.row 1 (m0.gL.map eI64) (SL z0_0))] [] (fun d h k => ∃ y0, d = .tup [] ∧ h = [(o0, Blk.cells [.v (SL y0)] T0), (0, Blk.row 1 (r.gL.map eI64) (SL y0))] ∧ k = []) := by
  have hm := yes_of h0
  unfold tree_walk_r_b at hm
  clear h0
  refine enterX htab Try.func25 rfl rfl rfl rfl rfl (fun C => ?_)
  refine wpD_sr ?_
  refine p_box rfl rfl rfl rfl rfl rfl rfl (fun b1 => ?_)
  refine ops_n2 ?_
  refine p_alloc htab rfl rfl rfl rfl rfl rfl rfl (fun b2 => ?_)
  refine ops_n2 ?_
  refine pu ?_
  refine pS3 (ds' := [.fn (.func 50) [] [.ptr b1 0, .ptr b2 0]]) ?_
  refine ops_n2 ?_
  refine pu ?_
  refine p_lenL htab rfl rfl rfl rfl rfl rfl rfl (by first | exact map_len | rfl) ?_
  refine pu ?_
  refine ops_nt ?_
  obtain ⟨y237, q237, ho237⟩ := yes_bind hm
  refine wpD_mid (Y := Z3) (fun z237 => (⟨[], [(0, Blk.row 1 (y237.map eI64) (SL z237)), (o0, Blk.cells [.v (SL z237)] T0)], []⟩ : S)) ?_ ?_
  ·clear hm; have hm := yes_of q237
   refine wpD_block ?_
   obtain ⟨u238, hl238, hq238⟩ := yes_m hm
   refine loop_M (Y := Z3) hl238 (fun s238 z238 => (⟨[(1, .fn (.func 26) [] []), (5, .ptr b1 0), (6, .ptr b2 0), (12, .lst 7 (a0.map eTApiStmt) .no), (13, .v (.int .i64 (a0.length : Int))), (14, .v (.int .i64 s238.1))], [(0, Blk.row 1 (s238.2.map eI64) (SL z238)), (o0, Blk.cells [.v (SL z238)] T0), (b1, Blk.cells [.fn (.func 27) [] [.ptr o0 0]] 66), (b2, Blk.cells [.fn (.func 50) [] [.ptr b1 0, .ptr b2 0]] 66)], []⟩ : S)) ?_ ?_
   ·skip
    exact WkX.of z0_0 (WkS.perm (WkS.cons rfl (Wk.refl _) (WkS.cons rfl (Wk.refl _) (WkS.cons rfl (Wk.refl _) (WkS.cons rfl (Wk.refl _) (WkS.cons rfl (Wk.refl _) (WkS.cons rfl (Wk.refl _) (WkS.nil))))))) ((perm_at (j := 1) rfl).trans (List.Perm.cons _ ((perm_at (j := 0) rfl).trans (List.Perm.cons _ ((perm_at (j := 0) rfl).trans (List.Perm.cons _ ((perm_at (j := 0) rfl).trans (List.Perm.cons _ Pf)))))))) Pf)
   ·intro G238 s238 z238 hm
    refine wpD_sr ?_
    refine pu ?_
    refine ops_nt ?_
    refine wpD_seq ?_
    refine wpD_cond rfl (fun hc413 => ?_) (fun hc413 => ?_)
    ·replace hm := yes_t hc413 hm
     refine wpD_skip ?_
     refine then_normal ?_
     refine wpD_seq ?_
     refine wpD_block ?_
     refine wpD_sr ?_
     obtain ⟨x414, q414, hm⟩ := yes_bind hm
     refine p_elem htab rfl rfl rfl rfl rfl rfl rfl rfl rfl rfl (idx_nonneg q414) (idx_map q414) ?_
     refine p_eq (i := 16) rfl (Wk.of_eq (congrArg D.el (eTApiStmt_eq x414))) ?_
     refine p_loadEl (d := .agg [.v (.int .i64 x414.gOp), .v (.string x414.gName), .v (.string x414.gFunc), .lst 5 (x414.gExps.map eTApiExpr) .no, .lst 7 (x414.gKids.map eTApiStmt) .no, .lst 7 (x414.gElse.map eTApiStmt) .no, .v (.int .i64 x414.gAt)]) htab rfl rfl rfl rfl rfl rfl rfl rfl ?_
     refine p_alloc htab rfl rfl rfl rfl rfl rfl rfl (fun b415 => ?_)
     refine pS4 (ds' := [.v (.int .i64 x414.gOp), .v (.string x414.gName), .v (.string x414.gFunc), .lst 5 (x414.gExps.map eTApiExpr) .no, .lst 7 (x414.gKids.map eTApiStmt) .no, .lst 7 (x414.gElse.map eTApiStmt) .no, .v (.int .i64 x414.gAt)]) ?_
     refine ops_n2 ?_
     refine pu ?_
     refine p_load (d := .agg [.v (.int .i64 x414.gOp), .v (.string x414.gName), .v (.string x414.gFunc), .lst 5 (x414.gExps.map eTApiExpr) .no, .lst 7 (x414.gKids.map eTApiStmt) .no, .lst 7 (x414.gElse.map eTApiStmt) .no, .v (.int .i64 x414.gAt)]) 4 htab rfl rfl rfl rfl rfl rfl rfl rfl ?_
     obtain ⟨x416, q416, hm⟩ := yes_bind hm
     refine p_callV0 (tree_Nums_1_ok x414 x416 q416) rfl rfl rfl rfl rfl rfl rfl (WkL.cons (Wk.trans (Wk.agg (WkR.refl _)) (Wk.of_eq (eTApiStmt_eq x414).symm)) Wl) ?_
     rintro _ rfl
     refine ops_nt ?_
     refine wpD_seq ?_
     refine wpD_sr ?_
     refine pu ?_
     refine pL 4 ?_
     refine p_lenL htab rfl rfl rfl rfl rfl rfl rfl (by first | exact map_len | rfl) ?_
     refine pu ?_
     refine ops_nt ?_
     obtain ⟨y441, q441, ho441⟩ := yes_bind hm
     refine wpD_mid (Y := Z3) (fun z441 => (⟨[(1, .fn (.func 26) [] []), (5, .ptr b1 0), (6, .ptr b2 0), (8, .ptr b415 0), (12, .lst 7 (a0.map eTApiStmt) .no), (13, .v (.int .i64 (a0.length : Int))), (14, .v (.int .i64 s238.1))], [(0, Blk.row 1 (y441.map eI64) (SL z441)), (o0, Blk.cells [.v (SL z441)] T0), (b1, Blk.cells [.fn (.func 27) [] [.ptr o0 0]] 66), (b2, Blk.cells [.fn (.func 50) [] [.ptr b1 0, .ptr b2 0]] 66), (b415, Blk.cells [.v (.int .i64 x414.gOp), .v (.string x414.gName), .v (.string x414.gFunc), .lst 5 (x414.gExps.map eTApiExpr) .no, .lst 7 (x414.gKids.map eTApiStmt) .no, .lst 7 (x414.gElse.map eTApiStmt) .no, .v (.int .i64 x414.gAt)] 61)], []⟩ : S)) ?_ ?_
     ·clear hm; have hm := yes_of q441
      refine wpD_block ?_
      obtain ⟨u442, hl442, hq442⟩ := yes_m hm
      refine loop_M (Y := Z3) hl442 (fun s442 z442 => (⟨[(1, .fn (.func 26) [] []), (5, .ptr b1 0), (6, .ptr b2 0), (8, .ptr b415 0), (12, .lst 7 (a0.map eTApiStmt) .no), (13, .v (.int .i64 (a0.length : Int))), (14, .v (.int .i64 s238.1)), (22, .lst 5 (x414.gExps.map eTApiExpr) .no), (23, .v (.int .i64 (x414.gExps.length : Int))), (24, .v (.int .i64 s442.1))], [(0, Blk.row 1 (s442.2.map eI64) (SL z442)), (o0, Blk.cells [.v (SL z442)] T0), (b1, Blk.cells [.fn (.func 27) [] [.ptr o0 0]] 66), (b2, Blk.cells [.fn (.func 50) [] [.ptr b1 0, .ptr b2 0]] 66), (b415, Blk.cells [.v (.int .i64 x414.gOp), .v (.string x414.gName), .v (.string x414.gFunc), .lst 5 (x414.gExps.map eTApiExpr) .no, .lst 7 (x414.gKids.map eTApiStmt) .no, .lst 7 (x414.gElse.map eTApiStmt) .no, .v (.int .i64 x414.gAt)] 61)], []⟩ : S)) ?_ ?_
      ·skip
       exact WkX.of z238 (WkS.perm (WkS.cons rfl (Wk.refl _) (WkS.cons rfl (Wk.refl _) (WkS.cons rfl (Wk.refl _) (WkS.cons rfl (Wk.refl _) (WkS.cons rfl (Wk.refl _) (WkS.cons rfl (Wk.refl _) (WkS.cons rfl (Wk.refl _) (WkS.cons rfl (Wk.refl _) (WkS.cons rfl (Wk.refl _) (WkS.cons rfl (Wk.refl _) (WkS.nil))))))))))) Pf Pf)
      ·intro G442 s442 z442 hm
       refine wpD_sr ?_
       refine pu ?_
       refine ops_nt ?_
       refine wpD_seq ?_
       refine wpD_cond rfl (fun hc461 => ?_) (fun hc461 => ?_)
       ·replace hm := yes_t hc461 hm
        refine wpD_skip ?_
        refine then_normal ?_
        refine wpD_seq ?_
        refine wpD_block ?_
        refine wpD_sr ?_
        obtain ⟨x462, q462, hm⟩ := yes_bind hm
        refine p_elem htab rfl rfl rfl rfl rfl rfl rfl rfl rfl rfl (idx_nonneg q462) (idx_map q462) ?_
        refine p_eq (i := 26) rfl (Wk.of_eq (congrArg D.el (eTApiExpr_eq x462))) ?_
        refine p_loadEl (d := .agg [.v (.int .i64 x462.gOp), .v (.int .i64 x462.gN), .v (.string x462.gName), .lst 5 (x462.gKids.map eTApiExpr) .no, .v (.int .i64 x462.gAt)]) htab rfl rfl rfl rfl rfl rfl rfl rfl ?_
        refine p_alloc htab rfl rfl rfl rfl rfl rfl rfl (fun b463 => ?_)
        refine pS5 (ds' := [.v (.int .i64 x462.gOp), .v (.int .i64 x462.gN), .v (.string x462.gName), .lst 5 (x462.gKids.map eTApiExpr) .no, .v (.int .i64 x462.gAt)]) ?_
        refine ops_nt ?_
        refine wpD_region ?_
        refine pL 3 ?_
        refine p_load (d := .agg [.v (.int .i64 x462.gOp), .v (.int .i64 x462.gN), .v (.string x462.gName), .lst 5 (x462.gKids.map eTApiExpr) .no, .v (.int .i64 x462.gAt)]) 5 htab rfl rfl rfl rfl rfl rfl rfl rfl ?_
        obtain ⟨x465, q465, hm⟩ := yes_bind hm
        refine p_callV (tree_walk_1_r_ok x462 (⟨s442.2⟩ : TTreeBagInt) b1 66 o0 T0 z442 b2 66 x465 q465) rfl rfl rfl rfl rfl rfl rfl (WkL.cons (Wk.trans (Wk.agg (WkR.refl _)) (Wk.of_eq (eTApiExpr_eq x462).symm)) (WkL.cons (Wk.refl _) (WkL.cons (Wk.refl _) Wl))) ((perm_at (j := 2) rfl).trans (List.Perm.cons _ ((perm_at (j := 1) rfl).trans (List.Perm.cons _ ((perm_at (j := 1) rfl).trans (List.Perm.cons _ ((perm_at (j := 0) rfl).trans (List.Perm.cons _ Pf)))))))) Pf ?_
        rintro _ _ _ ⟨w464, rfl, rfl, rfl⟩
        refine ops_nil ?_
        refine block_normal ?_
        refine then_normal ?_
        refine wpD_region ?_
        refine pu ?_
        refine pu ?_
        refine ops_nil ?_
        refine then_normal ⟨_, lp_next hm, ?_⟩
        exact WkX.of w464 (WkS.perm (WkS.cons rfl (Wk.refl _) (WkS.cons rfl (Wk.refl _) (WkS.cons rfl (Wk.refl _) (WkS.cons rfl (Wk.refl _) (WkS.cons rfl (Wk.refl _) (WkS.cons rfl (Wk.refl _) (WkS.cons rfl (Wk.refl _) (WkS.cons rfl (Wk.refl _) (WkS.cons rfl (Wk.refl _) (WkS.cons rfl (Wk.refl _) (WkS.nil))))))))))) ((perm_at (j := 3) rfl).trans (List.Perm.cons _ ((perm_at (j := 1) rfl).trans (List.Perm.cons _ ((perm_at (j := 0) rfl).trans (List.Perm.cons _ ((perm_at (j := 0) rfl).trans (List.Perm.cons _ ((perm_at (j := 0) rfl).trans (List.Perm.cons _ Pf)))))))))) Pf)
       ·replace hm := yes_f hc461 hm
        refine wpD_exit ?_
        refine then_exit ?_
        have e442 := lp_done hm; subst e442; clear hm; have hm := hq442
        refine then_exit ?_
        refine block_hit ?_
        have e441 := yes_eq hm; subst e441
        refine ⟨rfl, ?_⟩
        exact WkX.of z442 (WkS.perm (WkS.cons rfl (Wk.refl _) (WkS.cons rfl (Wk.refl _) (WkS.cons rfl (Wk.refl _) (WkS.cons rfl (Wk.refl _) (WkS.cons rfl (Wk.refl _) (WkS.cons rfl (Wk.refl _) (WkS.cons rfl (Wk.refl _) (WkS.nil)))))))) Pf Pf)
     ·intro s441 hw441; clear hm; have hm := ho441; clear q441 ho441
      refine then_normal ?_
      refine wpD_wkX hw441 (fun z441 => ?_)
      refine wpD_sr ?_
      refine pu ?_
      refine pL 4 ?_
      refine pu ?_
      refine pL 2 ?_
      obtain ⟨x467, q467, hm⟩ := yes_bind hm
      refine pG (hg0 x414.gKids (⟨y441⟩ : TTreeBagInt) o0 T0 z441 x467 q467) Wl ((perm_at (j := 1) rfl).trans (List.Perm.cons _ ((perm_at (j := 0) rfl).trans (List.Perm.cons _ Pf)))) Pf ?_
      rintro _ _ _ ⟨w466, rfl, rfl, rfl⟩
      refine ops_nt ?_
      refine wpD_region ?_
      refine pu ?_
      refine pL 4 ?_
      refine pu ?_
      refine pL 2 ?_
      obtain ⟨x469, q469, hm⟩ := yes_bind hm
      refine pG (hg0 x414.gElse x467 o0 T0 w466 x469 q469) Wl Pf Pf ?_
      rintro _ _ _ ⟨w468, rfl, rfl, rfl⟩
      refine ops_nil ?_
      refine block_normal ?_
      refine then_normal ?_
      refine wpD_region ?_
      refine pu ?_
      refine pu ?_
      refine ops_nil ?_
      refine then_normal ⟨_, lp_next hm, ?_⟩
      exact WkX.of w468 (WkS.perm (WkS.cons rfl (Wk.refl _) (WkS.cons rfl (Wk.refl _) (WkS.cons rfl (Wk.refl _) (WkS.cons rfl (Wk.refl _) (WkS.cons rfl (Wk.refl _) (WkS.cons rfl (Wk.refl _) (WkS.nil))))))) ((perm_at (j := 1) rfl).trans (List.Perm.cons _ ((perm_at (j := 0) rfl).trans (List.Perm.cons _ ((perm_at (j := 0) rfl).trans (List.Perm.cons _ ((perm_at (j := 0) rfl).trans (List.Perm.cons _ Pf)))))))) Pf)
    ·replace hm := yes_f hc413 hm
     refine wpD_exit ?_
     refine then_exit ?_
     have e238 := lp_done hm; subst e238; clear hm; have hm := hq238
     refine then_exit ?_
     refine block_hit ?_
     have e237 := yes_eq hm; subst e237
     refine ⟨rfl, ?_⟩
     exact WkX.of z238 (WkS.perm (WkS.nil) Pf Pf)
  ·intro s237 hw237; clear hm; have hm := ho237; clear q237 ho237
   refine retX.wkX hw237 (fun z237 => ?_)
   have er470 := yes_eq hm; subst er470
   refine rP (t' := []) [1,0] [] 2 wN lN ?_
   exact ⟨z237, rfl, rfl, rfl⟩
noncomputable def tree_walk_r_g : Nat → ((List TApiStmt) → (TTreeBagInt) → Option (TTreeBagInt))
  | 0 => (fun _ _ => none)
  | n + 1 => (tree_walk_r_b ((tree_walk_r_g n)))
theorem tree_walk_r_g_ok : ∀ n, (∀ (a0 : List TApiStmt) (m0 : TTreeBagInt) (o0 : Nat) (T0 : TypeId) (z0_0 : Z3) (r : TTreeBagInt) (h0 : (tree_walk_r_g n) a0 m0 = some r), CallsD Try.prog 25 [.lst 7 (a0.map eTApiStmt) .no, .fn (.func 26) [] [], .fn (.func 27) [] [.ptr o0 0]] [(o0, Blk.cells [.v (SL z0_0)] T0), (0, Blk.row 1 (m0.gL.map eI64) (SL z0_0))] [] (fun d h k => ∃ y0, d = .tup [] ∧ h = [(o0, Blk.cells [.v (SL y0)] T0), (0, Blk.row 1 (r.gL.map eI64) (SL y0))] ∧ k = []))
  | 0 => fun _ _ _ _ _ _ h0 => by cases h0
  | n + 1 => by
    have ih := tree_walk_r_g_ok n
    exact tree_walk_r_b_ok (tree_walk_r_g n) ih
noncomputable def tree_walk_r (a0 : List TApiStmt) (m0 : TTreeBagInt) : Option (TTreeBagInt) := anyN fun n => (tree_walk_r_g n) a0 m0
theorem tree_walk_r_ok (a0 : List TApiStmt) (m0 : TTreeBagInt) (o0 : Nat) (T0 : TypeId) (z0_0 : Z3) (r : TTreeBagInt) (h0 : tree_walk_r a0 m0 = some r) : CallsD Try.prog 25 [.lst 7 (a0.map eTApiStmt) .no, .fn (.func 26) [] [], .fn (.func 27) [] [.ptr o0 0]] [(o0, Blk.cells [.v (SL z0_0)] T0), (0, Blk.row 1 (m0.gL.map eI64) (SL z0_0))] [] (fun d h k => ∃ y0, d = .tup [] ∧ h = [(o0, Blk.cells [.v (SL y0)] T0), (0, Blk.row 1 (r.gL.map eI64) (SL y0))] ∧ k = []) :=
  let ⟨n, hn⟩ := anyN_inv h0; (tree_walk_r_g_ok n) a0 m0 o0 T0 z0_0 r hn
noncomputable def tree_bag_int_all_r (m0 : TTreeBagInt) : Option (List Int × TTreeBagInt) :=
  ((need (len62I m0.gL)).bind fun x1 => ((need (len62I (sortI m0.gL))).bind fun x3 => some ((compactI (sortI m0.gL)), (⟨[]⟩ : TTreeBagInt))))
set_option maxRecDepth 100000 in
set_option maxHeartbeats 2000000 in
theorem tree_bag_int_all_r_ok (m0 : TTreeBagInt) (o0 : Nat) (T0 : TypeId) (z0_0 : Z3) (r : List Int × TTreeBagInt) (h0 : tree_bag_int_all_r m0 = some r) : CallsD Try.prog 29 [.ptr o0 0] [(o0, Blk.cells [.v (SL z0_0)] T0), (0, Blk.row 1 (m0.gL.map eI64) (SL z0_0))] [] (fun d h k => ∃ y0, d = .v (SL y0) ∧ h = [(o0, Blk.cells [.any] T0), (0, Blk.row 1 (r.1.map eI64) (SL y0))] ∧ k = []) := by
  have hm := yes_of h0
  unfold tree_bag_int_all_r at hm
  clear h0
  refine enterX htab Try.func29 rfl rfl rfl rfl rfl (fun C => ?_)
  refine wpD_sr ?_
  refine pu ?_
  refine ops_n2 ?_
  iterate 3 refine pu ?_
  refine pL 0 ?_
  obtain ⟨x1, q1, hm⟩ := yes_bind hm
  refine pG (sortI_ok m0.gL z0_0 (need_ok q1)) Wl ((perm_at (j := 1) rfl).trans (List.Perm.cons _ Pf)) Pf ?_
  rintro _ _ _ ⟨rfl, rfl, rfl⟩
  refine ops_n2 ?_
  iterate 3 refine pu ?_
  refine pL 1 ?_
  obtain ⟨x3, q3, hm⟩ := yes_bind hm
  refine pG (compactI_ok (sortI m0.gL) z0_0 (need_ok q3)) Wl Pf Pf ?_
  rintro _ _ _ ⟨w2, rfl, rfl, rfl⟩
  refine pu ?_
  refine ops_nt ?_
  refine wpD_ret ?_
  have er4 := yes_eq hm; subst er4
  refine retX.wk (WkS.bl1 (ds' := [.any]) (WkR.cons (WkC.any) rfl WkR.nil)) ?_
  refine rP (t' := [(2, .v (SL w2))]) [1,0] [] 2 (wC wN) (lT lN) ?_
  exact ⟨w2, rfl, rfl, rfl⟩
noncomputable def tree_Nums (a0 : List TApiStmt) : Option (List Int) :=
  ((tree_walk_r a0 (⟨[]⟩ : TTreeBagInt)).bind fun x4 => ((tree_bag_int_all_r x4).bind fun x6 => some x6.1))
set_option maxRecDepth 100000 in
set_option maxHeartbeats 2000000 in
theorem tree_Nums_ok (a0 : List TApiStmt) (r : List Int) (h0 : tree_Nums a0 = some r) : CallsD Try.prog 17 [.lst 7 (a0.map eTApiStmt) .no] [] [] (fun d h k => ∃ y0, d = .lst 1 (r.map eI64) (.cur y0) ∧ h = [] ∧ k = [(1, y0)]) := by
  have hm := yes_of h0
  unfold tree_Nums at hm
  clear h0
  refine enterX htab Try.func17 rfl rfl rfl rfl rfl (fun C => ?_)
  refine wpD_sr ?_
  refine pu ?_
  refine ops_n2 ?_
  refine p_alloc htab rfl rfl rfl rfl rfl rfl rfl (fun b1 => ?_)
  refine ops_n2 ?_
  refine pu ?_
  refine pu ?_
  refine o_rowC (off := 0) 1 0 rfl rfl (fun w2 => ?_)
  obtain ⟨x4, q4, hm⟩ := yes_bind hm
  refine pG (tree_walk_r_ok a0 (⟨[]⟩ : TTreeBagInt) b1 57 w2 x4 q4) Wl ((perm_at (j := 1) rfl).trans (List.Perm.cons _ ((perm_at (j := 0) rfl).trans (List.Perm.cons _ Pf)))) Pf ?_
  rintro _ _ _ ⟨w3, rfl, rfl, rfl⟩
  refine ops_n2 ?_
  obtain ⟨x6, q6, hm⟩ := yes_bind hm
  refine pG (tree_bag_int_all_r_ok x4 b1 57 w3 x6 q6) Wl Pf Pf ?_
  rintro _ _ _ ⟨w5, rfl, rfl, rfl⟩
  refine pu ?_
  refine ops_nt ?_
  refine wpD_ret ?_
  have er7 := yes_eq hm; subst er7
  refine retX.wk (WkS.frz 1 rfl rfl) ?_
  refine retX.wk (WkS.tld 2 1 rfl rfl) ?_
  refine retX.wk (WkS.tld 7 1 rfl rfl) ?_
  refine retX.wk (WkS.drop 1 rfl) ?_
  refine rP (t' := [(2, .lst 1 (x6.1.map eI64) (.cur (SL w5)))]) [] [0] 0 (wC wN) (lT lN) ?_
  exact ⟨(SL w5), rfl, rfl, rfl⟩
noncomputable def ladder_Cut (a0 : List Int) (a1 : Int) : Option (List Int) :=
  (bif (decide (a1 < (1 : Int))) then some ([] : List Int) else ((slices_Clone_int_int a0).bind fun x6 => ((need (len62A x6)).bind fun x7 => ((need (len62I (sortA x6))).bind fun x9 => ((cutL (compactI (sortA x6)) (0 : Int) (min ((compactI (sortA x6)).length : Int) a1)).bind fun x10 => ((need (len62I x10)).bind fun x11 => some (sortI x10)))))))
set_option maxRecDepth 100000 in
set_option maxHeartbeats 2000000 in
theorem ladder_Cut_ok (a0 : List Int) (a1 : Int) (r : List Int) (h0 : ladder_Cut a0 a1 = some r) : CallsD Try.prog 6 [.lst 1 (a0.map eI64) .no, .v (.int .i64 a1)] [] [] (fun d h k => ∃ y0, d = .lst 1 (r.map eI64) (.cur y0) ∧ h = [] ∧ k = [(1, y0)]) := by
  have hm := yes_of h0
  unfold ladder_Cut at hm
  clear h0
  refine enterX htab Try.func6 rfl rfl rfl rfl rfl (fun C => ?_)
  refine wpD_sr ?_
  refine pu ?_
  refine ops_nt ?_
  refine wpD_seq ?_
  refine wpD_sr ?_
  refine pu ?_
  refine pu ?_
  refine ops_nt ?_
  refine wpD_cond rfl (fun hc2 => ?_) (fun hc2 => ?_)
  ·replace hm := yes_t hc2 hm
   refine wpD_sr ?_
   refine pu ?_
   refine ops_nt ?_
   refine wpD_ret ?_
   refine then_ret ?_
   have er3 := yes_eq hm; subst er3
   refine retX.tokN (i := 4) 1 rfl (fun w4 => ?_)
   refine rP (t' := [(4, .lst 1 (([] : List Int).map eI64) (.cur w4))]) [] [0] 0 (wC wN) (lT lN) ?_
   exact ⟨w4, rfl, rfl, rfl⟩
  ·replace hm := yes_f hc2 hm
   refine wpD_skip ?_
   refine then_normal ?_
   refine wpD_sr ?_
   refine pu ?_
   obtain ⟨x6, q6, hm⟩ := yes_bind hm
   refine pG (slices_Clone_int_int_row_ok a0 x6 q6) Wl Pf Pf ?_
   rintro _ _ _ ⟨w5, rfl, rfl, rfl⟩
   refine pu ?_
   refine ops_n2 ?_
   refine pu ?_
   obtain ⟨x7, q7, hm⟩ := yes_bind hm
   refine pG (sortA_ok x6 w5 (need_ok q7)) Wl Pf Pf ?_
   rintro _ _ _ ⟨rfl, rfl, rfl⟩
   refine ops_n2 ?_
   refine pu ?_
   obtain ⟨x9, q9, hm⟩ := yes_bind hm
   refine pG (compactI_ok (sortA x6) w5 (need_ok q9)) Wl Pf Pf ?_
   rintro _ _ _ ⟨w8, rfl, rfl, rfl⟩
   refine pu ?_
   refine ops_n2 ?_
   refine pu ?_
   refine pu ?_
   refine p_lenR 0 htab rfl rfl rfl rfl rfl rfl rfl rfl (by first | exact map_len | rfl) ?_
   refine pu ?_
   refine p_min rfl rfl rfl rfl rfl rfl ?_
   obtain ⟨x10, q10, hm⟩ := yes_bind hm
   refine p_cutR 0 q10 htab rfl rfl rfl rfl rfl rfl rfl rfl rfl rfl rfl rfl (fun v10 => ?_)
   refine pu ?_
   refine ops_n2 ?_
   refine pu ?_
   obtain ⟨x11, q11, hm⟩ := yes_bind hm
   refine pG (sortI_ok x10 v10 (need_ok q11)) Wl Pf Pf ?_
   rintro _ _ _ ⟨rfl, rfl, rfl⟩
   refine ops_n2 ?_
   refine pu ?_
   refine pu ?_
   refine ops_nt ?_
   refine wpD_ret ?_
   have er12 := yes_eq hm; subst er12
   refine retX.wk (WkS.frz 0 rfl rfl) ?_
   refine retX.wk (WkS.tld 4 0 rfl rfl) ?_
   refine retX.wk (WkS.tld 5 0 rfl rfl) ?_
   refine retX.wk (WkS.tld 19 0 rfl rfl) ?_
   refine retX.wk (WkS.tld 20 0 rfl rfl) ?_
   refine retX.wk (WkS.tld 22 0 rfl rfl) ?_
   refine retX.wk (WkS.drop 0 rfl) ?_
   refine rP (t' := [(4, .lst 1 ((sortI x10).map eI64) (.cur (SL v10)))]) [] [0] 0 (wC wN) (lT lN) ?_
   exact ⟨(SL v10), rfl, rfl, rfl⟩
structure TApiVar where
  gName : ByteArray
  gPtr : Bool
def eTApiVar (x : TApiVar) : D := .agg [.v (.string x.gName), .v (.bool x.gPtr)]
structure TApiFunc where
  gName : ByteArray
  gParams : List TApiVar
  gLocals : List TApiVar
  gBody : List TApiStmt
  gAt : Int
def eTApiFunc (x : TApiFunc) : D := .agg [.v (.string x.gName), .lst 2 (x.gParams.map eTApiVar) .no, .lst 2 (x.gLocals.map eTApiVar) .no, .lst 7 (x.gBody.map eTApiStmt) .no, .v (.int .i64 x.gAt)]
structure TApiGlobal where
  gName : ByteArray
  gPtr : Bool
  gSize : Int
  gAt : Int
def eTApiGlobal (x : TApiGlobal) : D := .agg [.v (.string x.gName), .v (.bool x.gPtr), .v (.int .i64 x.gSize), .v (.int .i64 x.gAt)]
structure TApiProgram where
  gGlobals : List TApiGlobal
  gFuncs : List TApiFunc
def eTApiProgram (x : TApiProgram) : D := .agg [.lst 4 (x.gGlobals.map eTApiGlobal) .no, .lst 5 (x.gFuncs.map eTApiFunc) .no]
noncomputable def ladder_Of (a0 : TApiProgram) : Option (List Int) :=
  ((ladder_around (0 : Int)).bind fun x3 => (Option.bind (α := List Int) (loopM (fun (s136 : List Int × Int) => (bif (decide (s136.2 < (a0.gFuncs.length : Int))) then ((idx a0.gFuncs s136.2).bind fun x224 => ((tree_Nums x224.gBody).bind fun x227 => (Option.bind (α := List Int) (loopM (fun (s247 : List Int × Int) => (bif (decide (s247.2 < (x227.length : Int))) then ((idx x227 s247.2).bind fun x261 => ((ladder_around x261).bind fun x263 => ((app 8 s247.1 x263).bind fun x264 => some (.next (x264, (IntKind.i64.wrap (s247.2 + (1 : Int)))))))) else some (.done s247.1))) (s136.1, (0 : Int))) fun y246 => some (.next (y246, (IntKind.i64.wrap (s136.2 + (1 : Int)))))))) else some (.done s136.1))) (x3, (0 : Int))) fun y135 => (Option.bind (α := List Int) (loopM (fun (s285 : List Int × Int) => (bif (decide (s285.2 < (a0.gGlobals.length : Int))) then ((idx a0.gGlobals s285.2).bind fun x299 => (bif (decide ((0 : Int) < x299.gSize)) then ((app 8 s285.1 ([x299.gSize, (IntKind.i64.wrap (x299.gSize - (1 : Int)))] : List Int)).bind fun x302 => some (.next (x302, (IntKind.i64.wrap (s285.2 + (1 : Int)))))) else some (.next (s285.1, (IntKind.i64.wrap (s285.2 + (1 : Int))))))) else some (.done s285.1))) (y135, (0 : Int))) fun y284 => ((ladder_Cut y284 (40 : Int)).bind fun x304 => some x304))))
set_option maxRecDepth 100000 in
set_option maxHeartbeats 2000000 in
theorem ladder_Of_ok (a0 : TApiProgram) (r : List Int) (h0 : ladder_Of a0 = some r) : CallsD Try.prog 8 [eTApiProgram a0] [] [] (fun d h k => ∃ y0, d = .lst 1 (r.map eI64) (.cur y0) ∧ h = [] ∧ k = [(1, y0)]) := by
  have hm := yes_of h0
  unfold ladder_Of at hm
  clear h0
  refine enterX htab Try.func8 rfl rfl rfl rfl rfl (fun C => ?_)
  refine wpD_sr ?_
  refine p_box rfl rfl rfl rfl rfl rfl rfl (fun b1 => ?_)
  refine pu ?_
  refine ops_n2 ?_
  obtain ⟨x3, q3, hm⟩ := yes_bind hm
  refine pG (ladder_around_ok (0 : Int) x3 q3) Wl Pf Pf ?_
  rintro _ _ _ ⟨w2, rfl, rfl, rfl⟩
  refine pu ?_
  refine ops_nt ?_
  refine wpD_seq ?_
  refine wpD_sr ?_
  refine pu ?_
  refine pL 0 ?_
  refine p_lenL htab rfl rfl rfl rfl rfl rfl rfl (by first | exact map_len | rfl) ?_
  refine pu ?_
  refine ops_nt ?_
  obtain ⟨y135, q135, ho135⟩ := yes_bind hm
  refine wpD_mid (Y := Value) (fun z135 => (⟨[(1, .ptr b1 0), (3, .lst 1 (y135.map eI64) (.cur z135))], [(b1, Blk.cells [.lst 4 (a0.gGlobals.map eTApiGlobal) .no, .lst 5 (a0.gFuncs.map eTApiFunc) .no] 31)], [(1, z135)]⟩ : S)) ?_ ?_
  ·clear hm; have hm := yes_of q135
   refine wpD_block ?_
   obtain ⟨u136, hl136, hq136⟩ := yes_m hm
   refine loop_M (Y := Value) hl136 (fun s136 z136 => (⟨[(1, .ptr b1 0), (3, .lst 1 (s136.1.map eI64) (.cur z136)), (12, .lst 5 (a0.gFuncs.map eTApiFunc) .no), (13, .v (.int .i64 (a0.gFuncs.length : Int))), (14, .v (.int .i64 s136.2))], [(b1, Blk.cells [.lst 4 (a0.gGlobals.map eTApiGlobal) .no, .lst 5 (a0.gFuncs.map eTApiFunc) .no] 31)], [(1, z136)]⟩ : S)) ?_ ?_
   ·skip
    exact WkX.of w2 (WkS.perm (WkS.cons rfl (Wk.refl _) (WkS.cons rfl (Wk.refl _) (WkS.cons rfl (Wk.refl _) (WkS.cons rfl (Wk.refl _) (WkS.cons rfl (Wk.refl _) (WkS.nil)))))) Pf Pf)
   ·intro G136 s136 z136 hm
    refine wpD_sr ?_
    refine pu ?_
    refine ops_nt ?_
    refine wpD_seq ?_
    refine wpD_cond rfl (fun hc223 => ?_) (fun hc223 => ?_)
    ·replace hm := yes_t hc223 hm
     refine wpD_skip ?_
     refine then_normal ?_
     refine wpD_seq ?_
     refine wpD_block ?_
     refine wpD_sr ?_
     obtain ⟨x224, q224, hm⟩ := yes_bind hm
     refine p_elem htab rfl rfl rfl rfl rfl rfl rfl rfl rfl rfl (idx_nonneg q224) (idx_map q224) ?_
     refine p_loadEl (d := eTApiFunc x224) htab rfl rfl rfl rfl rfl rfl rfl rfl ?_
     refine p_alloc htab rfl rfl rfl rfl rfl rfl rfl (fun b225 => ?_)
     refine pS1 (ds' := [.v (.string x224.gName), .lst 2 (x224.gParams.map eTApiVar) .no, .lst 2 (x224.gLocals.map eTApiVar) .no, .lst 7 (x224.gBody.map eTApiStmt) .no, .v (.int .i64 x224.gAt)]) ?_
     refine ops_n2 ?_
     refine pu ?_
     refine pL 1 ?_
     obtain ⟨x227, q227, hm⟩ := yes_bind hm
     refine pG (tree_Nums_ok x224.gBody x227 q227) Wl Pf Pf ?_
     rintro _ _ _ ⟨w226, rfl, rfl, rfl⟩
     refine p_lenL htab rfl rfl rfl rfl rfl rfl rfl (by first | exact map_len | rfl) ?_
     refine pu ?_
     refine ops_nt ?_
     obtain ⟨y246, q246, ho246⟩ := yes_bind hm
     refine wpD_mid (Y := Value) (fun z246 => (⟨[(1, .ptr b1 0), (3, .lst 1 (y246.map eI64) (.cur z246)), (12, .lst 5 (a0.gFuncs.map eTApiFunc) .no), (13, .v (.int .i64 (a0.gFuncs.length : Int))), (14, .v (.int .i64 s136.2))], [(b1, Blk.cells [.lst 4 (a0.gGlobals.map eTApiGlobal) .no, .lst 5 (a0.gFuncs.map eTApiFunc) .no] 31)], [(1, z246)]⟩ : S)) ?_ ?_
     ·clear hm; have hm := yes_of q246
      refine wpD_block ?_
      obtain ⟨u247, hl247, hq247⟩ := yes_m hm
      refine loop_M (Y := Value) hl247 (fun s247 z247 => (⟨[(1, .ptr b1 0), (3, .lst 1 (s247.1.map eI64) (.cur z247)), (12, .lst 5 (a0.gFuncs.map eTApiFunc) .no), (13, .v (.int .i64 (a0.gFuncs.length : Int))), (14, .v (.int .i64 s136.2)), (20, .lst 1 (x227.map eI64) (.cur w226)), (21, .v (.int .i64 (x227.length : Int))), (22, .v (.int .i64 s247.2))], [(b1, Blk.cells [.lst 4 (a0.gGlobals.map eTApiGlobal) .no, .lst 5 (a0.gFuncs.map eTApiFunc) .no] 31)], [(1, z247), (1, w226)]⟩ : S)) ?_ ?_
      ·skip
       exact WkX.of z136 (WkS.perm (WkS.cons rfl (Wk.refl _) (WkS.cons rfl (Wk.refl _) (WkS.cons rfl (Wk.refl _) (WkS.cons rfl (Wk.refl _) (WkS.cons rfl (Wk.refl _) (WkS.cons rfl (Wk.refl _) (WkS.cons rfl (Wk.refl _) (WkS.cons rfl (Wk.refl _) (WkS.nil))))))))) Pf ((perm_at (j := 1) rfl).trans (List.Perm.cons _ ((perm_at (j := 0) rfl).trans (List.Perm.cons _ Pf)))))
      ·intro G247 s247 z247 hm
       refine wpD_sr ?_
       refine pu ?_
       refine ops_nt ?_
       refine wpD_seq ?_
       refine wpD_cond rfl (fun hc260 => ?_) (fun hc260 => ?_)
       ·replace hm := yes_t hc260 hm
        refine wpD_skip ?_
        refine then_normal ?_
        refine wpD_seq ?_
        refine wpD_block ?_
        refine wpD_sr ?_
        obtain ⟨x261, q261, hm⟩ := yes_bind hm
        refine p_elem htab rfl rfl rfl rfl rfl rfl rfl rfl rfl rfl (idx_nonneg q261) (idx_map q261) ?_
        refine p_loadEl htab rfl rfl rfl rfl rfl rfl rfl rfl ?_
        refine pu ?_
        refine ops_nt ?_
        refine wpD_region ?_
        refine pu ?_
        refine pu ?_
        obtain ⟨x263, q263, hm⟩ := yes_bind hm
        refine pG (ladder_around_ok x261 x263 q263) Wl Pf Pf ?_
        rintro _ _ _ ⟨w262, rfl, rfl, rfl⟩
        obtain ⟨x264, q264, hm⟩ := yes_bind hm
        refine p_appC 1 htab rfl rfl rfl rfl rfl rfl rfl rfl rfl rfl rfl rfl rfl rfl rfl rfl rfl (app_bound q264) (fun v264 => ?_)
        refine p_mapD (i := 29) q264 rfl ?_
        refine pu ?_
        refine ops_nil ?_
        refine block_normal ?_
        refine then_normal ?_
        refine wpD_region ?_
        refine pu ?_
        refine pu ?_
        refine ops_nil ?_
        refine then_normal ⟨_, lp_next hm, ?_⟩
        exact WkX.of v264 (WkS.perm (WkS.cons rfl (Wk.refl _) (WkS.cons rfl (Wk.refl _) (WkS.cons rfl (Wk.refl _) (WkS.cons rfl (Wk.refl _) (WkS.cons rfl (Wk.refl _) (WkS.cons rfl (Wk.refl _) (WkS.cons rfl (Wk.refl _) (WkS.cons rfl (Wk.refl _) (WkS.nil))))))))) Pf ((perm_at (j := 0) rfl).trans (List.Perm.cons _ ((perm_at (j := 1) rfl).trans (List.Perm.cons _ Pf)))))
       ·replace hm := yes_f hc260 hm
        refine wpD_exit ?_
        refine then_exit ?_
        have e247 := lp_done hm; subst e247; clear hm; have hm := hq247
        refine then_exit ?_
        refine block_hit ?_
        have e246 := yes_eq hm; subst e246
        refine ⟨rfl, ?_⟩
        exact WkX.of z247 (WkS.perm (WkS.cons rfl (Wk.refl _) (WkS.cons rfl (Wk.refl _) (WkS.cons rfl (Wk.refl _) (WkS.cons rfl (Wk.refl _) (WkS.cons rfl (Wk.refl _) (WkS.nil)))))) Pf Pf)
     ·intro s246 hw246; clear hm; have hm := ho246; clear q246 ho246
      refine block_normal ?_
      refine then_normal ?_
      refine wpD_wkX hw246 (fun z246 => ?_)
      refine wpD_region ?_
      refine pu ?_
      refine pu ?_
      refine ops_nil ?_
      refine then_normal ⟨_, lp_next hm, ?_⟩
      exact WkX.of z246 (WkS.perm (WkS.cons rfl (Wk.refl _) (WkS.cons rfl (Wk.refl _) (WkS.cons rfl (Wk.refl _) (WkS.cons rfl (Wk.refl _) (WkS.cons rfl (Wk.refl _) (WkS.nil)))))) Pf Pf)
    ·replace hm := yes_f hc223 hm
     refine wpD_exit ?_
     refine then_exit ?_
     have e136 := lp_done hm; subst e136; clear hm; have hm := hq136
     refine then_exit ?_
     refine block_hit ?_
     have e135 := yes_eq hm; subst e135
     refine ⟨rfl, ?_⟩
     exact WkX.of z136 (WkS.perm (WkS.cons rfl (Wk.refl _) (WkS.cons rfl (Wk.refl _) (WkS.nil))) Pf Pf)
  ·intro s135 hw135; clear hm; have hm := ho135; clear q135 ho135
   refine then_normal ?_
   refine wpD_wkX hw135 (fun z135 => ?_)
   refine wpD_seq ?_
   refine wpD_sr ?_
   refine pu ?_
   refine pL 0 ?_
   refine p_lenL htab rfl rfl rfl rfl rfl rfl rfl (by first | exact map_len | rfl) ?_
   refine pu ?_
   refine ops_nt ?_
   obtain ⟨y284, q284, ho284⟩ := yes_bind hm
   refine wpD_mid (Y := Value) (fun z284 => (⟨[(3, .lst 1 (y284.map eI64) (.cur z284))], [], [(1, z284)]⟩ : S)) ?_ ?_
   ·clear hm; have hm := yes_of q284
    refine wpD_block ?_
    obtain ⟨u285, hl285, hq285⟩ := yes_m hm
    refine loop_M (Y := Value) hl285 (fun s285 z285 => (⟨[(3, .lst 1 (s285.1.map eI64) (.cur z285)), (33, .lst 4 (a0.gGlobals.map eTApiGlobal) .no), (34, .v (.int .i64 (a0.gGlobals.length : Int))), (35, .v (.int .i64 s285.2))], [], [(1, z285)]⟩ : S)) ?_ ?_
    ·skip
     exact WkX.of z135 (WkS.perm (WkS.cons rfl (Wk.refl _) (WkS.cons rfl (Wk.refl _) (WkS.cons rfl (Wk.refl _) (WkS.cons rfl (Wk.refl _) (WkS.nil))))) Pf Pf)
    ·intro G285 s285 z285 hm
     refine wpD_sr ?_
     refine pu ?_
     refine ops_nt ?_
     refine wpD_seq ?_
     refine wpD_cond rfl (fun hc298 => ?_) (fun hc298 => ?_)
     ·replace hm := yes_t hc298 hm
      refine wpD_skip ?_
      refine then_normal ?_
      refine wpD_seq ?_
      refine wpD_block ?_
      refine wpD_sr ?_
      obtain ⟨x299, q299, hm⟩ := yes_bind hm
      refine p_elem htab rfl rfl rfl rfl rfl rfl rfl rfl rfl rfl (idx_nonneg q299) (idx_map q299) ?_
      refine p_loadEl (d := eTApiGlobal x299) htab rfl rfl rfl rfl rfl rfl rfl rfl ?_
      refine p_alloc htab rfl rfl rfl rfl rfl rfl rfl (fun b300 => ?_)
      refine pS0 (ds' := [.v (.string x299.gName), .v (.bool x299.gPtr), .v (.int .i64 x299.gSize), .v (.int .i64 x299.gAt)]) ?_
      refine ops_n2 ?_
      refine pu ?_
      refine pL 0 ?_
      refine pu ?_
      refine ops_nt ?_
      refine wpD_cond rfl (fun hc301 => ?_) (fun hc301 => ?_)
      ·replace hm := yes_t hc301 hm
       refine wpD_region ?_
       refine pu ?_
       refine pu ?_
       refine pL 0 ?_
       refine pu ?_
       refine pL 0 ?_
       refine pu ?_
       refine p_lit htab rfl rfl rfl rfl rfl rfl rfl rfl rfl rfl rfl rfl rfl rfl ?_
       refine p_eq (i := 48) (d' := .lst 1 (([x299.gSize, (IntKind.i64.wrap (x299.gSize - (1 : Int)))] : List Int).map eI64) .full) rfl (Wk.lst0 (.cons (WkC.refl _) (.cons (WkC.refl _) (.nil)))) ?_
       obtain ⟨x302, q302, hm⟩ := yes_bind hm
       refine p_appC 0 htab rfl rfl rfl rfl rfl rfl rfl rfl rfl rfl rfl rfl rfl rfl rfl rfl rfl (app_bound q302) (fun v302 => ?_)
       refine p_mapD (i := 49) q302 rfl ?_
       refine pu ?_
       refine ops_nil ?_
       refine block_normal ?_
       refine then_normal ?_
       refine wpD_region ?_
       refine pu ?_
       refine pu ?_
       refine ops_nil ?_
       refine then_normal ⟨_, lp_next hm, ?_⟩
       exact WkX.of v302 (WkS.perm (WkS.cons rfl (Wk.refl _) (WkS.cons rfl (Wk.refl _) (WkS.cons rfl (Wk.refl _) (WkS.cons rfl (Wk.refl _) (WkS.nil))))) Pf Pf)
      ·replace hm := yes_f hc301 hm
       refine wpD_skip ?_
       refine block_normal ?_
       refine then_normal ?_
       refine wpD_region ?_
       refine pu ?_
       refine pu ?_
       refine ops_nil ?_
       refine then_normal ⟨_, lp_next hm, ?_⟩
       exact WkX.of z285 (WkS.perm (WkS.cons rfl (Wk.refl _) (WkS.cons rfl (Wk.refl _) (WkS.cons rfl (Wk.refl _) (WkS.cons rfl (Wk.refl _) (WkS.nil))))) Pf Pf)
     ·replace hm := yes_f hc298 hm
      refine wpD_exit ?_
      refine then_exit ?_
      have e285 := lp_done hm; subst e285; clear hm; have hm := hq285
      refine then_exit ?_
      refine block_hit ?_
      have e284 := yes_eq hm; subst e284
      refine ⟨rfl, ?_⟩
      exact WkX.of z285 (WkS.perm (WkS.cons rfl (Wk.refl _) (WkS.nil)) Pf Pf)
   ·intro s284 hw284; clear hm; have hm := ho284; clear q284 ho284
    refine then_normal ?_
    refine wpD_wkX hw284 (fun z284 => ?_)
    refine wpD_sr ?_
    refine pu ?_
    obtain ⟨x304, q304, hm⟩ := yes_bind hm
    refine p_callG (ladder_Cut_ok y284 (40 : Int) x304 q304) rfl rfl rfl rfl rfl (WkL.cons (Wk.no) (WkL.cons (Wk.refl _) Wl)) Pf Pf ?_
    rintro _ _ _ ⟨w303, rfl, rfl, rfl⟩
    refine pu ?_
    refine ops_nt ?_
    refine wpD_ret ?_
    have er305 := yes_eq hm; subst er305
    refine rP (t' := [(2, .lst 1 (x304.map eI64) (.cur w303))]) [] [0] 0 (wC wN) (lT lN) ?_
    exact ⟨w303, rfl, rfl, rfl⟩
noncomputable def r11_Ints (a0 : List Int) (a1 : List Int) : Option (Bool) :=
  (bif ((a0.length : Int) != (a1.length : Int)) then some false else (Option.bind (α := (Unit) ⊕ (Bool)) (loopM (fun (s21 : Int) => (bif (decide (s21 < (a0.length : Int))) then ((idx a0 s21).bind fun x33 => ((idx a1 s21).bind fun x34 => (bif (x33 != x34) then some (.done (.inr false)) else some (.next (IntKind.i64.wrap (s21 + (1 : Int))))))) else some (.done (.inl ())))) (0 : Int)) (Sum.elim (fun y20 => some true) (fun r => some r))))
set_option maxRecDepth 100000 in
set_option maxHeartbeats 2000000 in
theorem r11_Ints_ok (a0 : List Int) (a1 : List Int) (r : Bool) (h0 : r11_Ints a0 a1 = some r) : CallsD Try.prog 5 [.lst 1 (a0.map eI64) .no, .lst 1 (a1.map eI64) .no] [] [] (fun d h k => d = .v (.bool r) ∧ h = [] ∧ k = []) := by
  have hm := yes_of h0
  unfold r11_Ints at hm
  clear h0
  refine enterX htab Try.func5 rfl rfl rfl rfl rfl (fun C => ?_)
  refine wpD_sr ?_
  refine pu ?_
  refine ops_nt ?_
  refine wpD_seq ?_
  refine wpD_sr ?_
  refine pu ?_
  refine p_lenL htab rfl rfl rfl rfl rfl rfl rfl (by first | exact map_len | rfl) ?_
  refine pu ?_
  refine p_lenL htab rfl rfl rfl rfl rfl rfl rfl (by first | exact map_len | rfl) ?_
  refine pu ?_
  refine ops_nt ?_
  refine wpD_cond rfl (fun hc2 => ?_) (fun hc2 => ?_)
  ·replace hm := yes_t hc2 hm
   refine wpD_sr ?_
   refine pu ?_
   refine ops_nt ?_
   refine wpD_ret ?_
   refine then_ret ?_
   have er3 := yes_eq hm; subst er3
   refine rP (t' := [(4, .v (.bool false))]) [] [] 0 (wC wN) (lT lN) ?_
   exact ⟨rfl, rfl, rfl⟩
  ·replace hm := yes_f hc2 hm
   refine wpD_skip ?_
   refine then_normal ?_
   refine wpD_seq ?_
   refine wpD_sr ?_
   refine pu ?_
   refine ops_nt ?_
   obtain ⟨x20, q20, ho20⟩ := yes_bind hm
   refine wpD_midX (τ := Unit) (Y := Unit) (fun y20 z20 => (⟨[], [], []⟩ : S)) x20 ?_ ?_
   ·clear hm; have hm := yes_of q20
    refine wpD_block ?_
    obtain ⟨u21, hl21, hq21⟩ := yes_m hm
    refine loop_M (Y := Unit) hl21 (fun s21 z21 => (⟨[(0, .lst 1 (a0.map eI64) .no), (1, .lst 1 (a1.map eI64) .no), (5, .v (.int .i64 s21))], [], []⟩ : S)) ?_ ?_
    ·skip
     exact WkX.of () (WkS.perm (WkS.cons rfl (Wk.refl _) (WkS.cons rfl (Wk.refl _) (WkS.cons rfl (Wk.refl _) (WkS.nil)))) Pf Pf)
    ·intro G21 s21 z21 hm
     refine wpD_seq ?_
     refine wpD_sr ?_
     refine pu ?_
     refine pu ?_
     refine p_lenL htab rfl rfl rfl rfl rfl rfl rfl (by first | exact map_len | rfl) ?_
     refine pu ?_
     refine ops_nt ?_
     refine wpD_cond rfl (fun hc32 => ?_) (fun hc32 => ?_)
     ·replace hm := yes_t hc32 hm
      refine wpD_skip ?_
      refine then_normal ?_
      refine wpD_seq ?_
      refine wpD_block ?_
      refine wpD_seq ?_
      obtain ⟨x33, q33, hm⟩ := yes_bind hm
      obtain ⟨x34, q34, hm⟩ := yes_bind hm
      refine wpD_draws 8 [] [[],[],[0],[0,2],[],[],[4],[4,6]] [0,2,4,6] [[],[],[0,1],[0,1,2],[],[],[4,5],[4,5,6],[0,1,2,3,4,5,6,7]] (by kernel_rfl) (by kernel_rfl) (by kernel_rfl) (by rfl) (by rfl) (by kernel_rfl) ?_
      iterate 4 apply Exists.intro
      intro bs
      refine zep ?_
      refine zqp ?_
      refine z_e rfl rfl (x_elem htab rfl rfl rfl rfl rfl rfl rfl (idx_nonneg q33) (idx_map q33)) rfl rfl rfl rfl rfl rfl ?_
      refine z_qM rfl rfl (xm_loadEl htab rfl rfl rfl rfl rfl) rfl rfl rfl rfl rfl rfl ?_
      refine zep ?_
      refine zqp ?_
      refine z_e rfl rfl (x_elem htab rfl rfl rfl rfl rfl rfl rfl (idx_nonneg q34) (idx_map q34)) rfl rfl rfl rfl rfl rfl ?_
      refine z_qM rfl rfl (xm_loadEl htab rfl rfl rfl rfl rfl) rfl rfl rfl rfl rfl rfl ?_
      refine z_nil rfl rfl (fun e he => by simp [isAl] at he) ?_
      refine pu ?_
      refine ops_nt ?_
      refine wpD_cond rfl (fun hc35 => ?_) (fun hc35 => ?_)
      ·replace hm := yes_t hc35 hm
       refine wpD_sr ?_
       refine pu ?_
       refine ops_nt ?_
       refine wpD_ret ?_
       refine block_ret ?_
       refine then_ret ?_
       have e21 := lp_done hm; subst e21; clear hm; have hm := hq21
       refine then_ret ?_
       refine block_ret ?_
       have e20 := yes_eq hm; subst e20; refine midX_inr ?_; clear hm; have hm := ho20; simp only [Sum.elim_inr] at hm
       refine then_ret ?_
       have er36 := yes_eq hm; subst er36
       refine rP (t' := [(4, .v (.bool false))]) [] [] 0 (wC wN) (lT lN) ?_
       exact ⟨rfl, rfl, rfl⟩
      ·replace hm := yes_f hc35 hm
       refine wpD_skip ?_
       refine block_normal ?_
       refine then_normal ?_
       refine wpD_region ?_
       iterate 3 refine pu ?_
       refine ops_nil ?_
       refine then_normal ⟨_, lp_next hm, ?_⟩
       exact WkX.of () (WkS.perm (WkS.cons rfl (Wk.refl _) (WkS.cons rfl (Wk.refl _) (WkS.cons rfl (Wk.refl _) (WkS.nil)))) Pf Pf)
     ·replace hm := yes_f hc32 hm
      refine wpD_exit ?_
      refine then_exit ?_
      have e21 := lp_done hm; subst e21; clear hm; have hm := hq21
      refine then_exit ?_
      refine block_hit ?_
      have e20 := yes_eq hm; subst e20
      refine midX_inl ?_
      exact WkX.of () (WkS.perm (WkS.nil) Pf Pf)
   ·intro y20 s20 hx20 hw20; subst hx20; clear hm; have hm := ho20; simp only [Sum.elim_inl] at hm; clear q20 ho20
    refine then_normal ?_
    refine wpD_wkX hw20 (fun z20 => ?_)
    refine wpD_sr ?_
    refine pu ?_
    refine ops_nt ?_
    refine wpD_ret ?_
    have er37 := yes_eq hm; subst er37
    refine rP (t' := [(4, .v (.bool true))]) [] [] 0 (wC wN) (lT lN) ?_
    exact ⟨rfl, rfl, rfl⟩
noncomputable def l16_lives : Option (Bool) :=
  ((ladder_Of (⟨[], []⟩ : TApiProgram)).bind fun x2 => ((r11_Ints x2 ([(-1 : Int), (0 : Int), (1 : Int)] : List Int)).bind fun x3 => some x3))
set_option maxRecDepth 100000 in
set_option maxHeartbeats 2000000 in
theorem l16_lives_ok  (r : Bool) (h0 : l16_lives = some r) : CallsD Try.prog 4 [] [] [] (fun d h k => d = .v (.bool r) ∧ h = [] ∧ k = []) := by
  have hm := yes_of h0
  unfold l16_lives at hm
  clear h0
  refine enterX htab Try.func4 rfl rfl rfl rfl rfl (fun C => ?_)
  refine wpD_sr ?_
  refine pu ?_
  refine ops_n2 ?_
  refine p_build (r := [.lst 1 [] .full, .lst 1 [] .full]) htab rfl rfl rfl rfl rfl rfl rfl rfl rfl ?_
  obtain ⟨x2, q2, hm⟩ := yes_bind hm
  refine p_callG (ladder_Of_ok (⟨[], []⟩ : TApiProgram) x2 q2) rfl rfl rfl rfl rfl (WkL.cons (Wk.agg (WkR.cons (WkC.nil) rfl (WkR.cons (WkC.nil) rfl WkR.nil))) Wl) Pf Pf ?_
  rintro _ _ _ ⟨w1, rfl, rfl, rfl⟩
  refine p_lit htab rfl rfl rfl rfl rfl rfl rfl rfl rfl rfl rfl rfl rfl rfl ?_
  refine p_eq (i := 3) (d' := .lst 1 (([(-1 : Int), (0 : Int), (1 : Int)] : List Int).map eI64) .full) rfl (Wk.lst0 (.cons (WkC.refl _) (.cons (WkC.refl _) (.cons (WkC.refl _) (.nil))))) ?_
  obtain ⟨x3, q3, hm⟩ := yes_bind hm
  refine p_call0 (r11_Ints_ok x2 ([(-1 : Int), (0 : Int), (1 : Int)] : List Int) x3 q3) rfl rfl rfl rfl rfl (WkL.cons (Wk.no) (WkL.cons (Wk.no) Wl)) ?_
  rintro _ rfl
  refine pu ?_
  refine ops_nt ?_
  refine wpD_ret ?_
  have er4 := yes_eq hm; subst er4
  refine rP (t' := [(0, .v (.bool x3))]) [] [] 0 (wC wN) (lT lN) ?_
  exact ⟨rfl, rfl, rfl⟩
noncomputable def r16_in (a0 : List Int) (a1 : Int) : Option (Bool) :=
  (Option.bind (α := (Unit) ⊕ (Bool)) (loopM (fun (s15 : Int) => (bif (decide (s15 < (a0.length : Int))) then ((idx a0 s15).bind fun x25 => (bif (x25 == a1) then some (.done (.inr true)) else some (.next (IntKind.i64.wrap (s15 + (1 : Int)))))) else some (.done (.inl ())))) (0 : Int)) (Sum.elim (fun y14 => some false) (fun r => some r)))
set_option maxRecDepth 100000 in
set_option maxHeartbeats 2000000 in
theorem r16_in_ok (a0 : List Int) (a1 : Int) (r : Bool) (h0 : r16_in a0 a1 = some r) : CallsD Try.prog 14 [.lst 1 (a0.map eI64) .no, .v (.int .i64 a1)] [] [] (fun d h k => d = .v (.bool r) ∧ h = [] ∧ k = []) := by
  have hm := yes_of h0
  unfold r16_in at hm
  clear h0
  refine enterX htab Try.func14 rfl rfl rfl rfl rfl (fun C => ?_)
  refine wpD_sr ?_
  refine pu ?_
  refine ops_nt ?_
  refine wpD_seq ?_
  refine wpD_sr ?_
  refine pu ?_
  refine ops_nt ?_
  obtain ⟨x14, q14, ho14⟩ := yes_bind hm
  refine wpD_midX (τ := Unit) (Y := Unit) (fun y14 z14 => (⟨[], [], []⟩ : S)) x14 ?_ ?_
  ·clear hm; have hm := yes_of q14
   refine wpD_block ?_
   obtain ⟨u15, hl15, hq15⟩ := yes_m hm
   refine loop_M (Y := Unit) hl15 (fun s15 z15 => (⟨[(0, .lst 1 (a0.map eI64) .no), (1, .v (.int .i64 a1)), (5, .v (.int .i64 s15))], [], []⟩ : S)) ?_ ?_
   ·skip
    exact WkX.of () (WkS.perm (WkS.cons rfl (Wk.refl _) (WkS.cons rfl (Wk.refl _) (WkS.cons rfl (Wk.refl _) (WkS.nil)))) Pf Pf)
   ·intro G15 s15 z15 hm
    refine wpD_seq ?_
    refine wpD_sr ?_
    refine pu ?_
    refine pu ?_
    refine p_lenL htab rfl rfl rfl rfl rfl rfl rfl (by first | exact map_len | rfl) ?_
    refine pu ?_
    refine ops_nt ?_
    refine wpD_cond rfl (fun hc24 => ?_) (fun hc24 => ?_)
    ·replace hm := yes_t hc24 hm
     refine wpD_skip ?_
     refine then_normal ?_
     refine wpD_seq ?_
     refine wpD_block ?_
     refine wpD_sr ?_
     refine pu ?_
     refine pu ?_
     obtain ⟨x25, q25, hm⟩ := yes_bind hm
     refine p_elem htab rfl rfl rfl rfl rfl rfl rfl rfl rfl rfl (idx_nonneg q25) (idx_map q25) ?_
     refine p_loadEl htab rfl rfl rfl rfl rfl rfl rfl rfl ?_
     refine pu ?_
     refine pu ?_
     refine ops_nt ?_
     refine wpD_cond rfl (fun hc26 => ?_) (fun hc26 => ?_)
     ·replace hm := yes_t hc26 hm
      refine wpD_sr ?_
      refine pu ?_
      refine ops_nt ?_
      refine wpD_ret ?_
      refine block_ret ?_
      refine then_ret ?_
      have e15 := lp_done hm; subst e15; clear hm; have hm := hq15
      refine then_ret ?_
      refine block_ret ?_
      have e14 := yes_eq hm; subst e14; refine midX_inr ?_; clear hm; have hm := ho14; simp only [Sum.elim_inr] at hm
      refine then_ret ?_
      have er27 := yes_eq hm; subst er27
      refine rP (t' := [(4, .v (.bool true))]) [] [] 0 (wC wN) (lT lN) ?_
      exact ⟨rfl, rfl, rfl⟩
     ·replace hm := yes_f hc26 hm
      refine wpD_skip ?_
      refine block_normal ?_
      refine then_normal ?_
      refine wpD_region ?_
      iterate 3 refine pu ?_
      refine ops_nil ?_
      refine then_normal ⟨_, lp_next hm, ?_⟩
      exact WkX.of () (WkS.perm (WkS.cons rfl (Wk.refl _) (WkS.cons rfl (Wk.refl _) (WkS.cons rfl (Wk.refl _) (WkS.nil)))) Pf Pf)
    ·replace hm := yes_f hc24 hm
     refine wpD_exit ?_
     refine then_exit ?_
     have e15 := lp_done hm; subst e15; clear hm; have hm := hq15
     refine then_exit ?_
     refine block_hit ?_
     have e14 := yes_eq hm; subst e14
     refine midX_inl ?_
     exact WkX.of () (WkS.perm (WkS.nil) Pf Pf)
  ·intro y14 s14 hx14 hw14; subst hx14; clear hm; have hm := ho14; simp only [Sum.elim_inl] at hm; clear q14 ho14
   refine then_normal ?_
   refine wpD_wkX hw14 (fun z14 => ?_)
   refine wpD_sr ?_
   refine pu ?_
   refine ops_nt ?_
   refine wpD_ret ?_
   have er28 := yes_eq hm; subst er28
   refine rP (t' := [(4, .v (.bool false))]) [] [] 0 (wC wN) (lT lN) ?_
   exact ⟨rfl, rfl, rfl⟩
noncomputable def r16_size (a0 : Int) : Option (Int) :=
  (bif (decide (a0 < (0 : Int))) then some (IntKind.u64.wrap ((IntKind.u64.wrap (IntKind.i64.wrap (0 - (IntKind.i64.wrap (a0 + (1 : Int)))))) + (1 : Int))) else some (IntKind.u64.wrap a0))
set_option maxRecDepth 100000 in
set_option maxHeartbeats 2000000 in
theorem r16_size_ok (a0 : Int) (r : Int) (h0 : r16_size a0 = some r) : CallsD Try.prog 24 [.v (.int .i64 a0)] [] [] (fun d h k => d = .v (.int .u64 r) ∧ h = [] ∧ k = []) := by
  have hm := yes_of h0
  unfold r16_size at hm
  clear h0
  refine enterX htab Try.func24 rfl rfl rfl rfl rfl (fun C => ?_)
  refine wpD_sr ?_
  refine pu ?_
  refine ops_nt ?_
  refine wpD_seq ?_
  refine wpD_sr ?_
  refine pu ?_
  refine pu ?_
  refine ops_nt ?_
  refine wpD_cond rfl (fun hc1 => ?_) (fun hc1 => ?_)
  ·replace hm := yes_t hc1 hm
   refine wpD_sr ?_
   iterate 6 refine pu ?_
   refine ops_nt ?_
   refine wpD_ret ?_
   refine then_ret ?_
   have er2 := yes_eq hm; subst er2
   refine rP (t' := [(2, .v (.int .u64 (IntKind.u64.wrap ((IntKind.u64.wrap (IntKind.i64.wrap (0 - (IntKind.i64.wrap (a0 + (1 : Int)))))) + (1 : Int)))))]) [] [] 0 (wC wN) (lT lN) ?_
   exact ⟨rfl, rfl, rfl⟩
  ·replace hm := yes_f hc1 hm
   refine wpD_skip ?_
   refine then_normal ?_
   refine wpD_sr ?_
   iterate 3 refine pu ?_
   refine ops_nt ?_
   refine wpD_ret ?_
   have er3 := yes_eq hm; subst er3
   refine rP (t' := [(2, .v (.int .u64 (IntKind.u64.wrap a0)))]) [] [] 0 (wC wN) (lT lN) ?_
   exact ⟨rfl, rfl, rfl⟩
noncomputable def r16_lesser (a0 : Int) (a1 : Int) : Option (Bool) :=
  ((r16_size a0).bind fun x1 => ((r16_size a1).bind fun x2 => (bif (decide (x1 < x2)) then some true else ((r16_size a0).bind fun x5 => ((r16_size a1).bind fun x6 => (bif (x5 == x6) then some (decide (a0 < a1)) else some false))))))
set_option maxRecDepth 100000 in
set_option maxHeartbeats 2000000 in
theorem r16_lesser_ok (a0 : Int) (a1 : Int) (r : Bool) (h0 : r16_lesser a0 a1 = some r) : CallsD Try.prog 15 [.v (.int .i64 a0), .v (.int .i64 a1)] [] [] (fun d h k => d = .v (.bool r) ∧ h = [] ∧ k = []) := by
  have hm := yes_of h0
  unfold r16_lesser at hm
  clear h0
  refine enterX htab Try.func15 rfl rfl rfl rfl rfl (fun C => ?_)
  refine wpD_sr ?_
  refine pu ?_
  refine ops_n2 ?_
  refine pu ?_
  obtain ⟨x1, q1, hm⟩ := yes_bind hm
  refine p_call0 (r16_size_ok a0 x1 q1) rfl rfl rfl rfl rfl Wl ?_
  rintro _ rfl
  refine pu ?_
  obtain ⟨x2, q2, hm⟩ := yes_bind hm
  refine p_call0 (r16_size_ok a1 x2 q2) rfl rfl rfl rfl rfl Wl ?_
  rintro _ rfl
  refine pu ?_
  refine pu ?_
  refine p_split (i := 10) rfl (fun hg3 => ?_) (fun hg3 => ?_)
  ·replace hm := yes_t hg3 hm
   iterate 10 refine pK ?_
   refine p_pickT rfl rfl rfl rfl rfl rfl ?_
   refine pu ?_
   refine ops_nt ?_
   refine wpD_ret ?_
   have er4 := yes_eq hm; subst er4
   refine rP (t' := [(4, .v (.bool true))]) [] [] 0 (wC wN) (lT lN) ?_
   exact ⟨rfl, rfl, rfl⟩
  ·replace hm := yes_f hg3 hm
   refine pu ?_
   obtain ⟨x5, q5, hm⟩ := yes_bind hm
   refine p_call0 (r16_size_ok a0 x5 q5) rfl rfl rfl rfl rfl Wl ?_
   rintro _ rfl
   refine pu ?_
   obtain ⟨x6, q6, hm⟩ := yes_bind hm
   refine p_call0 (r16_size_ok a1 x6 q6) rfl rfl rfl rfl rfl Wl ?_
   rintro _ rfl
   refine pu ?_
   refine pu ?_
   refine p_split (i := 16) rfl (fun hg7 => ?_) (fun hg7 => ?_)
   ·replace hm := yes_t hg7 hm
    iterate 3 refine pu ?_
    refine p_pickT rfl rfl rfl rfl rfl rfl ?_
    refine p_pickF rfl rfl rfl rfl rfl rfl ?_
    refine pu ?_
    refine ops_nt ?_
    refine wpD_ret ?_
    have er8 := yes_eq hm; subst er8
    refine rP (t' := [(4, .v (.bool (decide (a0 < a1))))]) [] [] 0 (wC wN) (lT lN) ?_
    exact ⟨rfl, rfl, rfl⟩
   ·replace hm := yes_f hg7 hm
    iterate 3 refine pK ?_
    refine p_pickF rfl rfl rfl rfl rfl rfl ?_
    refine p_pickF rfl rfl rfl rfl rfl rfl ?_
    refine pu ?_
    refine ops_nt ?_
    refine wpD_ret ?_
    have er9 := yes_eq hm; subst er9
    refine rP (t' := [(4, .v (.bool false))]) [] [] 0 (wC wN) (lT lN) ?_
    exact ⟨rfl, rfl, rfl⟩
noncomputable def r16_Cut (a0 : List Int) (a1 : Int) : Option (List Int) :=
  (Option.bind (α := List Int) (loopM (fun (s291 : List Int) => (bif (decide ((s291.length : Int) < a1)) then (Option.bind (α := Int × Bool) (loopM (fun (s530 : Int × Bool × Int) => (bif (decide (s530.2.2 < (a0.length : Int))) then (Option.bind (α := Bool) ((idx a0 s530.2.2).bind fun x567 => ((r16_in s291 x567).bind fun x568 => (bif (!x568) then (bif (!s530.2.1) then some true else ((idx a0 s530.2.2).bind fun x571 => ((r16_lesser x571 s530.1).bind fun x572 => some x572))) else some false))) fun y566 => (bif y566 then ((idx a0 s530.2.2).bind fun x574 => some (.next (x574, true, (IntKind.i64.wrap (s530.2.2 + (1 : Int)))))) else some (.next (s530.1, s530.2.1, (IntKind.i64.wrap (s530.2.2 + (1 : Int))))))) else some (.done (s530.1, s530.2.1)))) ((0 : Int), false, (0 : Int))) fun y529 => (bif (!y529.2) then some (.done s291) else ((app 8 s291 ([y529.1] : List Int)).bind fun x576 => some (.next x576)))) else some (.done s291))) ([] : List Int)) fun y290 => (Option.bind (α := List Int) (loopM (fun (s839 : List Int) => (bif (decide ((s839.length : Int) < (y290.length : Int))) then (Option.bind (α := Int) (loopM (fun (s1056 : Int × Bool × Int) => (bif (decide (s1056.2.2 < (y290.length : Int))) then (Option.bind (α := Bool) ((idx y290 s1056.2.2).bind fun x1090 => ((r16_in s839 x1090).bind fun x1091 => (bif (!x1091) then (bif (!s1056.2.1) then some true else ((idx y290 s1056.2.2).bind fun x1094 => some (decide (x1094 < s1056.1)))) else some false))) fun y1089 => (bif y1089 then ((idx y290 s1056.2.2).bind fun x1096 => some (.next (x1096, true, (IntKind.i64.wrap (s1056.2.2 + (1 : Int)))))) else some (.next (s1056.1, s1056.2.1, (IntKind.i64.wrap (s1056.2.2 + (1 : Int))))))) else some (.done s1056.1))) ((0 : Int), false, (0 : Int))) fun y1055 => ((app 8 s839 ([y1055] : List Int)).bind fun x1097 => some (.next x1097))) else some (.done s839))) ([] : List Int)) fun y838 => some y838))
set_option maxRecDepth 100000 in
set_option maxHeartbeats 2000000 in
theorem r16_Cut_ok (a0 : List Int) (a1 : Int) (r : List Int) (h0 : r16_Cut a0 a1 = some r) : CallsD Try.prog 7 [.lst 1 (a0.map eI64) .no, .v (.int .i64 a1)] [] [] (fun d h k => ∃ y0, d = .lst 1 (r.map eI64) (.cur y0) ∧ h = [] ∧ k = [(1, y0)]) := by
  have hm := yes_of h0
  unfold r16_Cut at hm
  clear h0
  refine enterX htab Try.func7 rfl rfl rfl rfl rfl (fun C => ?_)
  refine wpD_sr ?_
  refine pu ?_
  refine ops_n2 ?_
  refine pu ?_
  refine ops_nt ?_
  refine wpD_seq ?_
  obtain ⟨y290, q290, ho290⟩ := yes_bind hm
  refine wpD_mid (Y := Value) (fun z290 => (⟨[(5, .lst 1 (y290.map eI64) (.cur z290))], [], [(1, z290)]⟩ : S)) ?_ ?_
  ·clear hm; have hm := yes_of q290
   refine wpD_block ?_
   obtain ⟨u291, hl291, hq291⟩ := yes_m hm
   refine loop_M (Y := Value) hl291 (fun s291 z291 => (⟨[(0, .lst 1 (a0.map eI64) .no), (1, .v (.int .i64 a1)), (5, .lst 1 (s291.map eI64) (.cur z291))], [], [(1, z291)]⟩ : S)) ?_ ?_
   ·skip
    refine WkX.tokN (i := 5) 1 rfl (fun w482 => ?_)
    exact WkX.of w482 (WkS.perm (WkS.cons rfl (Wk.refl _) (WkS.cons rfl (Wk.refl _) (WkS.cons rfl (Wk.refl _) (WkS.nil)))) Pf Pf)
   ·intro G291 s291 z291 hm
    refine wpD_seq ?_
    refine wpD_sr ?_
    refine pu ?_
    refine p_lenL htab rfl rfl rfl rfl rfl rfl rfl (by first | exact map_len | rfl) ?_
    refine pu ?_
    refine pu ?_
    refine ops_nt ?_
    refine wpD_cond rfl (fun hc483 => ?_) (fun hc483 => ?_)
    ·replace hm := yes_t hc483 hm
     refine wpD_skip ?_
     refine then_normal ?_
     refine wpD_block ?_
     refine wpD_sr ?_
     refine pu ?_
     refine pu ?_
     refine ops_nt ?_
     refine wpD_seq ?_
     refine wpD_sr ?_
     refine pu ?_
     refine ops_nt ?_
     obtain ⟨y529, q529, ho529⟩ := yes_bind hm
     refine wpD_mid (Y := Unit) (fun z529 => (⟨[(0, .lst 1 (a0.map eI64) .no), (1, .v (.int .i64 a1)), (5, .lst 1 (s291.map eI64) (.cur z291)), (6, .v (.int .i64 y529.1)), (7, .v (.bool y529.2))], [], [(1, z291)]⟩ : S)) ?_ ?_
     ·clear hm; have hm := yes_of q529
      refine wpD_block ?_
      obtain ⟨u530, hl530, hq530⟩ := yes_m hm
      refine loop_M (Y := Unit) hl530 (fun s530 z530 => (⟨[(0, .lst 1 (a0.map eI64) .no), (1, .v (.int .i64 a1)), (5, .lst 1 (s291.map eI64) (.cur z291)), (6, .v (.int .i64 s530.1)), (7, .v (.bool s530.2.1)), (8, .v (.int .i64 s530.2.2))], [], [(1, z291)]⟩ : S)) ?_ ?_
      ·skip
       exact WkX.of () (WkS.perm (WkS.cons rfl (Wk.refl _) (WkS.cons rfl (Wk.refl _) (WkS.cons rfl (Wk.refl _) (WkS.cons rfl (Wk.refl _) (WkS.cons rfl (Wk.refl _) (WkS.cons rfl (Wk.refl _) (WkS.nil))))))) Pf Pf)
      ·intro G530 s530 z530 hm
       refine wpD_seq ?_
       refine wpD_sr ?_
       refine pu ?_
       refine pu ?_
       refine p_lenL htab rfl rfl rfl rfl rfl rfl rfl (by first | exact map_len | rfl) ?_
       refine pu ?_
       refine ops_nt ?_
       refine wpD_cond rfl (fun hc559 => ?_) (fun hc559 => ?_)
       ·replace hm := yes_t hc559 hm
        refine wpD_skip ?_
        refine then_normal ?_
        refine wpD_seq ?_
        refine wpD_block ?_
        refine wpD_seq ?_
        obtain ⟨y566, q566, ho566⟩ := yes_bind hm
        refine wpD_mid (Y := Unit) (fun z566 => (⟨[(0, .lst 1 (a0.map eI64) .no), (1, .v (.int .i64 a1)), (5, .lst 1 (s291.map eI64) (.cur z291)), (6, .v (.int .i64 s530.1)), (7, .v (.bool s530.2.1)), (8, .v (.int .i64 s530.2.2)), (41, .v (.bool y566))], [], [(1, z291)]⟩ : S)) ?_ ?_
        ·clear hm; have hm := yes_of q566
         refine wpD_region ?_
         iterate 3 refine pu ?_
         obtain ⟨x567, q567, hm⟩ := yes_bind hm
         refine p_elem htab rfl rfl rfl rfl rfl rfl rfl rfl rfl rfl (idx_nonneg q567) (idx_map q567) ?_
         refine p_loadEl htab rfl rfl rfl rfl rfl rfl rfl rfl ?_
         obtain ⟨x568, q568, hm⟩ := yes_bind hm
         refine p_call0 (r16_in_ok s291 x567 x568 q568) rfl rfl rfl rfl rfl (WkL.cons (Wk.no) (WkL.cons (Wk.refl _) Wl)) ?_
         rintro _ rfl
         refine pu ?_
         refine pu ?_
         refine p_split (i := 30) rfl (fun hg569 => ?_) (fun hg569 => ?_)
         ·replace hm := yes_t hg569 hm
          iterate 3 refine pu ?_
          refine p_split (i := 33) rfl (fun hg570 => ?_) (fun hg570 => ?_)
          ·replace hm := yes_t hg570 hm
           iterate 6 refine pK ?_
           refine p_pickT rfl rfl rfl rfl rfl rfl ?_
           refine p_pickT rfl rfl rfl rfl rfl rfl ?_
           refine ops_nil ?_
           have e566 := yes_eq hm; subst e566
           refine ⟨rfl, ?_⟩
           exact WkX.of () (WkS.perm (WkS.cons rfl (Wk.refl _) (WkS.cons rfl (Wk.refl _) (WkS.cons rfl (Wk.refl _) (WkS.cons rfl (Wk.refl _) (WkS.cons rfl (Wk.refl _) (WkS.cons rfl (Wk.refl _) (WkS.cons rfl (Wk.refl _) (WkS.nil)))))))) Pf Pf)
          ·replace hm := yes_f hg570 hm
           refine pu ?_
           refine pu ?_
           obtain ⟨x571, q571, hm⟩ := yes_bind hm
           refine p_elem htab rfl rfl rfl rfl rfl rfl rfl rfl rfl rfl (idx_nonneg q571) (idx_map q571) ?_
           refine p_loadEl htab rfl rfl rfl rfl rfl rfl rfl rfl ?_
           refine pu ?_
           obtain ⟨x572, q572, hm⟩ := yes_bind hm
           refine p_call0 (r16_lesser_ok x571 s530.1 x572 q572) rfl rfl rfl rfl rfl Wl ?_
           rintro _ rfl
           refine p_pickF rfl rfl rfl rfl rfl rfl ?_
           refine p_pickT rfl rfl rfl rfl rfl rfl ?_
           refine ops_nil ?_
           have e566 := yes_eq hm; subst e566
           refine ⟨rfl, ?_⟩
           exact WkX.of () (WkS.perm (WkS.cons rfl (Wk.refl _) (WkS.cons rfl (Wk.refl _) (WkS.cons rfl (Wk.refl _) (WkS.cons rfl (Wk.refl _) (WkS.cons rfl (Wk.refl _) (WkS.cons rfl (Wk.refl _) (WkS.cons rfl (Wk.refl _) (WkS.nil)))))))) Pf Pf)
         ·replace hm := yes_f hg569 hm
          iterate 10 refine pK ?_
          refine p_pickF rfl rfl rfl rfl rfl rfl ?_
          refine ops_nil ?_
          have e566 := yes_eq hm; subst e566
          refine ⟨rfl, ?_⟩
          exact WkX.of () (WkS.perm (WkS.cons rfl (Wk.refl _) (WkS.cons rfl (Wk.refl _) (WkS.cons rfl (Wk.refl _) (WkS.cons rfl (Wk.refl _) (WkS.cons rfl (Wk.refl _) (WkS.cons rfl (Wk.refl _) (WkS.cons rfl (Wk.refl _) (WkS.nil)))))))) Pf Pf)
        ·intro s566 hw566; clear hm; have hm := ho566; clear q566 ho566
         refine then_normal ?_
         refine wpD_wkX hw566 (fun z566 => ?_)
         refine wpD_cond rfl (fun hc573 => ?_) (fun hc573 => ?_)
         ·replace hm := yes_t hc573 hm
          refine wpD_sr ?_
          refine pu ?_
          refine pu ?_
          obtain ⟨x574, q574, hm⟩ := yes_bind hm
          refine p_elem htab rfl rfl rfl rfl rfl rfl rfl rfl rfl rfl (idx_nonneg q574) (idx_map q574) ?_
          refine p_loadEl htab rfl rfl rfl rfl rfl rfl rfl rfl ?_
          refine pu ?_
          refine ops_nt ?_
          refine wpD_region ?_
          refine pu ?_
          refine ops_nil ?_
          refine block_normal ?_
          refine then_normal ?_
          refine wpD_region ?_
          iterate 3 refine pu ?_
          refine ops_nil ?_
          refine then_normal ⟨_, lp_next hm, ?_⟩
          exact WkX.of () (WkS.perm (WkS.cons rfl (Wk.refl _) (WkS.cons rfl (Wk.refl _) (WkS.cons rfl (Wk.refl _) (WkS.cons rfl (Wk.refl _) (WkS.cons rfl (Wk.refl _) (WkS.cons rfl (Wk.refl _) (WkS.nil))))))) Pf Pf)
         ·replace hm := yes_f hc573 hm
          refine wpD_skip ?_
          refine block_normal ?_
          refine then_normal ?_
          refine wpD_region ?_
          iterate 3 refine pu ?_
          refine ops_nil ?_
          refine then_normal ⟨_, lp_next hm, ?_⟩
          exact WkX.of () (WkS.perm (WkS.cons rfl (Wk.refl _) (WkS.cons rfl (Wk.refl _) (WkS.cons rfl (Wk.refl _) (WkS.cons rfl (Wk.refl _) (WkS.cons rfl (Wk.refl _) (WkS.cons rfl (Wk.refl _) (WkS.nil))))))) Pf Pf)
       ·replace hm := yes_f hc559 hm
        refine wpD_exit ?_
        refine then_exit ?_
        have e530 := lp_done hm; subst e530; clear hm; have hm := hq530
        refine then_exit ?_
        refine block_hit ?_
        have e529 := yes_eq hm; subst e529
        refine ⟨rfl, ?_⟩
        exact WkX.of () (WkS.perm (WkS.cons rfl (Wk.refl _) (WkS.cons rfl (Wk.refl _) (WkS.cons rfl (Wk.refl _) (WkS.cons rfl (Wk.refl _) (WkS.cons rfl (Wk.refl _) (WkS.nil)))))) Pf Pf)
     ·intro s529 hw529; clear hm; have hm := ho529; clear q529 ho529
      refine then_normal ?_
      refine wpD_wkX hw529 (fun z529 => ?_)
      refine wpD_seq ?_
      refine wpD_sr ?_
      refine pu ?_
      refine pu ?_
      refine ops_nt ?_
      refine wpD_cond rfl (fun hc575 => ?_) (fun hc575 => ?_)
      ·replace hm := yes_t hc575 hm
       refine wpD_exit ?_
       refine then_exit ?_
       refine block_miss rfl ?_
       have e291 := lp_done hm; subst e291; clear hm; have hm := hq291
       refine then_exit ?_
       refine block_hit ?_
       have e290 := yes_eq hm; subst e290
       refine ⟨rfl, ?_⟩
       exact WkX.of z291 (WkS.perm (WkS.cons rfl (Wk.refl _) (WkS.nil)) Pf Pf)
      ·replace hm := yes_f hc575 hm
       refine wpD_skip ?_
       refine then_normal ?_
       refine wpD_region ?_
       refine pu ?_
       refine pu ?_
       refine p_lit htab rfl rfl rfl rfl rfl rfl rfl rfl rfl rfl rfl rfl rfl rfl ?_
       refine p_eq (i := 50) (d' := .lst 1 (([y529.1] : List Int).map eI64) .full) rfl (Wk.lst0 (.cons (WkC.refl _) (.nil))) ?_
       obtain ⟨x576, q576, hm⟩ := yes_bind hm
       refine p_appC 0 htab rfl rfl rfl rfl rfl rfl rfl rfl rfl rfl rfl rfl rfl rfl rfl rfl rfl (app_bound q576) (fun v576 => ?_)
       refine p_mapD (i := 51) q576 rfl ?_
       refine pu ?_
       refine ops_nil ?_
       refine block_normal ?_
       refine then_normal ⟨_, lp_next hm, ?_⟩
       exact WkX.of v576 (WkS.perm (WkS.cons rfl (Wk.refl _) (WkS.cons rfl (Wk.refl _) (WkS.cons rfl (Wk.refl _) (WkS.nil)))) Pf Pf)
    ·replace hm := yes_f hc483 hm
     refine wpD_exit ?_
     refine then_exit ?_
     have e291 := lp_done hm; subst e291; clear hm; have hm := hq291
     refine then_exit ?_
     refine block_hit ?_
     have e290 := yes_eq hm; subst e290
     refine ⟨rfl, ?_⟩
     exact WkX.of z291 (WkS.perm (WkS.cons rfl (Wk.refl _) (WkS.nil)) Pf Pf)
  ·intro s290 hw290; clear hm; have hm := ho290; clear q290 ho290
   refine then_normal ?_
   refine wpD_wkX hw290 (fun z290 => ?_)
   refine wpD_sr ?_
   refine pu ?_
   refine ops_nt ?_
   refine wpD_seq ?_
   obtain ⟨y838, q838, ho838⟩ := yes_bind hm
   refine wpD_mid (Y := Value) (fun z838 => (⟨[(9, .lst 1 (y838.map eI64) (.cur z838))], [], [(1, z838)]⟩ : S)) ?_ ?_
   ·clear hm; have hm := yes_of q838
    refine wpD_block ?_
    obtain ⟨u839, hl839, hq839⟩ := yes_m hm
    refine loop_M (Y := Value) hl839 (fun s839 z839 => (⟨[(5, .lst 1 (y290.map eI64) (.cur z290)), (9, .lst 1 (s839.map eI64) (.cur z839))], [], [(1, z839), (1, z290)]⟩ : S)) ?_ ?_
    ·skip
     refine WkX.tokN (i := 9) 1 rfl (fun w1012 => ?_)
     exact WkX.of w1012 (WkS.perm (WkS.cons rfl (Wk.refl _) (WkS.cons rfl (Wk.refl _) (WkS.nil))) Pf Pf)
    ·intro G839 s839 z839 hm
     refine wpD_seq ?_
     refine wpD_sr ?_
     refine pu ?_
     refine p_lenL htab rfl rfl rfl rfl rfl rfl rfl (by first | exact map_len | rfl) ?_
     refine pu ?_
     refine p_lenL htab rfl rfl rfl rfl rfl rfl rfl (by first | exact map_len | rfl) ?_
     refine pu ?_
     refine ops_nt ?_
     refine wpD_cond rfl (fun hc1013 => ?_) (fun hc1013 => ?_)
     ·replace hm := yes_t hc1013 hm
      refine wpD_skip ?_
      refine then_normal ?_
      refine wpD_block ?_
      refine wpD_sr ?_
      refine pu ?_
      refine pu ?_
      refine ops_nt ?_
      refine wpD_seq ?_
      refine wpD_sr ?_
      refine pu ?_
      refine ops_nt ?_
      obtain ⟨y1055, q1055, ho1055⟩ := yes_bind hm
      refine wpD_mid (Y := Unit) (fun z1055 => (⟨[(5, .lst 1 (y290.map eI64) (.cur z290)), (9, .lst 1 (s839.map eI64) (.cur z839)), (10, .v (.int .i64 y1055))], [], [(1, z839), (1, z290)]⟩ : S)) ?_ ?_
      ·clear hm; have hm := yes_of q1055
       refine wpD_block ?_
       obtain ⟨u1056, hl1056, hq1056⟩ := yes_m hm
       refine loop_M (Y := Unit) hl1056 (fun s1056 z1056 => (⟨[(5, .lst 1 (y290.map eI64) (.cur z290)), (9, .lst 1 (s839.map eI64) (.cur z839)), (10, .v (.int .i64 s1056.1)), (11, .v (.bool s1056.2.1)), (12, .v (.int .i64 s1056.2.2))], [], [(1, z839), (1, z290)]⟩ : S)) ?_ ?_
       ·skip
        exact WkX.of () (WkS.perm (WkS.cons rfl (Wk.refl _) (WkS.cons rfl (Wk.refl _) (WkS.cons rfl (Wk.refl _) (WkS.cons rfl (Wk.refl _) (WkS.cons rfl (Wk.refl _) (WkS.nil)))))) Pf Pf)
       ·intro G1056 s1056 z1056 hm
        refine wpD_seq ?_
        refine wpD_sr ?_
        refine pu ?_
        refine pu ?_
        refine p_lenL htab rfl rfl rfl rfl rfl rfl rfl (by first | exact map_len | rfl) ?_
        refine pu ?_
        refine ops_nt ?_
        refine wpD_cond rfl (fun hc1083 => ?_) (fun hc1083 => ?_)
        ·replace hm := yes_t hc1083 hm
         refine wpD_skip ?_
         refine then_normal ?_
         refine wpD_seq ?_
         refine wpD_block ?_
         refine wpD_seq ?_
         obtain ⟨y1089, q1089, ho1089⟩ := yes_bind hm
         refine wpD_mid (Y := Unit) (fun z1089 => (⟨[(5, .lst 1 (y290.map eI64) (.cur z290)), (9, .lst 1 (s839.map eI64) (.cur z839)), (10, .v (.int .i64 s1056.1)), (11, .v (.bool s1056.2.1)), (12, .v (.int .i64 s1056.2.2)), (81, .v (.bool y1089))], [], [(1, z839), (1, z290)]⟩ : S)) ?_ ?_
         ·clear hm; have hm := yes_of q1089
          refine wpD_region ?_
          iterate 3 refine pu ?_
          obtain ⟨x1090, q1090, hm⟩ := yes_bind hm
          refine p_elem htab rfl rfl rfl rfl rfl rfl rfl rfl rfl rfl (idx_nonneg q1090) (idx_map q1090) ?_
          refine p_loadEl htab rfl rfl rfl rfl rfl rfl rfl rfl ?_
          obtain ⟨x1091, q1091, hm⟩ := yes_bind hm
          refine p_call0 (r16_in_ok s839 x1090 x1091 q1091) rfl rfl rfl rfl rfl (WkL.cons (Wk.no) (WkL.cons (Wk.refl _) Wl)) ?_
          rintro _ rfl
          refine pu ?_
          refine pu ?_
          refine p_split (i := 70) rfl (fun hg1092 => ?_) (fun hg1092 => ?_)
          ·replace hm := yes_t hg1092 hm
           iterate 3 refine pu ?_
           refine p_split (i := 73) rfl (fun hg1093 => ?_) (fun hg1093 => ?_)
           ·replace hm := yes_t hg1093 hm
            iterate 6 refine pK ?_
            refine p_pickT rfl rfl rfl rfl rfl rfl ?_
            refine p_pickT rfl rfl rfl rfl rfl rfl ?_
            refine ops_nil ?_
            have e1089 := yes_eq hm; subst e1089
            refine ⟨rfl, ?_⟩
            exact WkX.of () (WkS.perm (WkS.cons rfl (Wk.refl _) (WkS.cons rfl (Wk.refl _) (WkS.cons rfl (Wk.refl _) (WkS.cons rfl (Wk.refl _) (WkS.cons rfl (Wk.refl _) (WkS.cons rfl (Wk.refl _) (WkS.nil))))))) Pf Pf)
           ·replace hm := yes_f hg1093 hm
            refine pu ?_
            refine pu ?_
            obtain ⟨x1094, q1094, hm⟩ := yes_bind hm
            refine p_elem htab rfl rfl rfl rfl rfl rfl rfl rfl rfl rfl (idx_nonneg q1094) (idx_map q1094) ?_
            refine p_loadEl htab rfl rfl rfl rfl rfl rfl rfl rfl ?_
            refine pu ?_
            refine pu ?_
            refine p_pickF rfl rfl rfl rfl rfl rfl ?_
            refine p_pickT rfl rfl rfl rfl rfl rfl ?_
            refine ops_nil ?_
            have e1089 := yes_eq hm; subst e1089
            refine ⟨rfl, ?_⟩
            exact WkX.of () (WkS.perm (WkS.cons rfl (Wk.refl _) (WkS.cons rfl (Wk.refl _) (WkS.cons rfl (Wk.refl _) (WkS.cons rfl (Wk.refl _) (WkS.cons rfl (Wk.refl _) (WkS.cons rfl (Wk.refl _) (WkS.nil))))))) Pf Pf)
          ·replace hm := yes_f hg1092 hm
           iterate 10 refine pK ?_
           refine p_pickF rfl rfl rfl rfl rfl rfl ?_
           refine ops_nil ?_
           have e1089 := yes_eq hm; subst e1089
           refine ⟨rfl, ?_⟩
           exact WkX.of () (WkS.perm (WkS.cons rfl (Wk.refl _) (WkS.cons rfl (Wk.refl _) (WkS.cons rfl (Wk.refl _) (WkS.cons rfl (Wk.refl _) (WkS.cons rfl (Wk.refl _) (WkS.cons rfl (Wk.refl _) (WkS.nil))))))) Pf Pf)
         ·intro s1089 hw1089; clear hm; have hm := ho1089; clear q1089 ho1089
          refine then_normal ?_
          refine wpD_wkX hw1089 (fun z1089 => ?_)
          refine wpD_cond rfl (fun hc1095 => ?_) (fun hc1095 => ?_)
          ·replace hm := yes_t hc1095 hm
           refine wpD_sr ?_
           refine pu ?_
           refine pu ?_
           obtain ⟨x1096, q1096, hm⟩ := yes_bind hm
           refine p_elem htab rfl rfl rfl rfl rfl rfl rfl rfl rfl rfl (idx_nonneg q1096) (idx_map q1096) ?_
           refine p_loadEl htab rfl rfl rfl rfl rfl rfl rfl rfl ?_
           refine pu ?_
           refine ops_nt ?_
           refine wpD_region ?_
           refine pu ?_
           refine ops_nil ?_
           refine block_normal ?_
           refine then_normal ?_
           refine wpD_region ?_
           iterate 3 refine pu ?_
           refine ops_nil ?_
           refine then_normal ⟨_, lp_next hm, ?_⟩
           exact WkX.of () (WkS.perm (WkS.cons rfl (Wk.refl _) (WkS.cons rfl (Wk.refl _) (WkS.cons rfl (Wk.refl _) (WkS.cons rfl (Wk.refl _) (WkS.cons rfl (Wk.refl _) (WkS.nil)))))) Pf Pf)
          ·replace hm := yes_f hc1095 hm
           refine wpD_skip ?_
           refine block_normal ?_
           refine then_normal ?_
           refine wpD_region ?_
           iterate 3 refine pu ?_
           refine ops_nil ?_
           refine then_normal ⟨_, lp_next hm, ?_⟩
           exact WkX.of () (WkS.perm (WkS.cons rfl (Wk.refl _) (WkS.cons rfl (Wk.refl _) (WkS.cons rfl (Wk.refl _) (WkS.cons rfl (Wk.refl _) (WkS.cons rfl (Wk.refl _) (WkS.nil)))))) Pf Pf)
        ·replace hm := yes_f hc1083 hm
         refine wpD_exit ?_
         refine then_exit ?_
         have e1056 := lp_done hm; subst e1056; clear hm; have hm := hq1056
         refine then_exit ?_
         refine block_hit ?_
         have e1055 := yes_eq hm; subst e1055
         refine ⟨rfl, ?_⟩
         exact WkX.of () (WkS.perm (WkS.cons rfl (Wk.refl _) (WkS.cons rfl (Wk.refl _) (WkS.cons rfl (Wk.refl _) (WkS.nil)))) Pf Pf)
      ·intro s1055 hw1055; clear hm; have hm := ho1055; clear q1055 ho1055
       refine then_normal ?_
       refine wpD_wkX hw1055 (fun z1055 => ?_)
       refine wpD_region ?_
       refine pu ?_
       refine pu ?_
       refine p_lit htab rfl rfl rfl rfl rfl rfl rfl rfl rfl rfl rfl rfl rfl rfl ?_
       refine p_eq (i := 88) (d' := .lst 1 (([y1055] : List Int).map eI64) .full) rfl (Wk.lst0 (.cons (WkC.refl _) (.nil))) ?_
       obtain ⟨x1097, q1097, hm⟩ := yes_bind hm
       refine p_appC 0 htab rfl rfl rfl rfl rfl rfl rfl rfl rfl rfl rfl rfl rfl rfl rfl rfl rfl (app_bound q1097) (fun v1097 => ?_)
       refine p_mapD (i := 89) q1097 rfl ?_
       refine pu ?_
       refine ops_nil ?_
       refine block_normal ?_
       refine then_normal ⟨_, lp_next hm, ?_⟩
       exact WkX.of v1097 (WkS.perm (WkS.cons rfl (Wk.refl _) (WkS.cons rfl (Wk.refl _) (WkS.nil))) Pf Pf)
     ·replace hm := yes_f hc1013 hm
      refine wpD_exit ?_
      refine then_exit ?_
      have e839 := lp_done hm; subst e839; clear hm; have hm := hq839
      refine then_exit ?_
      refine block_hit ?_
      have e838 := yes_eq hm; subst e838
      refine ⟨rfl, ?_⟩
      exact WkX.of z839 (WkS.perm (WkS.cons rfl (Wk.refl _) (WkS.nil)) Pf Pf)
   ·intro s838 hw838; clear hm; have hm := ho838; clear q838 ho838
    refine then_normal ?_
    refine wpD_wkX hw838 (fun z838 => ?_)
    refine wpD_sr ?_
    refine pu ?_
    refine pu ?_
    refine ops_nt ?_
    refine wpD_ret ?_
    have er1098 := yes_eq hm; subst er1098
    refine rP (t' := [(4, .lst 1 (y838.map eI64) (.cur z838))]) [] [0] 0 (wC wN) (lT lN) ?_
    exact ⟨z838, rfl, rfl, rfl⟩
noncomputable def l16_LadderCuts (a0 : List Int) (a1 : Int) : Option (Bool) :=
  (bif (decide ((200 : Int) < (a0.length : Int))) then (l16_lives.bind fun x4 => some x4) else ((ladder_Cut a0 a1).bind fun x7 => ((r16_Cut a0 a1).bind fun x9 => ((r11_Ints x7 x9).bind fun x10 => (bif x10 then (l16_lives.bind fun x12 => some x12) else some false)))))
set_option maxRecDepth 100000 in
set_option maxHeartbeats 2000000 in
theorem l16_LadderCuts_ok (a0 : List Int) (a1 : Int) (r : Bool) (h0 : l16_LadderCuts a0 a1 = some r) : CallsD Try.prog 3 [.lst 1 (a0.map eI64) .no, .v (.int .i64 a1)] [] [] (fun d h k => d = .v (.bool r) ∧ h = [] ∧ k = []) := by
  have hm := yes_of h0
  unfold l16_LadderCuts at hm
  clear h0
  refine enterX htab Try.func3 rfl rfl rfl rfl rfl (fun C => ?_)
  refine wpD_sr ?_
  refine pu ?_
  refine ops_nt ?_
  refine wpD_seq ?_
  refine wpD_sr ?_
  refine pu ?_
  refine p_lenL htab rfl rfl rfl rfl rfl rfl rfl (by first | exact map_len | rfl) ?_
  refine pu ?_
  refine ops_nt ?_
  refine wpD_cond rfl (fun hc3 => ?_) (fun hc3 => ?_)
  ·replace hm := yes_t hc3 hm
   refine wpD_sr ?_
   obtain ⟨x4, q4, hm⟩ := yes_bind hm
   refine p_call0 (l16_lives_ok x4 q4) rfl rfl rfl rfl rfl Wl ?_
   rintro _ rfl
   refine pu ?_
   refine ops_nt ?_
   refine wpD_ret ?_
   refine then_ret ?_
   have er5 := yes_eq hm; subst er5
   refine rP (t' := [(4, .v (.bool x4))]) [] [] 0 (wC wN) (lT lN) ?_
   exact ⟨rfl, rfl, rfl⟩
  ·replace hm := yes_f hc3 hm
   refine wpD_skip ?_
   refine then_normal ?_
   refine wpD_sr ?_
   refine pu ?_
   refine pu ?_
   obtain ⟨x7, q7, hm⟩ := yes_bind hm
   refine pG (ladder_Cut_ok a0 a1 x7 q7) Wl Pf Pf ?_
   rintro _ _ _ ⟨w6, rfl, rfl, rfl⟩
   refine pu ?_
   refine pu ?_
   obtain ⟨x9, q9, hm⟩ := yes_bind hm
   refine pG (r16_Cut_ok a0 a1 x9 q9) Wl Pf Pf ?_
   rintro _ _ _ ⟨w8, rfl, rfl, rfl⟩
   obtain ⟨x10, q10, hm⟩ := yes_bind hm
   refine p_call0 (r11_Ints_ok x7 x9 x10 q10) rfl rfl rfl rfl rfl (WkL.cons (Wk.no) (WkL.cons (Wk.no) Wl)) ?_
   rintro _ rfl
   refine pu ?_
   refine p_split (i := 16) rfl (fun hg11 => ?_) (fun hg11 => ?_)
   ·replace hm := yes_t hg11 hm
    obtain ⟨x12, q12, hm⟩ := yes_bind hm
    refine p_call0 (l16_lives_ok x12 q12) rfl rfl rfl rfl rfl Wl ?_
    rintro _ rfl
    refine p_pickT rfl rfl rfl rfl rfl rfl ?_
    refine pu ?_
    refine ops_nt ?_
    refine wpD_ret ?_
    have er13 := yes_eq hm; subst er13
    refine rP (t' := [(4, .v (.bool x12))]) [] [] 0 (wC wN) (lT lN) ?_
    exact ⟨rfl, rfl, rfl⟩
   ·replace hm := yes_f hg11 hm
    refine pK ?_
    refine p_pickF rfl rfl rfl rfl rfl rfl ?_
    refine pu ?_
    refine ops_nt ?_
    refine wpD_ret ?_
    have er14 := yes_eq hm; subst er14
    refine rP (t' := [(4, .v (.bool false))]) [] [] 0 (wC wN) (lT lN) ?_
    exact ⟨rfl, rfl, rfl⟩
end Go.Proofs.Ytjfkolocfhmbnaa.Ab
namespace Go.Proofs.Ytjfkolocfhmbnaa.Ab
open Go
set_option linter.all false
section
variable {α : Type} {R : α → α → Prop}
def Rise (R : α → α → Prop) (l : List α) : Prop := l.Pairwise fun a b => R a b ∧ a ≠ b
theorem rise_unique (an : ∀ a b, R a b → R b a → a = b) : ∀ {l m : List α}, Rise R l → Rise R m → (∀ x, x ∈ l ↔ x ∈ m) → l = m
  | [], [], _, _, _ => rfl
  | [], y :: m, _, _, h => by have := (h y).2 (by simp); cases this
  | x :: l, [], _, _, h => by have := (h x).1 (by simp); cases this
  | x :: l, y :: m, hl, hm, h => by
    unfold Rise at hl hm
    rw [List.pairwise_cons] at hl hm
    have hxy : x = y := by
      rcases List.mem_cons.1 ((h x).1 (by simp)) with e | e
      · exact e
      · rcases List.mem_cons.1 ((h y).2 (by simp)) with e2 | e2
        · exact e2.symm
        · exact an _ _ (hl.1 _ e2).1 (hm.1 _ e).1
    subst hxy
    congr 1
    refine rise_unique an hl.2 hm.2 fun z => ?_
    constructor
    · intro hz
      rcases List.mem_cons.1 ((h z).1 (List.mem_cons_of_mem _ hz)) with e | e
      · exact absurd e.symm (hl.1 _ hz).2
      · exact e
    · intro hz
      rcases List.mem_cons.1 ((h z).2 (List.mem_cons_of_mem _ hz)) with e | e
      · exact absurd e.symm (hm.1 _ hz).2
      · exact e
variable [Inhabited α] [DecidableEq α]
theorem compactUp_rise (tr : ∀ a b c, R a b → R b c → R a c) (re : ∀ a, R a a) (an : ∀ a b, R a b → R b a → a = b) (d : Array α) (hs : ∀ i j, i < j → j < d.size → R d[i]! d[j]!) : ∀ m, m ≤ d.size →
    Rise R (Lib.compactUpTo d m) ∧ (∀ x, x ∈ Lib.compactUpTo d m ↔ ∃ j, j < m ∧ x = d[j]!)
  | 0, _ => ⟨by simp [Rise, Lib.compactUpTo], by simp [Lib.compactUpTo]⟩
  | m + 1, h => by
    obtain ⟨h1, h2⟩ := compactUp_rise tr re an d hs m (by omega)
    rw [Lib.compactUpTo_succ]
    by_cases k : Lib.keeps d m = true
    · rw [if_pos k]
      refine ⟨?_, fun x => ?_⟩
      · unfold Rise at h1 ⊢
        rw [List.pairwise_append]
        refine ⟨h1, by simp, fun a ha b hb => ?_⟩
        simp only [List.mem_singleton] at hb; subst hb
        obtain ⟨j, hj, rfl⟩ := (h2 a).1 ha
        refine ⟨hs j m hj (by omega), fun e => ?_⟩
        have hk : m = 0 ∨ d[m]! ≠ d[m - 1]! := by simpa [Lib.keeps] using k
        rcases hk with hk | hk
        · omega
        · refine hk (an _ _ ?_ (hs (m - 1) m (by omega) (by omega)))
          rw [← e]
          by_cases hjm : j = m - 1
          · subst hjm; exact re _
          · exact hs j (m - 1) (by omega) (by omega)
      · rw [List.mem_append, h2 x, List.mem_singleton]
        constructor
        · rintro (⟨j, hj, rfl⟩ | rfl)
          · exact ⟨j, by omega, rfl⟩
          · exact ⟨m, by omega, rfl⟩
        · rintro ⟨j, hj, rfl⟩
          by_cases hjm : j = m
          · subst hjm; exact .inr rfl
          · exact .inl ⟨j, by omega, rfl⟩
    · rw [if_neg k, List.append_nil]
      refine ⟨h1, fun x => ?_⟩
      rw [h2 x]
      have hk : ¬ (m = 0 ∨ d[m]! ≠ d[m - 1]!) := by simpa [Lib.keeps] using k
      have hm : m ≠ 0 := fun e => hk (.inl e)
      have he : d[m]! = d[m - 1]! := by
        by_cases q : d[m]! = d[m - 1]!
        · exact q
        · exact absurd (.inr q) hk
      constructor
      · rintro ⟨j, hj, rfl⟩; exact ⟨j, by omega, rfl⟩
      · rintro ⟨j, hj, rfl⟩
        by_cases hjm : j = m
        · subst hjm; exact ⟨j - 1, by omega, he⟩
        · exact ⟨j, by omega, rfl⟩
theorem compact_rise (tr : ∀ a b c, R a b → R b c → R a c) (re : ∀ a, R a a) (an : ∀ a b, R a b → R b a → a = b) {l : List α} (hs : l.Pairwise R) : Rise R (Lib.compact l) ∧ ∀ x, x ∈ Lib.compact l ↔ x ∈ l := by
  have hg : ∀ j, j < l.length → l.toArray[j]! = l[j]! := fun j hj => by
    rw [getElem!_pos l.toArray j (by simpa using hj), getElem!_pos l j hj]; simp
  obtain ⟨h1, h2⟩ := compactUp_rise tr re an l.toArray (fun i j hij hj => by
    have hj' : j < l.length := by simpa using hj
    rw [hg i (by omega), hg j hj', getElem!_pos l i (by omega), getElem!_pos l j hj']
    exact List.pairwise_iff_getElem.1 hs i j _ _ hij) l.length (by simp)
  refine ⟨h1, fun x => ?_⟩
  unfold Lib.compact
  rw [h2 x]
  constructor
  · rintro ⟨j, hj, rfl⟩
    rw [hg j hj, getElem!_pos l j hj]; exact List.getElem_mem _
  · intro hx
    obtain ⟨j, hj, rfl⟩ := List.getElem_of_mem hx
    exact ⟨j, hj, by rw [hg j hj, getElem!_pos l j hj]⟩
end
end Go.Proofs.Ytjfkolocfhmbnaa.Ab
