/- The texts that storeOfUptoCard_holds leans on, part 3. -/
import Derived.Test.YtipfljkjjddapaaGreatDoorVa2
set_option maxRecDepth 100000
set_option maxHeartbeats 80000000
namespace Go.Proofs.YtipfljkjjddapaaGreatDoor.Ab
open Go
set_option linter.all false
inductive Step (σ τ : Type) where
 | next (s : σ)
 | done (t : τ)
def loopN {σ τ : Type} (f : σ → Option (Step σ τ)) : Nat → σ → Option τ
  | 0, _ => none
  | n + 1, s => match f s with
    | none => none
    | some (.next s') => loopN f n s'
    | some (.done t) => some t
theorem KlD {σ τ : Type} {f : σ → Option (Step σ τ)} : ∀ {n m : Nat} {s : σ} {t t' : τ}, loopN f n s = some t → loopN f m s = some t' → t = t'
  | 0, _, _, _, _, h, _ => by simp [loopN] at h
  | _ + 1, 0, _, _, _, _, h => by simp [loopN] at h
  | n + 1, m + 1, s, t, t', h, k => by
    simp only [loopN] at h k
    cases hf : f s with
    | none => rw [hf] at h; cases h
    | some x =>
      rw [hf] at h k
      cases x with
      | next s' => exact KlD h k
      | done u => simp at h k; rw [← h, ← k]
open Classical in
noncomputable def loopM {σ τ : Type} (f : σ → Option (Step σ τ)) (s : σ) : Option τ := if h : ∃ n t, loopN f n s = some t then some h.choose_spec.choose else none
theorem Kg7 {σ τ : Type} {f : σ → Option (Step σ τ)} {n : Nat} {s : σ} {t : τ} (h : loopN f n s = some t) : loopM f s = some t := by
 have hx : ∃ n t, loopN f n s = some t := ⟨n, t, h⟩
 unfold loopM
 rw [dif_pos hx]
 exact congrArg some (KlD hx.choose_spec.choose_spec h)
theorem KhP {σ τ : Type} {f : σ → Option (Step σ τ)} {s : σ} {t : τ} (h : loopM f s = some t) : ∃ n, loopN f n s = some t := by
 unfold loopM at h
 split at h
 ·rename_i hx
  simp only [Option.some.injEq] at h
  exact ⟨_, h ▸ hx.choose_spec.choose_spec⟩
 ·cases h
theorem KbY {σ τ : Type} {f : σ → Option (Step σ τ)} {s : σ} {t : τ} (h : f s = some (.done t)) : loopM f s = some t := Kg7 (n := 1) (by simp [loopN, h])
theorem KeT {σ τ : Type} {f : σ → Option (Step σ τ)} {s s' : σ} (h : f s = some (.next s')) : loopM f s = loopM f s' := by
  cases e : loopM f s' with
  | some t =>
    obtain ⟨n, hn⟩ := KhP e
    exact Kg7 (n := n + 1) (by simp [loopN, h, hn])
  | none =>
    cases e2 : loopM f s with
    | none => rfl
    | some t =>
      obtain ⟨n, hn⟩ := KhP e2
      cases n with
      | zero => simp [loopN] at hn
      | succ n =>
        simp only [loopN, h] at hn
        rw [Kg7 hn] at e; cases e
def Yes {α : Type} (m : Option α) (φ : α → Prop) : Prop := ∃ x, m = some x ∧ φ x
section
variable {α β : Type} {φ : α → Prop} {ψ : β → Prop}
theorem Kc {m : Option α} {f : α → Option β} (h : Yes (m.bind f) ψ) : ∃ a, m = some a ∧ Yes (f a) ψ := by
 obtain ⟨x, h1, h2⟩ := h
 rw [Option.bind_eq_some_iff] at h1
 obtain ⟨a, h3, h4⟩ := h1
 exact ⟨a, h3, x, h4, h2⟩
theorem yes_t {c : Bool} {a b : Option α} (hc : c = true) (h : Yes (bif c then a else b) φ) : Yes a φ := by subst hc; exact h
theorem yes_f {c : Bool} {a b : Option α} (hc : c = false) (h : Yes (bif c then a else b) φ) : Yes b φ := by subst hc; exact h
theorem Kw {m : Option α} {r : α} (h : m = some r) : Yes m (fun x => x = r) := ⟨r, h, rfl⟩
theorem Ke {a r : α} (h : Yes (some a) (fun x => x = r)) : a = r := by obtain ⟨x, h1, h2⟩ := h; cases h1; exact h2
theorem yes_m {m : Option α} (h : Yes m φ) : ∃ a, m = some a ∧ Yes (some a) φ := by
 obtain ⟨x, h1, h2⟩ := h
 exact ⟨x, h1, x, rfl, h2⟩
theorem KR (h : Yes none φ) : False := by obtain ⟨x, h1, _⟩ := h; cases h1
def need (p : Bool) : Option Unit := bif p then some () else none
theorem KgU {p : Bool} {u : Unit} (h : need p = some u) : p = true := by
 cases p with
 | true => rfl
 | false => cases h
def idx (xs : List α) (i : Int) : Option α := bif decide (0 ≤ i) then xs[i.toNat]? else none
theorem idx_ok {xs : List α} {i : Int} {x : α} (h : idx xs i = some x) : 0 ≤ i ∧ xs[i.toNat]? = some x := by
 unfold idx at h
 by_cases hi : 0 ≤ i
 ·rw [decide_eq_true hi] at h; exact ⟨hi, h⟩
 ·rw [decide_eq_false hi] at h; cases h
theorem Kz {xs : List α} {i : Int} {x : α} (h : idx xs i = some x) : 0 ≤ i := (idx_ok h).1
theorem KG {xs : List α} {i : Int} {x : α} {e : α → D} (h : idx xs i = some x) : (xs.map e)[i.toNat]? = some (e x) := by
 rw [List.getElem?_map, (idx_ok h).2]; rfl
theorem idx_nat (xs : List α) (n : Nat) : idx xs (n : Int) = xs[n]? := by simp [idx]
def cutL (xs : List α) (l h : Int) : Option (List α) := bif decide (0 ≤ l) && decide (l ≤ h) && decide (h ≤ (xs.length : Int)) then some ((xs.drop l.toNat).take (h.toNat - l.toNat)) else none
theorem cutL_ok {xs ys : List α} {l h : Int} (e : cutL xs l h = some ys) : ys = (xs.drop l.toNat).take (h.toNat - l.toNat) ∧ l = (l.toNat : Int) ∧ h = (h.toNat : Int) ∧ l.toNat ≤ h.toNat ∧ h.toNat ≤ xs.length := by
  unfold cutL at e
  cases hc : decide (0 ≤ l) && decide (l ≤ h) && decide (h ≤ (xs.length : Int)) with
  | false => rw [hc] at e; cases e
  | true =>
    rw [hc] at e
    simp only [Bool.and_eq_true, decide_eq_true_eq] at hc
    obtain ⟨⟨h1, h2⟩, h3⟩ := hc
    simp only [cond_true, Option.some.injEq] at e
    exact ⟨e.symm, by omega, by omega, by omega, by omega⟩
def app (bb : Nat) (xs ys : List α) : Option (List α) := bif decide ((xs.length + ys.length) * bb ≤ 140737488355328) then some (xs ++ ys) else none
theorem Kik {bb : Nat} {xs ys zs : List α} (h : app bb xs ys = some zs) : zs = xs ++ ys ∧ (xs.length + ys.length) * bb ≤ 140737488355328 := by
  unfold app at h
  cases hc : decide ((xs.length + ys.length) * bb ≤ 140737488355328) with
  | false => rw [hc] at h; cases h
  | true =>
    rw [hc] at h
    simp only [cond_true, Option.some.injEq] at h
    exact ⟨h.symm, of_decide_eq_true hc⟩
theorem app_of {bb : Nat} {xs ys : List α} (h : (xs.length + ys.length) * bb ≤ 140737488355328) : app bb xs ys = some (xs ++ ys) := by
 unfold app; rw [decide_eq_true h]; rfl
theorem Kb5 {bb : Nat} {xs ys zs : List α} {e : α → D} (h : app bb xs ys = some zs) : ((xs.map e).length + (ys.map e).length) * bb ≤ 140737488355328 := by
 simpa using (Kik h).2
theorem app_map {bb : Nat} {xs ys zs : List α} {e : α → D} (h : app bb xs ys = some zs) : xs.map e ++ ys.map e = zs.map e := by
 rw [(Kik h).1, List.map_append]
theorem KM {xs : List α} {e : α → D} : (xs.map e).length = xs.length := List.length_map _
end
def WkC (d d' : D) : Prop := ∀ H us, RepC H d us → RepC H d' us
def WkR (ds ds' : List D) : Prop := ∀ H us, Reps H ds us → Reps H ds' us
theorem WkC.refl (d : D) : WkC d d := fun _ _ h => h
theorem WkC.no {k : Nat} {xs : List D} {c : Cap} : WkC (.lst k xs c) (.lst k xs .no) := fun H us h => by
 simp only [RepC] at h ⊢
 obtain ⟨y, e, _, h⟩ := h
 exact ⟨y, e, trivial, h⟩
theorem WkC.nil {k k' : Nat} {c : Cap} : WkC (.lst k [] c) (.lst k' [] .no) := fun H us h => by
 simp only [RepC] at h ⊢
 obtain ⟨y, e, _, h⟩ := h
 rcases h with ⟨_, h⟩ | ⟨b, off, m, e1, e2, e3⟩
 ·exact ⟨y, e, trivial, .inl ⟨by trivial, h⟩⟩
 ·exact ⟨y, e, trivial, .inr ⟨b, off, m, e1, e2, by simp [Els]⟩⟩
theorem WkC.nilF {k k' : Nat} : WkC (.lst k [] .full) (.lst k' [] .full) := fun H us h => by
 simp only [RepC] at h ⊢
 obtain ⟨y, e, h0, h⟩ := h
 rcases h with ⟨_, h⟩ | ⟨b, off, m, e1, e2, e3⟩
 ·exact ⟨y, e, h0, .inl ⟨by trivial, h⟩⟩
 ·exact ⟨y, e, h0, .inr ⟨b, off, m, e1, e2, by simp [Els]⟩⟩
theorem WkC.agg {ds ds' : List D} (h : WkR ds ds') : WkC (.agg ds) (.agg ds') := fun H us k => by
 simp only [RepC] at k ⊢; exact h H us k
theorem WkC.of_eq {d d' : D} (h : d = d') : WkC d d' := h ▸ WkC.refl d
theorem WkR.refl (ds : List D) : WkR ds ds := fun _ _ h => h
theorem WkR.nil : WkR [] [] := WkR.refl _
theorem WkR.cons {d d' : D} {ds ds' : List D} (h : WkC d d') (hf : d'.flat = d.flat) (k : WkR ds ds') : WkR (d :: ds) (d' :: ds') := fun H us q => by
 simp only [Reps] at q ⊢
 obtain ⟨u, us', e, ⟨h1, h2, h3⟩, h4⟩ := q
 exact ⟨u, us', e, ⟨h H _ h1, h2, hf.trans h3⟩, k H _ h4⟩
inductive WkE : List D → List D → Prop
 | nil : WkE [] []
 | cons {d d' : D} {ds ds' : List D} (h : WkC d d') (k : WkE ds ds') : WkE (d :: ds) (d' :: ds')
theorem WkE.refl : ∀ ds : List D, WkE ds ds
 | [] => .nil
 | _ :: ds => .cons (WkC.refl _) (WkE.refl ds)
theorem WkE.els {H : Hp} {k b : Nat} : ∀ {ds ds' : List D} {off : Nat}, WkE ds ds' → Els H k b off ds → Els H k b off ds'
  | _, _, _, .nil, h => h
  | _, _, _, .cons h1 h2, h => by
    simp only [Els] at h ⊢
    obtain ⟨⟨us, e1, e2, e3⟩, h3⟩ := h
    exact ⟨⟨us, e1, h1 H us e2, e3⟩, h2.els h3⟩
theorem WkE.length {ds ds' : List D} (h : WkE ds ds') : ds.length = ds'.length := by
 induction h with
 | nil => rfl
 | cons _ _ ih => simp [ih]
theorem WkE.append {ds ds' es es' : List D} (h : WkE ds ds') (k : WkE es es') : WkE (ds ++ es) (ds' ++ es') := by
 induction h with
 | nil => exact k
 | cons h1 _ ih => exact .cons h1 ih
theorem WkC.lst {k : Nat} {xs ys : List D} {c : Cap} (h : WkE xs ys) : WkC (.lst k xs c) (.lst k ys c) := fun H us q => by
 simp only [RepC] at q ⊢
 obtain ⟨y, e, hc, q⟩ := q
 refine ⟨y, e, hc, ?_⟩
 rcases q with ⟨q1, q2⟩ | ⟨b, off, m, e1, e2, e3⟩
 ·subst q1
  cases h; exact .inl ⟨rfl, q2⟩
 ·exact .inr ⟨b, off, m, by rw [← h.length]; exact e1, by rw [← h.length]; exact e2, h.els e3⟩
theorem WkC.trans {a b c : D} (h : WkC a b) (k : WkC b c) : WkC a c := fun H us q => k H us (h H us q)
theorem WkC.wk {d d' : D} (h : WkC d d') (hs : ∀ y, d.shape y = true → d'.shape y = true) : Wk d d' := fun H y q => ⟨h H _ q.1, hs y q.2⟩
theorem shape_agg {l l' : List D} : ∀ y, (D.agg l).shape y = true → (D.agg l').shape y = true := fun y h => by cases y <;> first | rfl | cases h
theorem KlE {k k' : Nat} {l l' : List D} {c c' : Cap} : ∀ y, (D.lst k l c).shape y = true → (D.lst k' l' c').shape y = true := fun y h => by cases y <;> first | rfl | cases h
theorem Wk.agg {ds ds' : List D} (h : WkR ds ds') : Wk (.agg ds) (.agg ds') := (WkC.agg h).wk shape_agg
theorem Wk.lst0 {k : Nat} {xs ys : List D} {c : Cap} (h : WkE xs ys) : Wk (.lst k xs c) (.lst k ys c) := (WkC.lst h).wk KlE
theorem Wk.lst {k : Nat} {xs ys : List D} {c : Cap} (h : WkE xs ys) : Wk (.lst k xs c) (.lst k ys .no) := ((WkC.lst h).trans WkC.no).wk KlE
theorem Wk.trans {a b c : D} (h : Wk a b) (k : Wk b c) : Wk a c := fun H y q => k H y (h H y q)
theorem WkS.trans {C : Ctx} {a b c : S} (h : WkS C a b) (k : WkS C b c) : WkS C a c := fun H x w c1 t1 => by
 obtain ⟨H1, l1, c2, t2⟩ := h H x w c1 t1
 obtain ⟨H2, l2, c3, t3⟩ := k H1 x w c2 t2
 exact ⟨H2, Hp.le_trans l1 l2, c3, t3⟩
theorem WkS.refl {C : Ctx} (s : S) : WkS C s s := fun H _ _ c t => ⟨H, Hp.le_refl H, c, t⟩
theorem WkS.blk {C : Ctx} {t : List (Nat × D)} {h h' : List (Nat × Blk)} {k : List (Nat × Value)} {b : Nat} {ds ds' : List D} {T : TypeId} (j : Nat) (hb : h[j]? = some (b, .cells ds T)) (hw : WkR ds ds') (e : h.set j (b, .cells ds' T) = h') : WkS C ⟨t, h, k⟩ ⟨t, h', k⟩ := fun H a w c kt => by
 subst e
 refine ⟨H, Hp.le_refl H, ?_, kt⟩
 obtain ⟨us, h1, h2, h3⟩ := c.blks _ (List.mem_of_getElem? hb)
 have hlt := (List.getElem?_eq_some_iff.1 hb).1
 have hget := (List.getElem?_eq_some_iff.1 hb).2
 have hcl : KY (h.set j (b, Blk.cells ds' T)) k = KY h k := by
  exact KkO hb rfl
 refine ⟨c.ag, c.le, c.new, c.same, c.size, ?_, c.toks, by rw [hcl]; exact c.nd, by rw [hcl]; exact c.own, c.env⟩
 intro p hp
 rcases List.mem_or_eq_of_mem_set hp with hp | hp
 ·exact c.blks p hp
 ·subst hp; exact ⟨us, h1, hw H us h2, h3⟩
theorem TokOK.full {H : Hp} {w : World} {k : Nat} {y : Value} (h : CapOK .full y) : TokOK H w (k, y) := fun a n m e hlt => by
 subst e
 simp only [CapOK] at h; omega
theorem KlR {k : Nat} {y : Value} (h : CapOK .full y) : Kbr (k, y) = [] := by
 unfold Kbr
 split
 ·rename_i k0 a n m e
  simp only [Prod.mk.injEq] at e
  obtain ⟨_, e⟩ := e
  subst e
  simp only [CapOK] at h
  rw [if_neg (by omega)]
 ·rfl
theorem Core.tokFull {C : Ctx} {H : Hp} {h : List (Nat × Blk)} {k : List (Nat × Value)} {w : World} (c : Core C H h k w) (kk : Nat) {y : Value} (hy : CapOK .full y) : Core C H h ((kk, y) :: k) w := by
 have hcl : KY h ((kk, y) :: k) = KY h k := by unfold KY; rw [List.flatMap_cons, KlR hy]; rfl
 refine ⟨c.ag, c.le, c.new, c.same, c.size, c.blks, ?_, by rw [hcl]; exact c.nd, by rw [hcl]; exact c.own, c.env⟩
 intro p hp
 rcases List.mem_cons.1 hp with rfl | hp
 ·exact TokOK.full hy
 ·exact c.toks p hp
theorem lst_cur {H : Hp} {k : Nat} {xs : List D} {y : Value} (h : Rep H (.lst k xs .full) y) : CapOK .full y ∧ Rep H (.lst k xs (.cur y)) y := by
 obtain ⟨hc, hr⟩ := Kbd h
 refine ⟨hc, ?_, by have := h.2; cases y <;> first | rfl | cases this⟩
 have h1 := h.1
 simp only [RepC] at h1 ⊢
 obtain ⟨y', e, _, h3⟩ := h1
 have : y' = y := by
  have hs := h.2
  cases y <;> simp [D.shape] at hs <;> simp [Value.cells] at e <;> exact e.symm
 subst this
 exact ⟨y', e, rfl, h3⟩
section
variable {P : Program} {C : Ctx} {N : Nat} {ops rest : List Oper} {o : Oper} {t : List (Nat × D)} {h : List (Nat × Blk)} {k : List (Nat × Value)} {Q : Exit → S → Prop} {tab : List (Option TI)}
def WkX {Y : Type} (C : Ctx) (s : S) (S1 : Y → S) : Prop := ∀ H a w, Core C H s.h s.k w → TOK H s.t a → ∃ y H', H.le H' ∧ Core C H' (S1 y).h (S1 y).k w ∧ TOK H' (S1 y).t a
theorem WkX.of {Y : Type} {s : S} {S1 : Y → S} (y : Y) (h : WkS C s (S1 y)) : WkX C s S1 := fun H a w c t => by
 obtain ⟨H', h1, h2, h3⟩ := h H a w c t
 exact ⟨y, H', h1, h2, h3⟩
theorem WkX.wk {Y : Type} {s s' : S} {S1 : Y → S} (h : WkS C s s') (g : WkX C s' S1) : WkX C s S1 := fun H a w c t => by
 obtain ⟨H', h1, h2, h3⟩ := h H a w c t
 obtain ⟨y, H2, g1, g2, g3⟩ := g H' a w h2 h3
 exact ⟨y, H2, Hp.le_trans h1 g1, g2, g3⟩
theorem KiZ {t : List (Nat × D)} {H : Hp} {a : Act} (kt : TOK H t a) {i : Nat} {d : D} {v : Value} (h1 : a.tmps[i]? = some v) (h2 : Rep H d v) : TOK H ((i, d) :: t) a := by
  intro j d' e
  simp only [look] at e
  cases hb : Nat.beq i j with
  | true =>
    rw [hb] at e; simp at e; subst e
    have := Nat.eq_of_beq_eq_true hb; subst this
    exact ⟨v, h1, h2⟩
  | false => rw [hb] at e; exact kt j d' (by simpa using e)
theorem rep_nil {H : Hp} {k k' : Nat} {c : Cap} {y : Value} (h : Rep H (.lst k [] c) y) (hc : CapOK c y) : Rep H (.lst k' [] c) y := by
 obtain ⟨h1, h2⟩ := h
 refine ⟨?_, by cases y <;> first | rfl | cases h2⟩
 simp only [RepC] at h1 ⊢
 obtain ⟨z, e, h3, h4⟩ := h1
 refine ⟨z, e, h3, ?_⟩
 rcases h4 with ⟨_, h4⟩ | ⟨b, off, m, e1, e2, e3⟩
 ·exact .inl ⟨by trivial, h4⟩
 ·exact .inr ⟨b, off, m, e1, e2, by simp [Els]⟩
theorem WkX.tokN {Y : Type} {S1 : Y → S} {i k0 : Nat} (kk : Nat) (hx : look t i = some (.lst k0 [] .full)) (g : ∀ y, WkX C ⟨(i, .lst kk [] (.cur y)) :: t, h, (kk, y) :: k⟩ S1) : WkX C ⟨t, h, k⟩ S1 := fun H a w c kt => by
 obtain ⟨v, h1, h2⟩ := kt i _ hx
 have h5 := rep_nil (k' := kk) h2 (Kbd h2).1
 obtain ⟨h3, h4⟩ := lst_cur h5
 exact g v H a w (c.tokFull kk h3) (KiZ kt h1 h4)
theorem KkU {H : Hp} {w : World} {b off k0 : Nat} {ds : List D} {T : TypeId} {xs : List D} (kk j : Nat) (hb : h[j]? = some (b, .cells ds T)) (hd : ds[off]? = some (.lst k0 xs .full)) (hk : k0 = kk ∨ xs = []) (c : Core C H h k w) : ∃ y, Core C H (h.set j (b, .cells (ds.set off (.lst kk xs (.cur y))) T)) ((kk, y) :: k) w := by
 obtain ⟨us, h1, h2, h3⟩ := c.blks _ (List.mem_of_getElem? hb)
 obtain ⟨u, e1, e2, e3, e4⟩ := Kg1 h2 hd
 have hr : Rep H (.lst k0 xs .full) u := KaN e2 e3 e4
 have hr' : Rep H (.lst kk xs .full) u := by
  rcases hk with rfl | rfl
  ·exact hr
  ·exact rep_nil hr (Kbd hr).1
 obtain ⟨h4, h5⟩ := lst_cur hr'
 refine ⟨u, ?_⟩
 have c1 := c.tokFull kk h4
 have hcl : KY (h.set j (b, Blk.cells (ds.set off (.lst kk xs (.cur u))) T)) ((kk, u) :: k) = KY h ((kk, u) :: k) := by
  exact KkO hb rfl
 refine ⟨c1.ag, c1.le, c1.new, c1.same, c1.size, ?_, c1.toks, by rw [hcl]; exact c1.nd, by rw [hcl]; exact c1.own, c1.env⟩
 intro p hp
 rcases List.mem_or_eq_of_mem_set hp with hp | hp
 ·exact c1.blks p hp
 ·subst hp
  have hc5 := h5.1
  rw [KcL e3] at hc5
  exact ⟨us, h1, reps_set off h2 e1 ⟨hc5, rfl⟩, h3⟩
theorem WkX.cellF {Y : Type} {S1 : Y → S} {b off k0 : Nat} {ds : List D} {T : TypeId} {xs : List D} (kk j : Nat) (hb : h[j]? = some (b, .cells ds T)) (hd : ds[off]? = some (.lst k0 xs .full)) (hk : k0 = kk ∨ xs = []) (g : ∀ y, WkX C ⟨t, h.set j (b, .cells (ds.set off (.lst kk xs (.cur y))) T), (kk, y) :: k⟩ S1) : WkX C ⟨t, h, k⟩ S1 := fun H a w c kt => by
 obtain ⟨y, c'⟩ := KkU kk j hb hd hk c
 exact g y H a w c' kt
theorem WkS.perm {t t' : List (Nat × D)} {h' hj : List (Nat × Blk)} {k' kj : List (Nat × Value)} (e : ∀ i d, look t' i = some d → ∃ d0, look t i = some d0 ∧ Wk d0 d) (hh : h.Perm (h' ++ hj)) (kk : k.Perm (k' ++ kj)) : WkS C ⟨t, h, k⟩ ⟨t', h', k'⟩ := fun H a w c kt => by
 refine ⟨H, Hp.le_refl H, (c.perm hh kk).drop (List.sublist_append_left _ _) (List.sublist_append_left _ _), ?_⟩
 intro i d hd
 obtain ⟨d0, h1, h2⟩ := e i d hd
 obtain ⟨v, h3, h4⟩ := kt i d0 h1
 exact ⟨v, h3, h2 H v h4⟩
theorem KQ {Y : Type} {c : Code} {s : S} {S1 : Y → S} (hs : WkX C s S1) (g : ∀ y, wpD P C N c (S1 y) Q) : wpD P C N c s Q := by
 rintro a w ⟨H, c0, kt, hN, hdf⟩
 obtain ⟨y, H', hle, c', kt'⟩ := hs H a w c0 kt
 exact g y a w ⟨H', c', kt', hN, hdf⟩
theorem K5 {Y : Type} {c : Code} {s : S} (S1 : Y → S) (h1 : wpD P C N c s (fun x s' => x = .normal ∧ WkX C s' S1)) (h2 : ∀ s', WkX C s' S1 → Q .normal s') : wpD P C N c s Q :=
 Kkm h1 fun _ s' ⟨e, hw⟩ => by subst e; exact h2 s' hw
def midX {τ ρ Y : Type} (C : Ctx) (S1 : τ → Y → S) (Q : Exit → S → Prop) (x : τ ⊕ ρ) : Exit → S → Prop := fun e s =>
 match x with
 | .inl v => e = .normal ∧ WkX C s (S1 v)
 | .inr _ => Q e s
theorem Kaq {τ ρ Y : Type} {c : Code} {s : S} (S1 : τ → Y → S) (x : τ ⊕ ρ) (h1 : wpD P C N c s (midX C S1 Q x)) (h2 : ∀ v s', x = .inl v → WkX C s' (S1 v) → Q .normal s') : wpD P C N c s Q := by
  refine Kkm h1 fun e s' hm => ?_
  cases x with
  | inl v =>
    obtain ⟨e1, hw⟩ := hm
    subst e1
    exact h2 v s' rfl hw
  | inr r => exact hm
theorem WkX.trans {Y Z : Type} {s : S} {S1 : Y → S} {S2 : Z → S} (h : WkX C s S1) (g : ∀ y, WkX C (S1 y) S2) : WkX C s S2 := fun H a w c kt => by
 obtain ⟨y, H1, l1, c1, t1⟩ := h H a w c kt
 obtain ⟨z, H2, l2, c2, t2⟩ := g y H1 a w c1 t1
 exact ⟨z, H2, Hp.le_trans l1 l2, c2, t2⟩
def LP {σ τ : Type} (t : τ) (G : σ → Prop) : Step σ τ → Prop
 | .next s => G s
 | .done u => u = t
theorem Kam {σ τ : Type} {t : τ} {G : σ → Prop} {s : σ} (h : Yes (some (Step.next s)) (LP t G)) : G s := by obtain ⟨x, h1, h2⟩ := h; cases h1; exact h2
theorem KP {σ τ : Type} {t u : τ} {G : σ → Prop} (h : Yes (some (Step.done (σ := σ) u)) (LP t G)) : u = t := by obtain ⟨x, h1, h2⟩ := h; cases h1; exact h2
theorem yes_loop {σ τ : Type} {f : σ → Option (Step σ τ)} {t : τ} {n : Nat} {x : σ} (h : loopN f (n + 1) x = some t) : Yes (f x) (LP t fun x' => loopN f n x' = some t) := by
  simp only [loopN] at h
  cases e : f x with
  | none => rw [e] at h; cases h
  | some st =>
    rw [e] at h
    cases st with
    | next s' => exact ⟨_, rfl, h⟩
    | done u => exact ⟨_, rfl, by simpa [LP] using h⟩
theorem Kav {σ τ Y : Type} {f : σ → Option (Step σ τ)} {x0 : σ} {u : τ} {s : S} {c : Code} (hl : loopM f x0 = some u) (St : σ → Y → S) (hw : WkX C s (St x0))
    (hb : ∀ (G : σ → Prop) x y, Yes (f x) (LP u G) → wpD P C N c (St x y) (thenD (fun s' => ∃ x', G x' ∧ WkX C s' (St x')) Q)) : wpD P C N (.loop c) s Q := by
  obtain ⟨n, hn⟩ := KhP hl
  have key : ∀ n x y, loopN f n x = some u → KjT P C N c Q n (St x y) := by
    intro n
    induction n with
    | zero => intro x y h; simp [loopN] at h
    | succ n ih =>
      intro x y h
      refine Kl6 (Kkm (hb _ x y (yes_loop h)) ?_)
      intro e s' q
      cases e with
      | normal =>
        obtain ⟨x', h1, h2⟩ := q
        rintro a w ⟨H, c0, kt, hN, hdf⟩
        obtain ⟨y', H', hle, c', kt'⟩ := h2 H a w c0 kt
        exact ih x' y' h1 a w ⟨H', c', kt', hN, hdf⟩
      | _ => exact q
  exact KQ hw (fun y => wpD_loop n (key n x0 y hn))
def retX (C : Ctx) (tab : List (Option TI)) (rs : List ResultVar) (R : D → List (Nat × Blk) → List (Nat × Value) → Prop) (x : Exit) (s : S) : Prop := ∀ H a w, Core C H s.h s.k w → TOK H s.t a → ∃ s' H', H.le H' ∧ Core C H' s'.h s'.k w ∧ TOK H' s'.t a ∧ retD tab rs R x s'
theorem retX.of {rs : List ResultVar} {R : D → List (Nat × Blk) → List (Nat × Value) → Prop} {x : Exit} {s s' : S} (h : WkS C s s') (g : retD tab rs R x s') : retX C tab rs R x s := fun H a w c kt => by
 obtain ⟨H', h1, h2, h3⟩ := h H a w c kt
 exact ⟨s', H', h1, h2, h3, g⟩
theorem retX.wk {rs : List ResultVar} {R : D → List (Nat × Blk) → List (Nat × Value) → Prop} {x : Exit} {s s' : S} (h : WkS C s s') (g : retX C tab rs R x s') : retX C tab rs R x s := fun H a w c kt => by
 obtain ⟨H', h1, h2, h3⟩ := h H a w c kt
 obtain ⟨s2, H2, g1, g2⟩ := g H' a w h2 h3
 exact ⟨s2, H2, Hp.le_trans h1 g1, g2⟩
theorem retX.wkX {Y : Type} {S1 : Y → S} {rs : List ResultVar} {R : D → List (Nat × Blk) → List (Nat × Value) → Prop} {x : Exit} {s : S} (h : WkX C s S1) (g : ∀ y, retX C tab rs R x (S1 y)) : retX C tab rs R x s := fun H a w c kt => by
 obtain ⟨y, H', h1, h2, h3⟩ := h H a w c kt
 obtain ⟨s2, H2, g1, g2⟩ := g y H' a w h2 h3
 exact ⟨s2, H2, Hp.le_trans h1 g1, g2⟩
theorem retX.tokN {rs : List ResultVar} {R : D → List (Nat × Blk) → List (Nat × Value) → Prop} {x : Exit} {i k0 : Nat} (kk : Nat) (hx : look t i = some (.lst k0 [] .full)) (g : ∀ y, retX C tab rs R x ⟨(i, .lst kk [] (.cur y)) :: t, h, (kk, y) :: k⟩) : retX C tab rs R x ⟨t, h, k⟩ := fun H a w c kt => by
 obtain ⟨v, h1, h2⟩ := kt i _ hx
 have h5 := rep_nil (k' := kk) h2 (Kbd h2).1
 obtain ⟨h3, h4⟩ := lst_cur h5
 exact g v H a w (c.tokFull kk h3) (KiZ kt h1 h4)
theorem retX.cellF {rs : List ResultVar} {R : D → List (Nat × Blk) → List (Nat × Value) → Prop} {x : Exit} {b off k0 : Nat} {ds : List D} {T : TypeId} {xs : List D} (kk j : Nat) (hb : h[j]? = some (b, .cells ds T)) (hd : ds[off]? = some (.lst k0 xs .full)) (hk : k0 = kk ∨ xs = []) (g : ∀ y, retX C tab rs R x ⟨t, h.set j (b, .cells (ds.set off (.lst kk xs (.cur y))) T), (kk, y) :: k⟩) : retX C tab rs R x ⟨t, h, k⟩ := fun H a w c kt => by
 obtain ⟨y, c'⟩ := KkU kk j hb hd hk c
 exact g y H a w c' kt
theorem K0 {f : FuncId} {fn : Func} {c : Code} {ds : List D} {R : D → List (Nat × Blk) → List (Nat × Value) → Prop} {rs : List ResultVar} (ht : TabOK P tab)
  (hf : P.funcs[f]? = some fn) (hb : fn.body = some c) (hn : (fn.name == "runtime.NumGoroutine") = false) {N : Nat} (hN : fn.ntmps = N) (hl : Nat.ble ds.length N = true) (hrs : fn.results.toList = rs)
  (hw : ∀ C, wpD P C N c ⟨argT 0 ds, h, k⟩ (retX C tab rs R)) : CallsD P f ds h k R := by
 refine enter ht hf hb hn hN hl hrs fun C => ?_
 intro a w r
 refine wp_mono (hw C a w r) ?_
 rintro x a' w' ⟨s, ⟨H, c0, kt, hN, hdf⟩, hk⟩
 obtain ⟨s', H', hle, c', kt', hr⟩ := hk H a' w' c0 kt
 exact ⟨s', ⟨H', c', kt', hN, hdf⟩, hr⟩
theorem Kgb {s : S} : resL tab s [] [] := rfl
theorem KdU {s : S} {r : ResultVar} {rs : List ResultVar} {d : D} {ds : List D} (h1 : Kg4 tab s r d) (h2 : resL tab s rs ds) : resL tab s (r :: rs) (d :: ds) := ⟨d, ds, rfl, h1, h2⟩
theorem KdY {s : S} {i : Nat} {d : D} (h1 : look s.t i = some d) : Kg4 tab s (.tmp i) d := h1
theorem Kmi {s : S} {a b off : Nat} {T T' : TypeId} {ds : List D} {i : TI} {d : D} (j : Nat) (h1 : look s.t a = some (.ptr b off)) (h2 : s.h[j]? = some (b, Blk.cells ds T')) (h3 : ti tab T = some i) (h4 : partD i ds off = some d) : Kg4 tab s (.cell a T) d := ⟨j, b, off, ds, T', i, h1, h2, h3, h4⟩
theorem Kgc {R : D → List (Nat × Blk) → List (Nat × Value) → Prop} {rs : List ResultVar} {x : Exit} {s : S} {ds : List D} {hh : List (Nat × Blk)} {kk : List (Nat × Value)} (hx : x = .ret ∨ x = .normal) (hr : resL tab s rs ds) (hs : hh.Sublist s.h) (ks : kk.Sublist s.k) (g : R (wrapD ds) hh kk) : retD tab rs R x s := ⟨hx, ds, hh, kk, hr, hs, ks, g⟩
theorem x_cut {α : Type} {e0 : α → D} {kk : Nat} {T e : TypeId} {x : Operand} {lo hi : Option Operand} {l' n' : Option Int} {xs ys : List α} {l n : Int} {c : Cap} {ti0 tie : TI} (q : cutL xs l n = some ys) (hT : TabOK P tab) (ho : o.op = .slice T x lo hi none)
  (hx : opD t x = some (.lst kk (xs.map e0) c)) (e1 : optI t lo = some l') (e2 : optI t hi = some n') (hti : ti tab T = some ti0) (hs : ti0.d = .slice e) (hte : ti tab e = some tie) (hk : tie.size = kk) (h1 : l'.getD 0 = l) (h2 : n'.getD xs.length = n) : Ex P o t (.lst kk (ys.map e0) .no) := by
 obtain ⟨q1, q2, q3, q4, q5⟩ := cutL_ok q
 have := x_part hT ho hx e1 e2 hti hs hte hk (h1.trans q2) (by rw [KM]; exact h2.trans q3) q4 (by rw [KM]; exact q5)
 rw [q1, List.map_take, List.map_drop]
 exact this
theorem p_cut {α : Type} {e0 : α → D} {i kk : Nat} {T e : TypeId} {x : Operand} {lo hi : Option Operand} {l' n' : Option Int} {xs ys : List α} {l n : Int} {c : Cap} {ti0 tie : TI} (q : cutL xs l n = some ys) (hT : TabOK P tab) (ho : o.op = .slice T x lo hi none) (hw : wantD ops t o = some true) (hd : o.dst = some i) (hi0 : Nat.blt i N = true)
  (hx : opD t x = some (.lst kk (xs.map e0) c)) (e1 : optI t lo = some l') (e2 : optI t hi = some n') (hti : ti tab T = some ti0) (hs : ti0.d = .slice e) (hte : ti tab e = some tie) (hk : tie.size = kk) (h1 : l'.getD 0 = l) (h2 : n'.getD xs.length = n)
  (g : opsD P C N ops rest ⟨(i, .lst kk (ys.map e0) .no) :: t, h, k⟩ Q) : opsD P C N ops (o :: rest) ⟨t, h, k⟩ Q := by
 obtain ⟨q1, q2, q3, q4, q5⟩ := cutL_ok q
 refine p_part hT ho hw hd hi0 hx e1 e2 hti hs hte hk (h1.trans q2) (by rw [KM]; exact h2.trans q3) q4 (by rw [KM]; exact q5) ?_
 rw [q1, List.map_take, List.map_drop] at g
 exact g
theorem Ke4 {α : Type} {e0 : α → D} {i kk : Nat} {xs ys zs : List α} {bb : Nat} {c : Cap} (q : app bb xs ys = some zs) (hx : look t i = some (.lst kk (xs.map e0 ++ ys.map e0) c)) (g : opsD P C N ops rest ⟨(i, .lst kk (zs.map e0) c) :: t, h, k⟩ Q) : opsD P C N ops rest ⟨t, h, k⟩ Q :=
 p_eq hx (Wk.of_eq (by rw [app_map q])) g
theorem p_mapD0 {α : Type} {e0 : α → D} {i kk : Nat} {ys zs : List α} {bb : Nat} {c : Cap} (q : app bb [] ys = some zs) (hx : look t i = some (.lst kk (ys.map e0) c)) (g : opsD P C N ops rest ⟨(i, .lst kk (zs.map e0) c) :: t, h, k⟩ Q) : opsD P C N ops rest ⟨t, h, k⟩ Q :=
 p_eq hx (Wk.of_eq (by rw [(Kik q).1]; simp)) g
theorem Ki0 {α : Type} : ∀ {l : List α} {j : Nat} {x y : α}, l[j]? = some x → (y :: l.eraseIdx j).Perm (l.set j y)
  | [], j, x, y, h => by simp at h
  | a :: l, 0, x, y, h => by simp
  | a :: l, j + 1, x, y, h => by
    simp at h
    simp only [List.eraseIdx_cons_succ, List.set_cons_succ]
    exact (List.Perm.swap a y _).trans ((Ki0 h).cons a)
end
section
variable {P : Program} {C : Ctx} {N : Nat} {ops rest : List Oper} {o : Oper} {t : List (Nat × D)} {h : List (Nat × Blk)} {k : List (Nat × Value)} {Q : Exit → S → Prop} {tab : List (Option TI)}
theorem Kaf {τ ρ Y : Type} {S1 : τ → Y → S} {s : S} {v : τ} (g : WkX C s (S1 v)) : midX (ρ := ρ) C S1 Q (.inl v) .normal s := ⟨rfl, g⟩
theorem Kax {τ ρ Y : Type} {S1 : τ → Y → S} {s : S} {r : ρ} (g : Q .ret s) : midX C S1 Q (.inr r) .ret s := g
theorem CallsD.drop {f : FuncId} {ds : List D} {R : D → List (Nat × Blk) → List (Nat × Value) → Prop} {d1 : D} (c : CallsD P f ds h k R) (hr : ∀ d h k, R d h k → Wk d d1) : CallsD P f ds h k (fun d h k => d = d1 ∧ h = [] ∧ k = []) := by
 refine ⟨c.1, fun H w vs h1 h2 h3 h4 h5 => (c.2 H w vs h1 h2 h3 h4 h5).mono ?_⟩
 rintro e w' ⟨v, H', d, h', k', e1, e2, e3, e4⟩
 exact ⟨v, H', d1, [], [], e1, hr d h' k' e4 H' v e2, e3.drop (List.nil_sublist _) (List.nil_sublist _), rfl, rfl, rfl⟩
theorem Ex.wk {d d' : D} (h : Ex P o t d) (k : Wk d d') : Ex P o t d' := fun H a w kt => let ⟨v, h1, h2⟩ := h H a w kt; ⟨v, h1, k H v h2⟩
theorem ExE.wk {d d' : D} (h : ExE P o t d) (k : Wk d d') : ExE P o t d' := fun H a w hA kt => let ⟨v, w', H', h1, h2, h3⟩ := h H a w hA kt; ⟨v, w', H', h1, h2, k H' v h3⟩
theorem o_blk {b : Nat} {ds ds' : List D} {T : TypeId} {h' : List (Nat × Blk)} (j : Nat) (hb : h[j]? = some (b, .cells ds T)) (hw : WkR ds ds') (e : h.set j (b, .cells ds' T) = h') (g : opsD P C N ops rest ⟨t, h', k⟩ Q) : opsD P C N ops rest ⟨t, h, k⟩ Q :=
 ops_wk (s := ⟨t, h, k⟩) (s' := ⟨t, h', k⟩) (WkS.blk j hb hw e) g
theorem w_eq {c : Code} {i : Nat} {d d' : D} (hx : look t i = some d) (e : Wk d d') (g : wpD P C N c ⟨(i, d') :: t, h, k⟩ Q) : wpD P C N c ⟨t, h, k⟩ Q := by
 rintro a w ⟨H, c0, kt, hN, hdf⟩
 obtain ⟨v, h1, h2⟩ := kt i _ hx
 exact g a w ⟨H, c0, KiZ kt h1 (e H v h2), hN, hdf⟩
end
def eI64 (n : Int) : D := .v (.int .i64 n)
def eStr (s : ByteArray) : D := .v (.string s)
def eList {α : Type} (k : Nat) (e : α → D) (l : List α) : D := .lst k (l.map e) .no
end Go.Proofs.YtipfljkjjddapaaGreatDoor.Ab
namespace Go.Proofs.YtipfljkjjddapaaGreatDoor.Ab
open Go
set_option linter.all false
def Le {α : Type} (m m' : Option α) : Prop := ∀ r, m = some r → m' = some r
theorem Le.refl {α : Type} (m : Option α) : Le m m := fun _ h => h
theorem Le.none {α : Type} (m : Option α) : Le Option.none m := fun _ h => by cases h
theorem Le.bind {α β : Type} {m m' : Option α} {f f' : α → Option β} (h : Le m m') (k : ∀ x, Le (f x) (f' x)) : Le (m.bind f) (m'.bind f') := fun r e => by
 rw [Option.bind_eq_some_iff] at e ⊢
 obtain ⟨a, h1, h2⟩ := e
 exact ⟨a, h a h1, k a r h2⟩
theorem Le.cond {α : Type} {c : Bool} {m m' n n' : Option α} (h : Le m m') (k : Le n n') : Le (bif c then m else n) (bif c then m' else n') := by
 cases c
 ·exact k
 ·exact h
theorem Le.elim {α β γ : Type} {f f' : α → Option γ} {g g' : β → Option γ} {x : α ⊕ β} (h : ∀ a, Le (f a) (f' a)) (k : ∀ b, Le (g b) (g' b)) : Le (Sum.elim f g x) (Sum.elim f' g' x) := by
 cases x
 ·exact h _
 ·exact k _
theorem Le.loop {σ τ : Type} {f f' : σ → Option (Step σ τ)} {s : σ} (h : ∀ s, Le (f s) (f' s)) : Le (loopM f s) (loopM f' s) := fun r e => by
  obtain ⟨n, hn⟩ := KhP e
  have key : ∀ n s, loopN f n s = some r → loopN f' n s = some r := by
    intro n
    induction n with
    | zero => intro s h; simp [loopN] at h
    | succ n ih =>
      intro s e
      simp only [loopN] at e ⊢
      cases hf : f s with
      | none => rw [hf] at e; cases e
      | some x =>
        rw [hf] at e
        rw [h s x hf]
        cases x with
        | next s' => exact ih s' e
        | done t => exact e
  exact Kg7 (key n s hn)
open Classical in
noncomputable def anyN {α : Type} (f : Nat → Option α) : Option α := if h : ∃ n r, f n = some r then some h.choose_spec.choose else Option.none
theorem Kdu {α : Type} {f : Nat → Option α} {r : α} (h : anyN f = some r) : ∃ n, f n = some r := by
 unfold anyN at h
 split at h
 ·rename_i hx
  simp only [Option.some.injEq] at h
  exact ⟨_, h ▸ hx.choose_spec.choose_spec⟩
 ·cases h
theorem Kej {α : Type} {f : Nat → Option α} (hle : ∀ n, Le (f n) (f (n + 1))) {r : α} {n : Nat} (h : f n = some r) : anyN f = some r := by
 have up : ∀ (k n : Nat) (r : α), f n = some r → f (n + k) = some r := by
  intro k
  induction k with
  | zero => intro n r e; exact e
  | succ k ih => intro n r e; exact hle _ _ (ih n r e)
 have hx : ∃ n r, f n = some r := ⟨n, r, h⟩
 unfold anyN
 rw [dif_pos hx]
 have h1 := hx.choose_spec.choose_spec
 have h2 := up n _ _ h1
 have h3 := up hx.choose _ _ h
 rw [Nat.add_comm] at h3
 exact h2.symm.trans h3
section
variable {P : Program} {C : Ctx} {N : Nat} {ops rest : List Oper} {o : Oper} {t : List (Nat × D)} {h : List (Nat × Blk)} {k : List (Nat × Value)} {Q : Exit → S → Prop} {tab : List (Option TI)}
theorem x_min {T T' : TypeId} {x y : Operand} {kk : IntKind} {a b : Int} (ho : o.op = .call ⟨.builtin .min, [x, y].toArray, #[T, T']⟩) (hx : opD t x = some (.v (.int kk a))) (hy : opD t y = some (.v (.int kk b))) : Ex P o t (.v (.int kk (min a b))) := fun H ac w kt => by
 refine ⟨.int kk (min a b), KdE (s := Builtin.min_) ho (fun _ _ => rfl) ?_, rep_v rfl⟩
 simp only [List.map_cons, List.map_nil, K1 (K9 kt hx), K1 (K9 kt hy)]
 show (pure (.int kk (if b < a then b else a)) : Sem Value).run P w = _
 have : min a b = if b < a then b else a := by split <;> omega
 rw [this]; rfl
theorem p_min {i : Nat} {T T' : TypeId} {x y : Operand} {kk : IntKind} {a b : Int} (ho : o.op = .call ⟨.builtin .min, [x, y].toArray, #[T, T']⟩) (hw : wantD ops t o = some true) (hd : o.dst = some i) (hi : Nat.blt i N = true) (hx : opD t x = some (.v (.int kk a))) (hy : opD t y = some (.v (.int kk b)))
 (g : opsD P C N ops rest ⟨(i, .v (.int kk (min a b))) :: t, h, k⟩ Q) : opsD P C N ops (o :: rest) ⟨t, h, k⟩ Q := Kdf (s := ⟨t, h, k⟩) hw hd hi (x_min ho hx hy) g
theorem p_isnil {i kk : Nat} {xt yt e : Nat} {x : Operand} {xs : List D} {c : Cap} {i0 : TI} (hT : TabOK P tab) (ho : o.op = .binOp .eql xt x (.const (.slice none 0 0)) yt) (hw : wantD ops t o = some true) (hd : o.dst = some i) (hi : Nat.blt i N = true) (hx : opD t x = some (.lst kk xs c)) (hi0 : ti tab xt = some i0) (hd0 : i0.d = .slice e)
  (g : ∀ b, (b = true → xs = []) → opsD P C N ops rest ⟨(i, .v (.bool b)) :: t, h, k⟩ Q) : opsD P C N ops (o :: rest) ⟨t, h, k⟩ Q := by
 refine Kb4 (s := ⟨t, h, k⟩) hw hd hi fun H a w cc kt => ?_
 obtain ⟨d0, u0, u1⟩ := Kag (w := w) (ti_ok hT hi0)
 have e0 := Kb2 (u1.trans hd0); subst e0
 have hr := K9 kt hx
 obtain ⟨_, hr2⟩ := Kbd hr
 have key : ∀ (ad : Option Addr) (n m : Nat), a.eval x = .slice ad n m → (execOp a.eval o).run P w = .ok (.value (.bool ad.isNone)) w := by
  intro ad n m hv
  unfold execOp
  rw [ho]
  refine KaM ?_
  rw [hv]
  have h1 : (eqGuard .eql xt x (.const (.slice none 0 0)) (.slice ad n m) (a.eval (.const (.slice none 0 0)))).run P w = .ok () w := by simp [eqGuard, Act.eval] <;> rfl
  rw [Kq h1]
  show (do pure (.bool (← Op.equal xt (.slice ad n m) (.slice none 0 0))) : Sem Value).run P w = _
  have h2 : (Op.equal xt (.slice ad n m) (.slice none 0 0)).run P w = .ok ad.isNone w := by
   show (Op.equalIn (9999 + 1) xt _ _).run P w = _
   rw [Op.equalIn, Kq u0]
   cases ad <;> rfl
  rw [Kq h2]; rfl
 rcases hr2 with ⟨rfl, ad, m, hv, _⟩ | ⟨b, off, m, hv, _, hE⟩
 ·exact ⟨.bool ad.isNone, w, H, .v (.bool ad.isNone), h, k, key _ _ _ hv, Hp.le_refl H, cc, rep_v rfl, g _ fun _ => rfl⟩
 ·exact ⟨.bool false, w, H, .v (.bool false), h, k, key _ _ _ hv, Hp.le_refl H, cc, rep_v rfl, g _ fun q => by cases q⟩
theorem Kg8 {H : Hp} : ∀ {l m : List D} {us vs : List Value}, RepsV H l us → RepsV H m vs → RepsV H (l ++ m) (us ++ vs)
  | [], m, us, vs, h, k => by simp only [RepsV] at h; subst h; simpa using k
  | d :: l, m, us, vs, h, k => by
    simp only [RepsV] at h
    obtain ⟨u, us', rfl, h1, h2⟩ := h
    simp only [List.cons_append, RepsV]
    exact ⟨u, _, rfl, h1, Kg8 h2 k⟩
theorem rep_fn_inv {H : Hp} {f : Fn} {as_ cs : List D} {y : Value} (h : Rep H (.fn f as_ cs) y) : ∃ vs ws, y = .func f vs.toArray ws.toArray ∧ RepsV H as_ vs ∧ RepsV H cs ws := by
 obtain ⟨h1, h2⟩ := h
 cases y <;> simp [D.shape] at h2 <;> simp [RepC, Value.cells] at h1 <;> simp [h1]
theorem callV_run {f : FuncId} {args : List Operand} {ts : Array TypeId} {x : Operand} {a : Act} {w : World} {vs ws : List Value} (ho : o.op = .call ⟨.value x, args.toArray, ts⟩) (hx : a.eval x = .func (.func f) vs.toArray ws.toArray) (h : Goes P f) : (execOp a.eval o).run P w = .ok (.enter f (vs ++ args.map a.eval ++ ws).toArray) w := by
 unfold execOp
 rw [ho]
 simp only []
 have : (resolve a.eval ⟨.value x, args.toArray, ts⟩ o.type).run P w = .ok ⟨.fn (.func f) ws.toArray, vs.toArray ++ (args.map a.eval).toArray⟩ w := by
  simp [resolve, Deferred.ofValue, hx]
  first | done | rfl
 rw [Kq this]
 show (callFunc f (vs.toArray ++ (args.map a.eval).toArray ++ ws.toArray)).run P w = _
 rw [KjG h]
 simp
theorem KgV {f : FuncId} {x : Operand} {args : List Operand} {ts : Array TypeId} {i : Nat} {as_ cs ds da ds' : List D} {h1 h2 : List (Nat × Blk)} {k1 k2 : List (Nat × Value)} {R : D → List (Nat × Blk) → List (Nat × Value) → Prop}
  (hc : CallsD P f ds' h1 k1 R) (hx : opD t x = some (.fn (.func f) as_ cs)) (ho : o.op = .call ⟨.value x, args.toArray, ts⟩) (hw : wantD ops t o = some true) (hd : o.dst = some i) (hi : Nat.blt i N = true) (ha : Kbz args (opD t) = some ds) (hda : as_ ++ ds ++ cs = da) (hwk : WkL da ds')
  (hh : h.Perm (h1 ++ h2)) (hk : k.Perm (k1 ++ k2)) (g : ∀ d h' k', R d h' k' → opsD P C N ops rest ⟨(i, d) :: t, h' ++ h2, k' ++ k2⟩ Q) : opsD P C N ops (o :: rest) ⟨t, h, k⟩ Q := by
 subst hda
 rintro a w ⟨H, c, kt, hN, hdf⟩
 obtain ⟨vs, ws, ex, r1, r2⟩ := rep_fn_inv (K9 kt hx)
 unfold wpList
 rw [KaF kt hw, if_pos rfl]
 refine .inl ?_
 unfold Oper.wp
 rw [callV_run ho ex hc.1, Oper.upon_enter]
 have c0 := c.perm hh hk
 have nd := (KbX h1 h2 k1 k2).nodup_iff.1 c0.nd
 rw [List.nodup_append] at nd
 have hv := hwk H _ (Kg8 (Kg8 r1 (KbK kt ha)) r2)
 have := hc.2 H w _ hv c.ag (fun p hp => c0.blks p (List.mem_append_left _ hp)) (fun p hp => c0.toks p (List.mem_append_left _ hp)) nd.1
 refine this.mono ?_
 rintro e w' ⟨v, H', d, h', k', rfl, hr, hcore, hR⟩
 simp only []
 rw [hd]
 refine g d h' k' hR _ _ ⟨H', Core.call c0 hcore, TOK.put (kt.mono hcore.le) (by rw [hN]; simpa using hi) hr, ?_, hdf⟩
 simp only [Act.put, Array.size_setIfInBounds]; exact hN
theorem Kkr {f : FuncId} {x : Operand} {args : List Operand} {ts : Array TypeId} {i : Nat} {as_ cs ds da ds' : List D} {R : D → Prop}
  (hc : CallsD P f ds' [] [] (fun d h k => R d ∧ h = [] ∧ k = [])) (hx : opD t x = some (.fn (.func f) as_ cs)) (ho : o.op = .call ⟨.value x, args.toArray, ts⟩) (hw : wantD ops t o = some true) (hd : o.dst = some i) (hi : Nat.blt i N = true) (ha : Kbz args (opD t) = some ds) (hda : as_ ++ ds ++ cs = da) (hwk : WkL da ds')
  (g : ∀ d, R d → opsD P C N ops rest ⟨(i, d) :: t, h, k⟩ Q) : opsD P C N ops (o :: rest) ⟨t, h, k⟩ Q :=
 KgV (h1 := []) (k1 := []) (h2 := h) (k2 := k) hc hx ho hw hd hi ha hda hwk (List.Perm.refl _) (List.Perm.refl _) fun d h' k' ⟨r, e1, e2⟩ => by subst e1; subst e2; exact g d r
end
end Go.Proofs.YtipfljkjjddapaaGreatDoor.Ab
namespace Go.Proofs.YtipfljkjjddapaaGreatDoor.Ab
open Go
set_option linter.all false
theorem Kkc {w : World} {a : Addr} {n k : Nat} : (w.freeze a n).heap[k]? = w.heap[k]? ∨ (a.block = k ∧ ∃ c e f g, w.heap[k]? = some (.cells c e f) ∧ (w.freeze a n).heap[k]? = some (.cells c e g)) := by
  unfold World.freeze
  split
  · exact .inl rfl
  · by_cases hk : a.block = k
    · subst hk
      simp only [Array.getElem?_modify, if_true]
      cases h : w.heap[a.block]? with
      | none => exact .inl rfl
      | some o =>
        cases o <;> first | exact .inl rfl | (rename_i c e f; exact .inr ⟨trivial, c, e, f, _, rfl, rfl⟩)
    · left
      simp [Array.getElem?_modify, hk]
theorem Kmj {w : World} {a x : Addr} {n : Nat} : (w.freeze a n).cell? x = w.cell? x := by
 unfold World.cell?
 rcases Kkc (w := w) (a := a) (n := n) (k := x.block) with h | ⟨_, c, e, f, g, h1, h2⟩
 ·rw [h]
 ·rw [h1, h2]
theorem freeze_env (w : World) (a : Addr) (n : Nat) : Env w (w.freeze a n) ∧ (w.freeze a n).heap.size = w.heap.size := by
 unfold World.freeze
 split
 ·exact ⟨Env.refl w, rfl⟩
 ·exact ⟨⟨rfl, rfl, rfl, Nat.le_refl _⟩, by simp⟩
theorem Core.freezeNew {H H' : Hp} {w w' : World} {b off n : Nat} (c : Core ⟨H, w, []⟩ H' [] [] w') (hb : w.heap.size ≤ b) : Core ⟨H, w, []⟩ H' [] [] (w'.freeze ⟨b, off, none⟩ n) := by
 obtain ⟨he, hs⟩ := freeze_env w' ⟨b, off, none⟩ n
 refine ⟨fun a v e => by rw [Kmj]; exact c.ag a v e, c.le, c.new, fun k hk hm => ?_, by rw [hs]; exact c.size, by simp, by simp, by simp [KY], by simp [KY], c.env.trans he⟩
 have hk' : k < w.heap.size := hk
 rcases Kkc (w := w') (a := ⟨b, off, none⟩) (n := n) (k := k) with h | ⟨h1, _⟩
 ·rw [h]; exact c.same k hk hm
 ·simp only at h1; omega
theorem run_mark {P : Program} {w : World} {b off : Nat} : ∃ w', (markStringish ⟨b, off, none⟩).run P w = .ok () w' ∧ (w' = w ∨ ∃ o n, w' = w.freeze ⟨b, o, none⟩ n) := by
 unfold markStringish
 have h : (shape b).run P w = .ok (w.shape? b) w := rfl
 rw [Kq h]
 cases w.shape? b with
 | none => exact ⟨w, rfl, .inl rfl⟩
 | some p => exact ⟨w.freeze ⟨b, p.2, none⟩ 1, rfl, .inr ⟨p.2, 1, rfl⟩⟩
section
variable {P : Program} {C : Ctx} {N : Nat} {ops rest : List Oper} {o : Oper} {t : List (Nat × D)} {h : List (Nat × Blk)} {k : List (Nat × Value)} {Q : Exit → S → Prop} {tab : List (Option TI)}
theorem p_litB {i1 i2 n kk : Nat} {o2 : Oper} {T e : TypeId} {ps : Array (Nat × Operand)} {i0 ie : TI} {r : List D} (hT : TabOK P tab) (ho : o.op = .buildSlice T n ps) (hw : wantD ops t o = some true) (hd : o.dst = some i1) (hi : Nat.blt i1 N = true)
  (ho2 : o2.op = .convert T T (.tmp i1)) (hw2 : wantD ops ((i1, .lst kk (Kdi ie.agg kk n r) .no) :: t) o2 = some true) (hd2 : o2.dst = some i2) (hi2 : Nat.blt i2 N = true)
  (hi0 : ti tab T = some i0) (hd0 : i0.d = .slice e) (hie : ti tab e = some ie) (hde : ie.d = .int .u8) (hks : ie.size = kk) (hz : ie.zero.all one = true) (hzl : Nat.beq ie.zero.length kk = true) (hpos : Nat.ble 1 (n * kk) = true) (hmax : Nat.ble (n * kk) 16777216 = true) (hag : (ie.agg || Nat.beq kk 1) = true)
  (er : Kc2 tab ((List.range n).map fun j => (e, j * kk)) t ps.toList (List.replicate (n * kk) .any) = some r)
  (g : opsD P C N ops rest ⟨(i2, .lst kk (Kdi ie.agg kk n r) .no) :: (i1, .lst kk (Kdi ie.agg kk n r) .no) :: t, h, k⟩ Q) : opsD P C N ops (o :: o2 :: rest) ⟨t, h, k⟩ Q := by
 rintro a w ⟨H, c, kt, hN, hdf⟩
 obtain ⟨w1, H1, hr1, c1, rep1⟩ := x_litS hT ho hi0 hd0 hie hks hz hzl hpos hmax hag er H a w c.ag kt
 have rep1' : Rep H1 (.lst kk (Kdi ie.agg kk n r) .no) (.slice (some ⟨w.heap.size, 0, none⟩) n n) := Wk.no H1 _ rep1
 obtain ⟨w2, hm, hw2'⟩ := run_mark (P := P) (w := w1) (b := w.heap.size) (off := 0)
 have c2 : Core ⟨H, w, []⟩ H1 [] [] w2 := by
  rcases hw2' with rfl | ⟨q, m, rfl⟩
  ·exact c1
  ·exact c1.freezeNew (Nat.le_refl _)
 have c3 : Core C H1 h k w2 := by
  have := Core.call (h1 := []) (k1 := []) (h2 := h) (k2 := k) (by simpa using c) c2
  simpa using this
 have kt1 : TOK H1 ((i1, .lst kk (Kdi ie.agg kk n r) .no) :: t) (a.put (some i1) (.slice (some ⟨w.heap.size, 0, none⟩) n n)) := TOK.put (kt.mono c1.le) (by rw [hN]; simpa using hi) rep1'
 have hsz1 : (a.put (some i1) (.slice (some ⟨w.heap.size, 0, none⟩) n n)).tmps.size = N := by simp only [Act.put, Array.size_setIfInBounds]; exact hN
 unfold wpList
 rw [KaF kt hw, if_pos rfl]
 refine .inl ?_
 unfold Oper.wp
 rw [hr1, Oper.upon_value, hd]
 unfold wpList
 rw [KaF kt1 hw2, if_pos rfl]
 refine .inl ?_
 unfold Oper.wp
 have hev : (a.put (some i1) (Value.slice (some ⟨w.heap.size, 0, none⟩) n n)).eval (.tmp i1) = .slice (some ⟨w.heap.size, 0, none⟩) n n := by
  simp only [Act.eval, Act.put]
  rw [Array.getD_eq_getD_getElem?, Array.getElem?_setIfInBounds_self_of_lt (by rw [hN]; simpa using hi)]
  rfl
 have hr2 : (execOp (a.put (some i1) (Value.slice (some ⟨w.heap.size, 0, none⟩) n n)).eval o2).run P w1 = .ok (.value (.slice (some ⟨w.heap.size, 0, none⟩) n n)) w2 := by
  unfold execOp
  rw [ho2]
  refine KaM ?_
  rw [hev]
  obtain ⟨d0, u0, u1⟩ := Kag (w := w1) (ti_ok hT hi0)
  have e0 := Kb2 (u1.trans hd0); subst e0
  obtain ⟨d1, u2, u3⟩ := Kag (w := w1) (ti_ok hT hie)
  have e1 := Kg2 (u3.trans hde); subst e1
  unfold convert
  rw [Kq u0, Kq u0]
  simp only []
  rw [Kq u2]
  simp only [beq_self_eq_true]
  rw [Kq hm]; rfl
 rw [hr2, Oper.upon_value, hd2]
 refine g _ _ ⟨H1, c3, TOK.put kt1 (by rw [hsz1]; simpa using hi2) rep1', ?_, hdf⟩
 simp only [Act.put, Array.size_setIfInBounds]; exact hN
end
end Go.Proofs.YtipfljkjjddapaaGreatDoor.Ab
namespace Go.Proofs.YtipfljkjjddapaaGreatDoor.Ab
open Go
set_option linter.all false
theorem idx_lt {α : Type} {xs : List α} {j : Int} {x : α} (h : idx xs j = some x) : j.toNat < xs.length := (List.getElem?_eq_some_iff.1 (idx_ok h).2).1
theorem idx_lt' {α : Type} {xs : List α} {j : Int} {x : α} {n : Nat} (h : idx xs j = some x) (hn : xs.length = n) : j < (n : Int) := by
 have := idx_lt h; have := Kz h; omega
theorem part_at0 {α : Type} {i : TI} {e : α → D} {xs : List α} {j : Int} {x : α} (hg : i.agg = false) (h : idx xs j = some x) : partD i (xs.map e) (j.toNat * 1) = some (e x) := by
 unfold partD
 rw [hg, cond_false, Nat.mul_one, List.getElem?_map, (idx_ok h).2]
 rfl
section
variable {P : Program} {C : Ctx} {N : Nat} {ops rest : List Oper} {o : Oper} {t : List (Nat × D)} {h : List (Nat × Blk)} {k : List (Nat × Value)} {Q : Exit → S → Prop} {tab : List (Option TI)}
theorem x_idxA {n : Nat} {T e : TypeId} {x ix : Operand} {ik : IntKind} {j : Int} {ds : List D} {d : D} {ti0 tie : TI} (hT : TabOK P tab) (ho : o.op = .index T x ix) (hx : opD t x = some (.agg ds)) (hix : opD t ix = some (.v (.int ik j)))
  (hti : ti tab T = some ti0) (hs : ti0.d = .array n e) (hte : ti tab e = some tie) (h0 : 0 ≤ j) (hb : j < n) (hp : partD tie ds (j.toNat * tie.size) = some d) : Ex P o t d := fun H a w kt => by
 obtain ⟨dd, h1, h2⟩ := Kag (w := w) (ti_ok hT hti)
 have := KiQ (h2.trans hs); subst this
 obtain ⟨us, h3, h4⟩ := KcV (K9 kt hx)
 obtain ⟨v, h5, h6⟩ := KiP (w := w) (ti_ok hT hte) h4 hp
 refine ⟨v, ?_, h6⟩
 unfold execOp
 rw [ho]
 refine KaM ?_
 rw [h3, K1 (K9 kt hix)]
 unfold Instr.index
 rw [Kq (a := (ik, j)) rfl]
 simp only []
 rw [Kq h1]
 simp only [if_pos (show 0 ≤ j ∧ j < (n : Int) from ⟨h0, hb⟩)]
 rw [Kq (Ka5 (ti_ok hT hte))]
 exact h5
theorem p_idxA {i n : Nat} {T e : TypeId} {x ix : Operand} {ik : IntKind} {j : Int} {ds : List D} {d : D} {ti0 tie : TI} (hT : TabOK P tab) (ho : o.op = .index T x ix) (hw : wantD ops t o = some true) (hd : o.dst = some i) (hi : Nat.blt i N = true) (hx : opD t x = some (.agg ds)) (hix : opD t ix = some (.v (.int ik j)))
 (hti : ti tab T = some ti0) (hs : ti0.d = .array n e) (hte : ti tab e = some tie) (h0 : 0 ≤ j) (hb : j < n) (hp : partD tie ds (j.toNat * tie.size) = some d)
 (g : opsD P C N ops rest ⟨(i, d) :: t, h, k⟩ Q) : opsD P C N ops (o :: rest) ⟨t, h, k⟩ Q := Kdf (s := ⟨t, h, k⟩) hw hd hi (x_idxA hT ho hx hix hti hs hte h0 hb hp) g
end
end Go.Proofs.YtipfljkjjddapaaGreatDoor.Ab
namespace Go.Proofs.YtipfljkjjddapaaGreatDoor.Ab
open Go
set_option linter.all false
section
variable {P : Program} {C : Ctx} {N : Nat} {l : List Oper} {m : Nat} {De : Nat → D} {al : AL} {pre : List (List Nat)} {ev : List Nat} {h : List (Nat × Blk)} {k : List (Nat × Value)} {Q : Exit → S → Prop} {bs : Nat → Nat} {i : Nat} {o : Oper} {rest : List Oper} {te : TE}
end
end Go.Proofs.YtipfljkjjddapaaGreatDoor.Ab
namespace Go.Proofs.YtipfljkjjddapaaGreatDoor.Ab
open Go
set_option linter.all false
section
variable {P : Program} {C : Ctx} {N : Nat} {ops rest : List Oper} {o : Oper} {t : List (Nat × D)} {h : List (Nat × Blk)} {k : List (Nat × Value)} {Q : Exit → S → Prop} {tab : List (Option TI)}
theorem KkV {H : Hp} : ∀ {l : List Value}, l.all one = true → Reps H (l.map dOf) l
  | [], _ => by simp [Reps]
  | u :: l, hz => by
    simp only [List.all_cons, Bool.and_eq_true] at hz
    simp only [List.map_cons, Reps]
    exact ⟨u, l, rfl, ⟨(Ke2 H u).1, hz.1, (Ke2 H u).2⟩, KkV hz.2⟩
theorem x_buildA {T : TypeId} {ps : Array (Nat × Operand)} {ti0 j : TI} {n e : Nat} {r : List D} (hT : TabOK P tab) (ho : o.op = .build T ps) (hti : ti tab T = some ti0) (hfs : ti0.d = .array n e) (hj : ti tab e = some j) (hz : ti0.zero.all one = true) (eb : Kc2 tab ((List.range n).map fun i => (e, i * j.size)) t ps.toList (ti0.zero.map dOf) = some r) : ∀ H a w, TOK H t a → ∃ v, (execOp a.eval o).run P w = .ok (.value v) w ∧ Rep H (.agg r) v :=
 fun H a w kt => by
 obtain ⟨z, h1, h2⟩ := Kch (w := w) (ti_ok hT hti)
 obtain ⟨d, h3, h4⟩ := Kag (w := w) (ti_ok hT hti)
 obtain rfl := KiQ (h4.trans hfs)
 have hr : Reps H (ti0.zero.map dOf) z.cells.toList := by rw [h2]; exact KkV hz
 obtain ⟨vs, h6, h7⟩ := KjV (P := P) (place := fun i => some (i * j.size, j.size)) hT kt (fs := (List.range n).map fun i => (e, i * j.size)) (by
  intro f fl j' hf hj'
  rw [List.getElem?_map, Option.map_eq_some_iff] at hf
  obtain ⟨x, h8, h9⟩ := hf
  have := List.getElem?_eq_some_iff.1 h8
  obtain ⟨h10, h11⟩ := this
  simp only [List.getElem_range] at h11
  subst h9; subst h11
  simp only [] at hj'
  rw [hj] at hj'
  cases hj'
  rfl) ps.toList _ _ r hr eb
 refine ⟨.agg vs.toArray, ?_, Kih h7⟩
 unfold execOp
 rw [ho]
 refine KaM ?_
 unfold Instr.build
 rw [Kq h1]
 simp only []
 rw [Kq h3]
 simp only []
 rw [Kq (Ka5 (ti_ok hT hj))]
 have e1 : (ps.map fun x => (x.1, a.eval x.2)).toList = ps.toList.map fun p => (p.1, a.eval p.2) := by simp
 rw [e1]
 have e2 : z.cells = z.cells.toList.toArray := by simp
 rw [e2]
 simp only [h6]
 rfl
theorem p_buildA {i : Nat} {T : TypeId} {ps : Array (Nat × Operand)} {ti0 j : TI} {n e : Nat} {r : List D} (hT : TabOK P tab) (ho : o.op = .build T ps) (hw : wantD ops t o = some true) (hd : o.dst = some i) (hi : Nat.blt i N = true)
 (hti : ti tab T = some ti0) (hfs : ti0.d = .array n e) (hj : ti tab e = some j) (hz : ti0.zero.all one = true) (eb : Kc2 tab ((List.range n).map fun i => (e, i * j.size)) t ps.toList (ti0.zero.map dOf) = some r)
 (g : opsD P C N ops rest ⟨(i, .agg r) :: t, h, k⟩ Q) : opsD P C N ops (o :: rest) ⟨t, h, k⟩ Q := Kdf (s := ⟨t, h, k⟩) hw hd hi (x_buildA hT ho hti hfs hj hz eb) g
end
end Go.Proofs.YtipfljkjjddapaaGreatDoor.Ab
namespace Go.Proofs.YtipfljkjjddapaaGreatDoor.Ab
open Go
set_option linter.all false
abbrev SL (z : Option Addr × Nat × Nat) : Value := .slice z.1 z.2.1 z.2.2
abbrev Z3 := Option Addr × Nat × Nat
theorem flat_els {H H' : Hp} {k b : Nat} : ∀ {xs : List D} {us : List Value} {off : Nat}, H.le H' → FlatR H k xs us → Told H' b off us → Els H' k b off xs
  | [], us, off, _, _, _ => by simp [Els]
  | x :: xs, us, off, hle, h, ht => by
    obtain ⟨u1, u2, rfl, hl, ⟨h1, h2⟩, h3⟩ := h
    simp only [Els]
    refine ⟨⟨u1, hl, RepC.mono hle x u1 h1, fun j u e => ht j u (by rw [List.getElem?_append_left (List.getElem?_eq_some_iff.1 e).1]; exact e), h2⟩, flat_els hle h3 fun j u e => ?_⟩
    have := ht (k + j) u (by rw [List.getElem?_append_right (by omega)]; rw [hl]; simpa using e)
    rw [show off + k + j = off + (k + j) by omega]; exact this
theorem Ki1 {H : Hp} {k : Nat} : ∀ {xs : List D} {us : List Value}, FlatR H k xs us → us.length = xs.length * k
  | [], us, h => by
    have : us = [] := h
    subst this; simp
  | x :: xs, us, h => by
    obtain ⟨u1, u2, rfl, hl, _, h3⟩ := h
    simp [hl, Ki1 h3, Nat.add_mul]; omega
theorem flat_one {H : Hp} {k : Nat} : ∀ {xs : List D} {us : List Value}, FlatR H k xs us → ∀ u ∈ us, one u = true
  | [], us, h, u, hu => by
    have : us = [] := h
    subst this; cases hu
  | x :: xs, us, h, u, hu => by
    obtain ⟨u1, u2, rfl, hl, ⟨_, h2⟩, h3⟩ := h
    rcases List.mem_append.1 hu with x | x
    · exact h2 u x
    · exact flat_one h3 u x
theorem KlF {H : Hp} {k b : Nat} : ∀ {xs : List D} {off : Nat}, Els H k b off xs → ∃ us : List Value, us.length = xs.length * k ∧ Told H b off us ∧ FlatR H k xs us
  | [], off, _ => ⟨[], by simp, fun j u e => by simp at e, rfl⟩
  | x :: xs, off, h => by
    simp only [Els] at h
    obtain ⟨⟨us, h1, h2, h3, h4⟩, h5⟩ := h
    obtain ⟨vs, g1, g2, g3⟩ := KlF h5
    refine ⟨us ++ vs, by simp [h1, g1, Nat.add_mul]; omega, fun j u e => ?_, us, vs, rfl, h1, ⟨h2, h4⟩, g3⟩
    rw [List.getElem?_append] at e
    split at e
    · exact h3 j u e
    · have := g2 _ _ e
      rw [show off + k + (j - us.length) = off + j by omega] at this
      exact this
theorem told_sl {H : Hp} {k : Nat} {xs : List D} {y : Value} (h : RepC H (.lst k xs (.cur y)) [y]) : Rep H (.lst k xs (.cur y)) y := by
 have h0 := h
 simp only [RepC] at h
 obtain ⟨z, e, _, h⟩ := h
 simp at e
 subst e
 have h1 : one y = true := by
  rcases h with ⟨_, a, m, rfl, _⟩ | ⟨b, off, m, rfl, _⟩ <;> rfl
 exact KaN h0 h1 rfl
section
variable {C : Ctx} {t : List (Nat × D)} {h : List (Nat × Blk)} {k : List (Nat × Value)}
theorem row_told {H : Hp} {w : World} {r kk : Nat} {xs : List D} {y : Value} (hA : Ag H w) (hb : BlkOK H w (r, .row kk xs y)) :
  ∃ H', H.le H' ∧ Core ⟨H, w, KY [(r, .row kk xs y)] []⟩ H' [(r, .told kk xs y)] [(kk, y)] w := by
 rcases hb with ⟨a, rfl, rfl⟩ | ⟨b, m, us, rest, T, rfl, h0, hm, h1, h2, h3, h4⟩
 ·refine ⟨H, Hp.le_refl H, hA, Hp.le_refl H, fun _ _ x => .inl x, fun _ _ _ => rfl, Nat.le_refl _, ?_, ?_, ?_, ?_, Env.refl w⟩
  ·intro p hp
   simp only [List.mem_singleton] at hp; subst hp
   show RepC H _ _
   simp only [RepC, CapOK]
   exact ⟨_, rfl, by trivial, .inl ⟨by trivial, a, 0, rfl, fun _ => rfl⟩⟩
  ·intro p hp
   simp only [List.mem_singleton] at hp; subst hp
   intro a n m e hlt
   simp only [Value.slice.injEq] at e
   omega
  ·cases a <;> simp [KY, Kae, Kbr]
  ·cases a <;> simp [KY, Kae, Kbr]
 ·have hl := Ki1 h2
  let H' : Hp := tell H b us
  have hle : H.le H' := fun a v e => by
   show (if a.block = b ∧ a.spot = none then us[a.off]? else H a) = some v
   rw [if_neg]
   ·exact e
   ·rintro ⟨q1, q2⟩
    obtain ⟨ab, ao, as_⟩ := a
    simp only at q1 q2; subst q1; subst q2
    rw [h4 ao] at e; cases e
  have htold : Told H' b 0 us := fun j u e => by
   show (if b = b ∧ (none : Option Nat) = none then us[0 + j]? else H _) = some u
   rw [if_pos ⟨rfl, rfl⟩, Nat.zero_add]; exact e
  have hcl : KY [(r, Blk.row kk xs (.slice (some ⟨b, 0, none⟩) xs.length m))] [] = [b] := by simp [KY, Kae, Kbq, hm]
  refine ⟨H', hle, ?_⟩
  rw [hcl]
  refine ⟨fun a v e => ?_, hle, fun a v e => ?_, fun _ _ _ => rfl, Nat.le_refl _, ?_, ?_, ?_, ?_, Env.refl w⟩
  ·by_cases q : a.block = b ∧ a.spot = none
   ·have : H' a = us[a.off]? := if_pos q
    rw [this] at e
    obtain ⟨ab, ao, as_⟩ := a
    simp only at q e
    obtain ⟨rfl, rfl⟩ := q
    simp only [World.cell?, h1, Option.isSome_none, Bool.false_eq_true, if_false, List.getElem?_toArray]
    rw [List.getElem?_append_left (List.getElem?_eq_some_iff.1 e).1]; exact e
   ·have : H' a = H a := if_neg q
    rw [this] at e; exact hA a v e
  ·by_cases q : a.block = b ∧ a.spot = none
   ·exact .inr (.inr (by simp [q.1]))
   ·have : H' a = H a := if_neg q
    rw [this] at e; exact .inl e
  ·intro p hp
   simp only [List.mem_singleton] at hp; subst hp
   show RepC H' _ _
   simp only [RepC, CapOK]
   exact ⟨_, rfl, by trivial, .inr ⟨b, 0, m, rfl, h0, flat_els hle h2 htold⟩⟩
  ·intro p hp
   simp only [List.mem_singleton] at hp; subst hp
   intro a n m' e hlt
   simp only [Value.slice.injEq, Option.some.injEq] at e
   obtain ⟨rfl, rfl, rfl⟩ := e
   refine ⟨_, T, h1, rfl, by simpa using h3, fun o ho => ?_⟩
   show (if b = b ∧ (none : Option Nat) = none then us[o]? else H _) = none
   rw [if_pos ⟨rfl, rfl⟩, List.getElem?_eq_none]
   simp only at ho; omega
  ·simp only [KY, Kae, Kbr, List.flatMap_cons, List.flatMap_nil, List.append_nil, List.nil_append]
   split <;> simp
  ·intro x hx
   simp only [KY, Kae, Kbr, List.flatMap_cons, List.flatMap_nil, List.append_nil, List.nil_append] at hx
   split at hx
   ·exact .inl (by simpa using hx)
   ·cases hx
theorem WkS.frz {h' : List (Nat × Blk)} {r kk : Nat} {xs : List D} {y : Value} (j : Nat) (hj : h[j]? = some (r, .row kk xs y)) (e : h.set j (r, .told kk xs y) = h') : WkS C ⟨t, h, k⟩ ⟨t, h', (kk, y) :: k⟩ := fun H a w c kt => by
 subst e
 have hb := c.blks _ (List.mem_of_getElem? hj)
 obtain ⟨H', hle, c'⟩ := row_told c.ag hb
 have c1 : Core C H ([(r, .row kk xs y)] ++ h.eraseIdx j) ([] ++ k) w := c.perm (Kah hj) (List.Perm.refl _)
 exact ⟨H', hle, (Core.call c1 c').perm (Ki0 hj) (List.Perm.refl _), kt.mono hle⟩
theorem WkS.tld {r kk : Nat} {xs : List D} {y : Value} (i j : Nat) (hx : look t i = some (.v y)) (hj : h[j]? = some (r, .told kk xs y)) : WkS C ⟨t, h, k⟩ ⟨(i, .lst kk xs (.cur y)) :: t, h, k⟩ := fun H a w c kt => by
 have hb := told_sl (c.blks _ (List.mem_of_getElem? hj))
 obtain ⟨v, h1, h2⟩ := kt i _ hx
 rw [K1 h2] at h1
 exact ⟨H, Hp.le_refl H, c, KiZ kt h1 hb⟩
theorem WkS.drop {h' : List (Nat × Blk)} (j : Nat) (e : h.eraseIdx j = h') : WkS C ⟨t, h, k⟩ ⟨t, h', k⟩ := fun H a w c kt => by
 subst e
 exact ⟨H, Hp.le_refl H, c.drop (List.eraseIdx_sublist _ _) (List.Sublist.refl _), kt⟩
end
section
variable {P : Program} {C : Ctx} {N : Nat} {ops rest : List Oper} {o : Oper} {t : List (Nat × D)} {h : List (Nat × Blk)} {k : List (Nat × Value)} {Q : Exit → S → Prop} {tab : List (Option TI)}
theorem row_len {H : Hp} {w : World} {r kk : Nat} {xs : List D} {y : Value} (h : BlkOK H w (r, .row kk xs y)) : ∃ a m, y = .slice a xs.length m := by
 rcases h with ⟨a, rfl, rfl⟩ | ⟨b, m, us, rest, T, rfl, _⟩
 ·exact ⟨a, 0, rfl⟩
 ·exact ⟨_, m, rfl⟩
theorem p_lenR {i r kk : Nat} {T e : TypeId} {x : Operand} {xs : List D} {z : Z3} {ti0 : TI} (j : Nat) (hT : TabOK P tab) (ho : o.op = .call ⟨.builtin .len, [x].toArray, #[T]⟩) (hw : wantD ops t o = some true) (hd : o.dst = some i) (hi : Nat.blt i N = true)
  (hx : opD t x = some (.v (SL z))) (hj : h[j]? = some (r, .row kk xs (SL z))) (hti : ti tab T = some ti0) (hs : ti0.d = .slice e) {n : Nat} (hn : xs.length = n) (g : opsD P C N ops rest ⟨(i, .v (.int .i64 n)) :: t, h, k⟩ Q) : opsD P C N ops (o :: rest) ⟨t, h, k⟩ Q :=
 Kb4 (s := ⟨t, h, k⟩) hw hd hi fun H a w core kt => by
  obtain ⟨ad, m, hy⟩ := row_len (core.blks _ (List.mem_of_getElem? hj))
  refine ⟨.int .i64 n, w, H, .v (.int .i64 n), h, k, KdE (s := Builtin.len_) ho (fun _ _ => rfl) ?_, Hp.le_refl H, core, rep_v rfl, g⟩
  have e := K1 (K9 kt hx)
  simp only [List.map_cons, List.map_nil, e, hy, hn]
  exact Kjm (ti_ok hT hti) hs
end
end Go.Proofs.YtipfljkjjddapaaGreatDoor.Ab
namespace Go.Proofs.YtipfljkjjddapaaGreatDoor.Ab
open Go
set_option linter.all false
theorem first_told {P : Program} {w : World} {H : Hp} (hA : Ag H w) {kk : Nat} {xs : List D} {c : Cap} {v : Value} (hr : Rep H (.lst kk xs c) v) :
  ∃ us : List Value, us.length = xs.length * kk ∧ FlatR H kk xs us ∧ (Builtin.firstCells kk xs.length v).run P w = .ok us.toArray w := by
 obtain ⟨_, h⟩ := Kbd hr
 rcases h with ⟨rfl, a, m, rfl, _⟩ | ⟨b, off, m, rfl, hm, hE⟩
 ·refine ⟨[], by simp, rfl, ?_⟩
  cases a with
  | none => rfl
  | some a => simp only [Builtin.firstCells, List.length_nil, Nat.zero_mul]; rfl
 ·obtain ⟨us, h1, h2, h3⟩ := KlF hE
  refine ⟨us, h1, h3, ?_⟩
  have := Kfe (P := P) (xs.length * kk) (h2.row hA) (by omega)
  rw [← h1, List.take_length] at this
  simp only [Builtin.firstCells]
  rw [← h1]; exact this
section
variable {P : Program} {C : Ctx} {N : Nat} {ops rest : List Oper} {o : Oper} {t : List (Nat × D)} {h : List (Nat × Blk)} {k : List (Nat × Value)} {Q : Exit → S → Prop} {tab : List (Option TI)}
end
end Go.Proofs.YtipfljkjjddapaaGreatDoor.Ab
namespace Go.Proofs.YtipfljkjjddapaaGreatDoor.Ab
open Go
set_option linter.all false
section
variable {P : Program} {C : Ctx} {N : Nat} {ops rest : List Oper} {o : Oper} {t : List (Nat × D)} {h : List (Nat × Blk)} {k : List (Nat × Value)} {Q : Exit → S → Prop} {tab : List (Option TI)}
theorem Kgd {f : FuncId} {args : List Operand} {ts : Array TypeId} {i : Nat} {ds ds' : List D} {h1 h2 : List (Nat × Blk)} {k1 k2 : List (Nat × Value)} {R : D → List (Nat × Blk) → List (Nat × Value) → Prop}
  (hc : CallsD P f ds' h1 k1 R) (ho : o.op = .call ⟨.value (.func f), args.toArray, ts⟩) (hw : wantD ops t o = some true) (hd : o.dst = some i) (hi : Nat.blt i N = true) (ha : Kbz args (opD t) = some ds) (hwk : WkL ds ds')
  (hh : h.Perm (h1 ++ h2)) (hk : k.Perm (k1 ++ k2)) (g : ∀ d h' k', R d h' k' → opsD P C N ops rest ⟨(i, d) :: t, h' ++ h2, k' ++ k2⟩ Q) : opsD P C N ops (o :: rest) ⟨t, h, k⟩ Q :=
 ops_call (s := ⟨t, h, k⟩) hc ho hw hd hi ha hwk hh hk g
theorem WkC.any {d : D} : WkC d .any := fun _ _ _ => by simp only [RepC]
end
end Go.Proofs.YtipfljkjjddapaaGreatDoor.Ab
namespace Go.Proofs.YtipfljkjjddapaaGreatDoor.Ab
open Go
set_option linter.all false
abbrev PE (z : Z3) (o : Nat) : Value := .pointer (z.1.map (·.add o))
def mkOK (bb : Nat) (n c : Int) : Bool := decide (0 ≤ n) && decide (n ≤ c) && decide (c * bb ≤ 140737488355328)
theorem mkOK_of {bb : Nat} {n c : Int} (h : mkOK bb n c = true) : 0 ≤ n ∧ n ≤ c ∧ c * bb ≤ 140737488355328 := by
 simp only [mkOK, Bool.and_eq_true, decide_eq_true_eq] at h; exact ⟨h.1.1, h.1.2, h.2⟩
theorem flat_rep {H : Hp} {kk : Nat} {x : D} {us : List Value} (hl : us.length = kk) (h : RepC H x us) (h1 : ∀ u ∈ us, one u = true) : ∀ n, FlatR H kk (List.replicate n x) (List.replicate n us).flatten
  | 0 => rfl
  | n + 1 => by
    simp only [List.replicate_succ, List.flatten_cons]
    exact ⟨us, _, rfl, hl, ⟨h, h1⟩, flat_rep hl h h1 n⟩
theorem flat_at {H : Hp} {kk : Nat} : ∀ {xs : List D} {us : List Value} {j : Nat} {x : D}, FlatR H kk xs us → xs[j]? = some x → ∃ vs, vs.length = kk ∧ RepC H x vs ∧ (∀ u ∈ vs, one u = true) ∧ (us.drop (j * kk)).take kk = vs ∧ j * kk + kk ≤ us.length
  | [], us, j, x, _, e => by simp at e
  | y :: xs, us, 0, x, h, e => by
    obtain ⟨u1, u2, rfl, hl, ⟨h1, h2⟩, h3⟩ := h
    simp only [List.getElem?_cons_zero, Option.some.injEq] at e
    subst e
    refine ⟨u1, hl, h1, h2, ?_, by simp [hl]⟩
    rw [Nat.zero_mul, List.drop_zero, List.take_append_of_le_length (by omega), List.take_of_length_le (by omega)]
  | y :: xs, us, j + 1, x, h, e => by
    obtain ⟨u1, u2, rfl, hl, ⟨h1, h2⟩, h3⟩ := h
    simp only [List.getElem?_cons_succ] at e
    obtain ⟨vs, g1, g2, g3, g4, g5⟩ := flat_at h3 e
    refine ⟨vs, g1, g2, g3, ?_, by simp only [List.length_append, hl, Nat.add_mul]; omega⟩
    rw [show (j + 1) * kk = u1.length + j * kk by rw [hl, Nat.add_mul]; omega, List.drop_append, List.drop_of_length_le (by omega), List.nil_append, Nat.add_sub_cancel_left]
    exact g4
theorem flat_set {H : Hp} {kk : Nat} {x : D} {vs : List Value} (hl : vs.length = kk) (hx : RepC H x vs) (h1 : ∀ u ∈ vs, one u = true) : ∀ {xs : List D} {us : List Value} {j : Nat}, FlatR H kk xs us → j < xs.length → FlatR H kk (xs.set j x) (us.take (j * kk) ++ (vs ++ us.drop (j * kk + kk)))
  | [], us, j, _, e => by simp at e
  | y :: xs, us, 0, h, e => by
    obtain ⟨u1, u2, rfl, hl', ⟨h2, h3⟩, h4⟩ := h
    simp only [List.set_cons_zero, Nat.zero_mul, List.take_zero, List.nil_append, Nat.zero_add]
    refine ⟨vs, u2, ?_, hl, ⟨hx, h1⟩, h4⟩
    rw [List.drop_append, List.drop_of_length_le (by omega), List.nil_append, hl', Nat.sub_self, List.drop_zero]
  | y :: xs, us, j + 1, h, e => by
    obtain ⟨u1, u2, rfl, hl', ⟨h2, h3⟩, h4⟩ := h
    simp only [List.set_cons_succ]
    refine ⟨u1, _, ?_, hl', ⟨h2, h3⟩, flat_set hl hx h1 h4 (by simpa using e)⟩
    have q : (j + 1) * kk = u1.length + j * kk := by rw [hl', Nat.add_mul]; omega
    rw [q, List.take_append, List.take_of_length_le (by omega), Nat.add_sub_cancel_left, List.append_assoc, List.drop_append, List.drop_of_length_le (by omega), List.nil_append]
    congr 4
    omega
theorem Core.newRow {C : Ctx} {H : Hp} {h : List (Nat × Blk)} {k : List (Nat × Value)} {w : World} (c : Core C H h k w) {xs : List D} {us rest : List Value} {kk m : Nat} {T : TypeId} (hf : FlatR H kk xs us) (hm : xs.length ≤ m) (hl : m * kk ≤ (us ++ rest).length) (z : m = 0 → xs = []) :
  Core C H ((0, .row kk xs (SL (some ⟨w.heap.size, 0, none⟩, xs.length, m))) :: h) k (w.alloc (.cells (us ++ rest).toArray T)) := by
 have c0 : Core ⟨H, w, []⟩ H [(0, .row kk xs (SL (some ⟨w.heap.size, 0, none⟩, xs.length, m)))] [] (w.alloc (.cells (us ++ rest).toArray T)) := by
  refine ⟨fun a v e => KgJ _ (c.ag a v e), Hp.le_refl H, fun _ _ x => .inl x, fun b hb _ => ?_, ?_, ?_, by simp, ?_, ?_, ⟨rfl, rfl, rfl, Nat.le_refl _⟩⟩
  ·rw [Ka9, if_neg (by exact Nat.ne_of_lt hb)]
  ·rw [KgI]; exact Nat.le_succ _
  ·intro p hp
   simp only [List.mem_singleton] at hp; subst hp
   by_cases q : m = 0
   ·subst q
    have := z rfl
    subst this
    exact .inl ⟨_, rfl, rfl⟩
   ·refine .inr ⟨w.heap.size, m, us, rest, T, rfl, hm, by omega, by rw [Ka9, if_pos rfl], hf, hl, fun o => ?_⟩
    cases e : H ⟨w.heap.size, o, none⟩ with
    | none => rfl
    | some v => exact absurd (c.ag.lt e) (Nat.lt_irrefl _)
  ·simp only [KY, Kae, Kbq, List.flatMap_cons, List.flatMap_nil, List.append_nil]
   split <;> simp
  ·intro b hb
   simp only [KY, Kae, Kbq, List.flatMap_cons, List.flatMap_nil, List.append_nil] at hb
   split at hb
   ·simp at hb; subst hb
    exact .inr (Nat.le_refl _)
   ·cases hb
 have := Core.call (h1 := []) (k1 := []) (h2 := h) (k2 := k) c c0
 simpa using this
theorem Ki2 {z : List Value} {kk : Nat} (hz : z.length = kk) : ∀ n, ((List.replicate n z).flatten).length = n * kk
 | 0 => by simp
 | n + 1 => by simp [List.replicate_succ, Ki2 hz n, hz, Nat.add_mul]; omega
theorem repl_at {z : List Value} : ∀ (n i : Nat), i < n * z.length → (List.replicate n z).flatten[i]? = z[i % z.length]?
  | 0, i, h => by simp at h
  | n + 1, i, h => by
    simp only [List.replicate_succ, List.flatten_cons]
    rw [List.getElem?_append]
    split
    · rename_i hlt; rw [Nat.mod_eq_of_lt hlt]
    · rename_i hge
      rw [repl_at n (i - z.length) (by rw [Nat.add_mul, Nat.one_mul] at h; omega)]
      rw [Nat.mod_eq_sub_mod (a := i) (by omega)]
section
variable {P : Program} {C : Ctx} {N : Nat} {ops rest : List Oper} {o : Oper} {t : List (Nat × D)} {h : List (Nat × Blk)} {k : List (Nat × Value)} {Q : Exit → S → Prop} {tab : List (Option TI)}
theorem p_makeR {i kk bb : Nat} {T e : TypeId} {x y : Operand} {k1 k2 : IntKind} {n c : Int} {x0 : D} {ti0 ie : TI} (hT : TabOK P tab) (ho : o.op = .makeSlice T x y) (hw : wantD ops t o = some true) (hd : o.dst = some i) (hi : Nat.blt i N = true)
  (hx : opD t x = some (.v (.int k1 n))) (hy : opD t y = some (.v (.int k2 c))) (hti : ti tab T = some ti0) (hs : ti0.d = .slice e) (hie : ti tab e = some ie) (hks : ie.size = kk) (hbb : ie.bytes = bb) (hz : ie.zero.length = kk) (hb1 : Nat.ble 1 bb = true) (hk1 : Nat.ble 1 kk = true) (h1z : ie.zero.all one = true)
  (hok : mkOK bb n c = true) (hz0 : ∀ H, RepC H x0 ie.zero)
  (g : ∀ z : Z3, opsD P C N ops rest ⟨(i, .v (SL z)) :: t, (0, .row kk (List.replicate n.toNat x0) (SL z)) :: h, k⟩ Q) : opsD P C N ops (o :: rest) ⟨t, h, k⟩ Q :=
 Kb4 (s := ⟨t, h, k⟩) hw hd hi fun H a w core kt => by
  subst hks; subst hbb
  obtain ⟨h0, hnc, hcb⟩ := mkOK_of hok
  have hb1' := Nat.le_of_ble_eq_true hb1
  have hk1' := Nat.le_of_ble_eq_true hk1
  obtain ⟨d0, u0, u1⟩ := Kag (w := w) (ti_ok hT hti)
  have e0 := Kb2 (u1.trans hs); subst e0
  have hTe := ti_ok hT hie
  obtain ⟨tif, zz, t1, t2, t3, t4, t5⟩ := KeA (w := w) hTe
  obtain ⟨zv, hz1, hz2⟩ := Kch (w := w) hTe
  have hone : ∀ u ∈ ie.zero, one u = true := by simpa [List.all_eq_true] using h1z
  have hc : c ≤ 140737488355328 := by
   have : c * 1 ≤ c * (ie.bytes : Int) := Int.mul_le_mul_of_nonneg_left (by omega) (by omega)
   omega
  have wl : IntKind.i64.wrap n = n := by rw [IntKind.wrap_i64]; omega
  have wc : IntKind.i64.wrap c = c := by rw [IntKind.wrap_i64]; omega
  let xs := List.replicate n.toNat x0
  have hxl : xs.length = n.toNat := by simp [xs]
  refine ⟨SL (some ⟨w.heap.size, 0, none⟩, n.toNat, c.toNat), w.alloc (.cells ((List.replicate n.toNat ie.zero).flatten ++ (List.replicate (c.toNat - n.toNat) ie.zero).flatten).toArray e), H, .v (SL (some ⟨w.heap.size, 0, none⟩, n.toNat, c.toNat)), (0, .row ie.size xs (SL (some ⟨w.heap.size, 0, none⟩, n.toNat, c.toNat))) :: h, k, ?_, Hp.le_refl H, ?_, rep_v rfl, g _⟩
  ·unfold execOp
   rw [ho]
   refine KaM ?_
   rw [K1 (K9 kt hx), K1 (K9 kt hy)]
   unfold Instr.makeSlice
   rw [Kq u0]
   simp only []
   rw [Kq (a := n) rfl, Kq (a := c) rfl, Kq t1]
   simp only [wl, wc, t3]
   rw [if_neg (by
    simp only [Bool.or_eq_true, decide_eq_true_eq, not_or, Int.not_lt, Int.not_le]
    refine ⟨⟨⟨by omega, ?_⟩, by omega⟩, by omega⟩
    have : (ie.bytes : Int) * c ≤ 140737488355328 := by rw [Int.mul_comm]; exact hcb
    show (ie.bytes : Int) * c ≤ 2 ^ 48
    omega)]
   rw [Kq Kkb, Kq (Ka5 hTe)]
   have hcell : ∀ zr : Array Value, (c.toNat * ie.size = 0 ∨ zr.toList = ie.zero) → (Array.range (c.toNat * ie.size)).map (zr[· % zr.size]!) = ((List.replicate n.toNat ie.zero).flatten ++ (List.replicate (c.toNat - n.toNat) ie.zero).flatten).toArray := by
    intro zr hzr
    apply Array.ext'
    have e1 : (List.replicate n.toNat ie.zero).flatten ++ (List.replicate (c.toNat - n.toNat) ie.zero).flatten = (List.replicate c.toNat ie.zero).flatten := by
     rw [← List.flatten_append, List.replicate_append_replicate, show n.toNat + (c.toNat - n.toNat) = c.toNat by omega]
    rw [e1]
    apply List.ext_getElem?
    intro i
    simp only [Array.toList_map, Array.toList_range, List.getElem?_map]
    rcases hzr with q | q
    ·have hc0 : c.toNat = 0 := by
      rcases Nat.mul_eq_zero.1 q with q | q
      ·exact q
      ·omega
     rw [hc0]; simp
    ·have hsz : zr.size = ie.size := by rw [← Array.length_toList, q, hz]
     by_cases hlt : i < c.toNat * ie.size
     ·rw [List.getElem?_range hlt, repl_at c.toNat i (by rw [hz]; exact hlt)]
      simp only [Option.map_some]
      have hml : i % zr.size < zr.size := Nat.mod_lt _ (by omega)
      rw [← q, Array.length_toList, Array.getElem?_toList, getElem!_pos zr _ hml, getElem?_pos zr _ hml]
     ·rw [List.getElem?_eq_none (by simpa using hlt), List.getElem?_eq_none (by rw [Ki2 hz]; omega)]
      rfl
   by_cases q : c.toNat * ie.size = 0
   ·rw [if_pos q, Kq (a := (#[] : Array Value)) rfl, hcell #[] (.inl q)]
    rfl
   ·rw [if_neg q]
    simp only [Kb1, hz1, Kb9]
    rw [hcell zv.cells (.inr hz2)]
    rfl
  ·have := core.newRow (xs := xs) (us := (List.replicate n.toNat ie.zero).flatten) (rest := (List.replicate (c.toNat - n.toNat) ie.zero).flatten) (kk := ie.size) (m := c.toNat) (T := e)
    (flat_rep hz (hz0 H) hone n.toNat) (by omega) (by simp only [List.length_append, Ki2 hz]; rw [← Nat.add_mul]; exact Nat.mul_le_mul_right _ (by omega)) (fun q => by
     have : n.toNat = 0 := by omega
     simp [xs, this])
   rw [hxl] at this
   exact this
theorem Kks {i kk bb : Nat} {T e : TypeId} {x y : Operand} {k1 k2 : IntKind} {n c : Int} {x0 : D} {zs : List D} {ti0 ie : TI} (hT : TabOK P tab) (ho : o.op = .makeSlice T x y) (hw : wantD ops t o = some true) (hd : o.dst = some i) (hi : Nat.blt i N = true)
  (hx : opD t x = some (.v (.int k1 n))) (hy : opD t y = some (.v (.int k2 c))) (hti : ti tab T = some ti0) (hs : ti0.d = .slice e) (hie : ti tab e = some ie) (hks : ie.size = kk) (hbb : ie.bytes = bb) (hz : ie.zero.length = kk) (hb1 : Nat.ble 1 bb = true) (hk1 : Nat.ble 1 kk = true) (h1z : ie.zero.all one = true)
  (hok : mkOK bb n c = true) (hz0 : ∀ H, RepC H x0 ie.zero) (em : List.replicate n.toNat x0 = zs)
  (g : ∀ z : Z3, opsD P C N ops rest ⟨(i, .v (SL z)) :: t, (0, .row kk zs (SL z)) :: h, k⟩ Q) : opsD P C N ops (o :: rest) ⟨t, h, k⟩ Q := by
 subst em
 exact p_makeR hT ho hw hd hi hx hy hti hs hie hks hbb hz hb1 hk1 h1z hok hz0 g
theorem set_map {α : Type} {e : α → D} {xs : List α} {j : Nat} {v : α} : (xs.map e).set j (e v) = (xs.set j v).map e := List.map_set.symm
theorem idx_mlt {α : Type} {e : α → D} {xs : List α} {j : Int} {x : α} (h : idx xs j = some x) : j.toNat < (xs.map e).length := by simpa using idx_lt h
theorem KgW {i r kk : Nat} {T e : TypeId} {x ix : Operand} {xs : List D} {z : Z3} {ik : IntKind} {jx : Int} {d : D} {ti0 tie : TI} (j : Nat) (hT : TabOK P tab) (ho : o.op = .indexAddr T x ix) (hw : wantD ops t o = some true) (hd : o.dst = some i) (hi : Nat.blt i N = true)
  (hx : opD t x = some (.v (SL z))) (hj : h[j]? = some (r, .row kk xs (SL z))) (hix : opD t ix = some (.v (.int ik jx))) (hti : ti tab T = some ti0) (hs : ti0.d = .slice e) (hte : ti tab e = some tie) (hk : tie.size = kk) (h0 : 0 ≤ jx) (hb : xs[jx.toNat]? = some d)
  (g : opsD P C N ops rest ⟨(i, .v (PE z (jx.toNat * kk))) :: t, h, k⟩ Q) : opsD P C N ops (o :: rest) ⟨t, h, k⟩ Q :=
 Kb4 (s := ⟨t, h, k⟩) hw hd hi fun H a w core kt => by
  obtain ⟨dd, h1, h2⟩ := Kag (w := w) (ti_ok hT hti)
  have := Kb2 (h2.trans hs); subst this
  obtain ⟨hlt, _⟩ := List.getElem?_eq_some_iff.1 hb
  rcases core.blks _ (List.mem_of_getElem? hj) with ⟨ad, _, e2⟩ | ⟨b, m, us, rest', TT, e1, g0, hm, g1, g2, g3, g4⟩
  ·subst e2; simp at hb
  refine ⟨PE z (jx.toNat * kk), w, H, _, h, k, ?_, Hp.le_refl H, core, rep_v rfl, g⟩
  unfold execOp
  rw [ho]
  refine KaM ?_
  rw [K1 (K9 kt hx), K1 (K9 kt hix)]
  obtain ⟨z1, z2, z3⟩ := z
  simp only [SL, Value.slice.injEq] at e1
  obtain ⟨rfl, rfl, rfl⟩ := e1
  unfold Instr.indexAt
  rw [Kq (a := (ik, jx)) rfl]
  simp only []
  have hlt2 : jx < (xs.length : Int) := by omega
  simp only [SL, PE, Kb1, h1, Kb9, Ka5 (ti_ok hT hte), hk, if_pos (show 0 ≤ jx ∧ jx < (xs.length : Int) from ⟨h0, hlt2⟩), Kcs, Option.map_some]
theorem p_loadR {i r kk jn : Nat} {T : TypeId} {x : Operand} {xs : List D} {z : Z3} {d0 d : D} {ti0 : TI} (j : Nat) (hT : TabOK P tab) (ho : o.op = .load T x) (hw : wantD ops t o = some true) (hd : o.dst = some i) (hi : Nat.blt i N = true)
  (hx : opD t x = some (.v (PE z (jn * kk)))) (hj : h[j]? = some (r, .row kk xs (SL z))) (hti : ti tab T = some ti0) (hb : xs[jn]? = some d0) (e : partD ti0 (K4 d0) 0 = some d) (hne : K4 d0 ≠ [])
  (g : opsD P C N ops rest ⟨(i, d) :: t, h, k⟩ Q) : opsD P C N ops (o :: rest) ⟨t, h, k⟩ Q :=
 Kb4 (s := ⟨t, h, k⟩) hw hd hi fun H a w core kt => by
  rcases core.blks _ (List.mem_of_getElem? hj) with ⟨ad, _, e2⟩ | ⟨b, m, us, rest', TT, e1, g0, hm, g1, g2, g3, g4⟩
  ·subst e2; simp at hb
  obtain ⟨vs, f1, f2, f3, f4, f5⟩ := flat_at g2 hb
  have hrow : RowAt w b (jn * kk) vs := fun q u eq => by
   have := (KhN g1).drop (jn * kk)
   rw [Nat.zero_add] at this
   refine this q u ?_
   rw [List.drop_append_of_le_length (by omega)]
   have hq := (List.getElem?_eq_some_iff.1 eq).1
   rw [← f4, List.getElem?_take, if_pos (by omega)] at eq
   rw [List.getElem?_append_left (by rw [List.length_drop]; omega)]
   exact eq
  obtain ⟨v, h5, h6⟩ := KeR (P := P) (T := T) (n := 0) (ti_ok hT hti) hrow (KiR hne f2 f3) e
  refine ⟨v, w, H, d, h, k, ?_, Hp.le_refl H, core, h6, g⟩
  unfold execOp
  rw [ho]
  refine KaM ?_
  rw [K1 (K9 kt hx)]
  obtain ⟨z1, z2, z3⟩ := z
  simp only [SL, Value.slice.injEq] at e1
  obtain ⟨rfl, rfl, rfl⟩ := e1
  simpa [PE, Kcs] using h5
theorem Kkt {r kk jn : Nat} {T : TypeId} {x y : Operand} {xs xs' : List D} {z : Z3} {d : D} {ti0 : TI} (j : Nat) (hT : TabOK P tab) (ho : o.op = .store T x y) (hw : wantD ops t o = some true) (hd : o.dst = none)
  (hx : opD t x = some (.v (PE z (jn * kk)))) (hj : h[j]? = some (r, .row kk xs (SL z))) (hti : ti tab T = some ti0) (hy : opD t y = some d) (hs : stor d = true) (hsz : ti0.size = kk) (hdl : Nat.beq (K4 d).length kk = true) (hlt : jn < xs.length) (em : xs.set jn d = xs')
  (g : opsD P C N ops rest ⟨t, h.set j (r, .row kk xs' (SL z)), k⟩ Q) : opsD P C N ops (o :: rest) ⟨t, h, k⟩ Q :=
 Kkl (s := ⟨t, h, k⟩) hw hd fun H a w core kt => by
  subst em
  have hbl := core.blks _ (List.mem_of_getElem? hj)
  rcases hbl with ⟨ad, _, e2⟩ | ⟨b, m, us, rest', TT, e1, g0, hm, g1, g2, g3, g4⟩
  ·subst e2; simp at hlt
  have hry := K9 kt hy
  have hv := KeS hs hry
  have hlen := Kby hv
  have hkl := Nat.eq_of_beq_eq_true hdl
  have hul := Ki1 g2
  have hvl : (a.eval y).cells.toList.length = kk := by omega
  obtain ⟨z1, z2, z3⟩ := z
  simp only [SL, Value.slice.injEq] at e1
  obtain ⟨rfl, rfl, rfl⟩ := e1
  have hjm : jn * kk + kk ≤ us.length := by
   rw [hul]
   have := Nat.mul_le_mul_right kk (show jn + 1 ≤ xs.length from hlt)
   rw [Nat.add_mul] at this; omega
  have hone := Kez hv
  obtain ⟨w', s1, s2, s3, s4, s5⟩ := Kct (P := P) (b := b) (off := jn * kk) (T := TT) (a.eval y).cells.toList 0 w (us ++ rest') g1 (by rw [hvl, List.length_append]; omega) hone
  rw [Nat.add_zero, hvl] at s5
  have ecells : (us ++ rest').take (jn * kk) ++ ((a.eval y).cells.toList ++ (us ++ rest').drop (jn * kk + kk)) = (us.take (jn * kk) ++ ((a.eval y).cells.toList ++ us.drop (jn * kk + kk))) ++ rest' := by
   rw [List.take_append_of_le_length (by omega), List.drop_append_of_le_length (by omega)]
   simp
  rw [ecells] at s5
  have hrc : RepC H d (a.eval y).cells.toList := hry.1
  have c1 : Core C H ([(r, .row kk xs (.slice (some ⟨b, 0, none⟩) xs.length z3))] ++ h.eraseIdx j) ([] ++ k) w := core.perm (Kah hj) (List.Perm.refl _)
  have hclaim : KY [(r, Blk.row kk xs (.slice (some ⟨b, 0, none⟩) xs.length z3))] [] = [b] := by simp [KY, Kae, Kbq, hm]
  have c2 : Core ⟨H, w, KY [(r, Blk.row kk xs (.slice (some ⟨b, 0, none⟩) xs.length z3))] []⟩ H [(r, .row kk (xs.set jn d) (.slice (some ⟨b, 0, none⟩) xs.length z3))] [] w' := by
   rw [hclaim]
   refine ⟨fun a v0 ea => ?_, Hp.le_refl H, fun _ _ x => .inl x, fun i _ hm => s4 i (by simpa using hm), by show w.heap.size ≤ w'.heap.size; omega, ?_, by simp, ?_, ?_, s2⟩
   ·have hcell := core.ag a v0 ea
    by_cases qb : a.block = b
    ·obtain ⟨ab, ao, as_⟩ := a
     simp only at qb; subst qb
     cases as_ with
     | some sp => simp [World.cell?, g1] at hcell
     | none => rw [g4 ao] at ea; cases ea
    ·simp only [World.cell?] at hcell ⊢
     rw [s4 _ qb]; exact hcell
   ·intro p hp
    simp only [List.mem_singleton] at hp; subst hp
    refine .inr ⟨b, z3, _, rest', TT, by simp, by simpa using g0, hm, s5, flat_set hvl hrc hone g2 hlt, ?_, g4⟩
    have := congrArg List.length ecells
    simp only [List.length_append, List.length_take, List.length_drop] at this g3 ⊢
    omega
   ·simp [KY, Kae, Kbq, hm]
   ·intro x hx; simp [KY, Kae, Kbq, hm] at hx; subst hx; exact .inl (by simp)
  refine ⟨w', H, h.set j (r, .row kk (xs.set jn d) (.slice (some ⟨b, 0, none⟩) xs.length z3)), k, ?_, Hp.le_refl H, (Core.call c1 c2).perm (Ki0 hj) (List.Perm.refl _), g⟩
  unfold execOp
  rw [ho]
  have hrun : (Instr.storeAt T (a.eval x) (a.eval y)).run P w = .ok () w' := by
   rw [K1 (K9 kt hx)]
   unfold Instr.storeAt
   simp only [PE, Option.map_some, Kcs, Nat.zero_add]
   rw [Kq (a := (⟨b, jn * kk, none⟩ : Addr)) rfl]
   unfold storeVar
   rw [Kq (Ka5 (ti_ok hT hti)), if_neg (by rw [← Array.length_toList, hvl, hsz]; simp)]
   exact s1
  show ((Instr.storeAt T (a.eval x) (a.eval y)) >>= fun _ => pure Next.skip).run P w = _
  rw [Kq hrun]; rfl
end
end Go.Proofs.YtipfljkjjddapaaGreatDoor.Ab
namespace Go.Proofs.YtipfljkjjddapaaGreatDoor.Ab
open Go
set_option linter.all false
theorem loop_pre {σ τ α β : Type} {f : σ → Option (Step σ τ)} (l : List β) (g : List β → α) (st : α → Nat → σ) (fin : α → τ)
    (h1 : ∀ pre x post, l = pre ++ x :: post → f (st (g pre) pre.length) = some (.next (st (g (pre ++ [x])) (pre.length + 1))))
    (h2 : f (st (g l) l.length) = some (.done (fin (g l)))) : loopM f (st (g []) 0) = some (fin (g l)) := by
  have key : ∀ (post pre : List β), l = pre ++ post → loopM f (st (g pre) pre.length) = some (fin (g l)) := by
    intro post
    induction post with
    | nil => intro pre h; rw [List.append_nil] at h; subst h; exact KbY h2
    | cons x post ih =>
      intro pre h
      rw [KeT (h1 pre x post h)]
      have := ih (pre ++ [x]) (by simp [h])
      simpa using this
  simpa using key l [] rfl
theorem Ka3 {β : Type} (pre : List β) (x : β) (post : List β) : idx (pre ++ x :: post) (pre.length : Int) = some x := by
 rw [idx_nat]; simp
theorem KaW {β : Type} {l pre : List β} {x : β} {post : List β} (h : l = pre ++ x :: post) : decide ((pre.length : Int) < (l.length : Int)) = true := by
 subst h; simp; omega
theorem KaI {β : Type} {l pre : List β} {x : β} {post : List β} (h : l = pre ++ x :: post) (hb : l.length ≤ 4611686018427387904) : IntKind.i64.wrap ((pre.length : Int) + 1) = ((pre.length + 1 : Nat) : Int) := by
 have : pre.length < l.length := by subst h; simp
 rw [IntKind.wrap_i64]; omega
theorem wrap_id {n : Int} (h : -9223372036854775808 ≤ n) (k : n < 9223372036854775808) : IntKind.i64.wrap n = n := by rw [IntKind.wrap_i64]; omega
theorem Kcu {β : Type} {l pre : List β} {x : β} {post : List β} (h : l = pre ++ x :: post) : x ∈ l := by subst h; simp
theorem Kfx {β : Type} {bb : Nat} {xs ys : List β} (hb : bb ≤ 4096) (h : xs.length + ys.length ≤ 8388608) : app bb xs ys = some (xs ++ ys) := by
 refine app_of ?_
 have := Nat.mul_le_mul h hb
 omega
theorem idx_pre2 {β : Type} {m p : List β} {x : β} {q : List β} {n : Nat} (h : m = p ++ x :: q) (hn : n = p.length) : idx m (n : Int) = some x := by
 subst h hn; exact Ka3 _ _ _
end Go.Proofs.YtipfljkjjddapaaGreatDoor.Ab
namespace Go.Proofs.YtipfljkjjddapaaGreatDoor.Ab
open Go
set_option linter.all false
def loopC {σ τ : Type} (n : Nat) (f : σ → Option (Step σ τ)) (s : σ) : Option τ := loopN f n s
theorem Le.loopC {σ τ : Type} {n : Nat} {f f' : σ → Option (Step σ τ)} {s : σ} (h : ∀ s, Le (f s) (f' s)) : Le (loopC n f s) (loopM f' s) := fun r e => by
  have key : ∀ n s, loopN f n s = some r → loopN f' n s = some r := by
    intro n
    induction n with
    | zero => intro s e; cases e
    | succ n ih =>
      intro s e
      unfold loopN at e ⊢
      cases q : f s with
      | none => rw [q] at e; cases e
      | some x =>
        rw [q] at e
        rw [h s x q]
        cases x with
        | next s' => exact ih s' e
        | done t => exact e
  exact Kg7 (key n s e)
theorem Le.of {α : Type} {m m' : Option α} {r : α} (h : Le m m') (e : m = some r) : m' = some r := h r e
end Go.Proofs.YtipfljkjjddapaaGreatDoor.Ab
namespace Go.Proofs.YtipfljkjjddapaaGreatDoor.Ab
open Go
set_option linter.all false
abbrev RL := List (Nat × Nat × List D)
def isR (rl : RL) (e : Nat) : Bool := rl.any fun x => x.1 == e
def dR (rl : RL) (e : Nat) (d : D) (v : Value) : D := bif isR rl e then .v v else d
section
variable (P : Program) (C : Ctx) (N : Nat) (l : List Oper) (m : Nat) (De : Nat → D) (al : AL) (rl : RL) (pre : List (List Nat)) (ev : List Nat) (h : List (Nat × Blk)) (k : List (Nat × Value)) (Q : Exit → S → Prop)
def dEr (bs : Nat → Value) (e : Nat) : D := bif isAl al e then .ptr (blk (bs e)) 0 else dR rl e (De e) (bs e)
def TOKr (H0 : Hp) (bs : Nat → Value) (vals : Nat → Value) (te : TE) (a : Act) : Prop :=
 ∀ j d o, look3 te j = some (d, o) → ∃ v, a.tmps[j]? = some v ∧ (o = none → ∀ H, H0.le H → Rep H d v) ∧ ∀ e, o = some e → v = vals e ∧ d = dEr De al rl bs e ∧ ev.contains e = true
end
section
variable {P : Program} {C : Ctx} {N : Nat} {l : List Oper} {m : Nat} {De : Nat → D} {al : AL} {rl : RL} {pre : List (List Nat)} {ev : List Nat} {h : List (Nat × Blk)} {k : List (Nat × Value)} {Q : Exit → S → Prop} {tab : List (Option TI)} {bs : Nat → Value} {i : Nat} {o : Oper} {rest : List Oper} {te : TE}
theorem TOKr.put {H0 : Hp} {vals : Nat → Value} {a : Act} (kt : TOKr De al rl ev H0 bs vals te a) {j : Nat} {d : D} {o : Option Nat} {v : Value} (hj : j < a.tmps.size) (h1 : o = none → ∀ H, H0.le H → Rep H d v) (h2 : ∀ e, o = some e → v = vals e ∧ d = dEr De al rl bs e ∧ ev.contains e = true) :
    TOKr De al rl ev H0 bs vals ((j, d, o) :: te) (a.put (some j) v) := by
  intro j' d' o' e
  simp only [look3] at e
  simp only [Act.put]
  cases hb : Nat.beq j j' with
  | true =>
    rw [hb] at e; simp at e
    obtain ⟨rfl, rfl⟩ := e
    have := Nat.eq_of_beq_eq_true hb; subst this
    exact ⟨v, by simp [hj], h1, h2⟩
  | false =>
    rw [hb] at e; simp at e
    have hne : j ≠ j' := Nat.ne_of_beq_eq_false hb
    obtain ⟨u, h3, h4⟩ := kt j' d' o' e
    exact ⟨u, by rw [Array.getElem?_setIfInBounds_ne hne]; exact h3, h4⟩
end
section
variable {P : Program} {C : Ctx} {N : Nat} {l : List Oper} {m : Nat} {De : Nat → D} {al : AL} {rl : RL} {pre : List (List Nat)} {ev : List Nat} {h : List (Nat × Blk)} {k : List (Nat × Value)} {Q : Exit → S → Prop} {tab : List (Option TI)} {bs : Nat → Value} {i : Nat} {o : Oper} {rest : List Oper} {te : TE}
end
end Go.Proofs.YtipfljkjjddapaaGreatDoor.Ab
namespace Go.Proofs.YtipfljkjjddapaaGreatDoor.Ab
open Go
set_option linter.all false
def tab : List (Option TI) := [none,
 some ⟨.other, 1, 8, [.nilFunc]⟩,
 some ⟨.int .i64, 1, 8, [.int .i64 0]⟩,
 some ⟨.int .i64, 1, 8, [.int .i64 0]⟩,
 some ⟨.bool, 1, 1, [.bool false]⟩,
 some ⟨.int .u8, 1, 1, [.int .u8 0]⟩,
 some ⟨.int .u8, 1, 1, [.int .u8 0]⟩,
 some ⟨.struct [(2, 0), (3, 1), (4, 2), (6, 3)], 4, 24, [.int .i64 0, .int .i64 0, .bool false, .int .u8 0]⟩,
 some ⟨.struct [(2, 0), (3, 1), (4, 2), (6, 3)], 4, 24, [.int .i64 0, .int .i64 0, .bool false, .int .u8 0]⟩,
 some ⟨.str, 1, 16, [.string ByteArray.empty]⟩,
 some ⟨.str, 1, 16, [.string ByteArray.empty]⟩,
 some ⟨.str, 1, 16, [.string ByteArray.empty]⟩,
 some ⟨.int .u64, 1, 8, [.int .u64 0]⟩,
 some ⟨.struct [(9, 0), (12, 1)], 2, 24, [.string ByteArray.empty, .int .u64 0]⟩,
 some ⟨.struct [(9, 0), (12, 1)], 2, 24, [.string ByteArray.empty, .int .u64 0]⟩,
 some ⟨.ptr 274, 1, 8, [.pointer none]⟩,
 some ⟨.ptr 277, 1, 8, [.pointer none]⟩,
 some ⟨.ptr 284, 1, 8, [.pointer none]⟩,
 some ⟨.struct [(17, 0)], 1, 8, [.pointer none]⟩,
 some ⟨.struct [(17, 0)], 1, 8, [.pointer none]⟩,
 none,
 some ⟨.int .i32, 1, 4, [.int .i32 0]⟩,
 some ⟨.slice 34, 1, 24, [.slice none 0 0]⟩,
 some ⟨.ptr 59, 1, 8, [.pointer none]⟩,
 some ⟨.other, 1, 8, [.nilFunc]⟩,
 some ⟨.slice 67, 1, 24, [.slice none 0 0]⟩,
 some ⟨.slice 49, 1, 24, [.slice none 0 0]⟩,
 some ⟨.struct [(25, 0), (26, 1)], 2, 48, [.slice none 0 0, .slice none 0 0]⟩,
 some ⟨.struct [(25, 0), (26, 1)], 2, 48, [.slice none 0 0, .slice none 0 0]⟩,
 some ⟨.int .i64, 1, 8, [.int .i64 0]⟩,
 none,
 some ⟨.other, 1, 8, [.nilFunc]⟩,
 some ⟨.slice 5, 1, 24, [.slice none 0 0]⟩,
 some ⟨.struct [(3, 0), (32, 1), (9, 2)], 3, 48, [.int .i64 0, .slice none 0 0, .string ByteArray.empty]⟩,
 some ⟨.struct [(3, 0), (32, 1), (9, 2)], 3, 48, [.int .i64 0, .slice none 0 0, .string ByteArray.empty]⟩,
 none,
 some ⟨.other, 1, 8, [.nilFunc]⟩,
 none,
 some ⟨.other, 1, 8, [.nilFunc]⟩,
 some ⟨.other, 1, 8, [.nilFunc]⟩,
 some ⟨.other, 1, 8, [.nilFunc]⟩,
 some ⟨.other, 1, 8, [.nilFunc]⟩,
 some ⟨.other, 1, 8, [.nilFunc]⟩,
 some ⟨.other, 1, 8, [.nilFunc]⟩,
 some ⟨.other, 1, 8, [.nilFunc]⟩,
 some ⟨.other, 1, 8, [.nilFunc]⟩,
 some ⟨.slice 85, 1, 24, [.slice none 0 0]⟩,
 some ⟨.slice 121, 1, 24, [.slice none 0 0]⟩,
 some ⟨.struct [(9, 0), (46, 1), (46, 2), (47, 3), (3, 4)], 5, 96, [.string ByteArray.empty, .slice none 0 0, .slice none 0 0, .slice none 0 0, .int .i64 0]⟩,
 some ⟨.struct [(9, 0), (46, 1), (46, 2), (47, 3), (3, 4)], 5, 96, [.string ByteArray.empty, .slice none 0 0, .slice none 0 0, .slice none 0 0, .int .i64 0]⟩,
 none,
 some ⟨.other, 1, 8, [.nilFunc]⟩,
 some ⟨.other, 1, 8, [.nilFunc]⟩,
 none,
 some ⟨.other, 1, 8, [.nilFunc]⟩,
 none,
 some ⟨.other, 1, 8, [.nilFunc]⟩,
 some ⟨.other, 1, 8, [.nilFunc]⟩,
 some ⟨.struct [(28, 0)], 2, 48, [.slice none 0 0, .slice none 0 0]⟩,
 some ⟨.struct [(28, 0)], 2, 48, [.slice none 0 0, .slice none 0 0]⟩,
 some ⟨.other, 1, 8, [.nilFunc]⟩,
 some ⟨.other, 1, 8, [.nilFunc]⟩,
 none,
 some ⟨.other, 1, 8, [.nilFunc]⟩,
 some ⟨.other, 1, 8, [.nilFunc]⟩,
 some ⟨.other, 1, 8, [.nilFunc]⟩,
 some ⟨.struct [(9, 0), (4, 1), (3, 2), (3, 3)], 4, 40, [.string ByteArray.empty, .bool false, .int .i64 0, .int .i64 0]⟩,
 some ⟨.struct [(9, 0), (4, 1), (3, 2), (3, 3)], 4, 40, [.string ByteArray.empty, .bool false, .int .i64 0, .int .i64 0]⟩,
 none,
 some ⟨.other, 1, 8, [.nilFunc]⟩,
 some ⟨.other, 1, 8, [.nilFunc]⟩,
 some ⟨.ptr 73, 1, 8, [.pointer none]⟩,
 some ⟨.struct [(71, 0), (32, 1)], 2, 32, [.pointer none, .slice none 0 0]⟩,
 some ⟨.struct [(71, 0), (32, 1)], 2, 32, [.pointer none, .slice none 0 0]⟩,
 none,
 none,
 none,
 some ⟨.other, 1, 8, [.nilFunc]⟩,
 some ⟨.other, 1, 8, [.nilFunc]⟩,
 some ⟨.ptr 81, 1, 8, [.pointer none]⟩,
 some ⟨.struct [(73, 0), (3, 2)], 3, 40, [.pointer none, .slice none 0 0, .int .i64 0]⟩,
 some ⟨.struct [(73, 0), (3, 2)], 3, 40, [.pointer none, .slice none 0 0, .int .i64 0]⟩,
 some ⟨.other, 1, 8, [.nilFunc]⟩,
 some ⟨.other, 1, 8, [.nilFunc]⟩,
 some ⟨.struct [(9, 0), (4, 1)], 2, 24, [.string ByteArray.empty, .bool false]⟩,
 some ⟨.struct [(9, 0), (4, 1)], 2, 24, [.string ByteArray.empty, .bool false]⟩,
 some ⟨.other, 1, 8, [.nilFunc]⟩,
 some ⟨.other, 1, 8, [.nilFunc]⟩,
 some ⟨.other, 1, 8, [.nilFunc]⟩,
 some ⟨.other, 1, 8, [.nilFunc]⟩,
 some ⟨.other, 1, 8, [.nilFunc]⟩,
 some ⟨.other, 1, 8, [.nilFunc]⟩,
 none,
 some ⟨.other, 1, 8, [.nilFunc]⟩,
 some ⟨.slice 9, 1, 24, [.slice none 0 0]⟩,
 none,
 some ⟨.other, 1, 8, [.nilFunc]⟩,
 none,
 some ⟨.other, 1, 8, [.nilFunc]⟩,
 some ⟨.other, 1, 8, [.nilFunc]⟩,
 some ⟨.other, 1, 8, [.nilFunc]⟩,
 none,
 some ⟨.other, 1, 8, [.nilFunc]⟩,
 none,
 some ⟨.other, 1, 8, [.nilFunc]⟩,
 some ⟨.other, 1, 8, [.nilFunc]⟩,
 some ⟨.other, 1, 8, [.nilFunc]⟩,
 some ⟨.other, 1, 8, [.nilFunc]⟩,
 some ⟨.other, 1, 8, [.nilFunc]⟩,
 some ⟨.other, 1, 8, [.nilFunc]⟩,
 some ⟨.slice 133, 1, 24, [.slice none 0 0]⟩,
 none,
 some ⟨.other, 1, 8, [.nilFunc]⟩,
 some ⟨.other, 1, 8, [.nilFunc]⟩,
 some ⟨.other, 1, 8, [.nilFunc]⟩,
 some ⟨.other, 1, 8, [.nilFunc]⟩,
 some ⟨.other, 1, 8, [.nilFunc]⟩,
 some ⟨.other, 1, 8, [.nilFunc]⟩,
 some ⟨.other, 1, 8, [.nilFunc]⟩,
 some ⟨.slice 166, 1, 24, [.slice none 0 0]⟩,
 some ⟨.struct [(3, 0), (9, 1), (9, 2), (119, 3), (47, 4), (47, 5), (3, 6)], 7, 120, [.int .i64 0, .string ByteArray.empty, .string ByteArray.empty, .slice none 0 0, .slice none 0 0, .slice none 0 0, .int .i64 0]⟩,
 some ⟨.struct [(3, 0), (9, 1), (9, 2), (119, 3), (47, 4), (47, 5), (3, 6)], 7, 120, [.int .i64 0, .string ByteArray.empty, .string ByteArray.empty, .slice none 0 0, .slice none 0 0, .slice none 0 0, .int .i64 0]⟩,
 some ⟨.other, 1, 8, [.nilFunc]⟩,
 some ⟨.other, 1, 8, [.nilFunc]⟩,
 some ⟨.other, 1, 8, [.nilFunc]⟩,
 some ⟨.ptr 5, 1, 8, [.pointer none]⟩,
 some ⟨.other, 1, 8, [.nilFunc]⟩,
 some ⟨.other, 1, 8, [.nilFunc]⟩,
 some ⟨.other, 1, 8, [.nilFunc]⟩,
 some ⟨.other, 1, 8, [.nilFunc]⟩,
 none,
 some ⟨.other, 1, 8, [.nilFunc]⟩,
 some ⟨.struct [(3, 0), (9, 1), (3, 2), (3, 3)], 4, 40, [.int .i64 0, .string ByteArray.empty, .int .i64 0, .int .i64 0]⟩,
 some ⟨.struct [(3, 0), (9, 1), (3, 2), (3, 3)], 4, 40, [.int .i64 0, .string ByteArray.empty, .int .i64 0, .int .i64 0]⟩,
 some ⟨.ptr 139, 1, 8, [.pointer none]⟩,
 none,
 some ⟨.other, 1, 8, [.nilFunc]⟩,
 some ⟨.other, 1, 8, [.nilFunc]⟩,
 some ⟨.struct [(110, 0), (3, 1), (29, 2), (3, 3), (3, 4)], 5, 56, [.slice none 0 0, .int .i64 0, .int .i64 0, .int .i64 0, .int .i64 0]⟩,
 some ⟨.struct [(110, 0), (3, 1), (29, 2), (3, 3), (3, 4)], 5, 56, [.slice none 0 0, .int .i64 0, .int .i64 0, .int .i64 0, .int .i64 0]⟩,
 some ⟨.other, 1, 8, [.nilFunc]⟩,
 some ⟨.other, 1, 8, [.nilFunc]⟩,
 some ⟨.other, 1, 8, [.nilFunc]⟩,
 some ⟨.other, 1, 8, [.nilFunc]⟩,
 some ⟨.other, 1, 8, [.nilFunc]⟩,
 some ⟨.other, 1, 8, [.nilFunc]⟩,
 some ⟨.other, 1, 8, [.nilFunc]⟩,
 some ⟨.other, 1, 8, [.nilFunc]⟩,
 none,
 some ⟨.other, 1, 8, [.nilFunc]⟩,
 some ⟨.ptr 152, 1, 8, [.pointer none]⟩,
 some ⟨.struct [(110, 0), (3, 1), (3, 2)], 3, 40, [.slice none 0 0, .int .i64 0, .int .i64 0]⟩,
 some ⟨.struct [(110, 0), (3, 1), (3, 2)], 3, 40, [.slice none 0 0, .int .i64 0, .int .i64 0]⟩,
 some ⟨.other, 1, 8, [.nilFunc]⟩,
 some ⟨.other, 1, 8, [.nilFunc]⟩,
 some ⟨.other, 1, 8, [.nilFunc]⟩,
 some ⟨.other, 1, 8, [.nilFunc]⟩,
 some ⟨.other, 1, 8, [.nilFunc]⟩,
 some ⟨.other, 1, 8, [.nilFunc]⟩,
 some ⟨.other, 1, 8, [.nilFunc]⟩,
 some ⟨.other, 1, 8, [.nilFunc]⟩,
 some ⟨.other, 1, 8, [.nilFunc]⟩,
 some ⟨.other, 1, 8, [.nilFunc]⟩,
 some ⟨.other, 1, 8, [.nilFunc]⟩,
 some ⟨.other, 1, 8, [.nilFunc]⟩,
 some ⟨.struct [(3, 0), (3, 1), (9, 2), (119, 3), (3, 4)], 5, 64, [.int .i64 0, .int .i64 0, .string ByteArray.empty, .slice none 0 0, .int .i64 0]⟩,
 some ⟨.struct [(3, 0), (3, 1), (9, 2), (119, 3), (3, 4)], 5, 64, [.int .i64 0, .int .i64 0, .string ByteArray.empty, .slice none 0 0, .int .i64 0]⟩,
 some ⟨.other, 1, 8, [.nilFunc]⟩,
 none,
 some ⟨.other, 1, 8, [.nilFunc]⟩,
 some ⟨.other, 1, 8, [.nilFunc]⟩,
 some ⟨.other, 1, 8, [.nilFunc]⟩,
 some ⟨.other, 1, 8, [.nilFunc]⟩,
 none,
 some ⟨.other, 1, 8, [.nilFunc]⟩,
 some ⟨.ptr 177, 1, 8, [.pointer none]⟩,
 some ⟨.struct [(32, 0), (3, 1), (110, 2)], 3, 56, [.slice none 0 0, .int .i64 0, .slice none 0 0]⟩,
 some ⟨.struct [(32, 0), (3, 1), (110, 2)], 3, 56, [.slice none 0 0, .int .i64 0, .slice none 0 0]⟩,
 some ⟨.other, 1, 8, [.nilFunc]⟩,
 some ⟨.other, 1, 8, [.nilFunc]⟩,
 some ⟨.other, 1, 8, [.nilFunc]⟩,
 some ⟨.other, 1, 8, [.nilFunc]⟩,
 some ⟨.other, 1, 8, [.nilFunc]⟩,
 some ⟨.other, 1, 8, [.nilFunc]⟩,
 some ⟨.other, 1, 8, [.nilFunc]⟩,
 some ⟨.other, 1, 8, [.nilFunc]⟩,
 some ⟨.other, 1, 8, [.nilFunc]⟩,
 some ⟨.map 9 3, 1, 8, [.map none]⟩,
 some ⟨.struct [(3, 0), (29, 1)], 2, 16, [.int .i64 0, .int .i64 0]⟩,
 some ⟨.struct [(3, 0), (29, 1)], 2, 16, [.int .i64 0, .int .i64 0]⟩,
 some ⟨.other, 1, 8, [.nilFunc]⟩,
 some ⟨.struct [(28, 0), (49, 2)], 7, 144, [.slice none 0 0, .slice none 0 0, .string ByteArray.empty, .slice none 0 0, .slice none 0 0, .slice none 0 0, .int .i64 0]⟩,
 some ⟨.struct [(28, 0), (49, 2)], 7, 144, [.slice none 0 0, .slice none 0 0, .string ByteArray.empty, .slice none 0 0, .slice none 0 0, .slice none 0 0, .int .i64 0]⟩,
 some ⟨.other, 1, 8, [.nilFunc]⟩,
 some ⟨.other, 1, 8, [.nilFunc]⟩,
 some ⟨.other, 1, 8, [.nilFunc]⟩,
 some ⟨.other, 1, 8, [.nilFunc]⟩,
 some ⟨.other, 1, 8, [.nilFunc]⟩,
 some ⟨.other, 1, 8, [.nilFunc]⟩,
 some ⟨.other, 1, 8, [.nilFunc]⟩,
 some ⟨.other, 1, 8, [.nilFunc]⟩,
 some ⟨.other, 1, 8, [.nilFunc]⟩,
 some ⟨.other, 1, 8, [.nilFunc]⟩,
 some ⟨.other, 1, 8, [.nilFunc]⟩,
 none,
 some ⟨.other, 1, 8, [.nilFunc]⟩,
 some ⟨.other, 1, 8, [.nilFunc]⟩,
 some ⟨.other, 1, 8, [.nilFunc]⟩,
 some ⟨.other, 1, 8, [.nilFunc]⟩,
 some ⟨.other, 1, 8, [.nilFunc]⟩,
 some ⟨.other, 1, 8, [.nilFunc]⟩,
 none,
 some ⟨.array 2 46, 2, 48, [.slice none 0 0, .slice none 0 0]⟩,
 some ⟨.other, 1, 8, [.nilFunc]⟩,
 some ⟨.other, 1, 8, [.nilFunc]⟩,
 some ⟨.slice 3, 1, 24, [.slice none 0 0]⟩,
 some ⟨.other, 1, 8, [.nilFunc]⟩,
 some ⟨.other, 1, 8, [.nilFunc]⟩,
 some ⟨.other, 1, 8, [.nilFunc]⟩,
 some ⟨.other, 1, 8, [.nilFunc]⟩,
 some ⟨.other, 1, 8, [.nilFunc]⟩,
 some ⟨.int .u64, 1, 8, [.int .u64 0]⟩,
 some ⟨.other, 1, 8, [.nilFunc]⟩,
 some ⟨.other, 1, 8, [.nilFunc]⟩,
 some ⟨.other, 1, 8, [.nilFunc]⟩,
 some ⟨.array 24 5, 24, 24, [.int .u8 0, .int .u8 0, .int .u8 0, .int .u8 0, .int .u8 0, .int .u8 0, .int .u8 0, .int .u8 0, .int .u8 0, .int .u8 0, .int .u8 0, .int .u8 0, .int .u8 0, .int .u8 0, .int .u8 0, .int .u8 0, .int .u8 0, .int .u8 0, .int .u8 0, .int .u8 0, .int .u8 0, .int .u8 0, .int .u8 0, .int .u8 0]⟩,
 some ⟨.other, 1, 8, [.nilFunc]⟩,
 some ⟨.other, 1, 8, [.nilFunc]⟩,
 none,
 some ⟨.other, 1, 8, [.nilFunc]⟩,
 some ⟨.other, 1, 8, [.nilFunc]⟩,
 some ⟨.other, 1, 8, [.nilFunc]⟩,
 some ⟨.other, 1, 8, [.nilFunc]⟩,
 some ⟨.other, 1, 8, [.nilFunc]⟩,
 some ⟨.other, 1, 8, [.nilFunc]⟩,
 some ⟨.other, 1, 8, [.nilFunc]⟩,
 some ⟨.other, 1, 8, [.nilFunc]⟩,
 some ⟨.other, 1, 8, [.nilFunc]⟩,
 some ⟨.other, 1, 8, [.nilFunc]⟩,
 some ⟨.other, 1, 8, [.nilFunc]⟩,
 some ⟨.other, 1, 8, [.nilFunc]⟩,
 some ⟨.other, 1, 8, [.nilFunc]⟩,
 some ⟨.array 20 221, 20, 160, [.int .u64 0, .int .u64 0, .int .u64 0, .int .u64 0, .int .u64 0, .int .u64 0, .int .u64 0, .int .u64 0, .int .u64 0, .int .u64 0, .int .u64 0, .int .u64 0, .int .u64 0, .int .u64 0, .int .u64 0, .int .u64 0, .int .u64 0, .int .u64 0, .int .u64 0, .int .u64 0]⟩,
 some ⟨.int .u32, 1, 4, [.int .u32 0]⟩,
 some ⟨.array 65 5, 65, 65, [.int .u8 0, .int .u8 0, .int .u8 0, .int .u8 0, .int .u8 0, .int .u8 0, .int .u8 0, .int .u8 0, .int .u8 0, .int .u8 0, .int .u8 0, .int .u8 0, .int .u8 0, .int .u8 0, .int .u8 0, .int .u8 0, .int .u8 0, .int .u8 0, .int .u8 0, .int .u8 0, .int .u8 0, .int .u8 0, .int .u8 0, .int .u8 0, .int .u8 0, .int .u8 0, .int .u8 0, .int .u8 0, .int .u8 0, .int .u8 0, .int .u8 0, .int .u8 0, .int .u8 0, .int .u8 0, .int .u8 0, .int .u8 0, .int .u8 0, .int .u8 0, .int .u8 0, .int .u8 0, .int .u8 0, .int .u8 0, .int .u8 0, .int .u8 0, .int .u8 0, .int .u8 0, .int .u8 0, .int .u8 0, .int .u8 0, .int .u8 0, .int .u8 0, .int .u8 0, .int .u8 0, .int .u8 0, .int .u8 0, .int .u8 0, .int .u8 0, .int .u8 0, .int .u8 0, .int .u8 0, .int .u8 0, .int .u8 0, .int .u8 0, .int .u8 0, .int .u8 0]⟩,
 some ⟨.other, 1, 8, [.nilFunc]⟩,
 some ⟨.int .u64, 1, 8, [.int .u64 0]⟩,
 some ⟨.other, 1, 8, [.nilFunc]⟩,
 some ⟨.other, 1, 8, [.nilFunc]⟩,
 none,
 some ⟨.other, 1, 8, [.nilFunc]⟩,
 some ⟨.other, 1, 8, [.nilFunc]⟩,
 some ⟨.other, 1, 8, [.nilFunc]⟩,
 some ⟨.other, 1, 8, [.nilFunc]⟩,
 some ⟨.other, 1, 8, [.nilFunc]⟩,
 some ⟨.other, 1, 8, [.nilFunc]⟩,
 some ⟨.ptr 258, 1, 8, [.pointer none]⟩,
 some ⟨.struct [(110, 0), (3, 1), (29, 2)], 3, 40, [.slice none 0 0, .int .i64 0, .int .i64 0]⟩,
 some ⟨.struct [(110, 0), (3, 1), (29, 2)], 3, 40, [.slice none 0 0, .int .i64 0, .int .i64 0]⟩,
 some ⟨.other, 1, 8, [.nilFunc]⟩,
 some ⟨.other, 1, 8, [.nilFunc]⟩,
 some ⟨.other, 1, 8, [.nilFunc]⟩,
 some ⟨.other, 1, 8, [.nilFunc]⟩,
 some ⟨.slice 94, 1, 24, [.slice none 0 0]⟩,
 some ⟨.slice 215, 1, 24, [.slice none 0 0]⟩,
 some ⟨.array 32 5, 32, 32, [.int .u8 0, .int .u8 0, .int .u8 0, .int .u8 0, .int .u8 0, .int .u8 0, .int .u8 0, .int .u8 0, .int .u8 0, .int .u8 0, .int .u8 0, .int .u8 0, .int .u8 0, .int .u8 0, .int .u8 0, .int .u8 0, .int .u8 0, .int .u8 0, .int .u8 0, .int .u8 0, .int .u8 0, .int .u8 0, .int .u8 0, .int .u8 0, .int .u8 0, .int .u8 0, .int .u8 0, .int .u8 0, .int .u8 0, .int .u8 0, .int .u8 0, .int .u8 0]⟩,
 some ⟨.array 64 5, 64, 64, [.int .u8 0, .int .u8 0, .int .u8 0, .int .u8 0, .int .u8 0, .int .u8 0, .int .u8 0, .int .u8 0, .int .u8 0, .int .u8 0, .int .u8 0, .int .u8 0, .int .u8 0, .int .u8 0, .int .u8 0, .int .u8 0, .int .u8 0, .int .u8 0, .int .u8 0, .int .u8 0, .int .u8 0, .int .u8 0, .int .u8 0, .int .u8 0, .int .u8 0, .int .u8 0, .int .u8 0, .int .u8 0, .int .u8 0, .int .u8 0, .int .u8 0, .int .u8 0, .int .u8 0, .int .u8 0, .int .u8 0, .int .u8 0, .int .u8 0, .int .u8 0, .int .u8 0, .int .u8 0, .int .u8 0, .int .u8 0, .int .u8 0, .int .u8 0, .int .u8 0, .int .u8 0, .int .u8 0, .int .u8 0, .int .u8 0, .int .u8 0, .int .u8 0, .int .u8 0, .int .u8 0, .int .u8 0, .int .u8 0, .int .u8 0, .int .u8 0, .int .u8 0, .int .u8 0, .int .u8 0, .int .u8 0, .int .u8 0, .int .u8 0, .int .u8 0]⟩,
 some ⟨.other, 1, 8, [.nilFunc]⟩,
 some ⟨.other, 1, 8, [.nilFunc]⟩,
 some ⟨.other, 1, 8, [.nilFunc]⟩,
 some ⟨.other, 1, 8, [.nilFunc]⟩,
 some ⟨.other, 1, 8, [.nilFunc]⟩,
 some ⟨.other, 1, 8, [.nilFunc]⟩,
 some ⟨.struct [(17, 0), (17, 1), (17, 2), (9, 3)], 4, 40, [.pointer none, .pointer none, .pointer none, .string ByteArray.empty]⟩,
 some ⟨.struct [(17, 0), (17, 1), (17, 2), (9, 3)], 4, 40, [.pointer none, .pointer none, .pointer none, .string ByteArray.empty]⟩,
 some ⟨.array 0 16, 0, 0, []⟩,
 some ⟨.struct [(275, 0)], 0, 0, []⟩,
 some ⟨.struct [(275, 0)], 0, 0, []⟩,
 some ⟨.int .u8, 1, 1, [.int .u8 0]⟩,
 some ⟨.int .u8, 1, 1, [.int .u8 0]⟩,
 some ⟨.other, 1, 8, [.nilFunc]⟩,
 some ⟨.int .i32, 1, 4, [.int .i32 0]⟩,
 some ⟨.int .i32, 1, 4, [.int .i32 0]⟩,
 some ⟨.struct [(12, 0), (12, 1), (243, 2), (278, 3), (5, 4), (5, 5), (279, 6), (280, 7), (125, 8), (281, 9), (282, 10)], 11, 48, [.int .u64 0, .int .u64 0, .int .u32 0, .int .u8 0, .int .u8 0, .int .u8 0, .int .u8 0, .nilFunc, .pointer none, .int .i32 0, .int .i32 0]⟩,
 some ⟨.struct [(12, 0), (12, 1), (243, 2), (278, 3), (5, 4), (5, 5), (279, 6), (280, 7), (125, 8), (281, 9), (282, 10)], 11, 48, [.int .u64 0, .int .u64 0, .int .u32 0, .int .u8 0, .int .u8 0, .int .u8 0, .int .u8 0, .nilFunc, .pointer none, .int .i32 0, .int .i32 0]⟩]
theorem htab : TabOK Tryz.prog tab := tab_ok (P := Tryz.prog) (by kernel_rfl)
theorem eqt85 : EqT Tryz.prog 85 := ⟨by kernel_rfl, by kernel_rfl, by kernel_rfl⟩
theorem ti3 : ti tab 3 = some ⟨.int .i64, 1, 8, [.int .i64 0]⟩ := rfl
theorem ti4 : ti tab 4 = some ⟨.bool, 1, 1, [.bool false]⟩ := rfl
theorem ti5 : ti tab 5 = some ⟨.int .u8, 1, 1, [.int .u8 0]⟩ := rfl
theorem ti9 : ti tab 9 = some ⟨.str, 1, 16, [.string ByteArray.empty]⟩ := rfl
theorem ti25 : ti tab 25 = some ⟨.slice 67, 1, 24, [.slice none 0 0]⟩ := rfl
theorem ti26 : ti tab 26 = some ⟨.slice 49, 1, 24, [.slice none 0 0]⟩ := rfl
theorem ti28 : ti tab 28 = some ⟨.struct [(25, 0), (26, 1)], 2, 48, [.slice none 0 0, .slice none 0 0]⟩ := rfl
theorem ti32 : ti tab 32 = some ⟨.slice 5, 1, 24, [.slice none 0 0]⟩ := rfl
theorem ti34 : ti tab 34 = some ⟨.struct [(3, 0), (32, 1), (9, 2)], 3, 48, [.int .i64 0, .slice none 0 0, .string ByteArray.empty]⟩ := rfl
theorem ti46 : ti tab 46 = some ⟨.slice 85, 1, 24, [.slice none 0 0]⟩ := rfl
theorem ti47 : ti tab 47 = some ⟨.slice 121, 1, 24, [.slice none 0 0]⟩ := rfl
theorem ti49 : ti tab 49 = some ⟨.struct [(9, 0), (46, 1), (46, 2), (47, 3), (3, 4)], 5, 96, [.string ByteArray.empty, .slice none 0 0, .slice none 0 0, .slice none 0 0, .int .i64 0]⟩ := rfl
theorem ti67 : ti tab 67 = some ⟨.struct [(9, 0), (4, 1), (3, 2), (3, 3)], 4, 40, [.string ByteArray.empty, .bool false, .int .i64 0, .int .i64 0]⟩ := rfl
theorem ti85 : ti tab 85 = some ⟨.struct [(9, 0), (4, 1)], 2, 24, [.string ByteArray.empty, .bool false]⟩ := rfl
theorem ti119 : ti tab 119 = some ⟨.slice 166, 1, 24, [.slice none 0 0]⟩ := rfl
theorem ti121 : ti tab 121 = some ⟨.struct [(3, 0), (9, 1), (9, 2), (119, 3), (47, 4), (47, 5), (3, 6)], 7, 120, [.int .i64 0, .string ByteArray.empty, .string ByteArray.empty, .slice none 0 0, .slice none 0 0, .slice none 0 0, .int .i64 0]⟩ := rfl
theorem ti166 : ti tab 166 = some ⟨.struct [(3, 0), (3, 1), (9, 2), (119, 3), (3, 4)], 5, 64, [.int .i64 0, .int .i64 0, .string ByteArray.empty, .slice none 0 0, .int .i64 0]⟩ := rfl
end Go.Proofs.YtipfljkjjddapaaGreatDoor.Ab
namespace Go.Proofs.YtipfljkjjddapaaGreatDoor.Ab
open Go
set_option linter.all false
section
variable {P : Program} {C : Ctx} {N : Nat} {ops rest : List Oper} {o : Oper} {t : List (Nat × D)} {h : List (Nat × Blk)} {k : List (Nat × Value)} {Q : Exit → S → Prop}
theorem Kd {id : Nat} {ops : List Oper} {y : Code} {s : S} (g : opsD P C N ops ops s (thenD (fun s' => wpD P C N y s' Q) Q)) : wpD P C N (.seq (.region id ops.toArray false) y) s Q := Kg (Kx g)
theorem Kb {next : S → Prop} {s : S} (g : next s) : opsD P C N ops [] s (thenD next Q) := Ky (Ka g)
theorem KK {id : Nat} {ops2 : List Oper} {y : Code} {s : S} {Q' : Exit → S → Prop} (g : opsD P C N ops2 ops2 s (thenD (fun s' => wpD P C N y s' Q) Q)) : opsD P C N ops [] s (thenD (fun s' => wpD P C N (.seq (.region id ops2.toArray false) y) s' Q) Q') := Kb (Kd g)
theorem pu {i : Nat} {d : D} (g : opsD Tryz.prog C N ops rest ⟨(i, d) :: t, h, k⟩ Q) (hw : wantD ops t o = some true := by rfl) (hd : o.dst = some i := by rfl) (hi : Nat.blt i N = true := by rfl) (e : evP tab t o.op = some d := by rfl) : opsD Tryz.prog C N ops (o :: rest) ⟨t, h, k⟩ Q := KcM htab hw hd hi e g
theorem p_st0 {hr : List (Nat × Blk)} {b off : Nat} {T T' : TypeId} {x y : Operand} {ds ds' : List D} {ti0 : TI} {d : D} (ho : o.op = .store T x y) (hw : wantD ops t o = some true) (hd : o.dst = none) (hx : opD t x = some (.ptr b off)) (hT : ti tab T = some ti0) (hy : opD t y = some d) (hs : stor d = true) (hsz : Nat.beq (K4 d).length ti0.size = true) (hle : Nat.ble (off + ti0.size) ds.length = true) (e : lay ds off (K4 d) = ds') (g : opsD Tryz.prog C N ops rest ⟨t, (b, .cells ds' T') :: hr, k⟩ Q) : opsD Tryz.prog C N ops (o :: rest) ⟨t, (b, .cells ds T') :: hr, k⟩ Q := KjU 0 htab ho hw hd hx rfl hT hy hs hsz hle e rfl g
theorem WkS.bl0 {hr : List (Nat × Blk)} {b : Nat} {ds ds' : List D} {T : TypeId} (hw : WkR ds ds') : WkS C ⟨t, (b, .cells ds T) :: hr, k⟩ ⟨t, (b, .cells ds' T) :: hr, k⟩ := WkS.blk 0 rfl hw rfl
theorem p_st1 {a0 : Nat × Blk} {hr : List (Nat × Blk)} {b off : Nat} {T T' : TypeId} {x y : Operand} {ds ds' : List D} {ti0 : TI} {d : D} (ho : o.op = .store T x y) (hw : wantD ops t o = some true) (hd : o.dst = none) (hx : opD t x = some (.ptr b off)) (hT : ti tab T = some ti0) (hy : opD t y = some d) (hs : stor d = true) (hsz : Nat.beq (K4 d).length ti0.size = true) (hle : Nat.ble (off + ti0.size) ds.length = true) (e : lay ds off (K4 d) = ds') (g : opsD Tryz.prog C N ops rest ⟨t, a0 :: (b, .cells ds' T') :: hr, k⟩ Q) : opsD Tryz.prog C N ops (o :: rest) ⟨t, a0 :: (b, .cells ds T') :: hr, k⟩ Q := KjU 1 htab ho hw hd hx rfl hT hy hs hsz hle e rfl g
theorem WkS.bl1 {a0 : Nat × Blk} {hr : List (Nat × Blk)} {b : Nat} {ds ds' : List D} {T : TypeId} (hw : WkR ds ds') : WkS C ⟨t, a0 :: (b, .cells ds T) :: hr, k⟩ ⟨t, a0 :: (b, .cells ds' T) :: hr, k⟩ := WkS.blk 1 rfl hw rfl
theorem p_st2 {a0 a1 : Nat × Blk} {hr : List (Nat × Blk)} {b off : Nat} {T T' : TypeId} {x y : Operand} {ds ds' : List D} {ti0 : TI} {d : D} (ho : o.op = .store T x y) (hw : wantD ops t o = some true) (hd : o.dst = none) (hx : opD t x = some (.ptr b off)) (hT : ti tab T = some ti0) (hy : opD t y = some d) (hs : stor d = true) (hsz : Nat.beq (K4 d).length ti0.size = true) (hle : Nat.ble (off + ti0.size) ds.length = true) (e : lay ds off (K4 d) = ds') (g : opsD Tryz.prog C N ops rest ⟨t, a0 :: a1 :: (b, .cells ds' T') :: hr, k⟩ Q) : opsD Tryz.prog C N ops (o :: rest) ⟨t, a0 :: a1 :: (b, .cells ds T') :: hr, k⟩ Q := KjU 2 htab ho hw hd hx rfl hT hy hs hsz hle e rfl g
theorem p_st3 {a0 a1 a2 : Nat × Blk} {hr : List (Nat × Blk)} {b off : Nat} {T T' : TypeId} {x y : Operand} {ds ds' : List D} {ti0 : TI} {d : D} (ho : o.op = .store T x y) (hw : wantD ops t o = some true) (hd : o.dst = none) (hx : opD t x = some (.ptr b off)) (hT : ti tab T = some ti0) (hy : opD t y = some d) (hs : stor d = true) (hsz : Nat.beq (K4 d).length ti0.size = true) (hle : Nat.ble (off + ti0.size) ds.length = true) (e : lay ds off (K4 d) = ds') (g : opsD Tryz.prog C N ops rest ⟨t, a0 :: a1 :: a2 :: (b, .cells ds' T') :: hr, k⟩ Q) : opsD Tryz.prog C N ops (o :: rest) ⟨t, a0 :: a1 :: a2 :: (b, .cells ds T') :: hr, k⟩ Q := KjU 3 htab ho hw hd hx rfl hT hy hs hsz hle e rfl g
theorem WkS.bl3 {a0 a1 a2 : Nat × Blk} {hr : List (Nat × Blk)} {b : Nat} {ds ds' : List D} {T : TypeId} (hw : WkR ds ds') : WkS C ⟨t, a0 :: a1 :: a2 :: (b, .cells ds T) :: hr, k⟩ ⟨t, a0 :: a1 :: a2 :: (b, .cells ds' T) :: hr, k⟩ := WkS.blk 3 rfl hw rfl
end
section
variable {P : Program} {C : Ctx} {N : Nat} {l : List Oper} {m : Nat} {De : Nat → D} {al : AL} {pre : List (List Nat)} {ev : List Nat} {h : List (Nat × Blk)} {k : List (Nat × Value)} {Q : Exit → S → Prop} {bs : Nat → Nat} {i : Nat} {o : Oper} {rest : List Oper} {te : TE}
theorem zqp {j : Nat} {x : Value} {p : List Nat} {t : List (Nat × D)} (g : Zw Tryz.prog C N l m De al pre ev h k Q bs (i + 1) rest ((j, .v x, none) :: te)) (hp : pre.getD i [] = p := by rfl) (ht : vis p te = t := by rfl) (hx : evP tab t o.op = some (.v x) := by rfl) (hw : wantD l (vis [] te) o = some true := by rfl) (hd : o.dst = some j := by rfl) (hi : Nat.blt j N = true := by rfl) (hne : ev.contains i = false := by rfl) (hone : one x = true := by rfl) (hpe : p.all ev.contains = true := by rfl) : Zw Tryz.prog C N l m De al pre ev h k Q bs i (o :: rest) te :=
 z_q hp ht (Kay htab hx) hw hd hi hne hone hpe g
theorem zep {j : Nat} {p : List Nat} {t : List (Nat × D)} {d : D} (g : Zw Tryz.prog C N l m De al pre ev h k Q bs (i + 1) rest ((j, d, some i) :: te)) (hp : pre.getD i [] = p := by rfl) (ht : vis p te = t := by rfl) (hx : evP tab t o.op = some d := by rfl) (hw : wantD l (vis [] te) o = some true := by rfl) (hd : o.dst = some j := by rfl) (hi : Nat.blt j N = true := by rfl) (he : ev.contains i = true := by rfl) (hna : isAl al i = false := by rfl) (hDe : De i = d := by rfl) : Zw Tryz.prog C N l m De al pre ev h k Q bs i (o :: rest) te :=
 z_e hp ht (Kay htab hx) hw hd hi he hna hDe g
end
def pickE {α : Type} : List Nat → List α → List α
  | [], _ => []
  | j :: js, l => match l[j]? with
    | some x => x :: pickE js (l.eraseIdx j)
    | none => []
def restE {α : Type} : List Nat → List α → List α
  | [], l => l
  | j :: js, l => match l[j]? with
    | some _ => restE js (l.eraseIdx j)
    | none => l
theorem Ki3 {α : Type} : ∀ (js : List Nat) (l : List α), l.Perm (pickE js l ++ restE js l)
  | [], l => List.Perm.refl _
  | j :: js, l => by
    unfold pickE restE
    cases h : l[j]? with
    | none => exact List.Perm.refl _
    | some x => exact (Kah h).trans ((Ki3 js (l.eraseIdx j)).cons x)
section
variable {P : Program} {C : Ctx} {N : Nat} {ops rest : List Oper} {o : Oper} {t : List (Nat × D)} {h : List (Nat × Blk)} {k : List (Nat × Value)} {Q : Exit → S → Prop}
theorem rP {rs : List ResultVar} {R : D → List (Nat × Blk) → List (Nat × Value) → Prop} {x : Exit} {t' : List (Nat × D)} {ds : List D} (js ks : List Nat) (n : Nat) (e : ∀ i d, look t' i = some d → ∃ d0, look t i = some d0 ∧ Wk d0 d) (hr : resL tab ⟨t', pickE js h, pickE ks k⟩ rs ds) (g : R (wrapD ds) ((pickE js h).take n) (pickE ks k)) (hx : x = .ret ∨ x = .normal := by first | exact .inl rfl | exact .inr rfl) : retX C tab rs R x ⟨t, h, k⟩ :=
 retX.of (s' := ⟨t', pickE js h, pickE ks k⟩) (WkS.perm e (Ki3 js h) (Ki3 ks k)) (Kgc hx hr (List.take_sublist n _) (List.Sublist.refl _) g)
theorem wC {t t' : List (Nat × D)} {j : Nat} {d0 : D} (g : ∀ i d, look t' i = some d → ∃ d1, look t i = some d1 ∧ Wk d1 d) (h0 : look t j = some d0 := by rfl) : ∀ i d, look ((j, d0) :: t') i = some d → ∃ d1, look t i = some d1 ∧ Wk d1 d := WkS.cons h0 (Wk.refl _) g
theorem wN {t : List (Nat × D)} : ∀ i d, look [] i = some d → ∃ d0, look t i = some d0 ∧ Wk d0 d := WkS.nil
theorem lN {s : S} : resL tab s [] [] := rfl
theorem lT {s : S} {i : Nat} {rs : List ResultVar} {d : D} {ds : List D} (h2 : resL tab s rs ds) (h1 : look s.t i = some d := by rfl) : resL tab s (.tmp i :: rs) (d :: ds) := KdU (KdY h1) h2
theorem lC {s : S} {a b off : Nat} {T T' : TypeId} {ds : List D} {i : TI} {d : D} {rs : List ResultVar} {ds' : List D} (j : Nat) (hr : resL tab s rs ds') (h1 : look s.t a = some (.ptr b off) := by rfl) (h2 : s.h[j]? = some (b, Blk.cells ds T') := by rfl) (h3 : ti tab T = some i := by rfl) (h4 : partD i ds off = some d := by rfl) : resL tab s (.cell a T :: rs) (d :: ds') := KdU (Kmi j h1 h2 h3 h4) hr
theorem rC {d : D} {ds ds' : List D} (g : WkR ds ds') : WkR (d :: ds) (d :: ds') := WkR.cons (WkC.refl _) rfl g
theorem rO {ds ds' : List D} {kk : Nat} {xs : List D} {c : Cap} (g : WkR ds ds') : WkR (.lst kk xs c :: ds) (.lst kk xs .no :: ds') := WkR.cons WkC.no rfl g
theorem Pf {α : Type} {l : List α} : l.Perm l := List.Perm.refl l
theorem Wl {ds : List D} : WkL ds ds := WkL.refl ds
theorem pL {i b off : Nat} {T T' : TypeId} {x : Operand} {ds : List D} {ti0 : TI} {d : D} (j : Nat) (g : opsD Tryz.prog C N ops rest ⟨(i, d) :: t, h, k⟩ Q) (ho : o.op = .load T x := by rfl) (hw : wantD ops t o = some true := by rfl) (hd : o.dst = some i := by rfl) (hi : Nat.blt i N = true := by rfl) (hx : opD t x = some (.ptr b off) := by rfl) (hb : h[j]? = some (b, .cells ds T') := by rfl) (hT : ti tab T = some ti0 := by rfl) (e : partD ti0 ds off = some d := by rfl) : opsD Tryz.prog C N ops (o :: rest) ⟨t, h, k⟩ Q := Kai j htab ho hw hd hi hx hb hT e g
theorem pG {f : FuncId} {args : List Operand} {ts : Array TypeId} {i : Nat} {ds ds' : List D} {h1 h2 : List (Nat × Blk)} {k1 k2 : List (Nat × Value)} {R : D → List (Nat × Blk) → List (Nat × Value) → Prop} (hc : CallsD Tryz.prog f ds' h1 k1 R) (hwk : WkL ds ds') (hh : h.Perm (h1 ++ h2)) (hk : k.Perm (k1 ++ k2)) (g : ∀ d h' k', R d h' k' → opsD Tryz.prog C N ops rest ⟨(i, d) :: t, h' ++ h2, k' ++ k2⟩ Q) (ho : o.op = .call ⟨.value (.func f), args.toArray, ts⟩ := by rfl) (hw : wantD ops t o = some true := by rfl) (hd : o.dst = some i := by rfl) (hi : Nat.blt i N = true := by rfl) (ha : Kbz args (opD t) = some ds := by rfl) : opsD Tryz.prog C N ops (o :: rest) ⟨t, h, k⟩ Q := Kgd hc ho hw hd hi ha hwk hh hk g
theorem pK {i : Nat} (g : opsD Tryz.prog C N ops rest ⟨(i, .v (.tuple #[])) :: t, h, k⟩ Q) (hw : wantD ops t o = some false := by rfl) (hd : o.dst = some i := by rfl) (hi : Nat.blt i N = true := by rfl) : opsD Tryz.prog C N ops (o :: rest) ⟨t, h, k⟩ Q := p_skip hw hd hi g
theorem pS0 {hr : List (Nat × Blk)} {b off : Nat} {T T' : TypeId} {x y : Operand} {ds ds' : List D} {ti0 : TI} {d : D} (g : opsD Tryz.prog C N ops rest ⟨t, (b, .cells ds' T') :: hr, k⟩ Q) (ho : o.op = .store T x y := by rfl) (hw : wantD ops t o = some true := by rfl) (hd : o.dst = none := by rfl) (hx : opD t x = some (.ptr b off) := by rfl) (hT : ti tab T = some ti0 := by rfl) (hy : opD t y = some d := by rfl) (hs : stor d = true := by rfl) (hsz : Nat.beq (K4 d).length ti0.size = true := by rfl) (hle : Nat.ble (off + ti0.size) ds.length = true := by rfl) (e : lay ds off (K4 d) = ds' := by rfl) : opsD Tryz.prog C N ops (o :: rest) ⟨t, (b, .cells ds T') :: hr, k⟩ Q := p_st0 ho hw hd hx hT hy hs hsz hle e g
theorem pS1 {a0 : Nat × Blk} {hr : List (Nat × Blk)} {b off : Nat} {T T' : TypeId} {x y : Operand} {ds ds' : List D} {ti0 : TI} {d : D} (g : opsD Tryz.prog C N ops rest ⟨t, a0 :: (b, .cells ds' T') :: hr, k⟩ Q) (ho : o.op = .store T x y := by rfl) (hw : wantD ops t o = some true := by rfl) (hd : o.dst = none := by rfl) (hx : opD t x = some (.ptr b off) := by rfl) (hT : ti tab T = some ti0 := by rfl) (hy : opD t y = some d := by rfl) (hs : stor d = true := by rfl) (hsz : Nat.beq (K4 d).length ti0.size = true := by rfl) (hle : Nat.ble (off + ti0.size) ds.length = true := by rfl) (e : lay ds off (K4 d) = ds' := by rfl) : opsD Tryz.prog C N ops (o :: rest) ⟨t, a0 :: (b, .cells ds T') :: hr, k⟩ Q := p_st1 ho hw hd hx hT hy hs hsz hle e g
theorem pS2 {a0 a1 : Nat × Blk} {hr : List (Nat × Blk)} {b off : Nat} {T T' : TypeId} {x y : Operand} {ds ds' : List D} {ti0 : TI} {d : D} (g : opsD Tryz.prog C N ops rest ⟨t, a0 :: a1 :: (b, .cells ds' T') :: hr, k⟩ Q) (ho : o.op = .store T x y := by rfl) (hw : wantD ops t o = some true := by rfl) (hd : o.dst = none := by rfl) (hx : opD t x = some (.ptr b off) := by rfl) (hT : ti tab T = some ti0 := by rfl) (hy : opD t y = some d := by rfl) (hs : stor d = true := by rfl) (hsz : Nat.beq (K4 d).length ti0.size = true := by rfl) (hle : Nat.ble (off + ti0.size) ds.length = true := by rfl) (e : lay ds off (K4 d) = ds' := by rfl) : opsD Tryz.prog C N ops (o :: rest) ⟨t, a0 :: a1 :: (b, .cells ds T') :: hr, k⟩ Q := p_st2 ho hw hd hx hT hy hs hsz hle e g
theorem pS3 {a0 a1 a2 : Nat × Blk} {hr : List (Nat × Blk)} {b off : Nat} {T T' : TypeId} {x y : Operand} {ds ds' : List D} {ti0 : TI} {d : D} (g : opsD Tryz.prog C N ops rest ⟨t, a0 :: a1 :: a2 :: (b, .cells ds' T') :: hr, k⟩ Q) (ho : o.op = .store T x y := by rfl) (hw : wantD ops t o = some true := by rfl) (hd : o.dst = none := by rfl) (hx : opD t x = some (.ptr b off) := by rfl) (hT : ti tab T = some ti0 := by rfl) (hy : opD t y = some d := by rfl) (hs : stor d = true := by rfl) (hsz : Nat.beq (K4 d).length ti0.size = true := by rfl) (hle : Nat.ble (off + ti0.size) ds.length = true := by rfl) (e : lay ds off (K4 d) = ds' := by rfl) : opsD Tryz.prog C N ops (o :: rest) ⟨t, a0 :: a1 :: a2 :: (b, .cells ds T') :: hr, k⟩ Q := p_st3 ho hw hd hx hT hy hs hsz hle e g
end
section
variable {P : Program} {C : Ctx} {N : Nat} {l : List Oper} {m : Nat} {De : Nat → D} {al : AL} {pre : List (List Nat)} {ev : List Nat} {h : List (Nat × Blk)} {k : List (Nat × Value)} {Q : Exit → S → Prop} {bs : Nat → Nat} {i : Nat} {o : Oper} {rest : List Oper} {te : TE}
theorem zK {j : Nat} (g : Zw Tryz.prog C N l m De al pre ev h k Q bs (i + 1) rest ((j, .v (.tuple #[]), none) :: te)) (hw : wantD l (vis [] te) o = some false := by rfl) (hd : o.dst = some j := by rfl) (hi : Nat.blt j N = true := by rfl) (hne : ev.contains i = false := by rfl) : Zw Tryz.prog C N l m De al pre ev h k Q bs i (o :: rest) te := z_skip hw hd hi hne g
end
end Go.Proofs.YtipfljkjjddapaaGreatDoor.Ab
namespace Go.Proofs.YtipfljkjjddapaaGreatDoor.Ab
open Go
set_option linter.all false
def Kba (Zc : Int × Int → List PanicEntry) {ρ : Type} (P : Program) (f : FuncId) (ds : List D) (h : List (Nat × Blk)) (k : List (Nat × Value)) (pr : (Int × Int) ⊕ ρ) (R : ρ → D → List (Nat × Blk) → List (Nat × Value) → Prop) : Prop :=
  match pr with
  | .inr r => CallsD P f ds h k (R r)
  | .inl pe => Goes P f ∧ ∀ H w vs, RepsV H ds vs → Ag H w → (∀ p ∈ h, BlkOK H w p) → (∀ p ∈ k, TokOK H w p) → (KY h k).Nodup →
    Calls P f vs.toArray w fun e w' => e = .panicked (Zc pe) ∧ ∃ H', Core ⟨H, w, KY h k⟩ H' [] [] w'
def retP (Zc : Int × Int → List PanicEntry) {ρ : Type} (C : Ctx) (tab : List (Option TI)) (rs : List ResultVar) (R : ρ → D → List (Nat × Blk) → List (Nat × Value) → Prop) (pr : (Int × Int) ⊕ ρ) (x : Exit) (s : S) : Prop :=
 match pr with
 | .inr r => retX C tab rs (R r) x s
 | .inl pe => x = .panic (Zc pe)
section
variable {Zc : Int × Int → List PanicEntry} {ρ : Type} {P : Program} {C : Ctx} {N : Nat} {tab : List (Option TI)} {ops rest : List Oper} {o : Oper} {t : List (Nat × D)} {h : List (Nat × Blk)} {k : List (Nat × Value)} {Q : Exit → S → Prop}
theorem KbA {R : ρ → D → List (Nat × Blk) → List (Nat × Value) → Prop} {rs : List ResultVar} {r : ρ} {x : Exit} {s : S} (g : retX C tab rs (R r) x s) : retP Zc C tab rs R (.inr r) x s := g
theorem Kao {R : ρ → D → List (Nat × Blk) → List (Nat × Value) → Prop} {rs : List ResultVar} {pe : Int × Int} {s : S} : retP Zc C tab rs R (.inl pe) (.panic (Zc pe)) s := rfl
theorem KT {next : S → Prop} {s : S} {c : List PanicEntry} (g : Q (.panic c) s) : thenD next Q (.panic c) s := g
theorem Kal {s : S} {j : Nat} {c : List PanicEntry} (g : Q (.panic c) s) : Kg3 j Q (.panic c) s := g
theorem Kab {τ ρ' Y : Type} {S1 : τ → Y → S} {s : S} {r : ρ'} {c : List PanicEntry} (g : Q (.panic c) s) : midX C S1 Q (.inr r) (.panic c) s := g
theorem Ke5 {R : ρ → D → List (Nat × Blk) → List (Nat × Value) → Prop} {pr : (Int × Int) ⊕ ρ} (ht : TabOK P tab) {f : FuncId} {fn : Func} {c : Code} {ds : List D} {rs : List ResultVar}
    (hf : P.funcs[f]? = some fn) (hb : fn.body = some c) (hn : (fn.name == "runtime.NumGoroutine") = false) {N : Nat} (hN : fn.ntmps = N) (hl : Nat.ble ds.length N = true) (hrs : fn.results.toList = rs)
    (hw : ∀ C, wpD P C N c ⟨argT 0 ds, h, k⟩ (retP Zc C tab rs R pr)) : Kba Zc P f ds h k pr R := by
  cases pr with
  | inr r => exact K0 ht hf hb hn hN hl hrs hw
  | inl pe =>
    subst hN
    subst hrs
    refine ⟨⟨fn, hf, hn, by simp [hb]⟩, fun H w vs h1 h2 h3 h4 h5 => ?_⟩
    have hlen := KfM h1
    have hle := Nat.le_of_ble_eq_true hl
    refine calls_of_wp hf hb (wp_mono (hw ⟨H, w, KY h k⟩ _ _ ⟨H, ?_, ?_, ?_, rfl⟩) ?_)
    · exact ⟨h2, Hp.le_refl H, fun _ _ x => .inl x, fun _ _ _ => rfl, Nat.le_refl _, h3, h4, h5, fun b hb => .inl hb, Env.refl w⟩
    · intro i d e
      obtain ⟨n, rfl, hn⟩ := KjH ds 0 i d e
      obtain ⟨u, h6, h7⟩ := KhM h1 hn
      refine ⟨u, ?_, h7⟩
      have hlt : n < vs.length := (List.getElem?_eq_some_iff.1 h6).1
      simp only [Nat.zero_add]
      rw [Array.getElem?_append_left (by simpa using hlt)]
      simpa using h6
    · simp; omega
    · rintro e a' w' ⟨s', ⟨H', c', k', hN, hdf⟩, hx⟩
      have hx' : e = .panic (Zc pe) := hx
      subst hx'
      exact ⟨hdf, rfl, H', c'.drop (List.nil_sublist _) (List.nil_sublist _)⟩
theorem KaE {f : FuncId} {args : List Operand} {ts : Array TypeId} {ds ds' : List D} {h1 h2 : List (Nat × Blk)} {k1 k2 : List (Nat × Value)} {pe : Int × Int} {R : ρ → D → List (Nat × Blk) → List (Nat × Value) → Prop}
  (hc : Kba Zc P f ds' h1 k1 (.inl pe) R) (ho : o.op = .call ⟨.value (.func f), args.toArray, ts⟩) (hw : wantD ops t o = some true) (ha : Kbz args (opD t) = some ds) (hwk : WkL ds ds')
  (hh : h.Perm (h1 ++ h2)) (hk : k.Perm (k1 ++ k2)) (g : Q (.panic (Zc pe)) ⟨[], [], []⟩) : opsD P C N ops (o :: rest) ⟨t, h, k⟩ Q := by
 rintro a w ⟨H, c, kt, hN, hdf⟩
 obtain ⟨hg, hc⟩ := hc
 unfold wpList
 rw [KaF kt hw, if_pos rfl]
 refine .inl ?_
 unfold Oper.wp
 rw [KdV ho hg, Oper.upon_enter]
 have c0 := c.perm hh hk
 have nd := (KbX h1 h2 k1 k2).nodup_iff.1 c0.nd
 rw [List.nodup_append] at nd
 have hv := hwk H _ (KbK kt ha)
 have := hc H w _ hv c.ag (fun p hp => c0.blks p (List.mem_append_left _ hp)) (fun p hp => c0.toks p (List.mem_append_left _ hp)) nd.1
 rw [List.map_toArray]
 refine this.mono ?_
 rintro e w' ⟨rfl, H', hcore⟩
 simp only []
 refine ⟨⟨[], [], []⟩, ⟨H', ?_, fun i d e => by simp [look] at e, hN, hdf⟩, g⟩
 have := Core.call (h1' := []) (k1' := []) c0 hcore
 exact this.drop (List.nil_sublist _) (List.nil_sublist _)
end
end Go.Proofs.YtipfljkjjddapaaGreatDoor.Ab
namespace Go.Proofs.YtipfljkjjddapaaGreatDoor.Ab
open Go
set_option linter.all false
section
variable {P : Program} {C : Ctx} {N : Nat} {ops rest : List Oper} {o : Oper} {t : List (Nat × D)} {h : List (Nat × Blk)} {k : List (Nat × Value)} {Q : Exit → S → Prop} {tab : List (Option TI)}
end
def nilB : D → D → Option Bool
 | .ptr _ _, .v (.pointer none) => some false
 | .v (.pointer none), .ptr _ _ => some false
 | .el _, .v (.pointer none) => some false
 | .v (.pointer none), .el _ => some false
 | .v (.pointer none), .v (.pointer none) => some true
 | _, _ => none
section
variable {P : Program} {C : Ctx} {N : Nat} {ops rest : List Oper} {o : Oper} {t : List (Nat × D)} {h : List (Nat × Blk)} {k : List (Nat × Value)} {Q : Exit → S → Prop} {tab : List (Option TI)}
theorem x_eqP {op : BinOp} {neg : Bool} {xt yt : TypeId} {x y : Operand} {ti0 : TI} {el : Nat} {dx dy : D} {b : Bool} (hT : TabOK P tab) (ho : o.op = .binOp op xt x y yt)
  (hop : isNeq op = some neg) (hx : opD t x = some dx) (hy : opD t y = some dy) (hti : ti tab xt = some ti0) (hs : ti0.d = .ptr el) (e : nilB dx dy = some b) : ∀ H a w, TOK H t a → ∃ v, (execOp a.eval o).run P w = .ok (.value v) w ∧ Rep H (.v (.bool (bif neg then !b else b))) v :=
 fun H a w kt => by
  refine ⟨.bool (bif neg then !b else b), ?_, rep_v rfl⟩
  have hu := K9 kt hx
  have hv := K9 kt hy
  obtain ⟨dd, h3, h4⟩ := Kag (w := w) (ti_ok hT hti)
  have := td_ptr (h4.trans hs); subst this
  have key : ∃ p q : Option Addr, a.eval x = .pointer p ∧ a.eval y = .pointer q ∧ ((p = none ∧ b = q.isNone) ∨ (q = none ∧ b = p.isNone)) := by
   unfold nilB at e
   split at e
   ·obtain ⟨h1, h2⟩ := hu
    have := K1 hv
    simp only [RepC] at h1
    cases hq : a.eval x <;> rw [hq] at h1 h2 <;> simp [D.shape, Value.cells] at h1 h2
    subst h1
    simp only [Option.some.injEq] at e; subst e
    exact ⟨_, _, rfl, this, .inr ⟨rfl, rfl⟩⟩
   ·obtain ⟨h1, h2⟩ := hv
    have := K1 hu
    simp only [RepC] at h1
    cases hq : a.eval y <;> rw [hq] at h1 h2 <;> simp [D.shape, Value.cells] at h1 h2
    subst h1
    simp only [Option.some.injEq] at e; subst e
    exact ⟨_, _, this, rfl, .inl ⟨rfl, rfl⟩⟩
   ·obtain ⟨h1, h2⟩ := hu
    have := K1 hv
    simp only [RepC] at h1
    obtain ⟨_, _, _, h1, _⟩ := h1
    cases hq : a.eval x <;> rw [hq] at h1 h2 <;> simp [D.shape, Value.cells] at h1 h2
    subst h1
    simp only [Option.some.injEq] at e; subst e
    exact ⟨_, _, rfl, this, .inr ⟨rfl, rfl⟩⟩
   ·obtain ⟨h1, h2⟩ := hv
    have := K1 hu
    simp only [RepC] at h1
    obtain ⟨_, _, _, h1, _⟩ := h1
    cases hq : a.eval y <;> rw [hq] at h1 h2 <;> simp [D.shape, Value.cells] at h1 h2
    subst h1
    simp only [Option.some.injEq] at e; subst e
    exact ⟨_, _, this, rfl, .inl ⟨rfl, rfl⟩⟩
   ·have h1 := K1 hu
    have h2 := K1 hv
    simp only [Option.some.injEq] at e; subst e
    exact ⟨_, _, h1, h2, .inl ⟨rfl, rfl⟩⟩
   ·cases e
  obtain ⟨p, q, e1, e2, e3⟩ := key
  have hq : (Op.equal xt (.pointer p) (.pointer q)).run P w = .ok b w := by
   show (Op.equalIn (9999 + 1) xt _ _).run P w = _
   rw [Op.equalIn, Kq h3]
   rcases e3 with ⟨rfl, rfl⟩ | ⟨rfl, rfl⟩
   ·rfl
   ·cases p <;> rfl
  unfold execOp
  rw [ho]
  refine KaM ?_
  rw [e1, e2]
  have hg : (eqGuard op xt x y (.pointer p) (.pointer q)).run P w = .ok () w := by
   cases op <;> simp [eqGuard]
  rw [Kq hg]
  cases op <;> simp [isNeq] at hop <;> subst hop
  ·show (do pure (Value.bool (← Op.equal xt _ _)) : Sem Value).run P w = _
   rw [Kq hq]; rfl
  ·show (do pure (Value.bool (!(← Op.equal xt _ _))) : Sem Value).run P w = _
   rw [Kq hq]; rfl
theorem p_eqP {i : Nat} {op : BinOp} {neg : Bool} {xt yt : TypeId} {x y : Operand} {ti0 : TI} {el : Nat} {dx dy : D} {b : Bool} (hT : TabOK P tab) (ho : o.op = .binOp op xt x y yt) (hw : wantD ops t o = some true) (hd : o.dst = some i) (hi : Nat.blt i N = true)
  (hop : isNeq op = some neg) (hx : opD t x = some dx) (hy : opD t y = some dy) (hti : ti tab xt = some ti0) (hs : ti0.d = .ptr el) (e : nilB dx dy = some b)
  (g : opsD P C N ops rest ⟨(i, .v (.bool (bif neg then !b else b))) :: t, h, k⟩ Q) : opsD P C N ops (o :: rest) ⟨t, h, k⟩ Q :=
 Kdf (s := ⟨t, h, k⟩) hw hd hi (x_eqP hT ho hop hx hy hti hs e) g
end
end Go.Proofs.YtipfljkjjddapaaGreatDoor.Ab
namespace Go.Proofs.YtipfljkjjddapaaGreatDoor.Ab
open Go
set_option linter.all false
def Kg9 (tab : List (Option TI)) (ts : List Nat) : Nat → List (Nat × Nat) → Option Nat
  | off, [] => some off
  | off, (ty, o) :: fs => match ti tab ty with
    | some i => bif Nat.beq o off && ts.contains ty then Kg9 tab ts (off + i.size) fs else none
    | none => none
def typeOK (tab : List (Option TI)) (ts : List Nat) (t : Nat) : Bool :=
  match ti tab t with
  | some i => match i.d with
    | .bool => Nat.beq i.size 1
    | .int _ => Nat.beq i.size 1
    | .str => Nat.beq i.size 1
    | .slice e => ts.contains e && Nat.beq i.size 1 && (match ti tab e with | some ie => Nat.ble 1 ie.size | none => false)
    | .struct fs => match Kg9 tab ts 0 fs with
      | some n => Nat.beq n i.size
      | none => false
    | .array n e => ts.contains e && (match ti tab e with | some ie => Nat.beq i.size (n * ie.size) | none => false)
    | _ => false
  | none => false
def closedT (tab : List (Option TI)) (ts : List Nat) : Bool := ts.all (typeOK tab ts)
def GoodT (tab : List (Option TI)) : Nat → Nat → D → Prop
  | 0, _, _ => False
  | n + 1, t, d => ∃ i, ti tab t = some i ∧ match i.d with
    | .bool => ∃ b, d = .v (.bool b)
    | .int k => ∃ m, d = .v (.int k m) ∧ (Lit.int k m).wf = true
    | .str => ∃ s : ByteArray, d = .v (.string s) ∧ s.size ≤ maxLen
    | .slice e => ∃ ie xs, ti tab e = some ie ∧ d = .lst ie.size xs .no ∧ xs.length ≤ maxLen ∧ ∀ x ∈ xs, GoodT tab n e x
    | .struct fs => ∃ ds : List D, d = .agg (ds.flatMap K4) ∧ ds.length = fs.length ∧ ∀ (j : Nat) (f : Nat × Nat) (d0 : D), fs[j]? = some f → ds[j]? = some d0 → GoodT tab n f.1 d0
    | .array m e => ∃ ds : List D, d = .agg (ds.flatMap K4) ∧ ds.length = m ∧ ∀ x ∈ ds, GoodT tab n e x
    | _ => False
section
variable {H : Type} {enc : TypeId × Value → H} {P : Program} {w : World} {base : Nat} {spare : Nat → Bool} {held : Bool} {tab : List (Option TI)} {ts : List Nat}
theorem KfN (hT : TabOK P tab) {t : TypeId} {i : TI} (h : ti tab t = some i) : P.cellsOf t = i.size := by
 obtain ⟨tf, z, dd, h1, _, _, h2, _⟩ := Kfl (ti_ok hT h)
 simp [Program.cellsOf, h1, h2]
def allOf (w : World) : Hp := fun a => w.cell? a
theorem ag_all (w : World) : Ag (allOf w) w := fun _ _ h => h
end
end Go.Proofs.YtipfljkjjddapaaGreatDoor.Ab
namespace Go.Proofs.YtipfljkjjddapaaGreatDoor.Ab
open Go
set_option linter.all false
section
variable {P : Program} {tab : List (Option TI)} {n t : Nat} {i : TI} {d : D}
theorem Kdv {k : IntKind} (hi : ti tab t = some i) (hd : i.d = .int k) (g : GoodT tab n t d) : ∃ m, d = .v (.int k m) ∧ (Lit.int k m).wf = true := by
  cases n with
  | zero => simp [GoodT] at g
  | succ n =>
    unfold GoodT at g
    obtain ⟨i', h1, h2⟩ := g
    rw [hi] at h1; cases h1
    rw [hd] at h2; exact h2
theorem KlG (hi : ti tab t = some i) (hd : i.d = .bool) (g : GoodT tab n t d) : ∃ b, d = .v (.bool b) := by
  cases n with
  | zero => simp [GoodT] at g
  | succ n =>
    unfold GoodT at g
    obtain ⟨i', h1, h2⟩ := g
    rw [hi] at h1; cases h1
    rw [hd] at h2; exact h2
theorem Kfn (hi : ti tab t = some i) (hd : i.d = .str) (g : GoodT tab n t d) : ∃ s : ByteArray, d = .v (.string s) ∧ s.size ≤ maxLen := by
  cases n with
  | zero => simp [GoodT] at g
  | succ n =>
    unfold GoodT at g
    obtain ⟨i', h1, h2⟩ := g
    rw [hi] at h1; cases h1
    rw [hd] at h2; exact h2
theorem Kcx {e : Nat} {ie : TI} (hi : ti tab t = some i) (hd : i.d = .slice e) (he : ti tab e = some ie) (g : GoodT tab n t d) : ∃ (n' : Nat) (xs : List D), n = n' + 1 ∧ d = .lst ie.size xs .no ∧ xs.length ≤ maxLen ∧ ∀ x ∈ xs, GoodT tab n' e x := by
  cases n with
  | zero => simp [GoodT] at g
  | succ n =>
    unfold GoodT at g
    obtain ⟨i', h1, h2⟩ := g
    rw [hi] at h1; cases h1
    rw [hd] at h2
    obtain ⟨ie', xs, h3, h4, h5, h6⟩ := h2
    rw [he] at h3; cases h3
    exact ⟨n, xs, rfl, h4, h5, h6⟩
theorem Kdw {fs : List (Nat × Nat)} (hi : ti tab t = some i) (hd : i.d = .struct fs) (g : GoodT tab n t d) : ∃ (n' : Nat) (ds : List D), n = n' + 1 ∧ d = .agg (ds.flatMap K4) ∧ ds.length = fs.length ∧ ∀ (j : Nat) (f : Nat × Nat) (d0 : D), fs[j]? = some f → ds[j]? = some d0 → GoodT tab n' f.1 d0 := by
  cases n with
  | zero => simp [GoodT] at g
  | succ n =>
    unfold GoodT at g
    obtain ⟨i', h1, h2⟩ := g
    rw [hi] at h1; cases h1
    rw [hd] at h2
    obtain ⟨ds, h4, h5, h6⟩ := h2
    exact ⟨n, ds, rfl, h4, h5, h6⟩
theorem good_u8 (hi : ti tab t = some i) (hd : i.d = .int .u8) (g : GoodT tab n t d) : ∃ c : UInt8, d = byteD c := by
 obtain ⟨m, rfl, h⟩ := Kdv hi hd g
 simp [Lit.wf, IntKind.min, IntKind.max, IntKind.signed, IntKind.bits] at h
 refine ⟨UInt8.ofNat m.toNat, ?_⟩
 unfold byteD
 have e : ((UInt8.ofNat m.toNat).toNat : Int) = m := by
  rw [UInt8.toNat_ofNat']
  omega
 rw [e]
theorem KcC {α : Type} {f : α → D} {K : α → Prop} {p : D → Prop} (h : ∀ x, p x → ∃ y, x = f y ∧ K y) : ∀ (xs : List D), (∀ x ∈ xs, p x) → ∃ ys : List α, xs = ys.map f ∧ ∀ y ∈ ys, K y
  | [], _ => ⟨[], rfl, by simp⟩
  | x :: xs, hx => by
    obtain ⟨y, rfl, hy⟩ := h x (hx x (by simp))
    obtain ⟨ys, rfl, hys⟩ := KcC h xs fun z hz => hx z (by simp [hz])
    refine ⟨y :: ys, rfl, fun z hz => ?_⟩
    rcases List.mem_cons.1 hz with rfl | hz
    · exact hy
    · exact hys z hz
theorem shape_of {w : World} {r : Reach} {base : Nat} {v : Value} (hT : TabOK P tab) (hv : Value.okWide P w r base t v) (g : GoodT tab n t d) : d.shape v = true := by
  cases n with
  | zero => simp [GoodT] at g
  | succ n =>
    unfold GoodT at g
    obtain ⟨i, hi, g⟩ := g
    obtain ⟨tf, z, dd, h1, h2, h3, _⟩ := Kfl (ti_ok hT hi)
    unfold Value.okWide at hv
    rw [h2] at hv
    split at g
    · rename_i hd
      have := KjR (h3.trans hd); subst this
      obtain ⟨b, rfl⟩ := g
      cases v <;> first | rfl | (simp [Cell.okWide, Cell.ok, h2] at hv)
    · rename_i k hd
      have := Kg2 (h3.trans hd); subst this
      obtain ⟨b, rfl, _⟩ := g
      cases v <;> first | rfl | (simp [Cell.okWide, Cell.ok, h2] at hv)
    · rename_i hd
      have := Kii (h3.trans hd); subst this
      obtain ⟨b, rfl, _⟩ := g
      cases v <;> first | rfl | (simp [Cell.okWide, Cell.ok, h2] at hv)
    · rename_i e hd
      have := Kb2 (h3.trans hd); subst this
      obtain ⟨ie, xs, _, rfl, _⟩ := g
      cases v <;> first | rfl | (simp [Cell.okWide, Cell.ok, h2] at hv)
    · rename_i fs hd
      obtain ⟨gs, rfl, _⟩ := Kfw (h3.trans hd)
      obtain ⟨ds, rfl, _⟩ := g
      simp only at hv
      obtain ⟨cs, rfl, _⟩ := hv
      rfl
    · rename_i m e hd
      have := KiQ (h3.trans hd); subst this
      obtain ⟨ds, rfl, _⟩ := g
      simp only at hv
      obtain ⟨cs, rfl, _⟩ := hv
      rfl
    · exact g.elim
end
end Go.Proofs.YtipfljkjjddapaaGreatDoor.Ab
namespace Go.Proofs.YtipfljkjjddapaaGreatDoor
open Go.ChangeShapes Go.WideShapes Go.ChangeAt Go.RowKit Go.Joins
set_option linter.all false
theorem own : ownKnob Tryz.prog.godebug = none := by kernel_rfl
theorem laidOut' : laidOutB Tryz.prog = true := by kernel_rfl
theorem KlH {H : Type} {enc : TypeId × Value → H} {P : Program} {W : World} (hl : laidOutB P = true) : ∀ {ts : List TypeId} {vs : List Value} {ds : List (DataW H)} {ps : List MemPlace},
    (ts.all fun t => P.readableRec t && decide (t < P.types.size)) = true → DataW.TrodAll enc P W 0 (fun _ => true) true ts vs ds ps → (∀ x ∈ ps, x.block < W.heap.size) → ∀ W', Below W.heap.size W W' →
    ∀ sp : Nat → Bool, (∀ x ∈ ps, sp x.block = true) → DataW.TrodAll enc P W' 0 sp true ts vs ds ps
  | [], vs, ds, ps, _, h, _, W', hb, sp, hsp => by
    obtain ⟨rfl, rfl, rfl⟩ := trodAll_nil h
    exact trodAll_mk0
  | t :: ts, vs, ds, ps, hr, h, hlt, W', hb, sp, hsp => by
    obtain ⟨v, vs', d, ds', p, q, rfl, rfl, rfl, h0, h1⟩ := trodAll_cons h
    simp only [List.all_cons, Bool.and_eq_true, decide_eq_true_eq] at hr
    exact trodAll_cons_mk (WideElems.Trod_stays hl hr.1.1 hr.1.2 h0 (fun x hx => hb.same (hlt x (by simp [hx]))) (fun x hx => hsp x (by simp [hx])))
      (KlH hl hr.2 h1 (fun x hx => hlt x (by simp [hx])) W' hb sp (fun x hx => hsp x (by simp [hx])))
end Go.Proofs.YtipfljkjjddapaaGreatDoor
namespace Go.Proofs.YtipfljkjjddapaaGreatDoor.Ab
open Go
set_option linter.all false
mutual
def bulk {H : Type} : DataW H → Nat
 | .lit (.string bytes) => bytes.length + 1
 | .lit _ => 1
 | .nil => 1
 | .ptr d => bulk d + 1
 | .slice elems spare => bulkAll elems + bulkAll spare + 1
 | .agg parts => bulkAll parts + 1
 | .iface _ d => bulk d + 1
 | .map _ => 1
 | .held _ => 1
def bulkAll {H : Type} : List (DataW H) → Nat
 | [] => 0
 | d :: r => bulk d + bulkAll r
end
def wtv : Value → Nat
 | .string s => s.size + 1
 | _ => 1
mutual
def wt : D → Nat
 | .any => 0
 | .v x => wtv x
 | .agg l => wts l
 | .lst _ xs _ => wts xs + 1
 | .el _ => 0
 | .ptr _ _ => 0
 | .fn _ _ _ => 0
 | .tup _ => 0
def wts : List D → Nat
 | [] => 0
 | d :: l => wt d + wts l
end
theorem Ki4 : ∀ (l m : List D), wts (l ++ m) = wts l + wts m
 | [], m => by simp [wts]
 | d :: l, m => by simp only [List.cons_append, wts, Ki4 l m]; omega
theorem KlI (d : D) : wts (K4 d) = wt d := by
 cases d <;> simp [K4, wts, wt]
section
variable {H : Type} {enc : TypeId × Value → H} {P : Program} {w : World} {base : Nat} {spare : Nat → Bool} {held : Bool} {tab : List (Option TI)} {ts : List Nat}
def RdW (tab : List (Option TI)) (w : World) (n t : Nat) (cs : List Value) (d : D) (m : Nat) : Prop :=
 wt d ≤ m ∧ ∃ i, ti tab t = some i ∧ RepC (allOf w) d cs ∧ Reps (allOf w) (K4 d) cs ∧ cs.length = i.size ∧ (K4 d).length = i.size ∧ GoodT tab n t d
theorem KkW (hT : TabOK P tab) {n : Nat} {cs : List Value} (ih : ∀ t cs x, ts.contains t = true → DataW.trod enc P w base spare held n t cs = some x → ∃ d, RdW tab w n t cs d (bulk x.1)) :
    ∀ (gs : List Field) (ys : List (DataW H × List MemPlace)) (off total : Nat), Kg9 tab ts off (gs.map fun f => (f.type, f.offset)) = some total → total ≤ cs.length → gs.length = ys.length → (∀ (j : Nat) f y, gs[j]? = some f → ys[j]? = some y → DataW.trod enc P w base spare held n f.type ((cs.drop f.offset).take (P.cellsOf f.type)) = some y) →
      off ≤ total ∧ ∃ ds : List D, wts (ds.flatMap K4) ≤ bulkAll (ys.map (·.1)) ∧ ds.length = gs.length ∧ Reps (allOf w) (ds.flatMap K4) ((cs.drop off).take (total - off)) ∧ (ds.flatMap K4).length = total - off ∧ ∀ (j : Nat) (f : Nat × Nat) (d0 : D), (gs.map fun f => (f.type, f.offset))[j]? = some f → ds[j]? = some d0 → GoodT tab n f.1 d0
  | [], ys, off, total, h, _, _, _ => by
    simp [Kg9] at h; subst h
    exact ⟨Nat.le_refl _, [], by simp [wts], rfl, by simp [Reps], by simp, fun j f d0 e => by simp at e⟩
  | g :: gs, [], off, total, h, hl, hlen, hy => by simp at hlen
  | g :: gs, y :: ys, off, total, h, hl, hlen, hy => by
    simp only [List.map_cons, Kg9] at h
    split at h
    · rename_i i hi
      cases hb : (Nat.beq g.offset off && ts.contains g.type) with
      | false => rw [hb] at h; cases h
      | true =>
        rw [hb] at h
        simp only [cond_true] at h
        simp only [Bool.and_eq_true] at hb
        have ho := Nat.eq_of_beq_eq_true hb.1
        have hy0 := hy 0 g y rfl rfl
        obtain ⟨d, hw, i', hi', h1, h2, h3, h4, h5⟩ := ih _ _ y hb.2 hy0
        rw [hi] at hi'; cases hi'
        obtain ⟨hle, ds, ew, e1, e2, e3, e4⟩ := KkW hT ih gs ys (off + i.size) total h hl (by simpa using hlen) fun j f y' hf hy' => hy (j + 1) f y' (by simpa using hf) (by simpa using hy')
        rw [KfN hT hi, ho] at h2
        refine ⟨by omega, d :: ds, by simp only [List.flatMap_cons, Ki4, KlI, List.map_cons, bulkAll]; omega, by simp [e1], ?_, by simp [h4, e3]; omega, ?_⟩
        · simp only [List.flatMap_cons]
          have := Ke1 h2 e2
          have e : (cs.drop off).take i.size ++ (cs.drop (off + i.size)).take (total - (off + i.size)) = (cs.drop off).take (total - off) := by
            rw [show total - off = i.size + (total - (off + i.size)) by omega, List.take_add, List.drop_drop]
          rwa [e] at this
        · intro j f d0 hf hd
          cases j with
          | zero => simp at hf hd; subst hf; subst hd; exact h5
          | succ j => exact e4 j f d0 (by simpa using hf) (by simpa using hd)
    · cases h
theorem KlJ {n e sz b off : Nat} {ie : TI} (hie : ti tab e = some ie) (hsz : ie.size = sz) (he : ts.contains e = true) (ih : ∀ t cs x, ts.contains t = true → DataW.trod enc P w base spare held n t cs = some x → ∃ d, RdW tab w n t cs d (bulk x.1)) :
    ∀ (ys : List (DataW H × List MemPlace)) (i0 : Nat), (∀ (j : Nat) y, ys[j]? = some y → ∃ cs, w.cells? base ((⟨b, off, none⟩ : Addr).add ((i0 + j) * sz)) sz = some cs ∧ DataW.trod enc P w base spare held n e cs = some y) →
      ∃ xs : List D, wts xs ≤ bulkAll (ys.map (·.1)) ∧ xs.length = ys.length ∧ Els (allOf w) sz b (off + i0 * sz) xs ∧ ∀ x ∈ xs, GoodT tab n e x
  | [], i0, _ => ⟨[], by simp [wts], rfl, by simp [Els], by simp⟩
  | y :: ys, i0, h => by
    obtain ⟨cs, h1, h2⟩ := h 0 y rfl
    rw [Nat.add_zero] at h1
    obtain ⟨d, hw, i', hi', g1, g2, g3, g4, g5⟩ := ih e cs y he h2
    rw [hie] at hi'; cases hi'
    obtain ⟨xs, fw, f1, f2, f3⟩ := KlJ hie hsz he ih ys (i0 + 1) fun j y' hj => by
      have := h (j + 1) y' (by simpa using hj)
      rwa [show i0 + (j + 1) = i0 + 1 + j by omega] at this
    refine ⟨d :: xs, by simp only [wts, List.map_cons, bulkAll]; omega, by simp [f1], ?_, ?_⟩
    · simp only [Els]
      refine ⟨⟨cs, by rw [g3, hsz], g1, fun j u hj => ?_, Kez g2⟩, ?_⟩
      · obtain ⟨_, hlen, hc⟩ := World.cells?_some h1
        have hjl : j < sz := by rw [← hlen]; exact (List.getElem?_eq_some_iff.1 hj).1
        have := hc j hjl
        rw [Kcs, Kcs] at this
        show w.cell? _ = _
        rw [this]; exact hj
      · rw [show off + i0 * sz + sz = off + (i0 + 1) * sz by rw [Nat.add_mul]; omega]; exact f2
    · intro x hx
      rcases List.mem_cons.1 hx with rfl | hx
      · exact g5
      · exact f3 x hx
theorem rdw_arr {n e sz : Nat} {ie : TI} {cs : List Value} (hie : ti tab e = some ie) (hsz : ie.size = sz) (he : ts.contains e = true) (ih : ∀ t cs x, ts.contains t = true → DataW.trod enc P w base spare held n t cs = some x → ∃ d, RdW tab w n t cs d (bulk x.1)) :
    ∀ (ys : List (DataW H × List MemPlace)) (i0 : Nat), (∀ (j : Nat) y, ys[j]? = some y → DataW.trod enc P w base spare held n e ((cs.drop ((i0 + j) * sz)).take sz) = some y) →
      ∃ ds : List D, wts (ds.flatMap K4) ≤ bulkAll (ys.map (·.1)) ∧ ds.length = ys.length ∧ Reps (allOf w) (ds.flatMap K4) ((cs.drop (i0 * sz)).take (ys.length * sz)) ∧ (ds.flatMap K4).length = ys.length * sz ∧ ∀ x ∈ ds, GoodT tab n e x
  | [], i0, _ => ⟨[], by simp [wts], rfl, by simp [Reps], by simp, by simp⟩
  | y :: ys, i0, h => by
    have h2 := h 0 y rfl
    rw [Nat.add_zero] at h2
    obtain ⟨d, hw, i', hi', g1, g2, g3, g4, g5⟩ := ih e _ y he h2
    rw [hie] at hi'; cases hi'
    obtain ⟨ds, fw, f1, f2, f3, f4⟩ := rdw_arr hie hsz he ih ys (i0 + 1) fun j y' hj => by
      have := h (j + 1) y' (by simpa using hj)
      rwa [show i0 + (j + 1) = i0 + 1 + j by omega] at this
    refine ⟨d :: ds, by simp only [List.flatMap_cons, Ki4, KlI, List.map_cons, bulkAll]; omega, by simp [f1], ?_, ?_, ?_⟩
    · simp only [List.flatMap_cons]
      have := Ke1 g2 f2
      have e2 : (cs.drop (i0 * sz)).take sz ++ (cs.drop ((i0 + 1) * sz)).take (ys.length * sz) = (cs.drop (i0 * sz)).take ((ys.length + 1) * sz) := by
        rw [show (ys.length + 1) * sz = sz + ys.length * sz by rw [Nat.add_mul]; omega, List.take_add, List.drop_drop, show i0 * sz + sz = (i0 + 1) * sz by rw [Nat.add_mul]; omega]
      rwa [e2] at this
    · simp only [List.flatMap_cons, List.length_append, f3, g4, hsz]
      show sz + ys.length * sz = (ys.length + 1) * sz
      rw [Nat.add_mul]; omega
    · intro x hx
      rcases List.mem_cons.1 hx with rfl | hx
      · exact g5
      · exact f4 x hx
theorem rdw (hT : TabOK P tab) (hc : closedT tab ts = true) : ∀ (n : Nat) (t : TypeId) (cs : List Value) (x : DataW H × List MemPlace), ts.contains t = true → DataW.trod enc P w base spare held n t cs = some x → ∃ d, RdW tab w n t cs d (bulk x.1) := by
  intro n
  induction n with
  | zero => intro t cs x _ h; simp [DataW.trod] at h
  | succ n ih =>
    intro t cs x ht h
    have hok : typeOK tab ts t = true := by
      unfold closedT at hc
      rw [List.all_eq_true] at hc
      exact hc t (by simpa using ht)
    unfold typeOK at hok
    split at hok
    · rename_i i hi
      obtain ⟨tf, z, dd, h1, h2, h3, h4, _⟩ := Kfl (ti_ok hT hi)
      split at hok
      · rename_i hd
        have hs := Nat.eq_of_beq_eq_true hok
        obtain ⟨b, rfl, rfl⟩ := DataW.trod_bool (by rw [h2, KjR (h3.trans hd)]) h
        refine ⟨.v (.bool b), by simp [wt, wtv, bulk], i, hi, by simp [RepC], ?_, by simp [hs], by simp [K4, hs], ?_⟩
        · simp only [K4, Reps]; exact ⟨_, _, rfl, ⟨by simp [RepC], rfl, rfl⟩, rfl⟩
        · unfold GoodT; exact ⟨i, hi, by rw [hd]; exact ⟨b, rfl⟩⟩
      · rename_i k hd
        have hs := Nat.eq_of_beq_eq_true hok
        obtain ⟨m, rfl, rfl, hwf⟩ := DataW.trod_int (by rw [h2, Kg2 (h3.trans hd)]) h
        refine ⟨.v (.int k m), by simp [wt, wtv, bulk], i, hi, by simp [RepC], ?_, by simp [hs], by simp [K4, hs], ?_⟩
        · simp only [K4, Reps]; exact ⟨_, _, rfl, ⟨by simp [RepC], rfl, rfl⟩, rfl⟩
        · unfold GoodT; exact ⟨i, hi, by rw [hd]; exact ⟨m, rfl, hwf⟩⟩
      · rename_i hd
        have hs := Nat.eq_of_beq_eq_true hok
        obtain ⟨s, rfl, rfl, hwf⟩ := DataW.trod_string (by rw [h2, Kii (h3.trans hd)]) h
        refine ⟨.v (.string s), by simp [wt, wtv, bulk], i, hi, by simp [RepC], ?_, by simp [hs], by simp [K4, hs], ?_⟩
        · simp only [K4, Reps]; exact ⟨_, _, rfl, ⟨by simp [RepC], rfl, rfl⟩, rfl⟩
        · unfold GoodT; exact ⟨i, hi, by rw [hd]; exact ⟨s, rfl, hwf⟩⟩
      · rename_i e hd
        simp only [Bool.and_eq_true] at hok
        obtain ⟨⟨he, hs⟩, hsz⟩ := hok
        have hs := Nat.eq_of_beq_eq_true hs
        split at hsz
        · rename_i ie hie
          have hsz := Nat.le_of_ble_eq_true hsz
          rcases DataW.trod_slice (by rw [h2, Kb2 (h3.trans hd)]) h with ⟨rfl, rfl⟩ | ⟨a, len, cap, elems, rest, n', hf, rfl, rfl, hb, hlc, hcm, hel, hcells, _, _⟩
          · have hr : RepC (allOf w) (.lst ie.size [] .no) [.slice none 0 0] := by
              simp only [RepC, CapOK]; exact ⟨_, rfl, trivial, .inl ⟨by trivial, none, 0, rfl, fun _ => rfl⟩⟩
            refine ⟨.lst ie.size [] .no, by simp [wt, wts, bulk], i, hi, hr, ?_, by simp [hs], by simp [K4, hs], ?_⟩
            · simp only [K4, Reps]; exact ⟨_, _, rfl, ⟨hr, rfl, rfl⟩, rfl⟩
            · unfold GoodT; exact ⟨i, hi, by rw [hd]; exact ⟨ie, [], hie, rfl, by simp, by simp⟩⟩
          · have : n' = n := by omega
            subst this
            rw [KfN hT hie] at hcells
            rcases Nat.eq_zero_or_pos len with hz | hpos
            · subst hz
              have hr : RepC (allOf w) (.lst ie.size [] .no) [.slice (some a) 0 cap] := by
                simp only [RepC, CapOK]; exact ⟨_, rfl, trivial, .inl ⟨by trivial, some a, cap, rfl, fun q => by cases q⟩⟩
              refine ⟨.lst ie.size [] .no, by simp [wt, wts, bulk], i, hi, hr, ?_, by simp [hs], by simp [K4, hs], ?_⟩
              · simp only [K4, Reps]; exact ⟨_, _, rfl, ⟨hr, rfl, rfl⟩, rfl⟩
              · unfold GoodT; exact ⟨i, hi, by rw [hd]; exact ⟨ie, [], hie, rfl, by simp, by simp⟩⟩
            · have hsome : ∀ j, j < len → ∃ cs y, w.cells? base (a.add (j * ie.size)) ie.size = some cs ∧ DataW.trod enc P w base spare held n' e cs = some y := by
                intro j hj
                have hj2 := hcells j hj
                rw [List.getElem?_eq_getElem (by omega)] at hj2
                rw [Option.bind_eq_some_iff] at hj2
                obtain ⟨cs, q1, q2⟩ := hj2
                exact ⟨cs, _, q1, q2⟩
              have hspot : a.spot = none := by
                obtain ⟨cs, y, q1, _⟩ := hsome 0 hpos
                obtain ⟨_, hlen, hcc⟩ := World.cells?_some q1
                have q2 := hcc 0 (by omega)
                rw [List.getElem?_eq_getElem (by omega)] at q2
                have q3 : (a.add (0 * ie.size)).add 0 = a := by simp [Addr.add]
                rw [q3] at q2
                cases hsp : a.spot with
                | none => rfl
                | some s =>
                  unfold World.cell? at q2
                  split at q2
                  · simp [hsp] at q2
                  · cases q2
              obtain ⟨b, off, sp⟩ := a
              simp only at hspot; subst hspot
              have hel2 : elems.length = len := hel
              obtain ⟨xs, fw, f1, f2, f3⟩ := KlJ (spare := spare) (held := held) (enc := enc) (P := P) (base := base) (b := b) (off := off) hie rfl he ih elems 0 fun j y hj => by
                have hjl := (List.getElem?_eq_some_iff.1 hj).1
                have hj2 := hcells j (by omega)
                rw [hj, Option.bind_eq_some_iff] at hj2
                obtain ⟨cs, q1, q2⟩ := hj2
                rw [Nat.zero_add]
                exact ⟨cs, q1, q2⟩
              rw [hel2] at f1
              have hr : RepC (allOf w) (.lst ie.size xs .no) [.slice (some ⟨b, off, none⟩) len cap] := by
                simp only [RepC, CapOK]
                refine ⟨_, rfl, trivial, .inr ⟨b, off, cap, by rw [f1], by rw [f1]; exact hlc, by simpa using f2⟩⟩
              refine ⟨.lst ie.size xs .no, by simp only [wt, bulk]; omega, i, hi, hr, ?_, by simp [hs], by simp [K4, hs], ?_⟩
              · simp only [K4, Reps]; exact ⟨_, _, rfl, ⟨hr, rfl, rfl⟩, rfl⟩
              · unfold GoodT; exact ⟨i, hi, by rw [hd]; exact ⟨ie, xs, hie, rfl, by rw [f1]; omega, f3⟩⟩
        · cases hsz
      · rename_i fs hd
        split at hok
        · rename_i tot hfo
          have hs := Nat.eq_of_beq_eq_true hok
          obtain ⟨gs, e1, e2⟩ := Kfw (h3.trans hd)
          obtain ⟨xs, n', hf, rfl, hl, hxl, hx⟩ := DataW.trod_struct (by rw [h2, e1]) h
          have : n' = n := by omega
          subst this
          rw [KfN hT hi] at hl
          obtain ⟨_, ds, fw, f1, f2, f3, f4⟩ := KkW hT (cs := cs) ih gs.toList xs 0 tot (by rw [e2]; exact hfo) (by omega) (by rw [hxl]; simp) fun j f y hj hy => by
            have hj' : gs[j]? = some f := by simpa using hj
            rw [hx j f hj', hy]
          simp only [List.drop_zero, Nat.sub_zero] at f2 f3
          rw [List.take_of_length_le (by omega)] at f2
          refine ⟨.agg (ds.flatMap K4), by simp only [wt, bulk]; omega, i, hi, by simp only [RepC]; exact f2, f2, hl, by simp only [K4]; omega, ?_⟩
          unfold GoodT
          exact ⟨i, hi, by rw [hd]; exact ⟨ds, rfl, by rw [f1, ← e2]; simp, fun j f d0 q1 q2 => f4 j f d0 (by rw [e2]; exact q1) q2⟩⟩
        · cases hok
      · rename_i m e hd
        simp only [Bool.and_eq_true] at hok
        obtain ⟨he, hsz⟩ := hok
        split at hsz
        · rename_i ie hie
          have hsz := Nat.eq_of_beq_eq_true hsz
          obtain ⟨xs, n', hf, rfl, hl, hxl, hx⟩ := DataW.trod_array (by rw [h2, KiQ (h3.trans hd)]) h
          have : n' = n := by omega
          subst this
          rw [KfN hT hi] at hl
          rw [KfN hT hie] at hx
          obtain ⟨ds, fw, f1, f2, f3, f4⟩ := rdw_arr (cs := cs) hie rfl he ih xs 0 fun j y hj => by
            have hjl := (List.getElem?_eq_some_iff.1 hj).1
            rw [Nat.zero_add, hx j (by omega), hj]
          rw [hxl] at f1 f2 f3
          simp only [Nat.zero_mul, List.drop_zero] at f2
          rw [List.take_of_length_le (by omega)] at f2
          refine ⟨.agg (ds.flatMap K4), by simp only [wt, bulk]; omega, i, hi, by simp only [RepC]; exact f2, f2, hl, by simp only [K4]; omega, ?_⟩
          unfold GoodT
          exact ⟨i, hi, by rw [hd]; exact ⟨ds, rfl, f1, f4⟩⟩
        · cases hsz
      · cases hok
    · cases hok
theorem rdw_arg {v : Value} {x : DataW H} {ps : List MemPlace} {r : Reach} {b0 t : Nat} (hT : TabOK P tab) (ts : List Nat) (hc : closedT tab ts = true) (ht : ts.contains t = true)
  (hv : Value.okWide P w r b0 t v) (h : DataW.Trod enc P w base spare held t v x ps) : ∃ n d, GoodT tab n t d ∧ Rep (allOf w) d v ∧ wt d ≤ bulk x := by
 obtain ⟨n, hn⟩ := h
 obtain ⟨d, hw, i, h1, h2, h3, h4, h5, h6⟩ := rdw hT hc n t _ _ ht hn
 exact ⟨n, d, h6, ⟨h2, shape_of hT hv h6⟩, hw⟩
end
end Go.Proofs.YtipfljkjjddapaaGreatDoor.Ab
namespace Go.Proofs.YtipfljkjjddapaaGreatDoor.Ab
open Go
set_option linter.all false
section
variable {α β : Type} [DecidableEq α]
def mget : List (α × β) → α → Option β
 | [], _ => none
 | (a, b) :: l, k => if a = k then some b else mget l k
def mput : List (α × β) → α → β → List (α × β)
 | [], k, v => [(k, v)]
 | (a, b) :: l, k, v => if a = k then (k, v) :: l else (a, b) :: mput l k v
def mgetD (l : List (α × β)) (k : α) (z : β) : β := (mget l k).getD z
def ffind : List α → α → List MapEntry → Nat → Option (Nat × Value)
 | a :: ks, k, e :: me, i => if a = k then some (i, e.val) else ffind ks k me (i + 1)
 | _, _, _, _ => none
end
structure KeyOK (P : Program) (kt : TypeId) {α : Type} [DecidableEq α] (f : α → Value) : Prop where
 find : ∀ (w : World) (k : α) (me : List MapEntry) (ks : List α), me.map (·.key) = ks.map f → (Instr.findKey kt (f k) me).run P w = .ok (ffind ks k me 0) w
 check : ∀ (w : World) (e : Bool) (k : α), (Instr.checkKey e 10000 kt (f k)).run P w = .ok () w
 stays : ∀ (w : World) (k : α), (Instr.keyThatStays (f k) (f k)).run P w = .ok (f k) w
theorem str_key {P : Program} {kt : TypeId} (h : P.underlying kt = some .string) : KeyOK P kt (fun s : ByteArray => Value.string s) where
  find w k me ks e := by
    refine MapKept.run_findKey h ?_
    have : ∀ (ks : List ByteArray) (me : List MapEntry) (i : Nat), me.map (·.key) = ks.map (fun s => Value.string s) → Instr.findNow .string (.string k) me i = some (ffind ks k me i) := by
      intro ks
      induction ks with
      | nil => intro me i e; simp at e; subst e; rfl
      | cons a ks ih =>
        intro me i e
        cases me with
        | nil => cases e
        | cons m me =>
          simp only [List.map_cons, List.cons.injEq] at e
          have hb : (k == a) = decide (a = k) := by
            by_cases q : a = k
            · subst q; rw [decide_eq_true rfl]; exact (MapKept.bytes_beq _ _).2 rfl
            · rw [decide_eq_false q]
              cases hq : k == a with
              | false => rfl
              | true => exact absurd ((MapKept.bytes_beq _ _).1 hq).symm q
          unfold Instr.findNow ffind
          rw [e.1]
          simp only [Instr.sameNow, hb]
          by_cases q : a = k
          · rw [decide_eq_true q, if_pos q]
          · rw [decide_eq_false q, if_neg q]; exact ih me (i + 1) e.2
    exact this ks me 0 e
  check w e k := by
    have := MapKept.run_checkKey (w := w) h (k := .string k) (by simp [MapKept.IsKey]) e 9999
    exact this
  stays w k := MapKept.run_keyThatStays (d := .string) (by simp [MapKept.IsKey])
section
variable {α β : Type} [DecidableEq α] {f : α → Value} {e : β → D} {H : Hp}
theorem KjJ : ∀ {l : List (α × β)} {me : List MapEntry}, MapR H (l.map fun p => (f p.1, e p.2)) me → me.map (·.key) = (l.map (·.1)).map f
  | [], me, h => by simp [MapR] at h; subst h; rfl
  | p :: l, me, h => by
    simp only [List.map_cons, MapR] at h
    obtain ⟨m, me', rfl, h1, _, h2⟩ := h
    simp only [List.map_cons, h1, KjJ h2]
theorem KjK (k : α) : ∀ {l : List (α × β)} {me : List MapEntry} (i : Nat), MapR H (l.map fun p => (f p.1, e p.2)) me →
    (mget l k = none ∧ ffind (l.map (·.1)) k me i = none ∧ ∀ (v : β) (y : Value) (b : Nat), Rep H (e v) y → MapR H ((mput l k v).map fun p => (f p.1, e p.2)) (me ++ [⟨f k, y, b⟩])) ∨
    ∃ j b m, mget l k = some b ∧ ffind (l.map (·.1)) k me i = some (i + j, m.val) ∧ Rep H (e b) m.val ∧ me[j]? = some m ∧ m.key = f k ∧ ∀ (v : β) (y : Value), Rep H (e v) y → MapR H ((mput l k v).map fun p => (f p.1, e p.2)) (me.modify j fun x => { x with key := f k, val := y })
  | [], me, i, h => by
    simp [MapR] at h; subst h
    refine .inl ⟨rfl, rfl, fun v y b hy => ?_⟩
    simp only [mput, List.map_cons, List.map_nil, MapR, List.nil_append]
    exact ⟨_, _, rfl, rfl, hy, rfl⟩
  | p :: l, me, i, h => by
    simp only [List.map_cons, MapR] at h
    obtain ⟨m, me', rfl, h1, h2, h3⟩ := h
    by_cases q : p.1 = k
    · refine .inr ⟨0, p.2, m, by unfold mget; rw [if_pos q], by simp only [List.map_cons, ffind]; rw [if_pos q]; rfl, h2, rfl, by rw [h1, q], fun v y hy => ?_⟩
      simp only [mput, if_pos q, List.map_cons, MapR, List.modify_zero_cons]
      exact ⟨_, _, rfl, rfl, hy, h3⟩
    · rcases KjK k (i + 1) h3 with ⟨g1, g2, g3⟩ | ⟨j, b, m', g1, g2, g3, g4, g5, g6⟩
      · refine .inl ⟨by unfold mget; rw [if_neg q]; exact g1, by simp only [List.map_cons, ffind]; rw [if_neg q]; exact g2, fun v y b hy => ?_⟩
        simp only [mput, if_neg q, List.map_cons, MapR, List.cons_append]
        exact ⟨_, _, rfl, h1, h2, g3 v y b hy⟩
      · refine .inr ⟨j + 1, b, m', by unfold mget; rw [if_neg q]; exact g1, by simp only [List.map_cons, ffind]; rw [if_neg q, g2]; congr 2; omega, g3, by simpa using g4, g5, fun v y hy => ?_⟩
        simp only [mput, if_neg q, List.map_cons, MapR, List.modify_succ_cons]
        exact ⟨_, _, rfl, h1, h2, g6 v y hy⟩
end
theorem Core.allocMap {C : Ctx} {H : Hp} {h : List (Nat × Blk)} {k : List (Nat × Value)} {w : World} (c : Core C H h k w) :
  Core C H ((w.heap.size, .mp []) :: h) k (w.alloc (.map #[] 0)) := by
 have c0 : Core ⟨H, w, []⟩ H [(w.heap.size, .mp [])] [] (w.alloc (.map #[] 0)) := by
  refine ⟨fun a v e => KgJ _ (c.ag a v e), Hp.le_refl H, fun _ _ x => .inl x, fun b hb _ => ?_, ?_, ?_, by simp, ?_, ?_, ⟨rfl, rfl, rfl, Nat.le_refl _⟩⟩
  ·rw [Ka9, if_neg (by exact Nat.ne_of_lt hb)]
  ·rw [KgI]; exact Nat.le_succ _
  ·intro p hp
   simp only [List.mem_singleton] at hp; subst hp
   refine ⟨#[], 0, by rw [Ka9, if_pos rfl], rfl, fun o => ?_⟩
   cases e : H ⟨w.heap.size, o, none⟩ with
   | none => rfl
   | some v => exact absurd (c.ag.lt e) (Nat.lt_irrefl _)
  ·simp [KY, Kae]
  ·intro b hb
   simp [KY, Kae] at hb; subst hb
   exact .inr (Nat.le_refl _)
 exact Core.call (h1 := []) (k1 := []) (h2 := h) (k2 := k) c c0
theorem Core.setMap {C : Ctx} {H : Hp} {h : List (Nat × Blk)} {k : List (Nat × Value)} {w : World} (c : Core C H h k w) {j b : Nat} {es es' : List (Value × D)} {me : Array MapEntry} {ck : Nat} (hj : h[j]? = some (b, .mp es))
  (hr : MapR H es' me.toList) : Core C H (h.set j (b, .mp es')) k { w with heap := w.heap.setIfInBounds b (.map me ck) } := by
 have hlt : j < h.length := (List.getElem?_eq_some_iff.1 hj).1
 have p1 : h.Perm ([(b, .mp es)] ++ h.eraseIdx j) := Kah hj
 have c1 := c.perm p1 (List.Perm.refl k)
 obtain ⟨me0, ck0, h1, h2, h3⟩ := c.blks _ (List.mem_of_getElem? hj)
 have hs := MapKept.heap_set (w := w) (o' := .map me ck) h1
 have c2 : Core ⟨H, w, KY [(b, Blk.mp es)] []⟩ H [(b, .mp es')] [] { w with heap := w.heap.setIfInBounds b (.map me ck) } := by
  refine ⟨fun a v e => ?_, Hp.le_refl H, fun _ _ x => .inl x, fun i _ hm => hs.2 i (by simpa [KY, Kae] using hm), by simp, ?_, by simp, by simp [KY, Kae], ?_, ⟨rfl, rfl, rfl, Nat.le_refl _⟩⟩
  ·have hne : a.block ≠ b := fun e2 => by
    obtain ⟨ab, ao, sp0⟩ := a
    simp only at e2; subst e2
    have hc := c.ag _ _ e
    cases sp0 with
    | none => rw [h3] at e; cases e
    | some s => simp [World.cell?, h1] at hc
   have := c.ag a v e
   simp only [World.cell?] at this ⊢
   rw [hs.2 _ hne]; exact this
  ·intro p hp
   simp only [List.mem_singleton] at hp; subst hp
   exact ⟨me, ck, hs.1, hr, h3⟩
  ·intro x hx
   exact .inl (by simpa [KY, Kae] using hx)
 have c3 := Core.call (h1 := [(b, .mp es)]) (k1 := []) (h2 := h.eraseIdx j) (k2 := k) (by simpa using c1) c2
 refine c3.perm ?_ (by simp)
 have p2 : (h.set j (b, Blk.mp es'))[j]? = some (b, Blk.mp es') := by rw [List.getElem?_set_self hlt]
 have p3 := Kah p2
 rw [List.eraseIdx_set_eq] at p3
 exact p3.symm
section
variable {P : Program} {C : Ctx} {N : Nat} {ops rest : List Oper} {o : Oper} {t : List (Nat × D)} {h : List (Nat × Blk)} {k : List (Nat × Value)} {Q : Exit → S → Prop} {tab : List (Option TI)}
theorem KlK {i : Nat} {T : TypeId} (ho : o.op = .makeMap T none) (hw : wantD ops t o = some true) (hd : o.dst = some i) (hi : Nat.blt i N = true)
  (g : ∀ b : Nat, opsD P C N ops rest ⟨(i, .v (.map (some b))) :: t, (b, .mp []) :: h, k⟩ Q) : opsD P C N ops (o :: rest) ⟨t, h, k⟩ Q :=
 Kb4 (s := ⟨t, h, k⟩) hw hd hi fun H a w c kt => by
  refine ⟨.map (some w.heap.size), _, H, .v (.map (some w.heap.size)), _, k, ?_, Hp.le_refl H, c.allocMap, rep_v rfl, g w.heap.size⟩
  unfold execOp
  rw [ho]
  refine KaM ?_
  rfl
theorem run_zv {w : World} {t : TypeId} {z : Value} (h : (P.info? t).bind (·.zero) = some z) : (Go.zeroValue t).run P w = .ok z w := by
  cases hi : P.info? t with
  | none => rw [hi] at h; cases h
  | some i =>
    rw [hi] at h
    have ht : (Go.typeInfo t).run P w = .ok i w := by
      unfold Go.typeInfo Go.program
      rw [Kq (a := P) rfl, hi]; rfl
    unfold Go.zeroValue
    rw [Kq ht]
    simp only [Option.bind_some] at h
    rw [h]; rfl
section
variable {α β : Type} [DecidableEq α] {f : α → Value} {e : β → D}
theorem Kge {i b kt et : Nat} {T : TypeId} {x ix : Operand} {l : List (α × β)} {es : List (Value × D)} {kk : α} {dk dr : D} {z : β} {zv : Value} {ti0 : TI} (j : Nat) (hT : TabOK P tab) (ho : o.op = .lookup T x ix false) (hw : wantD ops t o = some true) (hd : o.dst = some i) (hi : Nat.blt i N = true)
  (hx : opD t x = some (.v (.map (some b)))) (hj : h[j]? = some (b, .mp es)) (hes : es = l.map fun p => (f p.1, e p.2)) (hix : opD t ix = some dk) (hti : ti tab T = some ti0) (hs : ti0.d = .map kt et) (K : KeyOK P kt f) (hk : ∀ H v, Rep H dk v → v = f kk)
  (hz : (P.info? et).bind (·.zero) = some zv) (hzr : ∀ H, Rep H (e z) zv) (hr : dr = e (mgetD l kk z))
  (g : opsD P C N ops rest ⟨(i, dr) :: t, h, k⟩ Q) : opsD P C N ops (o :: rest) ⟨t, h, k⟩ Q :=
 Kb4 (s := ⟨t, h, k⟩) hw hd hi fun H a w core kt' => by
  subst hes; subst hr
  obtain ⟨dd, h1, h2⟩ := Kag (w := w) (ti_ok hT hti)
  have := td_map (h2.trans hs); subst this
  obtain ⟨me, ck, g1, g2, g3⟩ := core.blks _ (List.mem_of_getElem? hj)
  have hkv := hk H _ (K9 kt' hix)
  have hfk := K.find w kk me.toList (l.map (·.1)) (KjJ g2)
  have key : ∃ v, (Instr.lookup T (a.eval x) (a.eval ix) false).run P w = .ok v w ∧ Rep H (e (mgetD l kk z)) v := by
   rw [hkv, K1 (K9 kt' hx)]
   unfold Instr.lookup mgetD
   rcases KjK kk 0 g2 with ⟨q1, q2, _⟩ | ⟨j', b', m, q1, q2, q3, _⟩
   ·refine ⟨zv, ?_, by rw [q1]; exact hzr H⟩
    rw [q2] at hfk
    simp only [Kb1, h1, Result.andThen, MapKept.run_getObj_map g1, Kb9, K.check, hfk, run_zv hz]
    simp
   ·refine ⟨m.val, ?_, by rw [q1]; exact q3⟩
    rw [q2] at hfk
    simp only [Kb1, h1, Result.andThen, MapKept.run_getObj_map g1, Kb9, K.check, hfk]
    simp
  obtain ⟨v, e1, e2⟩ := key
  refine ⟨v, w, H, _, h, k, ?_, Hp.le_refl H, core, e2, g⟩
  unfold execOp
  rw [ho]
  exact KaM e1
theorem KhW {b kt et : Nat} {T : TypeId} {x ix y : Operand} {l : List (α × β)} {es : List (Value × D)} {h' : List (Nat × Blk)} {kk : α} {vv : β} {dk dv : D} {ti0 : TI} (j : Nat) (hT : TabOK P tab) (ho : o.op = .mapUpdate T x ix y) (hw : wantD ops t o = some true) (hd : o.dst = none)
  (hx : opD t x = some (.v (.map (some b)))) (hj : h[j]? = some (b, .mp es)) (hes : es = l.map fun p => (f p.1, e p.2)) (hix : opD t ix = some dk) (hy : opD t y = some dv) (hti : ti tab T = some ti0) (hs : ti0.d = .map kt et) (K : KeyOK P kt f) (hk : ∀ H v, Rep H dk v → v = f kk) (hv : Wk dv (e vv))
  (he : h.set j (b, .mp ((mput l kk vv).map fun p => (f p.1, e p.2))) = h')
  (g : opsD P C N ops rest ⟨t, h', k⟩ Q) : opsD P C N ops (o :: rest) ⟨t, h, k⟩ Q :=
 Kkl (s := ⟨t, h, k⟩) hw hd fun H a w core kt' => by
  subst hes; subst he
  obtain ⟨dd, h1, h2⟩ := Kag (w := w) (ti_ok hT hti)
  have := td_map (h2.trans hs); subst this
  obtain ⟨me, ck, g1, g2, g3⟩ := core.blks _ (List.mem_of_getElem? hj)
  have hkv := hk H _ (K9 kt' hix)
  have hfk := K.find w kk me.toList (l.map (·.1)) (KjJ g2)
  have hyv : Rep H (e vv) (a.eval y) := hv H _ (K9 kt' hy)
  have key : ∃ me' ck', (Instr.mapUpdate T (a.eval x) (a.eval ix) (a.eval y)).run P w = .ok () { w with heap := w.heap.setIfInBounds b (.map me' ck') } ∧ MapR H ((mput l kk vv).map fun p => (f p.1, e p.2)) me'.toList := by
   rw [hkv, K1 (K9 kt' hx)]
   unfold Instr.mapUpdate
   rcases KjK kk 0 g2 with ⟨q1, q2, q3⟩ | ⟨j', b', m, q1, q2, q3, q4, q5, q6⟩
   ·refine ⟨me.push ⟨f kk, a.eval y, ck⟩, ck + 1, ?_, by rw [Array.toList_push]; exact q3 vv _ ck hyv⟩
    rw [q2] at hfk
    simp only [Kb1, h1, Result.andThen, MapKept.run_getObj_map g1, Kb9, K.check, hfk, MapKept.run_setObj_map _ g1]
   ·refine ⟨me.modify j' fun x => { x with key := f kk, val := a.eval y }, ck, ?_, by rw [Array.toList_modify]; exact q6 vv _ hyv⟩
    rw [q2] at hfk
    have hm : me[j']? = some m := by rw [← Array.getElem?_toList]; exact q4
    rw [Nat.zero_add] at hfk
    simp only [Kb1, h1, Result.andThen, MapKept.run_getObj_map g1, Kb9, K.check, hfk, hm, Option.map_some, Option.getD_some, q5, K.stays, MapKept.run_setObj_map _ g1]
  obtain ⟨me', ck', e1, e2⟩ := key
  refine ⟨_, H, _, k, ?_, Hp.le_refl H, core.setMap (ck := ck') hj e2, g⟩
  unfold execOp
  rw [ho]
  show ((Instr.mapUpdate T (a.eval x) (a.eval ix) (a.eval y)) >>= fun _ => pure Next.skip).run P w = _
  rw [Kq e1]; rfl
end
end
end Go.Proofs.YtipfljkjjddapaaGreatDoor.Ab
namespace Go.Proofs.YtipfljkjjddapaaGreatDoor.Ab
open Go Go.RowKit Go.Proofs
set_option linter.all false
def zc (pe : Int × Int) : List PanicEntry := [{ v := .iface 189 (.agg #[.int .i64 pe.1, .int .i64 pe.2]), recovered := false }]
def Kaz (a0 a1 : Int) : Option ((Int × Int) ⊕ Unit) := some (.inl (a0, a1))
theorem KaK (a0 a1 : Int) (r : (Int × Int) ⊕ Unit) (h0 : Kaz a0 a1 = some r) : Kba zc Tryz.prog 152 [.v (.int .i64 a0), .v (.int .i64 a1)] [] [] r (fun r d h k => d = .tup [] ∧ h = [] ∧ k = []) := by
 cases h0
 refine ⟨⟨_, Tryz.func152, rfl, rfl⟩, fun H w vs hv hA _ _ _ => ?_⟩
 simp only [RepsV] at hv
 obtain ⟨u1, _, rfl, g1, u2, _, rfl, g2, rfl⟩ := hv
 obtain rfl := K1 g1
 obtain rfl := K1 g2
 suffices hs : Calls Tryz.prog 152 #[.int .i64 a0, .int .i64 a1] w fun e w' => e = .panicked (zc (a0, a1)) ∧ w' = w from
  hs.mono fun e w' ⟨he, hb⟩ => ⟨he, H, by subst hb; exact Kka hA (Below.refl _ _)⟩
 go_enter Tryz.func152, Tryz.ntmps152
 go_wp2_with fail
 exact ⟨rfl, rfl, rfl⟩
end Go.Proofs.YtipfljkjjddapaaGreatDoor.Ab
namespace Go.Proofs.YtipfljkjjddapaaGreatDoor.Jz
open Go Jx
set_option linter.all false
def Gives (Zp : List PanicEntry → World → Prop) (P : Program) (o : Oper) (a : Act) (w : World) (K : Value → World → Prop) : Prop :=
 match (execOp a.eval o).run P w with
 | .ok (.value v) w' => K v w'
 | .ok .skip w' => K undef w'
 | .ok (.enter f args) w' => Calls P f args w' fun e w'' => (∃ v, e = .returned v ∧ K v w'') ∨ ∃ c, e = .panicked c ∧ Zp c w''
 | _ => False
theorem Gives.mono {Zp : List PanicEntry → World → Prop} {P : Program} {o : Oper} {a : Act} {w : World} {K K' : Value → World → Prop} (hk : ∀ v w', K v w' → K' v w') (h : Gives Zp P o a w K) : Gives Zp P o a w K' := by
 unfold Gives at *
 split at h
 ·exact hk _ _ h
 ·exact hk _ _ h
 ·exact h.mono fun e w'' hh => hh.imp (fun ⟨v, he, hv⟩ => ⟨v, he, hk _ _ hv⟩) id
 ·exact h.elim
theorem Gives.wp {Zp : List PanicEntry → World → Prop} {P : Program} {o : Oper} {a : Act} {w : World} {K : Act → World → Prop} {Q : Exit → Act → World → Prop} (hZ : ∀ c w, Zp c w → Q (.panic c) a w) (h : Gives Zp P o a w fun v w' => K (a.put o.dst v) w') : o.wp P a w K Q := by
  unfold Gives at h
  unfold Oper.wp
  generalize (execOp a.eval o).run P w = r at *
  cases r with
  | ok n w' =>
    cases n <;> simp only [Oper.upon] at h ⊢
    case value u => exact h
    case skip => exact h
    case enter f args => exact h.mono fun e w'' hh => by rcases hh with ⟨v, he, hv⟩ | ⟨c, he, hz⟩ <;> subst he <;> first | exact hv | exact hZ _ _ hz
  | halt x w' => simp only at h
theorem Gives.congr {Zp : List PanicEntry → World → Prop} {P : Program} {o : Oper} {a a' : Act} {w : World} {K : Value → World → Prop} (he : execOp a'.eval o = execOp a.eval o) (h : Gives Zp P o a w K) : Gives Zp P o a' w K := by
 unfold Gives at *; rw [he]; exact h
theorem Gives.of {Zp : List PanicEntry → World → Prop} {P : Program} {o : Oper} {a : Act} {w : World} {K : Value → World → Prop} (h : Jx.Gives P o a w K) : Gives Zp P o a w K := by
 unfold Jx.Gives at h
 unfold Gives
 split at h
 ·simp only [*]
 ·simp only [*]
 ·rename_i hr; rw [hr]; exact h.mono fun e w'' hh => .inl hh
 ·exact h.elim
section
variable (Zp : List PanicEntry → World → Prop) (P : Program) (ops : Array Oper) (C : (Nat → Bool) → (Nat → Value) → World → Prop) (pre : Nat → List Nat) (ev : Nat → Bool)
def OK (vals : Nat → Value) (i : Nat) (o : Oper) (a : Act) (out : Value) : Prop :=
 if Region.wanted o (yielded ops a.tmps) = true then
  if ev i = true then out = vals i ∧ ∀ S w, C S vals w → S i = false → (∀ k ∈ pre i, S k = true) → Gives Zp P o a w fun v w' => C (upd S i true) (upd vals i v) w'
  else ∀ S w, C S vals w → (∀ k ∈ pre i, S k = true) → (execOp a.eval o).run P w = .ok (.value out) w
 else out = undef ∧ (ev i = true → ∀ S w, C S vals w → S i = false → C (upd S i true) (upd vals i undef) w)
def Lx (vals : Nat → Value) (fin : Act → Prop) : Nat → List Oper → Act → Prop
 | _, [], a => fin a
 | i, o :: rest, a => ∃ out, OK Zp P ops C pre ev vals i o a out ∧ Lx vals fin (i + 1) rest (a.put o.dst out)
end
theorem Kku {ops : Array Oper} {a0 : Act} {out : Nat → Value} {S : Nat → Bool} : ∀ k, (frS ops a0 out S k).tmps.size = a0.tmps.size ∧ (frS ops a0 out S k).defers = a0.defers
  | 0 => ⟨rfl, rfl⟩
  | k + 1 => by
    have ih := Kku (ops := ops) (a0 := a0) (out := out) (S := S) k
    simp only [frS]
    split
    · split
      · rename_i o _ _
        cases hd : o.dst with
        | none => exact ih
        | some d => exact ⟨by simp only [Act.put, Array.size_setIfInBounds]; exact ih.1, ih.2⟩
      · exact ih
    · exact ih
section
variable {Zp : List PanicEntry → World → Prop} {P : Program} {ops : Array Oper} {Q : Exit → Act → World → Prop} {C : (Nat → Bool) → (Nat → Value) → World → Prop} {pre : Nat → List Nat} {ev : Nat → Bool} {a0 : Act}
theorem lx_good {vals : Nat → Value} {fin : Act → Prop} {l1 : List Oper} {m : Nat} (hl1 : ∀ j, j < m → l1[j]? = ops[j]?) (hm : l1.length = m) (h : Lx Zp P ops C pre ev vals fin 0 l1 a0) :
    ∃ out, (∀ j o, j < m → ops[j]? = some o → OK Zp P ops C pre ev vals j o (fr ops a0 out j) (out j)) ∧ fin (fr ops a0 out m) := by
  have key : ∀ (l : List Oper) (i : Nat) (out0 : Nat → Value), (∀ j, i + j < i + l.length → l[j]? = ops[i + j]?) → Lx Zp P ops C pre ev vals fin i l (fr ops a0 out0 i) →
      ∃ out, (∀ k, k < i → out k = out0 k) ∧ (∀ j o, i ≤ j → j < i + l.length → ops[j]? = some o → OK Zp P ops C pre ev vals j o (fr ops a0 out j) (out j)) ∧ fin (fr ops a0 out (i + l.length)) := by
    intro l
    induction l with
    | nil => intro i out0 _ h; exact ⟨out0, fun _ _ => rfl, fun j o hj hj' _ => by simp at hj'; omega, h⟩
    | cons o l ih =>
      intro i out0 hl h
      obtain ⟨v, hv, hr⟩ := h
      have h0 : ops[i]? = some o := by simpa using (hl 0 (by simp)).symm
      have e1 : fr ops a0 (upd out0 i v) i = fr ops a0 out0 i := Kg0 i fun j hj => upd_ne _ _ (by omega)
      have e2 : fr ops a0 (upd out0 i v) (i + 1) = (fr ops a0 out0 i).put o.dst v := by simp only [fr, h0]; rw [e1, upd_same]
      obtain ⟨out, g1, g2, g3⟩ := ih (i + 1) (upd out0 i v) (fun j hj => by have := hl (j + 1) (by simp; omega); simpa [Nat.add_assoc, Nat.add_comm 1 j] using this) (by rw [e2]; exact hr)
      refine ⟨out, fun k hk => by rw [g1 k (by omega), upd_ne _ _ (by omega)], fun j o' hj hj' ho' => ?_, ?_⟩
      · by_cases hji : j = i
        · subst hji
          rw [h0] at ho'; cases ho'
          have e3 : fr ops a0 out j = fr ops a0 out0 j := Kg0 j fun k hk => by rw [g1 k (by omega), upd_ne _ _ (by omega)]
          rw [e3, g1 j (by omega), upd_same]
          exact hv
        · exact g2 j o' (by omega) (by simp at hj'; omega) ho'
      · rw [show i + (o :: l).length = i + 1 + l.length from by simp; omega]; exact g3
  obtain ⟨out, _, h2, h3⟩ := key l1 0 (fun _ => undef) (fun j hj => by rw [Nat.zero_add]; exact hl1 j (by omega)) h
  rw [Nat.zero_add, hm] at h3
  exact ⟨out, fun j o hj ho => h2 j o (Nat.zero_le _) (by omega) ho, h3⟩
theorem out_same (hsl : slotsB ops = true) (hp : preB ops pre = true) {S : Nat → Bool} (hc : KdD ops S) {T : Nat → Bool} (hT : ∀ k, T k = (S k && ev k)) (hpe : ∀ i, ∀ k ∈ pre i, ev k = true)
    {vals vals' out out' : Nat → Value} {w : World}
    {m : Nat} (ok : ∀ j o, j < m → ops[j]? = some o → OK Zp P ops C pre ev vals j o (fr ops a0 out j) (out j)) (ok' : ∀ j o, j < m → ops[j]? = some o → OK Zp P ops C pre ev vals' j o (fr ops a0 out' j) (out' j))
    (hv : ∀ e, T e = true → vals e = vals' e) (hC : C T vals w) (hC' : C T vals' w) : ∀ k, k < m → ∀ o, ops[k]? = some o → S k = true → out k = out' k := by
  intro k
  induction k using Nat.strongRecOn with
  | _ k ih =>
    intro hkm o ho hk
    have hal : ∀ m, m ≤ k → ∀ t ∈ o.looksAt ops, (fr ops a0 out m).tmps[t]? = (fr ops a0 out' m).tmps[t]? := by
      intro m
      induction m with
      | zero => intro _ t _; rfl
      | succ m ihm =>
        intro hm t ht
        have ih' := ihm (by omega) t ht
        simp only [fr]
        cases hom : ops[m]? with
        | none => exact ih'
        | some om =>
          simp only
          by_cases hd : om.dst = some t
          · rcases KfK hsl ho hom (by omega) with ⟨e, he, hb, hon⟩ | hap
            · have hSm : S m = true := hon ▸ hc k o ho hk e he hb
              rw [ih m (by omega) (by omega) om hom hSm]
              exact KgC _ _ _ _ _ ih'
            · rw [Key hd ht] at hap; cases hap
          · rw [Kft _ _ _ _ hd, Kft _ _ _ _ hd]; exact ih'
    have hal' : alike ops o (fr ops a0 out k) (fr ops a0 out' k) := hal k (Nat.le_refl _)
    have h1 := ok k o hkm ho
    have h2 := ok' k o hkm ho
    have hns : ∀ cs x, o.op ≠ .select cs x := by
      simp only [slotsB, Bool.and_eq_true] at hsl
      exact fun cs x => Region.noSelect_spec hsl.1 k o cs x ho
    unfold OK at h1 h2
    rw [← KdC hal'] at h2
    by_cases hw : Region.wanted o (yielded ops (fr ops a0 out k).tmps) = true
    · rw [if_pos hw] at h1 h2
      by_cases he : ev k = true
      · rw [if_pos he] at h1 h2
        rw [h1.1, h2.1]
        exact hv k (by rw [hT, hk, he]; rfl)
      · rw [if_neg he] at h1 h2
        have hpk : ∀ x ∈ pre k, T x = true := fun x hx => by
          rw [hT, KfL hp hsl hc k o ho (fun e he' hb => hc k o ho hk e he' hb) x hx, hpe k x hx]; rfl
        have r1 := h1 T w hC hpk
        have r2 := h2 T w hC' hpk
        rw [← KeQ hns hal'] at r2
        rw [r1] at r2
        simpa using r2
    · rw [if_neg hw] at h1 h2
      rw [h1.1, h2.1]
theorem any_all (hZ : ∀ c a w, a.tmps.size = a0.tmps.size → a.defers = a0.defers → Zp c w → Q (.panic c) a w) (hsl : slotsB ops = true) (hp : preB ops pre = true) (hpe : ∀ i, ∀ k ∈ pre i, ev k = true) {tp : List (List Nat)} {m : Nat} {l1 l2 : List Oper} (hops : ops.toList = l1 ++ l2) (hm : l1.length = m) (hevm : ∀ i, ev i = true → i < m) (hsuf : sufB ops tp m = true)
    (hloc : ∀ S vals vals' w, (∀ e, S e = true → vals e = vals' e) → C S vals w → C S vals' w)
    (hwalk : ∀ vals, Lx Zp P ops C pre ev vals (fun a => ∀ S w, (∀ i, ev i = true → S i = true) → C S vals w → wpList P ops Q l2 a w) 0 l1 a0) :
    ∀ (fuel : Nat) (listed : Array Bool) (w : World) (vals out : Nat → Value), listed.size = ops.size →
      (∀ j o, j < m → ops[j]? = some o → OK Zp P ops C pre ev vals j o (fr ops a0 out j) (out j)) →
      (∀ S w, (∀ i, ev i = true → S i = true) → C S vals w → wpList P ops Q l2 (fr ops a0 out m) w) →
      (∀ j, m ≤ j → listed.getD j false = false) → KdD ops (fun i => listed.getD i false) →
      C (fun i => listed.getD i false && ev i) vals w →
      (listed.toList.countP (fun b => !b)) ≤ fuel →
      wpAny P .any ops Q fuel listed (frS ops a0 out (fun i => listed.getD i false) m) w := by
  intro fuel
  have hl1 : ∀ j, j < m → l1[j]? = ops[j]? := fun j hj => by
    rw [← Array.getElem?_toList, hops, List.getElem?_append_left (by omega)]
  have hl2 : ∀ j, l2[j]? = ops[m + j]? := fun j => by
    rw [← Array.getElem?_toList, hops, List.getElem?_append_right (by omega), hm]; congr 1; omega
  have hmn : m + l2.length = ops.size := by rw [← Array.length_toList, hops, List.length_append, hm]
  have fin : ∀ (fuel : Nat) (listed : Array Bool) (w : World) (vals out : Nat → Value), listed.size = ops.size →
      (∀ S w, (∀ i, ev i = true → S i = true) → C S vals w → wpList P ops Q l2 (fr ops a0 out m) w) →
      C (fun i => listed.getD i false && ev i) vals w → (∀ j, j < m → listed.getD j false = true) → (∀ j, m ≤ j → listed.getD j false = false) → KdD ops (fun i => listed.getD i false) → l2.length ≤ fuel →
      wpAny P .any ops Q fuel listed (frS ops a0 out (fun i => listed.getD i false) m) w := by
    intro fuel listed w vals out hsz hfin hC hlo hhi hcl hf
    rw [frS_all m hlo]
    exact seq_any hsl hsuf l2 m fuel listed _ w (Nat.le_refl _) hsz hl2 (fun j hj _ => hlo j hj) hhi hcl hf (hfin _ w (fun i he => by rw [hlo i (hevm i he), he]; rfl) hC)
  have hcnt : ∀ (listed : Array Bool), listed.size = ops.size → (∀ j, m ≤ j → listed.getD j false = false) → l2.length ≤ listed.toList.countP (fun b => !b) := by
    intro listed hsz hhi
    have h1 : listed.toList = listed.toList.take m ++ listed.toList.drop m := (List.take_append_drop m _).symm
    rw [h1, List.countP_append]
    have h2 : (listed.toList.drop m).countP (fun b => !b) = (listed.toList.drop m).length := by
      rw [List.countP_eq_length]
      intro b hb
      obtain ⟨k, hk, rfl⟩ := List.mem_iff_getElem.1 hb
      have := hhi (m + k) (by omega)
      have hk' : m + k < listed.size := by simp at hk; omega
      simp [hk'] at this
      simp [this]
    rw [h2]
    simp
    omega
  induction fuel with
  | zero =>
    intro listed w vals out hsz hok hfin hhi hcl hC hcount
    have hc2 := hcnt listed hsz hhi
    refine fin 0 listed w vals out hsz hfin hC (fun j hj => ?_) hhi hcl (by omega)
    have h1 : listed.toList.countP (fun b => !b) = 0 := by omega
    rw [List.countP_eq_zero] at h1
    have h' : j < listed.size := by omega
    have := h1 listed[j] (by simp)
    simp [h']
    simpa using this
  | succ fuel ih =>
    intro listed w vals out hsz hok hfin hhi hcl hC hcount
    by_cases hall : ∀ j, j < m → listed.getD j false = true
    · exact fin (fuel + 1) listed w vals out hsz hfin hC hall hhi hcl (by have := hcnt listed hsz hhi; omega)
    refine ⟨fun hr => absurd (fun j hj => KjE hsl hsz hr j (by omega)) hall, fun i hi => ?_⟩
    obtain ⟨hun, o, ho, hdeps⟩ := mem_ready.1 hi
    have him : i < m := by
      rcases Nat.lt_or_ge i m with h | h
      · exact h
      · exact absurd (fun j hj => Kkk hsl hsuf hcl ho h hdeps j (by omega)) hall
    have hhi' : ∀ j, m ≤ j → (listed.setIfInBounds i true).getD j false = false := fun j hj => by rw [getD_set_ne false (by omega)]; exact hhi j hj
    have hil : i < listed.size := by rw [hsz]; exact (Array.getElem?_eq_some_iff.1 ho).1
    have hun' : listed.getD i false = false := by simp [hil] at hun ⊢; exact hun
    have hal := Kei (a0 := a0) (out := out) hsl hcl ho hun' hdeps m (by omega)
    have hns : ∀ cs x, o.op ≠ .select cs x := by
      have := hsl
      simp only [slotsB, Bool.and_eq_true] at this
      exact fun cs x => Region.noSelect_spec this.1 i o cs x ho
    have hcl' : KdD ops (fun j => (listed.setIfInBounds i true).getD j false) := by
      have hpt : ∀ j, (listed.setIfInBounds i true).getD j false = upd (fun j => listed.getD j false) i true j := fun j => congrFun (Kfk hil) j
      intro j oj hoj hj e he hb
      show (listed.setIfInBounds i true).getD e.on false = true
      have hj' : (listed.setIfInBounds i true).getD j false = true := hj
      rw [hpt] at hj' ⊢
      by_cases hei : e.on = i
      · rw [hei, upd_same]
      · rw [upd_ne _ _ hei]
        by_cases hji : j = i
        · subst hji; rw [ho] at hoj; cases hoj
          exact hdeps e he hb
        · rw [upd_ne _ _ hji] at hj'
          exact hcl j oj hoj hj' e he hb
    have hcount' : (listed.setIfInBounds i true).toList.countP (fun b => !b) ≤ fuel := by
      have h1 : (listed.setIfInBounds i true).toList = listed.toList.set i true := by simp
      have h2 : listed[i] = false := by simp [hil] at hun; exact hun
      have h3 : i < listed.toList.length := by simpa using hil
      have h4 : listed.toList[i] = false := by simpa using h2
      have h5 : 0 < listed.toList.countP (fun b => !b) := List.countP_pos_iff.2 ⟨false, by rw [← h4]; exact List.getElem_mem h3, rfl⟩
      have h6 := List.countP_set (p := fun b => !b) (a := true) h3
      simp only [h4, Bool.not_false, Bool.not_true, if_true, Bool.false_eq_true, if_false] at h6
      rw [h1, h6]
      omega
    have hpre := KfL hp hsl hcl i o ho hdeps
    have hpre' : ∀ k ∈ pre i, (listed.getD k false && ev k) = true := fun k hk => by rw [hpre k hk, hpe i k hk]; rfl
    have hput : ∀ out', (∀ j, j < m → listed.getD j false = true → out j = out' j) → (frS ops a0 out (fun j => listed.getD j false) m).put o.dst (out' i) = frS ops a0 out' (fun j => (listed.setIfInBounds i true).getD j false) m := by
      intro out' hout
      rw [Kfk hil, Kln hsl hcl ho hun' m, if_pos him, Kgt m hout]
    have hT : (fun j => (listed.setIfInBounds i true).getD j false && ev j) = if ev i = true then upd (fun j => listed.getD j false && ev j) i true else (fun j => listed.getD j false && ev j) := by
      funext j
      rw [show (listed.setIfInBounds i true).getD j false = upd (fun j => listed.getD j false) i true j from congrFun (Kfk hil) j]
      by_cases he : ev i = true
      · rw [if_pos he]
        by_cases hji : j = i
        · subst hji; simp [upd, he]
        · rw [upd_ne _ _ hji, upd_ne _ _ hji]
      · rw [if_neg he]
        by_cases hji : j = i
        · subst hji; simp [he]
        · rw [upd_ne _ _ hji]
    have hoki := hok i o him ho
    -- another valuation, behind an event
    have again : ∀ (v : Value) (w' : World), ev i = true → C (upd (fun j => listed.getD j false && ev j) i true) (upd vals i v) w' → (Region.wanted o (yielded ops (fr ops a0 out i).tmps) = true ∨ v = undef) → C (fun j => listed.getD j false && ev j) vals w →
        wpAny P .any ops Q fuel (listed.setIfInBounds i true) ((frS ops a0 out (fun j => listed.getD j false) m).put o.dst v) w' := by
      intro v w' he hC' hwv hC0
      obtain ⟨out', hok', hfin'⟩ := lx_good hl1 hm (hwalk (upd vals i v))
      have hok'' := hok'
      have hsame : ∀ e, (listed.getD e false && ev e) = true → vals e = upd vals i v e := fun e h => by
        rw [upd_ne]; intro e2; subst e2; rw [hun'] at h; cases h
      have hC1 := hloc _ vals (upd vals i v) w hsame hC0
      have houts := out_same hsl hp hcl (T := fun j => listed.getD j false && ev j) (fun _ => rfl) hpe hok hok'' hsame hC0 hC1
      have houts' : ∀ j, j < m → listed.getD j false = true → out j = out' j := fun j hj h => houts j hj ops[j] (Array.getElem?_eq_getElem (by omega)) h
      -- the frames at i look alike
      have hal2 : alike ops o (fr ops a0 out i) (fr ops a0 out' i) := by
        have h1 := Kei (a0 := a0) (out := out) hsl hcl ho hun' hdeps m (by omega)
        have h2 := Kei (a0 := a0) (out := out') hsl hcl ho hun' hdeps m (by omega)
        rw [Kgt m houts'] at h1
        exact fun t ht => (h1 t ht).symm.trans (h2 t ht)
      have hi2 := hok'' i o him ho
      have houti : out' i = v := by
        unfold OK at hi2
        rw [← KdC hal2] at hi2
        by_cases hw : Region.wanted o (yielded ops (fr ops a0 out i).tmps) = true
        · rw [if_pos hw, if_pos he] at hi2; rw [hi2.1, upd_same]
        · rw [if_neg hw] at hi2; rw [hi2.1]
          rcases hwv with h | h
          · exact absurd h hw
          · exact h.symm
      have hh := ih (listed.setIfInBounds i true) w' (upd vals i v) out' (by simpa using hsz) hok'' hfin' hhi' hcl' (by rw [hT, if_pos he]; exact hC') hcount'
      rw [← hput out' houts', houti] at hh
      exact hh
    unfold wpOp
    simp only [ho]
    rw [KdC hal]
    unfold OK at hoki
    by_cases hw : Region.wanted o (yielded ops (fr ops a0 out i).tmps) = true
    · rw [if_pos hw]
      rw [if_pos hw] at hoki
      refine .inl ?_
      by_cases he : ev i = true
      · rw [if_pos he] at hoki
        have hg := hoki.2 _ w hC (by simp [hun']) hpre'
        have hg2 : Gives Zp P o (frS ops a0 out (fun j => listed.getD j false) m) w _ := Gives.congr (KeQ hns hal) hg
        exact Gives.wp (fun c w' hz => hZ c _ w' (Kku m).1 (Kku m).2 hz) (hg2.mono fun v w' hC' => again v w' he hC' (.inl hw) hC)
      · rw [if_neg he] at hoki
        have hr := hoki _ w hC hpre'
        rw [← KeQ hns hal] at hr
        have hh := ih (listed.setIfInBounds i true) w vals out (by simpa using hsz) hok hfin hhi' hcl' (by rw [hT, if_neg he]; exact hC) hcount'
        rw [← hput out (fun _ _ _ => rfl)] at hh
        unfold Oper.wp
        rw [hr]
        exact hh
    · rw [if_neg hw]
      rw [if_neg hw] at hoki
      by_cases he : ev i = true
      · have hC' := hoki.2 he _ w hC (by simp [hun'])
        exact again undef w he hC' (.inr rfl) hC
      · have hh := ih (listed.setIfInBounds i true) w vals out (by simpa using hsz) hok hfin hhi' hcl' (by rw [hT, if_neg he]; exact hC) hcount'
        rw [← hput out (fun _ _ _ => rfl), hoki.1] at hh
        exact hh
theorem region_any {id : Nat} {w : World} {l1 l2 : List Oper} (C : (Nat → Bool) → (Nat → Value) → World → Prop) (pre : Nat → List Nat) (ev : Nat → Bool) (tp : List (List Nat)) (hZ : ∀ c a w, a.tmps.size = a0.tmps.size → a.defers = a0.defers → Zp c w → Q (.panic c) a w) (hfo : P.follows .mixedOrders = true)
    (hsl : slotsB (l1 ++ l2).toArray = true) (hp : preB (l1 ++ l2).toArray pre = true) (hpe : ∀ i, ∀ k ∈ pre i, ev k = true) (hevm : ∀ i, ev i = true → i < l1.length) (hsuf : sufB (l1 ++ l2).toArray tp l1.length = true)
    (hloc : ∀ S vals vals' w, (∀ e, S e = true → vals e = vals' e) → C S vals w → C S vals' w)
    (h0 : ∀ vals, C (fun _ => false) vals { w with drawn := w.drawn + 1 })
    (hwalk : ∀ vals, Lx Zp P (l1 ++ l2).toArray C pre ev vals (fun a => ∀ S w, (∀ i, ev i = true → S i = true) → C S vals w → wpList P (l1 ++ l2).toArray Q l2 a w) 0 l1 a0) :
    (Code.region id (l1 ++ l2).toArray true).wp P Q a0 w := by
  refine wp_region_any hfo ?_
  have hl1 : ∀ j, j < l1.length → l1[j]? = (l1 ++ l2).toArray[j]? := fun j hj => by simp [List.getElem?_append_left hj]
  obtain ⟨out, hok, hfin⟩ := lx_good hl1 rfl (hwalk (fun _ => undef))
  generalize hN : (l1 ++ l2).toArray.size = N
  have hrep : (fun j => (Array.replicate N false).getD j false) = fun _ => false := by
    funext j
    by_cases hj : j < N <;> simp [hj]
  have hrj : ∀ j, (Array.replicate N false).getD j false = false := fun j => congrFun hrep j
  have h := any_all (Q := Q) (a0 := a0) hZ hsl hp hpe (by simp) rfl hevm hsuf hloc hwalk N (Array.replicate N false) { w with drawn := w.drawn + 1 } (fun _ => undef) out (by simp [← hN])
    hok hfin (fun j _ => hrj j) (by intro j o _ hj; have h3 : (Array.replicate N false).getD j false = true := hj; rw [hrj] at h3; cases h3)
    (by have : (fun i => (Array.replicate N false).getD i false && ev i) = fun _ => false := by
          funext j; rw [hrj]; rfl
        rw [this]; exact h0 _)
    (by have := List.countP_le_length (p := fun b => !b) (l := (Array.replicate N false).toList); simpa using this)
  rw [hrep, Kkj _ (fun _ _ => rfl)] at h
  exact h
end
end Go.Proofs.YtipfljkjjddapaaGreatDoor.Jz
namespace Go.Proofs.YtipfljkjjddapaaGreatDoor.Ab.Az
open Go Ab
set_option linter.all false
section
variable {X : Type} (Zp : List PanicEntry → World → Prop) (P : Program) (C : Ctx) (N : Nat) (l : List Oper) (m : Nat) (De : Nat → D) (al : AL) (pre : List (List Nat)) (ev : List Nat) (v : Hx X) (h : List (Nat × Blk)) (k : List (Nat × Value)) (Q : Exit → S → Prop)
def Zx (bs : Nat → Nat) (i : Nat) (rest : List Oper) (te : TE) : Prop :=
  ∀ H0 vals a, (∀ e, bs e = blk (vals e)) → TOKz De al ev H0 bs vals te a → a.tmps.size = N → a.defers = [] →
    Jz.Lx Zp P l.toArray (Cx C De al pre ev v h k H0) (fun i => pre.getD i []) (fun i => ev.contains i) vals (finX P C N l m De al pre ev v h k Q H0 vals) i rest a
end
section
variable {X : Type} {Zp : List PanicEntry → World → Prop} {P : Program} {C : Ctx} {N : Nat} {l : List Oper} {m : Nat} {De : Nat → D} {al : AL} {pre : List (List Nat)} {ev : List Nat} {v : Hx X} {h : List (Nat × Blk)} {k : List (Nat × Value)} {Q : Exit → S → Prop} {tab : List (Option TI)} {bs : Nat → Nat} {i : Nat} {o : Oper} {rest : List Oper} {te : TE}
theorem zx_nil {t' : List (Nat × D)} (e1 : vis ev te = t') (hv : ev.contains v.e = true) (hal : ∀ e, isAl al e = true → ev.contains e = true) (g : ∀ x : X, v.G x → opsD P C N l (l.drop m) ⟨t', v.h1 x ++ al.map (fun x => (bs x.1, Blk.cells x.2.1 x.2.2)), v.k1 x⟩ Q) : Zx Zp P C N l m De al pre ev v h k Q bs i [] te := by
 intro H0 vals a hbs kt hN hdf S w hS hC
 obtain ⟨H, x, hG, hle, _, c, hev⟩ := hC
 subst e1
 have hse := hS _ hv
 rw [hse] at c
 simp only [cond_true] at c
 refine g x (hG hse) a w ⟨H, ?_, Kbf hbs kt hle fun e _ he => hev e (hS e he) he, hN, hdf⟩
 rw [KdW fun e he => hS e (hal e he)] at c
 have : (fun x : Nat × List D × TypeId => (bs x.1, Blk.cells x.2.1 x.2.2)) = fun x => (blk (vals x.1), Blk.cells x.2.1 x.2.2) := by funext x; rw [hbs]
 rw [this]; exact c
theorem zx_q {j : Nat} {x : Value} {p : List Nat} {t : List (Nat × D)} (hp : pre.getD i [] = p) (ht : vis p te = t) (hx : Ex P o t (.v x)) (hw : wantD l (vis [] te) o = some true) (hd : o.dst = some j) (hi : Nat.blt j N = true) (hne : ev.contains i = false) (hone : one x = true) (_hpe : p.all ev.contains = true)
  (g : Zx Zp P C N l m De al pre ev v h k Q bs (i + 1) rest ((j, .v x, none) :: te)) : Zx Zp P C N l m De al pre ev v h k Q bs i (o :: rest) te := by
 intro H0 vals a hbs kt hN hdf
 refine ⟨x, ?_, ?_⟩
 ·unfold Jz.OK
  rw [KaF (KbL hbs kt) hw, if_pos rfl, if_neg (by show ¬ ev.contains i = true; rw [hne]; exact Bool.false_ne_true)]
  rintro S w ⟨H, x, hG, hle, _, c, hev⟩ hpS
  replace hpS : ∀ k ∈ pre.getD i [], S k = true := hpS
  rw [hp] at hpS
  obtain ⟨r, h1, h2⟩ := hx H a w (ht ▸ Kbf hbs kt hle fun e he he2 => hev e (hpS e (by simpa using he)) he2)
  rw [K1 h2] at h1
  exact h1
 ·rw [hd]
  refine g H0 vals _ hbs (kt.put (by rw [hN]; simpa using hi) (fun _ H _ => rep_v hone) (fun e he => by cases he)) ?_ hdf
  simp only [Act.put, Array.size_setIfInBounds]; exact hN
theorem zx_event {j : Nat} {p : List Nat} {t : List (Nat × D)} {d : D} (hp : pre.getD i [] = p) (ht : vis p te = t)
    (hx0 : p.contains v.e = false → ∀ hh H a w, Core C H (h ++ hh) k w → TOK H t a → Jz.Gives Zp P o a w fun r w' => ∃ H', Core ⟨H, w, []⟩ H' [] [] w' ∧ Rep H' d r)
    (hx1 : (pre.getD v.e []).contains i = false → ∀ (x : X), v.G x → ∀ hh H a w, Core C H (v.h1 x ++ hh) (v.k1 x) w → TOK H t a → Jz.Gives Zp P o a w fun r w' => ∃ H', Core ⟨H, w, []⟩ H' [] [] w' ∧ Rep H' d r)
    (hw : wantD l (vis [] te) o = some true) (hd : o.dst = some j) (hi : Nat.blt j N = true) (he : ev.contains i = true) (hev0 : ev.contains v.e = true) (hna : isAl al i = false) (hnv : Nat.beq i v.e = false) (hDe : De i = d)
    (g : Zx Zp P C N l m De al pre ev v h k Q bs (i + 1) rest ((j, d, some i) :: te)) : Zx Zp P C N l m De al pre ev v h k Q bs i (o :: rest) te := by
  intro H0 vals a hbs kt hN hdf
  subst hDe
  have hne : i ≠ v.e := Nat.ne_of_beq_eq_false hnv
  refine ⟨vals i, ?_, ?_⟩
  · unfold Jz.OK
    rw [KaF (KbL hbs kt) hw, if_pos rfl, if_pos he]
    refine ⟨rfl, ?_⟩
    rintro S w ⟨H, x, hG, hle, hdn, c, hev⟩ hSi hpS
    replace hpS : ∀ k ∈ pre.getD i [], S k = true := hpS
    have hpS' := hpS
    rw [hp] at hpS
    have htok := ht ▸ Kbf hbs kt hle fun e he he2 => hev e (hpS e (by simpa using he)) he2
    have key : Jz.Gives Zp P o a w fun r w' => ∃ H', Core ⟨H, w, []⟩ H' [] [] w' ∧ Rep H' (De i) r := by
      cases hs : S v.e with
      | false =>
        rw [hs] at c
        refine hx0 ?_ _ H a w c htok
        cases hc : p.contains v.e with
        | false => rfl
        | true => rw [hpS v.e (by simpa using hc)] at hs; cases hs
      | true =>
        rw [hs] at c
        refine hx1 ?_ x (hG hs) _ H a w c htok
        cases hc : (pre.getD v.e []).contains i with
        | false => rfl
        | true =>
          have hm : i ∈ pre.getD v.e [] := by
            rw [List.contains_iff_exists_mem_beq] at hc
            obtain ⟨z, hz, hb⟩ := hc
            have : i = z := by simpa using hb
            rw [this]; exact hz
          rw [hdn v.e hs hev0 i hm] at hSi; cases hSi
    refine key.mono ?_
    rintro r w' ⟨H', c', hr⟩
    have hal : Kap al (Jx.upd S i true) (Jx.upd vals i r) = Kap al S vals := KaC fun e hea => by
      have : e ≠ i := fun q => by rw [q, hna] at hea; cases hea
      exact ⟨Jx.upd_ne _ _ this, fun _ => Jx.upd_ne _ _ this⟩
    refine ⟨H', x, fun q => hG (by rwa [Jx.upd_ne _ _ (Ne.symm hne)] at q), Hp.le_trans hle c'.le, Kdt hdn hpS', ?_, fun e hes hee => ?_⟩
    · rw [hal, Jx.upd_ne _ _ (Ne.symm hne)]
      have := Core.call (h1 := []) (k1 := []) c c'
      exact this
    · by_cases hei : e = i
      · subst hei
        rw [Jx.upd_same]
        exact ⟨fun q => (by rw [hna] at q; cases q), fun _ => hr⟩
      · rw [Jx.upd_ne _ _ hei] at hes ⊢
        exact ⟨(hev e hes hee).1, fun q => ((hev e hes hee).2 q).mono c'.le⟩
  · rw [hd]
    refine g H0 vals _ hbs (kt.put (by rw [hN]; simpa using hi) (fun q => by cases q) (fun e q => ?_)) ?_ hdf
    · cases q
      exact ⟨rfl, by unfold dE; rw [hna]; rfl, he⟩
    · simp only [Act.put, Array.size_setIfInBounds]; exact hN
theorem zx_e {j : Nat} {p : List Nat} {t : List (Nat × D)} {d : D} (hp : pre.getD i [] = p) (ht : vis p te = t) (hx : Ex P o t d) (hw : wantD l (vis [] te) o = some true) (hd : o.dst = some j) (hi : Nat.blt j N = true) (he : ev.contains i = true) (hev0 : ev.contains v.e = true) (hna : isAl al i = false) (hnv : Nat.beq i v.e = false) (hDe : De i = d)
  (g : Zx Zp P C N l m De al pre ev v h k Q bs (i + 1) rest ((j, d, some i) :: te)) : Zx Zp P C N l m De al pre ev v h k Q bs i (o :: rest) te :=
 zx_event hp ht (fun _ _ H a w c kt => let ⟨_, h1, h2⟩ := hx H a w kt; .of <| Kbk h1 ⟨H, Core.here c.ag, h2⟩) (fun _ _ _ _ H a w c kt => let ⟨_, h1, h2⟩ := hx H a w kt; .of <| Kbk h1 ⟨H, Core.here c.ag, h2⟩) hw hd hi he hev0 hna hnv hDe g
theorem zx_E {j : Nat} {p : List Nat} {t : List (Nat × D)} {d : D} (hp : pre.getD i [] = p) (ht : vis p te = t) (hx : ExE P o t d) (hw : wantD l (vis [] te) o = some true) (hd : o.dst = some j) (hi : Nat.blt j N = true) (he : ev.contains i = true) (hev0 : ev.contains v.e = true) (hna : isAl al i = false) (hnv : Nat.beq i v.e = false) (hDe : De i = d)
  (g : Zx Zp P C N l m De al pre ev v h k Q bs (i + 1) rest ((j, d, some i) :: te)) : Zx Zp P C N l m De al pre ev v h k Q bs i (o :: rest) te :=
 zx_event hp ht (fun _ _ H a w c kt => let ⟨_, _, H', h1, h2, h3⟩ := hx H a w c.ag kt; .of <| Kbk h1 ⟨H', h2, h3⟩) (fun _ _ _ _ H a w c kt => let ⟨_, _, H', h1, h2, h3⟩ := hx H a w c.ag kt; .of <| Kbk h1 ⟨H', h2, h3⟩) hw hd hi he hev0 hna hnv hDe g
theorem zx_M {j : Nat} {p : List Nat} {t : List (Nat × D)} {d : D} (hp : pre.getD i [] = p) (ht : vis p te = t) (hx0 : p.contains v.e = false → ExM P C h k o t d) (hx1 : (pre.getD v.e []).contains i = false → ∀ x : X, v.G x → ExM P C (v.h1 x) (v.k1 x) o t d) (hw : wantD l (vis [] te) o = some true) (hd : o.dst = some j) (hi : Nat.blt j N = true) (he : ev.contains i = true) (hev0 : ev.contains v.e = true) (hna : isAl al i = false) (hnv : Nat.beq i v.e = false) (hDe : De i = d)
  (g : Zx Zp P C N l m De al pre ev v h k Q bs (i + 1) rest ((j, d, some i) :: te)) : Zx Zp P C N l m De al pre ev v h k Q bs i (o :: rest) te :=
 zx_event hp ht (fun q hh H a w c kt => let ⟨_, h1, h2⟩ := hx0 q hh H a w c kt; .of <| Kbk h1 ⟨H, Core.here c.ag, h2⟩) (fun q x hg hh H a w c kt => let ⟨_, h1, h2⟩ := hx1 q x hg hh H a w c kt; .of <| Kbk h1 ⟨H, Core.here c.ag, h2⟩) hw hd hi he hev0 hna hnv hDe g
theorem zx_heavy {p : List Nat} {t : List (Nat × D)} (hp : pre.getD i [] = p) (ht : vis p te = t) (hiv : i = v.e)
  (hx : ∀ hh H a w, Core C H (h ++ hh) k w → TOK H t a → Jz.Gives Zp P o a w fun r w' => ∃ H', ∃ x : X, v.G x ∧ H.le H' ∧ Core C H' (v.h1 x ++ hh) (v.k1 x) w' ∧ Rep H' (De v.e) r)
  (hw : wantD l (vis [] te) o = some true) (he : ev.contains i = true) (hna : isAl al i = false) {te' : TE} (hd : (∃ j, o.dst = some j ∧ Nat.blt j N = true ∧ te' = (j, De v.e, some i) :: te) ∨ (o.dst = none ∧ te' = te))
  (g : Zx Zp P C N l m De al pre ev v h k Q bs (i + 1) rest te') : Zx Zp P C N l m De al pre ev v h k Q bs i (o :: rest) te := by
 subst hiv
 intro H0 vals a hbs kt hN hdf
 refine ⟨vals v.e, ?_, ?_⟩
 ·unfold Jz.OK
  rw [KaF (KbL hbs kt) hw, if_pos rfl, if_pos he]
  refine ⟨rfl, ?_⟩
  rintro S w ⟨H, x, hG, hle, hdn, c, hev⟩ hSi hpS
  replace hpS : ∀ k ∈ pre.getD v.e [], S k = true := hpS
  have hpS' := hpS
  rw [hp] at hpS
  have htok := ht ▸ Kbf hbs kt hle fun e he he2 => hev e (hpS e (by simpa using he)) he2
  rw [hSi] at c
  refine (hx _ H a w c htok).mono ?_
  rintro r w' ⟨H', x', hG', hle', c', hr⟩
  have hal : Kap al (Jx.upd S v.e true) (Jx.upd vals v.e r) = Kap al S vals := KaC fun e hea => by
   have : e ≠ v.e := fun q => by rw [q, hna] at hea; cases hea
   exact ⟨Jx.upd_ne _ _ this, fun _ => Jx.upd_ne _ _ this⟩
  refine ⟨H', x', fun _ => hG', Hp.le_trans hle hle', Kdt hdn hpS', ?_, fun e hes hee => ?_⟩
  ·rw [hal, Jx.upd_same]; exact c'
  ·by_cases hei : e = v.e
   ·subst hei
    rw [Jx.upd_same]
    exact ⟨fun q => (by rw [hna] at q; cases q), fun _ => hr⟩
   ·rw [Jx.upd_ne _ _ hei] at hes ⊢
    exact ⟨(hev e hes hee).1, fun q => ((hev e hes hee).2 q).mono hle'⟩
 ·rcases hd with ⟨j, hd, hi, rfl⟩ | ⟨hd, rfl⟩
  ·rw [hd]
   refine g H0 vals _ hbs (kt.put (by rw [hN]; simpa using hi) (fun q => by cases q) (fun e q => ?_)) ?_ hdf
   ·cases q
    exact ⟨rfl, by unfold dE; rw [hna]; rfl, he⟩
   ·simp only [Act.put, Array.size_setIfInBounds]; exact hN
  ·rw [hd]
   exact g H0 vals _ hbs kt hN hdf
def ZpD (Zc : Int × Int → List PanicEntry) (C : Ctx) (pe : Int × Int) (c : List PanicEntry) (w : World) : Prop := c = Zc pe ∧ ∃ H', Core C H' [] [] w
theorem zx_nil0 {v : Hx X} (hG : ∀ x, ¬ v.G x) (hv : ev.contains v.e = true) : Zx Zp P C N l m De al pre ev v h k Q bs i [] te := by
 intro H0 vals a hbs kt hN hdf S w hS hC
 obtain ⟨H, x, hg, _⟩ := hC
 exact (hG x (hg (hS _ hv))).elim
theorem zx_callE {Zc : Int × Int → List PanicEntry} {ρ : Type} {pe : Int × Int} {f : FuncId} {args : List Operand} {ts : Array TypeId} {j : Nat} {p : List Nat} {t : List (Nat × D)} {ds ds' : List D} {h1 h2 : List (Nat × Blk)} {k1 k2 : List (Nat × Value)} {R : ρ → D → List (Nat × Blk) → List (Nat × Value) → Prop}
  (hp : pre.getD i [] = p) (ht : vis p te = t) (hiv : i = v.e) (hc : Kba Zc P f ds' h1 k1 (.inl pe) R) (ho : o.op = .call ⟨.value (.func f), args.toArray, ts⟩) (ha : Kbz args (opD t) = some ds) (hwk : WkL ds ds')
  (hh : h.Perm (h1 ++ h2)) (hk : k.Perm (k1 ++ k2)) {d : D} (hDe : De v.e = d)
  (hw : wantD l (vis [] te) o = some true) (he : ev.contains i = true) (hna : isAl al i = false) (hd : o.dst = some j) (hi : Nat.blt j N = true)
  (g : Zx (ZpD Zc C pe) P C N l m De al pre ev v h k Q bs (i + 1) rest ((j, d, some i) :: te)) : Zx (ZpD Zc C pe) P C N l m De al pre ev v h k Q bs i (o :: rest) te := by
 subst hDe
 refine zx_heavy hp ht hiv (fun hh' H a w c kt => ?_) hw he hna (.inl ⟨j, hd, hi, rfl⟩) g
 obtain ⟨hg, hc⟩ := hc
 unfold Jz.Gives
 rw [KdV ho hg]
 simp only []
 have hv := hwk H _ (KbK kt ha)
 rw [List.map_toArray]
 have c1 : Core C H (h1 ++ (h2 ++ hh')) (k1 ++ k2) w := c.perm (by rw [← List.append_assoc]; exact hh.append_right hh') hk
 have nd := (KbX h1 (h2 ++ hh') k1 k2).nodup_iff.1 c1.nd
 rw [List.nodup_append] at nd
 refine (hc H w _ hv c.ag (fun q hq => c1.blks q (List.mem_append_left _ hq)) (fun q hq => c1.toks q (List.mem_append_left _ hq)) nd.1).mono ?_
 rintro e w' ⟨rfl, H', hcore⟩
 refine .inr ⟨_, rfl, rfl, H', ?_⟩
 have := Core.call (h1' := []) (k1' := []) c1 hcore
 exact this.drop (List.nil_sublist _) (List.nil_sublist _)
theorem wpD_heavyZ {Zc : Int × Int → List PanicEntry} {pe : Int × Int} {id : Nat} {t : List (Nat × D)} (m : Nat) (al : AL) (pre : List (List Nat)) (ev : List Nat) (tp : List (List Nat)) (v : Hx X) (x0 : X) (gQ : Q (.panic (Zc pe)) ⟨[], [], []⟩) (hfo : P.follows .mixedOrders = true) (hsl : Jx.slotsB l.toArray = true)
  (hp : Jx.preB l.toArray (fun i => pre.getD i []) = true) (hpe : pre.all (·.all ev.contains) = true) (hev : ev.all (· < (l.take m).length) = true) (hsuf : Jx.sufB l.toArray tp (l.take m).length = true)
  (hwalk : ExDs ev fun De => ∀ bs, Zx (ZpD Zc C pe) P C N l m De al pre ev v h k Q bs 0 (l.take m) (Kdj t)) : wpD P C N (.region id l.toArray true) ⟨t, h, k⟩ Q := by
 obtain ⟨De, hwalk⟩ := Kga hwalk
 rintro a w ⟨H, c, kt, hN, hdf⟩
 have key := Jz.region_any (Zp := ZpD Zc C pe) (P := P) (Q := QD C N Q) (id := id) (w := w) (a0 := a) (l1 := l.take m) (l2 := l.drop m) (Cx C De al pre ev v h k H) (fun i => pre.getD i []) (fun i => ev.contains i) tp ?_ hfo (by rw [List.take_append_drop]; exact hsl) (by rw [List.take_append_drop]; exact hp) ?_ ?_
  (by rw [List.take_append_drop]; exact hsuf) ?_ ?_ ?_
 ·rw [List.take_append_drop] at key; exact key
 ·rintro c a' w' e1 e2 ⟨rfl, H', c'⟩
  exact ⟨⟨[], [], []⟩, ⟨H', c', fun i d e => by simp [look] at e, by rw [e1]; exact hN, by rw [e2]; exact hdf⟩, gQ⟩
 ·intro i k hk
  rw [List.all_eq_true] at hpe
  by_cases hi : i < pre.length
  ·have e : pre.getD i [] = pre[i] := by simp [hi]
   rw [e] at hk
   exact List.all_eq_true.1 (hpe _ (List.getElem_mem hi)) k hk
  ·have e : pre.getD i [] = [] := by simp [Nat.le_of_not_lt hi]
   rw [e] at hk; cases hk
 ·intro i hi
  rw [List.all_eq_true] at hev
  simpa using hev i (by simpa using hi)
 ·rintro S vals vals' w hv ⟨H', x, hG, hle, hdn, c', hr⟩
  refine ⟨H', x, hG, hle, hdn, ?_, fun e hes hee => ?_⟩
  ·rw [← KaC (S := S) (S' := S) (vals := vals) (vals' := vals') fun e _ => ⟨rfl, hv e⟩]; exact c'
  ·rw [← hv e hes]; exact hr e hes hee
 ·intro vals
  refine ⟨H, x0, (fun q => by cases q), Hp.le_refl H, (fun e he => by cases he), ?_, fun e he => by cases he⟩
  rw [Kds, List.append_nil]
  exact c.drew
 ·intro vals
  rw [List.take_append_drop]
  exact hwalk (fun e => blk (vals e)) H vals a (fun _ => rfl) (fun j d o e => by
   obtain ⟨h1, h2⟩ := KdX e
   obtain ⟨r, h3, h4⟩ := kt j d h1
   exact ⟨r, h3, fun _ H' hle => h4.mono hle, fun e he => by rw [h2] at he; cases he⟩) hN hdf
end
end Go.Proofs.YtipfljkjjddapaaGreatDoor.Ab.Az
