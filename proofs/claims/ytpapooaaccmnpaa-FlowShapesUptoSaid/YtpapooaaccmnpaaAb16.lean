/- An abstract machine, part 16: drawn regions in which one event turns what is one's own; blocks given and given back. Over any program. -/
import Derived.Test.YtpapooaaccmnpaaAb15
namespace Go.Proofs.Ytpapooaaccmnpaa.Ab
open Go
set_option linter.all false

/-- The event that turns what is one's own; what is then one's own; what it gives. -/
structure Hv where
  e : Nat
  h1 : Value → List (Nat × Blk)
  k1 : Value → List (Nat × Value)
  d : Value → D

section
variable (P : Program) (C : Ctx) (N : Nat) (l : List Oper) (m : Nat) (De : Nat → D) (al : AL) (pre : List (List Nat)) (ev : List Nat) (v : Hv) (h : List (Nat × Blk)) (k : List (Nat × Value)) (Q : Exit → S → Prop)
def dH (x : Value) (e : Nat) : D := bif Nat.beq e v.e then v.d x else De e
def Ch (H0 : Hp) (S : Nat → Bool) (vals : Nat → Value) (w : World) : Prop :=
  ∃ H, H0.le H ∧ (∀ e, S e = true → ev.contains e = true → ∀ p ∈ pre.getD e [], S p = true) ∧ Core C H ((bif S v.e then v.h1 (vals v.e) else h) ++ allocs al S vals) (bif S v.e then v.k1 (vals v.e) else k) w ∧
    ∀ e, S e = true → ev.contains e = true → (isAl al e = true → vals e = .pointer (some ⟨blk (vals e), 0, none⟩)) ∧ (isAl al e = false → Rep H (dH De v (vals v.e) e) (vals e))
def finH (H0 : Hp) (vals : Nat → Value) (a : Act) : Prop := ∀ S w, (∀ i, ev.contains i = true → S i = true) → Ch C De al pre ev v h k H0 S vals w → wpList P l.toArray (QD C N Q) (l.drop m) a w
def Zh (bs : Nat → Nat) (y : Value) (i : Nat) (rest : List Oper) (te : TE) : Prop :=
  ∀ H0 vals a, (∀ e, bs e = blk (vals e)) → y = vals v.e → TOKz (dH De v y) al ev H0 bs vals te a → a.tmps.size = N → a.defers = [] →
    Jx.Lx P l.toArray (Ch C De al pre ev v h k H0) (fun i => pre.getD i []) (fun i => ev.contains i) vals (finH P C N l m De al pre ev v h k Q H0 vals) i rest a
end

section
variable {P : Program} {C : Ctx} {N : Nat} {l : List Oper} {m : Nat} {De : Nat → D} {al : AL} {pre : List (List Nat)} {ev : List Nat} {v : Hv} {h : List (Nat × Blk)} {k : List (Nat × Value)} {Q : Exit → S → Prop} {tab : List (Option TI)} {bs : Nat → Nat} {y : Value} {i : Nat} {o : Oper} {rest : List Oper} {te : TE}

theorem zh_nil {t' : List (Nat × D)} {h' : List (Nat × Blk)} {k' : List (Nat × Value)} (e1 : vis ev te = t') (e2 : (v.h1 y ++ al.map fun x => (bs x.1, Blk.cells x.2.1 x.2.2)) = h') (e3 : v.k1 y = k') (hv : ev.contains v.e = true) (hal : ∀ e, isAl al e = true → ev.contains e = true) (g : opsD P C N l (l.drop m) ⟨t', h', k'⟩ Q) : Zh P C N l m De al pre ev v h k Q bs y i [] te := by
  intro H0 vals a hbs hy kt hN hdf S w hS hC
  obtain ⟨H, hle, _, c, hev⟩ := hC
  subst e1; subst e2; subst e3; subst hy
  have hse := hS _ hv
  rw [hse] at c
  simp only [cond_true] at c
  refine g a w ⟨H, ?_, vis_tok hbs kt hle fun e _ he => hev e (hS e he) he, hN, hdf⟩
  rw [allocs_all fun e he => hS e (hal e he)] at c
  have : (fun x : Nat × List D × TypeId => (bs x.1, Blk.cells x.2.1 x.2.2)) = fun x => (blk (vals x.1), Blk.cells x.2.1 x.2.2) := by funext x; rw [hbs]
  rw [this]; exact c
theorem zh_skip {j : Nat} (hw : wantD l (vis [] te) o = some false) (hd : o.dst = some j) (hi : Nat.blt j N = true) (hne : ev.contains i = false) (g : Zh P C N l m De al pre ev v h k Q bs y (i + 1) rest ((j, .v (.tuple #[]), none) :: te)) : Zh P C N l m De al pre ev v h k Q bs y i (o :: rest) te := by
  intro H0 vals a hbs hy kt hN hdf
  refine ⟨undef, ?_, ?_⟩
  · unfold Jx.OK
    rw [wantD_ok (vis_nil hbs kt) hw, if_neg (by simp)]
    exact ⟨rfl, fun he => by have he' : ev.contains i = true := he; rw [hne] at he'; cases he'⟩
  · rw [hd]
    refine g H0 vals _ hbs hy (kt.put (by rw [hN]; simpa using hi) (fun _ H _ => ⟨by simp [RepC, undef, Value.cells], rfl⟩) (fun e he => by cases he)) ?_ hdf
    simp only [Act.put, Array.size_setIfInBounds]; exact hN
/-- A plain value, of an operation that looks at no memory. -/
theorem zh_q {j : Nat} {x : Value} {p : List Nat} {t : List (Nat × D)} (hp : pre.getD i [] = p) (ht : vis p te = t) (hx : Ex P o t (.v x)) (hw : wantD l (vis [] te) o = some true) (hd : o.dst = some j) (hi : Nat.blt j N = true) (hne : ev.contains i = false) (hone : one x = true) (_hpe : p.all ev.contains = true)
    (g : Zh P C N l m De al pre ev v h k Q bs y (i + 1) rest ((j, .v x, none) :: te)) : Zh P C N l m De al pre ev v h k Q bs y i (o :: rest) te := by
  intro H0 vals a hbs hy kt hN hdf
  refine ⟨x, ?_, ?_⟩
  · unfold Jx.OK
    rw [wantD_ok (vis_nil hbs kt) hw, if_pos rfl, if_neg (by show ¬ ev.contains i = true; rw [hne]; exact Bool.false_ne_true)]
    rintro S w ⟨H, hle, _, c, hev⟩ hpS
    replace hpS : ∀ k ∈ pre.getD i [], S k = true := hpS
    rw [hp] at hpS
    obtain ⟨r, h1, h2⟩ := hx H a w (ht ▸ vis_tok hbs kt hle fun e he he2 => hy ▸ hev e (hpS e (by simpa using he)) he2)
    rw [rep_v_inv h2] at h1
    exact h1
  · rw [hd]
    refine g H0 vals _ hbs hy (kt.put (by rw [hN]; simpa using hi) (fun _ H _ => rep_v hone) (fun e he => by cases he)) ?_ hdf
    simp only [Act.put, Array.size_setIfInBounds]; exact hN
theorem down_upd {S : Nat → Bool} (hdn : ∀ e, S e = true → ev.contains e = true → ∀ p ∈ pre.getD e [], S p = true) (hpS : ∀ k ∈ pre.getD i [], S k = true) : ∀ e, Jx.upd S i true e = true → ev.contains e = true → ∀ p ∈ pre.getD e [], Jx.upd S i true p = true := by
  intro e he hee p hp
  by_cases hpi : p = i
  · rw [hpi, Jx.upd_same]
  · rw [Jx.upd_ne _ _ hpi]
    by_cases hei : e = i
    · subst hei; exact hpS p hp
    · rw [Jx.upd_ne _ _ hei] at he
      exact hdn e he hee p hp
/-- An event that turns nothing: whichever state it finds. -/
theorem zh_event {j : Nat} {p : List Nat} {t : List (Nat × D)} {d : D} (hp : pre.getD i [] = p) (ht : vis p te = t)
    (hx0 : p.contains v.e = false → ∀ hh H a w, Core C H (h ++ hh) k w → TOK H t a → Jx.Gives P o a w fun r w' => ∃ H', Core ⟨H, w, []⟩ H' [] [] w' ∧ Rep H' d r)
    (hx1 : (pre.getD v.e []).contains i = false → ∀ hh H a w, Core C H (v.h1 y ++ hh) (v.k1 y) w → TOK H t a → Jx.Gives P o a w fun r w' => ∃ H', Core ⟨H, w, []⟩ H' [] [] w' ∧ Rep H' d r)
    (hw : wantD l (vis [] te) o = some true) (hd : o.dst = some j) (hi : Nat.blt j N = true) (he : ev.contains i = true) (hev0 : ev.contains v.e = true) (hna : isAl al i = false) (hnv : Nat.beq i v.e = false) (hDe : De i = d)
    (g : Zh P C N l m De al pre ev v h k Q bs y (i + 1) rest ((j, d, some i) :: te)) : Zh P C N l m De al pre ev v h k Q bs y i (o :: rest) te := by
  intro H0 vals a hbs hy kt hN hdf
  subst hDe
  have hne : i ≠ v.e := Nat.ne_of_beq_eq_false hnv
  refine ⟨vals i, ?_, ?_⟩
  · unfold Jx.OK
    rw [wantD_ok (vis_nil hbs kt) hw, if_pos rfl, if_pos he]
    refine ⟨rfl, ?_⟩
    rintro S w ⟨H, hle, hdn, c, hev⟩ hSi hpS
    replace hpS : ∀ k ∈ pre.getD i [], S k = true := hpS
    have hpS' := hpS
    rw [hp] at hpS
    have htok := ht ▸ vis_tok hbs kt hle fun e he he2 => hy ▸ hev e (hpS e (by simpa using he)) he2
    have key : Jx.Gives P o a w fun r w' => ∃ H', Core ⟨H, w, []⟩ H' [] [] w' ∧ Rep H' (De i) r := by
      cases hs : S v.e with
      | false =>
        rw [hs] at c
        refine hx0 ?_ _ H a w c htok
        cases hc : p.contains v.e with
        | false => rfl
        | true => rw [hpS v.e (by simpa using hc)] at hs; cases hs
      | true =>
        rw [hs] at c
        rw [← hy] at c
        refine hx1 ?_ _ H a w c htok
        cases hc : (pre.getD v.e []).contains i with
        | false => rfl
        | true =>
          have hm : i ∈ pre.getD v.e [] := by
            rw [List.contains_iff_exists_mem_beq] at hc
            obtain ⟨z, hz, hb⟩ := hc
            have : i = z := by simpa using hb
            rw [this]; exact hz
          rw [hdn v.e hs hev0 i hm] at hSi; cases hSi
    refine key.mono ?_
    rintro r w' ⟨H', c', hr⟩
    have hal : allocs al (Jx.upd S i true) (Jx.upd vals i r) = allocs al S vals := allocs_congr fun e hea => by
      have : e ≠ i := fun q => by rw [q, hna] at hea; cases hea
      exact ⟨Jx.upd_ne _ _ this, fun _ => Jx.upd_ne _ _ this⟩
    refine ⟨H', Hp.le_trans hle c'.le, down_upd hdn hpS', ?_, fun e hes hee => ?_⟩
    · rw [hal, Jx.upd_ne _ _ (Ne.symm hne), Jx.upd_ne _ _ (Ne.symm hne)]
      have := Core.call (h1 := []) (k1 := []) c c'
      exact this
    · rw [Jx.upd_ne _ _ (Ne.symm hne)]
      by_cases hei : e = i
      · subst hei
        rw [Jx.upd_same]
        refine ⟨fun q => (by rw [hna] at q; cases q), fun _ => ?_⟩
        unfold dH
        rw [hnv]; exact hr
      · rw [Jx.upd_ne _ _ hei] at hes ⊢
        exact ⟨(hev e hes hee).1, fun q => ((hev e hes hee).2 q).mono c'.le⟩
  · rw [hd]
    refine g H0 vals _ hbs hy (kt.put (by rw [hN]; simpa using hi) (fun q => by cases q) (fun e q => ?_)) ?_ hdf
    · cases q
      exact ⟨rfl, by unfold dE dH; rw [hna, hnv]; rfl, he⟩
    · simp only [Act.put, Array.size_setIfInBounds]; exact hN
theorem gives_ok {a : Act} {w w' : World} {r : Value} {K : Value → World → Prop} (h1 : (execOp a.eval o).run P w = .ok (.value r) w') (hk : K r w') : Jx.Gives P o a w K := by
  unfold Jx.Gives; rw [h1]; exact hk
/-- One that looks at no memory. -/
theorem zh_e {j : Nat} {p : List Nat} {t : List (Nat × D)} {d : D} (hp : pre.getD i [] = p) (ht : vis p te = t) (hx : Ex P o t d) (hw : wantD l (vis [] te) o = some true) (hd : o.dst = some j) (hi : Nat.blt j N = true) (he : ev.contains i = true) (hev0 : ev.contains v.e = true) (hna : isAl al i = false) (hnv : Nat.beq i v.e = false) (hDe : De i = d)
    (g : Zh P C N l m De al pre ev v h k Q bs y (i + 1) rest ((j, d, some i) :: te)) : Zh P C N l m De al pre ev v h k Q bs y i (o :: rest) te :=
  zh_event hp ht (fun _ _ H a w c kt => let ⟨_, h1, h2⟩ := hx H a w kt; gives_ok h1 ⟨H, Core.here c.ag, h2⟩) (fun _ _ H a w c kt => let ⟨_, h1, h2⟩ := hx H a w kt; gives_ok h1 ⟨H, Core.here c.ag, h2⟩) hw hd hi he hev0 hna hnv hDe g
/-- One that may make what is told. -/
theorem zh_E {j : Nat} {p : List Nat} {t : List (Nat × D)} {d : D} (hp : pre.getD i [] = p) (ht : vis p te = t) (hx : ExE P o t d) (hw : wantD l (vis [] te) o = some true) (hd : o.dst = some j) (hi : Nat.blt j N = true) (he : ev.contains i = true) (hev0 : ev.contains v.e = true) (hna : isAl al i = false) (hnv : Nat.beq i v.e = false) (hDe : De i = d)
    (g : Zh P C N l m De al pre ev v h k Q bs y (i + 1) rest ((j, d, some i) :: te)) : Zh P C N l m De al pre ev v h k Q bs y i (o :: rest) te :=
  zh_event hp ht (fun _ _ H a w c kt => let ⟨_, _, H', h1, h2, h3⟩ := hx H a w c.ag kt; gives_ok h1 ⟨H', h2, h3⟩) (fun _ _ H a w c kt => let ⟨_, _, H', h1, h2, h3⟩ := hx H a w c.ag kt; gives_ok h1 ⟨H', h2, h3⟩) hw hd hi he hev0 hna hnv hDe g
/-- One that looks at memory. -/
theorem zh_M {j : Nat} {p : List Nat} {t : List (Nat × D)} {d : D} (hp : pre.getD i [] = p) (ht : vis p te = t) (hx0 : p.contains v.e = false → ExM P C h k o t d) (hx1 : (pre.getD v.e []).contains i = false → ExM P C (v.h1 y) (v.k1 y) o t d) (hw : wantD l (vis [] te) o = some true) (hd : o.dst = some j) (hi : Nat.blt j N = true) (he : ev.contains i = true) (hev0 : ev.contains v.e = true) (hna : isAl al i = false) (hnv : Nat.beq i v.e = false) (hDe : De i = d)
    (g : Zh P C N l m De al pre ev v h k Q bs y (i + 1) rest ((j, d, some i) :: te)) : Zh P C N l m De al pre ev v h k Q bs y i (o :: rest) te :=
  zh_event hp ht (fun q hh H a w c kt => let ⟨_, h1, h2⟩ := hx0 q hh H a w c kt; gives_ok h1 ⟨H, Core.here c.ag, h2⟩) (fun q hh H a w c kt => let ⟨_, h1, h2⟩ := hx1 q hh H a w c kt; gives_ok h1 ⟨H, Core.here c.ag, h2⟩) hw hd hi he hev0 hna hnv hDe g
theorem offB {b : Bool} {p : Prop} (hb : b = true) : b = false → p := fun q => by rw [hb] at q; cases q
/-- A call that is given no block and gives none back. -/
theorem zh_call {f : FuncId} {args : List Operand} {ts : Array TypeId} {j : Nat} {p : List Nat} {t : List (Nat × D)} {ds ds' : List D} {d : D} (hp : pre.getD i [] = p) (ht : vis p te = t) (hc : CallsD P f ds' [] [] (fun d' h k => d' = d ∧ h = [] ∧ k = [])) (ho : o.op = .call ⟨.value (.func f), args.toArray, ts⟩)
    (ha : someMap args (opD t) = some ds) (hwk : WkL ds ds') (hw : wantD l (vis [] te) o = some true) (hd : o.dst = some j) (hi : Nat.blt j N = true) (he : ev.contains i = true) (hev0 : ev.contains v.e = true) (hna : isAl al i = false) (hnv : Nat.beq i v.e = false) (hDe : De i = d)
    (g : Zh P C N l m De al pre ev v h k Q bs y (i + 1) rest ((j, d, some i) :: te)) : Zh P C N l m De al pre ev v h k Q bs y i (o :: rest) te := by
  have key : ∀ H a w, Ag H w → TOK H t a → Jx.Gives P o a w fun r w' => ∃ H', Core ⟨H, w, []⟩ H' [] [] w' ∧ Rep H' d r := fun H a w hA kt => by
    unfold Jx.Gives
    rw [call_run ho hc.1]
    simp only []
    have hv := hwk H _ (someMap_ok kt ha)
    rw [List.map_toArray]
    refine (hc.2 H w _ hv hA (by simp) (by simp) (by simp [claims, blkClaim])).mono ?_
    rintro e w' ⟨r, H', d', h', k', rfl, hr, hcore, rfl, rfl, rfl⟩
    exact ⟨r, rfl, H', hcore, hr⟩
  exact zh_event hp ht (fun _ _ H a w c kt => key H a w c.ag kt) (fun _ _ H a w c kt => key H a w c.ag kt) hw hd hi he hev0 hna hnv hDe g
/-- The event that turns what is one's own. -/
theorem zh_heavy {p : List Nat} {t : List (Nat × D)} (hp : pre.getD i [] = p) (ht : vis p te = t) (hiv : i = v.e)
    (hx : ∀ hh H a w, Core C H (h ++ hh) k w → TOK H t a → Jx.Gives P o a w fun r w' => ∃ H', H.le H' ∧ Core C H' (v.h1 r ++ hh) (v.k1 r) w' ∧ Rep H' (v.d r) r)
    (hw : wantD l (vis [] te) o = some true) (he : ev.contains i = true) (hna : isAl al i = false) {te' : TE} (hd : (∃ j, o.dst = some j ∧ Nat.blt j N = true ∧ te' = (j, v.d y, some i) :: te) ∨ (o.dst = none ∧ te' = te))
    (g : Zh P C N l m De al pre ev v h k Q bs y (i + 1) rest te') : Zh P C N l m De al pre ev v h k Q bs y i (o :: rest) te := by
  subst hiv
  intro H0 vals a hbs hy kt hN hdf
  refine ⟨vals v.e, ?_, ?_⟩
  · unfold Jx.OK
    rw [wantD_ok (vis_nil hbs kt) hw, if_pos rfl, if_pos he]
    refine ⟨rfl, ?_⟩
    rintro S w ⟨H, hle, hdn, c, hev⟩ hSi hpS
    replace hpS : ∀ k ∈ pre.getD v.e [], S k = true := hpS
    have hpS' := hpS
    rw [hp] at hpS
    have htok := ht ▸ vis_tok hbs kt hle fun e he he2 => hy ▸ hev e (hpS e (by simpa using he)) he2
    rw [hSi] at c
    refine (hx _ H a w c htok).mono ?_
    rintro r w' ⟨H', hle', c', hr⟩
    have hal : allocs al (Jx.upd S v.e true) (Jx.upd vals v.e r) = allocs al S vals := allocs_congr fun e hea => by
      have : e ≠ v.e := fun q => by rw [q, hna] at hea; cases hea
      exact ⟨Jx.upd_ne _ _ this, fun _ => Jx.upd_ne _ _ this⟩
    refine ⟨H', Hp.le_trans hle hle', down_upd hdn hpS', ?_, fun e hes hee => ?_⟩
    · rw [hal, Jx.upd_same, Jx.upd_same]; exact c'
    · rw [Jx.upd_same]
      by_cases hei : e = v.e
      · subst hei
        rw [Jx.upd_same]
        refine ⟨fun q => (by rw [hna] at q; cases q), fun _ => ?_⟩
        unfold dH
        rw [Nat.beq_refl]; exact hr
      · rw [Jx.upd_ne _ _ hei] at hes ⊢
        refine ⟨(hev e hes hee).1, fun q => ?_⟩
        have := ((hev e hes hee).2 q).mono hle'
        have hb : Nat.beq e v.e = false := by
          cases hb : Nat.beq e v.e with
          | false => rfl
          | true => exact absurd (Nat.eq_of_beq_eq_true hb) hei
        unfold dH at this ⊢
        rw [hb] at this ⊢; exact this
  · rcases hd with ⟨j, hd, hi, rfl⟩ | ⟨hd, rfl⟩
    · rw [hd]
      refine g H0 vals _ hbs hy (kt.put (by rw [hN]; simpa using hi) (fun q => by cases q) (fun e q => ?_)) ?_ hdf
      · cases q
        exact ⟨rfl, by unfold dE dH; rw [hna, Nat.beq_refl]; rfl, he⟩
      · simp only [Act.put, Array.size_setIfInBounds]; exact hN
    · rw [hd]
      exact g H0 vals _ hbs hy kt hN hdf
theorem wpD_heavy {id : Nat} {t : List (Nat × D)} (m : Nat) (al : AL) (pre : List (List Nat)) (ev : List Nat) (tp : List (List Nat)) (v : Hv) (hfo : P.follows .mixedOrders = true) (hsl : Jx.slotsB l.toArray = true)
    (hp : Jx.preB l.toArray (fun i => pre.getD i []) = true) (hpe : pre.all (·.all ev.contains) = true) (hev : ev.all (· < (l.take m).length) = true) (hsuf : Jx.sufB l.toArray tp (l.take m).length = true)
    (hwalk : ExDs ev fun De => ∀ bs y, Zh P C N l m De al pre ev v h k Q bs y 0 (l.take m) (startE t)) : wpD P C N (.region id l.toArray true) ⟨t, h, k⟩ Q := by
  obtain ⟨De, hwalk⟩ := exDs_ok hwalk
  rintro a w ⟨H, c, kt, hN, hdf⟩
  have key := Jx.region_any (P := P) (Q := QD C N Q) (id := id) (w := w) (a0 := a) (l1 := l.take m) (l2 := l.drop m) (Ch C De al pre ev v h k H) (fun i => pre.getD i []) (fun i => ev.contains i) tp hfo (by rw [List.take_append_drop]; exact hsl) (by rw [List.take_append_drop]; exact hp) ?_ ?_
    (by rw [List.take_append_drop]; exact hsuf) ?_ ?_ ?_
  · rw [List.take_append_drop] at key; exact key
  · intro i k hk
    rw [List.all_eq_true] at hpe
    by_cases hi : i < pre.length
    · have e : pre.getD i [] = pre[i] := by simp [hi]
      rw [e] at hk
      exact List.all_eq_true.1 (hpe _ (List.getElem_mem hi)) k hk
    · have e : pre.getD i [] = [] := by simp [Nat.le_of_not_lt hi]
      rw [e] at hk; cases hk
  · intro i hi
    rw [List.all_eq_true] at hev
    simpa using hev i (by simpa using hi)
  · rintro S vals vals' w hv ⟨H', hle, hdn, c', hr⟩
    have hb : (bif S v.e then v.h1 (vals v.e) else h) = (bif S v.e then v.h1 (vals' v.e) else h) ∧ (bif S v.e then v.k1 (vals v.e) else k) = (bif S v.e then v.k1 (vals' v.e) else k) := by
      cases hs : S v.e with
      | false => exact ⟨rfl, rfl⟩
      | true => rw [hv _ hs]; exact ⟨rfl, rfl⟩
    refine ⟨H', hle, hdn, ?_, fun e hes hee => ?_⟩
    · rw [← allocs_congr (S := S) (S' := S) (vals := vals) (vals' := vals') fun e _ => ⟨rfl, hv e⟩, ← hb.1, ← hb.2]; exact c'
    · rw [← hv e hes]
      refine ⟨(hr e hes hee).1, fun q => ?_⟩
      have := (hr e hes hee).2 q
      unfold dH at this ⊢
      cases hq : Nat.beq e v.e with
      | false => rw [hq] at this; exact this
      | true =>
        rw [hq] at this
        have e2 := Nat.eq_of_beq_eq_true hq
        rw [← hv v.e (e2 ▸ hes)]; exact this
  · intro vals
    refine ⟨H, Hp.le_refl H, (fun e he => by cases he), ?_, fun e he => by cases he⟩
    rw [allocs_none, List.append_nil]
    exact c.drew
  · intro vals
    rw [List.take_append_drop]
    exact hwalk (fun e => blk (vals e)) (vals v.e) H vals a (fun _ => rfl) rfl (fun j d o e => by
      obtain ⟨h1, h2⟩ := look_start e
      obtain ⟨r, h3, h4⟩ := kt j d h1
      exact ⟨r, h3, fun _ H' hle => h4.mono hle, fun e he => by rw [h2] at he; cases he⟩) hN hdf
end
end Go.Proofs.Ytpapooaaccmnpaa.Ab
