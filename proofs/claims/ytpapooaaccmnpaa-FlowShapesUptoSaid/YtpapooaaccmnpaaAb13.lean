/- An abstract machine, part 13: regions that draw their order. Over any program. -/
import Derived.Test.YtpapooaaccmnpaaAb12
import Derived.Test.YtpapooaaccmnpaaJx
namespace Go.Proofs.Ytpapooaaccmnpaa.Ab
open Go
set_option linter.all false

def blk : Value → Nat
  | .pointer (some a) => a.block
  | _ => 0
abbrev AL := List (Nat × List D × TypeId)
abbrev TE := List (Nat × D × Option Nat)
def isAl (al : AL) (e : Nat) : Bool := al.any fun x => x.1 == e
/-- The new variables that are there. -/
def allocs (al : AL) (S : Nat → Bool) (vals : Nat → Value) : List (Nat × Blk) :=
  match al with
  | [] => []
  | (e, ds, T) :: al => bif S e then (blk (vals e), .cells ds T) :: allocs al S vals else allocs al S vals
theorem allocs_congr {S S' : Nat → Bool} {vals vals' : Nat → Value} : ∀ {al : AL}, (∀ e, isAl al e = true → S e = S' e ∧ (S e = true → vals e = vals' e)) → allocs al S vals = allocs al S' vals'
  | [], _ => rfl
  | (e, ds, T) :: al, h => by
    have h1 := h e (by simp [isAl])
    have h2 := allocs_congr (al := al) (S := S) (S' := S') (vals := vals) (vals' := vals') fun x hx => h x (by simp only [isAl, List.any_cons, Bool.or_eq_true] at hx ⊢; exact .inr hx)
    simp only [allocs, h1.1, h2]
    cases hs : S' e with
    | true => rw [h1.2 (h1.1.trans hs)]
    | false => rfl
theorem allocs_none {vals : Nat → Value} : ∀ {al : AL}, allocs al (fun _ => false) vals = []
  | [] => rfl
  | (e, ds, T) :: al => by simp only [allocs, cond_false]; exact allocs_none
theorem allocs_all {S : Nat → Bool} {vals : Nat → Value} : ∀ {al : AL}, (∀ e, isAl al e = true → S e = true) → allocs al S vals = al.map fun x => (blk (vals x.1), .cells x.2.1 x.2.2)
  | [], _ => rfl
  | (e, ds, T) :: al, h => by
    have h2 := allocs_all (al := al) (S := S) (vals := vals) fun x hx => h x (by simp only [isAl, List.any_cons, Bool.or_eq_true] at hx ⊢; exact .inr hx)
    simp only [allocs, h e (by simp [isAl]), cond_true, h2, List.map_cons]
theorem allocs_new {S : Nat → Bool} {vals : Nat → Value} {i : Nat} {v : Value} {ds : List D} {T : TypeId} (hS : S i = false) : ∀ {al : AL}, (i, ds, T) ∈ al → (al.map (·.1)).Nodup →
    (allocs al (Jx.upd S i true) (Jx.upd vals i v)).Perm (allocs al S vals ++ [(blk v, .cells ds T)])
  | [], h, _ => by cases h
  | (e, ds', T') :: al, h, hn => by
    simp only [List.map_cons, List.nodup_cons] at hn
    by_cases he : e = i
    · subst he
      have hin : (ds', T') = (ds, T) := by
        rcases List.mem_cons.1 h with h1 | h1
        · simp only [Prod.mk.injEq, true_and] at h1 ⊢; exact ⟨h1.1.symm, h1.2.symm⟩
        · exact absurd (List.mem_map.2 ⟨_, h1, rfl⟩) hn.1
      simp only [Prod.mk.injEq] at hin
      obtain ⟨rfl, rfl⟩ := hin
      have hrest : allocs al (Jx.upd S e true) (Jx.upd vals e v) = allocs al S vals := allocs_congr fun x hx => by
        have : x ≠ e := fun q => by
          subst q
          obtain ⟨y, hy, hq⟩ := List.any_eq_true.1 hx
          exact hn.1 (List.mem_map.2 ⟨y, hy, by simpa using hq⟩)
        exact ⟨Jx.upd_ne _ _ this, fun _ => Jx.upd_ne _ _ this⟩
      simp only [allocs, Jx.upd_same, cond_true, hS, cond_false, hrest]
      exact (List.perm_append_singleton _ _).symm
    · have ih := allocs_new (v := v) (vals := vals) hS (al := al) (by
        rcases List.mem_cons.1 h with h1 | h1
        · simp only [Prod.mk.injEq] at h1; exact absurd h1.1.symm he
        · exact h1) hn.2
      simp only [allocs, Jx.upd_ne _ _ he]
      cases S e with
      | true => simp only [cond_true, List.cons_append]; exact ih.cons _
      | false => simpa using ih

section
variable (P : Program) (C : Ctx) (N : Nat) (l : List Oper) (m : Nat) (De : Nat → D) (al : AL) (pre : List (List Nat)) (ev : List Nat) (h : List (Nat × Blk)) (k : List (Nat × Value)) (Q : Exit → S → Prop)
def Cz (H0 : Hp) (S : Nat → Bool) (vals : Nat → Value) (w : World) : Prop :=
  ∃ H, H0.le H ∧ Core C H (h ++ allocs al S vals) k w ∧ ∀ e, S e = true → ev.contains e = true → (isAl al e = true → vals e = .pointer (some ⟨blk (vals e), 0, none⟩)) ∧ (isAl al e = false → Rep H (De e) (vals e))
def dE (bs : Nat → Nat) (e : Nat) : D := bif isAl al e then .ptr (bs e) 0 else De e
def look3 : TE → Nat → Option (D × Option Nat)
  | [], _ => none
  | (j, d, o) :: te, i => bif Nat.beq j i then some (d, o) else look3 te i
/-- What is seen behind the events p. -/
def vis (p : List Nat) : TE → List (Nat × D)
  | [] => []
  | (j, d, none) :: te => (j, d) :: vis p te
  | (j, d, some e) :: te => (j, bif p.contains e then d else .any) :: vis p te
def TOKz (H0 : Hp) (bs : Nat → Nat) (vals : Nat → Value) (te : TE) (a : Act) : Prop :=
  ∀ j d o, look3 te j = some (d, o) → ∃ v, a.tmps[j]? = some v ∧ (o = none → ∀ H, H0.le H → Rep H d v) ∧ ∀ e, o = some e → v = vals e ∧ d = dE De al bs e ∧ ev.contains e = true
def finZ (H0 : Hp) (vals : Nat → Value) (a : Act) : Prop := ∀ S w, (∀ i, ev.contains i = true → S i = true) → Cz C De al ev h k H0 S vals w → wpList P l.toArray (QD C N Q) (l.drop m) a w
def Zw (bs : Nat → Nat) (i : Nat) (rest : List Oper) (te : TE) : Prop :=
  ∀ H0 vals a, (∀ e, bs e = blk (vals e)) → TOKz De al ev H0 bs vals te a → a.tmps.size = N → a.defers = [] →
    Jx.Lx P l.toArray (Cz C De al ev h k H0) (fun i => pre.getD i []) (fun i => ev.contains i) vals (finZ P C N l m De al ev h k Q H0 vals) i rest a
end

section
variable {P : Program} {C : Ctx} {N : Nat} {l : List Oper} {m : Nat} {De : Nat → D} {al : AL} {pre : List (List Nat)} {ev : List Nat} {h : List (Nat × Blk)} {k : List (Nat × Value)} {Q : Exit → S → Prop} {tab : List (Option TI)} {bs : Nat → Nat} {i : Nat} {o : Oper} {rest : List Oper} {te : TE}

theorem look_vis {p : List Nat} : ∀ {te : TE} {j : Nat} {d : D}, look (vis p te) j = some d → ∃ d' o, look3 te j = some (d', o) ∧ ((o = none ∧ d = d') ∨ (∃ e, o = some e ∧ p.contains e = true ∧ d = d') ∨ d = .any)
  | [], j, d, e => by simp [vis, look] at e
  | (j0, d0, none) :: te, j, d, e => by
    simp only [vis, look, look3] at e ⊢
    cases hb : Nat.beq j0 j with
    | true => rw [hb] at e; simp at e; exact ⟨d0, none, by simp, .inl ⟨rfl, e.symm⟩⟩
    | false => rw [hb] at e; simpa using look_vis e
  | (j0, d0, some e0) :: te, j, d, e => by
    simp only [vis, look, look3] at e ⊢
    cases hb : Nat.beq j0 j with
    | true =>
      rw [hb] at e; simp only [cond_true, Option.some.injEq] at e
      refine ⟨d0, some e0, by simp, ?_⟩
      cases hp : p.contains e0 with
      | true => rw [hp] at e; exact .inr (.inl ⟨e0, rfl, hp, e.symm⟩)
      | false => rw [hp] at e; exact .inr (.inr e.symm)
    | false => rw [hb] at e; simpa using look_vis e
theorem vis_tok {H0 H : Hp} {vals : Nat → Value} {a : Act} {p : List Nat} (hbs : ∀ e, bs e = blk (vals e)) (kt : TOKz De al ev H0 bs vals te a) (hle : H0.le H)
    (hev : ∀ e, p.contains e = true → ev.contains e = true → (isAl al e = true → vals e = .pointer (some ⟨blk (vals e), 0, none⟩)) ∧ (isAl al e = false → Rep H (De e) (vals e))) : TOK H (vis p te) a := by
  intro j d e
  obtain ⟨d', o, h1, h2⟩ := look_vis e
  obtain ⟨v, h3, h4, h5⟩ := kt j d' o h1
  refine ⟨v, h3, ?_⟩
  rcases h2 with ⟨rfl, rfl⟩ | ⟨e0, rfl, hp, rfl⟩ | rfl
  · exact h4 rfl H hle
  · obtain ⟨rfl, rfl, h6⟩ := h5 e0 rfl
    have h7 := hev e0 hp h6
    unfold dE
    cases ha : isAl al e0 with
    | true => simp only [cond_true]; rw [h7.1 ha, hbs]; exact rep_cell (by simp [RepC]) rfl rfl
    | false => simp only [cond_false]; exact h7.2 ha
  · exact ⟨by simp [RepC], by cases v <;> rfl⟩
theorem TOKz.put {H0 : Hp} {vals : Nat → Value} {a : Act} (kt : TOKz De al ev H0 bs vals te a) {j : Nat} {d : D} {o : Option Nat} {v : Value} (hj : j < a.tmps.size) (h1 : o = none → ∀ H, H0.le H → Rep H d v) (h2 : ∀ e, o = some e → v = vals e ∧ d = dE De al bs e ∧ ev.contains e = true) :
    TOKz De al ev H0 bs vals ((j, d, o) :: te) (a.put (some j) v) := by
  intro j' d' o' e
  simp only [look3] at e
  simp only [Act.put]
  cases hb : Nat.beq j j' with
  | true =>
    rw [hb] at e; simp at e
    obtain ⟨rfl, rfl⟩ := e
    have := Nat.eq_of_beq_eq_true hb; subst this
    exact ⟨v, by simp [hj], h1, h2⟩
  | false =>
    rw [hb] at e; simp at e
    have hne : j ≠ j' := Nat.ne_of_beq_eq_false hb
    obtain ⟨u, h3, h4⟩ := kt j' d' o' e
    exact ⟨u, by rw [Array.getElem?_setIfInBounds_ne hne]; exact h3, h4⟩
theorem vis_nil {H0 : Hp} {vals : Nat → Value} {a : Act} (hbs : ∀ e, bs e = blk (vals e)) (kt : TOKz De al ev H0 bs vals te a) : TOK H0 (vis [] te) a := vis_tok hbs kt (Hp.le_refl _) fun e he => by simp at he

theorem z_nil {t' : List (Nat × D)} {h' : List (Nat × Blk)} (e1 : vis ev te = t') (e2 : (h ++ al.map fun x => (bs x.1, Blk.cells x.2.1 x.2.2)) = h') (hal : ∀ e, isAl al e = true → ev.contains e = true) (g : opsD P C N l (l.drop m) ⟨t', h', k⟩ Q) : Zw P C N l m De al pre ev h k Q bs i [] te := by
  intro H0 vals a hbs kt hN hdf S w hS hC
  obtain ⟨H, hle, c, hev⟩ := hC
  subst e1; subst e2
  refine g a w ⟨H, ?_, vis_tok hbs kt hle fun e _ he => hev e (hS e he) he, hN, hdf⟩
  rw [allocs_all fun e he => hS e (hal e he)] at c
  have : (fun x : Nat × List D × TypeId => (bs x.1, Blk.cells x.2.1 x.2.2)) = fun x => (blk (vals x.1), Blk.cells x.2.1 x.2.2) := by funext x; rw [hbs]
  rw [this]; exact c
theorem z_skip {j : Nat} (hw : wantD l (vis [] te) o = some false) (hd : o.dst = some j) (hi : Nat.blt j N = true) (hne : ev.contains i = false) (g : Zw P C N l m De al pre ev h k Q bs (i + 1) rest ((j, .v (.tuple #[]), none) :: te)) : Zw P C N l m De al pre ev h k Q bs i (o :: rest) te := by
  intro H0 vals a hbs kt hN hdf
  refine ⟨undef, ?_, ?_⟩
  · unfold Jx.OK
    rw [wantD_ok (vis_nil hbs kt) hw, if_neg (by simp)]
    exact ⟨rfl, fun he => by have he' : ev.contains i = true := he; rw [hne] at he'; cases he'⟩
  · rw [hd]
    refine g H0 vals _ hbs (kt.put (by rw [hN]; simpa using hi) (fun _ H _ => ⟨by simp [RepC, undef, Value.cells], rfl⟩) (fun e he => by cases he)) ?_ hdf
    simp only [Act.put, Array.size_setIfInBounds]; exact hN
/-- An operation that gives a plain value, whatever came ahead. -/
theorem z_quiet {j : Nat} {x : Value} {p : List Nat} (hp : pre.getD i [] = p) (hw : wantD l (vis [] te) o = some true) (hd : o.dst = some j) (hi : Nat.blt j N = true) (hne : ev.contains i = false) (hone : one x = true) (_hpe : p.all ev.contains = true)
    (hx : ∀ hh H a w, Core C H (h ++ hh) k w → TOK H (vis p te) a → ∃ v, (execOp a.eval o).run P w = .ok (.value v) w ∧ Rep H (.v x) v)
    (g : Zw P C N l m De al pre ev h k Q bs (i + 1) rest ((j, .v x, none) :: te)) : Zw P C N l m De al pre ev h k Q bs i (o :: rest) te := by
  intro H0 vals a hbs kt hN hdf
  refine ⟨x, ?_, ?_⟩
  · unfold Jx.OK
    rw [wantD_ok (vis_nil hbs kt) hw, if_pos rfl, if_neg (by show ¬ ev.contains i = true; rw [hne]; exact Bool.false_ne_true)]
    rintro S w ⟨H, hle, c, hev⟩ hpS
    replace hpS : ∀ k ∈ pre.getD i [], S k = true := hpS
    rw [hp] at hpS
    obtain ⟨v, h1, h2⟩ := hx _ H a w c (vis_tok hbs kt hle fun e he he2 => hev e (hpS e (by simpa using he)) he2)
    rw [rep_v_inv h2] at h1
    exact h1
  · rw [hd]
    refine g H0 vals _ hbs (kt.put (by rw [hN]; simpa using hi) (fun _ H _ => rep_v hone) (fun e he => by cases he)) ?_ hdf
    simp only [Act.put, Array.size_setIfInBounds]; exact hN
/-- An event. -/
theorem z_event {j : Nat} {p : List Nat} {d : D} (hp : pre.getD i [] = p) (hw : wantD l (vis [] te) o = some true) (hd : o.dst = some j) (hi : Nat.blt j N = true) (he : ev.contains i = true) (hna : isAl al i = false) (hDe : De i = d)
    (hx : ∀ hh H a w, Core C H (h ++ hh) k w → TOK H (vis p te) a → Jx.Gives P o a w fun v w' => ∃ H', H.le H' ∧ Core ⟨H, w, []⟩ H' [] [] w' ∧ Rep H' d v)
    (g : Zw P C N l m De al pre ev h k Q bs (i + 1) rest ((j, d, some i) :: te)) : Zw P C N l m De al pre ev h k Q bs i (o :: rest) te := by
  intro H0 vals a hbs kt hN hdf
  subst hDe
  refine ⟨vals i, ?_, ?_⟩
  · unfold Jx.OK
    rw [wantD_ok (vis_nil hbs kt) hw, if_pos rfl, if_pos he]
    refine ⟨rfl, ?_⟩
    rintro S w ⟨H, hle, c, hev⟩ hSi hpS
    replace hpS : ∀ k ∈ pre.getD i [], S k = true := hpS
    rw [hp] at hpS
    refine (hx _ H a w c (vis_tok hbs kt hle fun e he he2 => hev e (hpS e (by simpa using he)) he2)).mono ?_
    rintro v w' ⟨H', hle', c', hr⟩
    have hal : allocs al (Jx.upd S i true) (Jx.upd vals i v) = allocs al S vals := allocs_congr fun e hea => by
      have : e ≠ i := fun q => by rw [q, hna] at hea; cases hea
      exact ⟨Jx.upd_ne _ _ this, fun _ => Jx.upd_ne _ _ this⟩
    refine ⟨H', Hp.le_trans hle hle', ?_, fun e hes hee => ?_⟩
    · rw [hal]
      have := Core.call (h1 := []) (k1 := []) (h2 := h ++ allocs al S vals) (k2 := k) c c'
      simpa using this
    · by_cases hei : e = i
      · subst hei
        rw [Jx.upd_same]
        exact ⟨fun q => (by rw [hna] at q; cases q), fun _ => hr⟩
      · rw [Jx.upd_ne _ _ hei] at hes ⊢
        exact ⟨(hev e hes hee).1, fun q => ((hev e hes hee).2 q).mono hle'⟩
  · rw [hd]
    refine g H0 vals _ hbs (kt.put (by rw [hN]; simpa using hi) (fun q => by cases q) (fun e q => ?_)) ?_ hdf
    · cases q
      exact ⟨rfl, by unfold dE; rw [hna]; rfl, he⟩
    · simp only [Act.put, Array.size_setIfInBounds]; exact hN
/-- A new variable. -/
theorem z_new {j : Nat} {p : List Nat} {ds : List D} {T : TypeId} (hp : pre.getD i [] = p) (hw : wantD l (vis [] te) o = some true) (hd : o.dst = some j) (hi : Nat.blt j N = true) (he : ev.contains i = true) (hia : (i, ds, T) ∈ al) (hnd : (al.map (·.1)).Nodup)
    (hx : ∀ hh H a w, Core C H (h ++ hh) k w → TOK H (vis p te) a → ∃ us, (execOp a.eval o).run P w = .ok (.value (.pointer (some ⟨w.heap.size, 0, none⟩))) (w.alloc (.cells (List.toArray us) T)) ∧ Reps H ds us)
    (g : Zw P C N l m De al pre ev h k Q bs (i + 1) rest ((j, .ptr (bs i) 0, some i) :: te)) : Zw P C N l m De al pre ev h k Q bs i (o :: rest) te := by
  intro H0 vals a hbs kt hN hdf
  have hisal : isAl al i = true := List.any_eq_true.2 ⟨_, hia, by simp⟩
  refine ⟨vals i, ?_, ?_⟩
  · unfold Jx.OK
    rw [wantD_ok (vis_nil hbs kt) hw, if_pos rfl, if_pos he]
    refine ⟨rfl, ?_⟩
    rintro S w ⟨H, hle, c, hev⟩ hSi hpS
    replace hpS : ∀ k ∈ pre.getD i [], S k = true := hpS
    rw [hp] at hpS
    obtain ⟨us, h1, h2⟩ := hx _ H a w c (vis_tok hbs kt hle fun e he he2 => hev e (hpS e (by simpa using he)) he2)
    unfold Jx.Gives
    rw [h1]
    refine ⟨H, hle, ?_, fun e hes hee => ?_⟩
    · have c' := c.alloc T h2
      refine c'.perm ?_ (List.Perm.refl _)
      rw [List.append_assoc]
      exact List.Perm.append_left h (allocs_new (v := .pointer (some ⟨w.heap.size, 0, none⟩)) (vals := vals) hSi hia hnd).symm
    · by_cases hei : e = i
      · subst hei
        rw [Jx.upd_same]
        exact ⟨fun _ => rfl, fun q => (by rw [hisal] at q; cases q)⟩
      · rw [Jx.upd_ne _ _ hei] at hes ⊢
        exact hev e hes hee
  · rw [hd]
    refine g H0 vals _ hbs (kt.put (by rw [hN]; simpa using hi) (fun q => by cases q) (fun e q => ?_)) ?_ hdf
    · cases q
      exact ⟨rfl, by unfold dE; rw [hisal]; rfl, he⟩
    · simp only [Act.put, Array.size_setIfInBounds]; exact hN

def startE : List (Nat × D) → TE
  | [] => []
  | (j, d) :: t => (j, d, none) :: startE t
theorem look_start : ∀ {t : List (Nat × D)} {j : Nat} {d : D} {o : Option Nat}, look3 (startE t) j = some (d, o) → look t j = some d ∧ o = none
  | [], j, d, o, e => by simp [startE, look3] at e
  | (j0, d0) :: t, j, d, o, e => by
    simp only [startE, look3, look] at e ⊢
    cases hb : Nat.beq j0 j with
    | true => rw [hb] at e; simp at e; exact ⟨by simp [e.1], e.2.symm⟩
    | false => rw [hb] at e; simpa using look_start e
theorem wpD_drawn {id : Nat} {t : List (Nat × D)} (m : Nat) (De : Nat → D) (al : AL) (pre : List (List Nat)) (ev : List Nat) (tp : List (List Nat)) (hfo : P.follows .mixedOrders = true) (hsl : Jx.slotsB l.toArray = true)
    (hp : Jx.preB l.toArray (fun i => pre.getD i []) = true) (hpe : pre.all (·.all ev.contains) = true) (hev : ev.all (· < (l.take m).length) = true) (hsuf : Jx.sufB l.toArray tp (l.take m).length = true)
    (hwalk : ∀ bs, Zw P C N l m De al pre ev h k Q bs 0 (l.take m) (startE t)) : wpD P C N (.region id l.toArray true) ⟨t, h, k⟩ Q := by
  rintro a w ⟨H, c, kt, hN, hdf⟩
  have key := Jx.region_any (P := P) (Q := QD C N Q) (id := id) (w := w) (a0 := a) (l1 := l.take m) (l2 := l.drop m) (Cz C De al ev h k H) (fun i => pre.getD i []) (fun i => ev.contains i) tp hfo (by rw [List.take_append_drop]; exact hsl) (by rw [List.take_append_drop]; exact hp) ?_ ?_
    (by rw [List.take_append_drop]; exact hsuf) ?_ ?_ ?_
  · rw [List.take_append_drop] at key; exact key
  · intro i k hk
    rw [List.all_eq_true] at hpe
    by_cases hi : i < pre.length
    · have e : pre.getD i [] = pre[i] := by simp [hi]
      rw [e] at hk
      exact List.all_eq_true.1 (hpe _ (List.getElem_mem hi)) k hk
    · have e : pre.getD i [] = [] := by simp [Nat.le_of_not_lt hi]
      rw [e] at hk; cases hk
  · intro i hi
    rw [List.all_eq_true] at hev
    simpa using hev i (by simpa using hi)
  · rintro S vals vals' w hv ⟨H', hle, c', hr⟩
    refine ⟨H', hle, ?_, fun e hes hee => ?_⟩
    · rw [← allocs_congr (S := S) (S' := S) (vals := vals) (vals' := vals') fun e _ => ⟨rfl, hv e⟩]; exact c'
    · rw [← hv e hes]; exact hr e hes hee
  · intro vals
    refine ⟨H, Hp.le_refl H, ?_, fun e he => by cases he⟩
    rw [allocs_none, List.append_nil]
    exact c.drew
  · intro vals
    rw [List.take_append_drop]
    exact hwalk (fun e => blk (vals e)) H vals a (fun _ => rfl) (fun j d o e => by
      obtain ⟨h1, h2⟩ := look_start e
      obtain ⟨v, h3, h4⟩ := kt j d h1
      exact ⟨v, h3, fun _ H' hle => h4.mono hle, fun e he => by rw [h2] at he; cases he⟩) hN hdf
end
end Go.Proofs.Ytpapooaaccmnpaa.Ab
