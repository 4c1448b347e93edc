/- An abstract machine, part 18: drawn regions in which new variables are made and filled. Over any program. -/
import Derived.Test.YtpapooaaccmnpaaAb17
namespace Go.Proofs.Ytpapooaaccmnpaa.Ab
open Go
set_option linter.all false
/-- Fills: the alloc's event, the store's event, the cells behind it. -/
abbrev FL := List (Nat × Nat × List D)
def isF (fl : FL) (i : Nat) : Bool := fl.any fun x => Nat.beq x.2.1 i
def cellsF (fl : FL) (S : Nat → Bool) (e : Nat) (zs : List D) : List D :=
  match fl with
  | [] => zs
  | (a, s, ds) :: fl => bif Nat.beq a e && S s then ds else cellsF fl S e zs
def alS (fl : FL) (S : Nat → Bool) (al : AL) : AL := al.map fun x => (x.1, cellsF fl S x.1 x.2.1, x.2.2)
theorem isAl_alS {fl : FL} {S : Nat → Bool} {al : AL} {e : Nat} : isAl (alS fl S al) e = isAl al e := by
  unfold isAl alS
  rw [List.any_map]; rfl
theorem cellsF_upd {S : Nat → Bool} {i e : Nat} {zs : List D} : ∀ {fl : FL}, isF fl i = false → cellsF fl (Jx.upd S i true) e zs = cellsF fl S e zs
  | [], _ => rfl
  | (a, s, ds) :: fl, h => by
    unfold isF at h
    simp only [List.any_cons, Bool.or_eq_false_iff] at h
    have hs : s ≠ i := Nat.ne_of_beq_eq_false h.1
    unfold cellsF
    rw [Jx.upd_ne _ _ hs, cellsF_upd (fl := fl) h.2]
theorem alS_upd {fl : FL} {S : Nat → Bool} {al : AL} {i : Nat} (h : isF fl i = false) : alS fl (Jx.upd S i true) al = alS fl S al := by
  unfold alS
  exact List.map_congr_left fun x _ => by rw [cellsF_upd h]
theorem cellsF_no {S : Nat → Bool} {e : Nat} {zs : List D} : ∀ {fl : FL}, (∀ x ∈ fl, x.1 = e → S x.2.1 = false) → cellsF fl S e zs = zs
  | [], _ => rfl
  | (a, s, ds) :: fl, h => by
    unfold cellsF
    have ih := cellsF_no (fl := fl) (zs := zs) (S := S) (e := e) fun x hx => h x (by simp [hx])
    cases hb : Nat.beq a e with
    | false => simpa using ih
    | true =>
      have := h (a, s, ds) (by simp) (Nat.eq_of_beq_eq_true hb)
      simp only at this
      rw [this]; simpa using ih
/-- Behind a fill the one block is another. -/
theorem allocs_set {S : Nat → Bool} {vals : Nat → Value} {e : Nat} {d1 d2 : List D} {T : TypeId} (hS : S e = true) : ∀ {al1 al2 : AL}, al1.length = al2.length → (∀ (j : Nat) (x y : Nat × List D × TypeId), al1[j]? = some x → al2[j]? = some y → x.1 = y.1 ∧ x.2.2 = y.2.2 ∧ (x.1 ≠ e → x = y) ∧ (x.1 = e → x = (e, d1, T) ∧ y = (e, d2, T))) → (al1.map (·.1)).Nodup → isAl al1 e = true →
    ∃ j, (allocs al1 S vals)[j]? = some (blk (vals e), .cells d1 T) ∧ allocs al2 S vals = (allocs al1 S vals).set j (blk (vals e), .cells d2 T)
  | [], _, _, _, _, h => by cases h
  | _ :: _, [], h, _, _, _ => by cases h
  | (e1, c1, T1) :: l1, (e2, c2, T2) :: l2, hl, hc, hn, hi => by
    have h0 := hc 0 _ _ rfl rfl
    simp only at h0
    obtain ⟨rfl, q2, q3, q4⟩ := h0
    simp only [List.map_cons, List.nodup_cons] at hn
    have hrest : ∀ (j : Nat) (x y : Nat × List D × TypeId), l1[j]? = some x → l2[j]? = some y → x.1 = y.1 ∧ x.2.2 = y.2.2 ∧ (x.1 ≠ e → x = y) ∧ (x.1 = e → x = (e, d1, T) ∧ y = (e, d2, T)) := fun j x y hx hy => hc (j + 1) x y (by simpa using hx) (by simpa using hy)
    have hlen : l1.length = l2.length := by simpa using hl
    by_cases he : e1 = e
    · obtain ⟨q5, q6⟩ := q4 he
      simp only [Prod.mk.injEq] at q5 q6
      obtain ⟨_, rfl, rfl⟩ := q5
      obtain ⟨_, rfl, rfl⟩ := q6
      subst he
      have same : l1 = l2 := by
        apply List.ext_getElem? 
        intro j
        cases hx : l1[j]? with
        | none => rw [List.getElem?_eq_none_iff] at hx; rw [List.getElem?_eq_none_iff.2 (by omega)]
        | some x =>
          obtain ⟨hjl, hxe⟩ := List.getElem?_eq_some_iff.1 hx
          have hy : l2[j]? = some (l2[j]'(by omega)) := List.getElem?_eq_getElem _
          have := (hrest j x _ hx hy).2.2.1 fun q => hn.1 (List.mem_map.2 ⟨x, List.mem_of_getElem? hx, q⟩)
          rw [hy, this]
      subst same
      refine ⟨0, ?_, ?_⟩
      · simp only [allocs, hS, cond_true]; rfl
      · simp only [allocs, hS, cond_true]; rfl
    · have q5 := q3 he
      simp only [Prod.mk.injEq, true_and] at q5
      obtain ⟨rfl, rfl⟩ := q5
      have hi' : isAl l1 e = true := by
        unfold isAl at hi ⊢
        simp only [List.any_cons, Bool.or_eq_true, beq_iff_eq] at hi ⊢
        rcases hi with h | h
        · exact absurd h he
        · exact h
      obtain ⟨j, j1, j2⟩ := allocs_set (vals := vals) hS hlen hrest hn.2 hi'
      cases hs : S e1 with
      | true =>
        refine ⟨j + 1, ?_, ?_⟩
        · simp only [allocs, hs, cond_true, List.getElem?_cons_succ]; exact j1
        · simp only [allocs, hs, cond_true, List.set_cons_succ, j2]
      | false =>
        refine ⟨j, ?_, ?_⟩
        · simp only [allocs, hs, cond_false]; exact j1
        · simp only [allocs, hs, cond_false]; exact j2

section
variable (P : Program) (C : Ctx) (N : Nat) (l : List Oper) (m : Nat) (De : Nat → D) (al : AL) (fl : FL) (pre : List (List Nat)) (ev : List Nat) (h : List (Nat × Blk)) (k : List (Nat × Value)) (Q : Exit → S → Prop)
def Cf (H0 : Hp) (S : Nat → Bool) (vals : Nat → Value) (w : World) : Prop :=
  ∃ H, H0.le H ∧ (∀ e, S e = true → ev.contains e = true → ∀ p ∈ pre.getD e [], S p = true) ∧ Core C H (h ++ allocs (alS fl S al) S vals) k w ∧ ∀ e, S e = true → ev.contains e = true → (isAl al e = true → vals e = .pointer (some ⟨blk (vals e), 0, none⟩)) ∧ (isAl al e = false → Rep H (De e) (vals e))
def finF (H0 : Hp) (vals : Nat → Value) (a : Act) : Prop := ∀ S w, (∀ i, ev.contains i = true → S i = true) → Cf C De al fl pre ev h k H0 S vals w → wpList P l.toArray (QD C N Q) (l.drop m) a w
def Zf (bs : Nat → Nat) (i : Nat) (rest : List Oper) (te : TE) : Prop :=
  ∀ H0 vals a, (∀ e, bs e = blk (vals e)) → TOKz De al ev H0 bs vals te a → a.tmps.size = N → a.defers = [] →
    Jx.Lx P l.toArray (Cf C De al fl pre ev h k H0) (fun i => pre.getD i []) (fun i => ev.contains i) vals (finF P C N l m De al fl pre ev h k Q H0 vals) i rest a
end
section
variable {P : Program} {C : Ctx} {N : Nat} {l : List Oper} {m : Nat} {De : Nat → D} {al : AL} {fl : FL} {pre : List (List Nat)} {ev : List Nat} {h : List (Nat × Blk)} {k : List (Nat × Value)} {Q : Exit → S → Prop} {tab : List (Option TI)} {bs : Nat → Nat} {i : Nat} {o : Oper} {rest : List Oper} {te : TE}
theorem zf_nil {t' : List (Nat × D)} {h' : List (Nat × Blk)} (e1 : vis ev te = t') (e2 : (h ++ (alS fl (fun _ => true) al).map fun x => (bs x.1, Blk.cells x.2.1 x.2.2)) = h') (hfe : fl.all (fun x => ev.contains x.2.1) = true) (hal : ∀ e, isAl al e = true → ev.contains e = true) (g : opsD P C N l (l.drop m) ⟨t', h', k⟩ Q) : Zf P C N l m De al fl pre ev h k Q bs i [] te := by
  intro H0 vals a hbs kt hN hdf S w hS hC
  obtain ⟨H, hle, _, c, hev⟩ := hC
  subst e1; subst e2
  refine g a w ⟨H, ?_, vis_tok hbs kt hle fun e _ he => hev e (hS e he) he, hN, hdf⟩
  have hcl : alS fl S al = alS fl (fun _ => true) al := by
    unfold alS
    refine List.map_congr_left fun x _ => ?_
    have : ∀ fl : FL, fl.all (fun x => ev.contains x.2.1) = true → cellsF fl S x.1 x.2.1 = cellsF fl (fun _ => true) x.1 x.2.1 := by
      intro fl
      induction fl with
      | nil => intro _; rfl
      | cons y fl ih =>
        intro hy
        simp only [List.all_cons, Bool.and_eq_true] at hy
        obtain ⟨ya, ys, yd⟩ := y
        unfold cellsF
        rw [ih hy.2, hS ys hy.1]
    rw [this fl hfe]
  rw [hcl] at c
  rw [allocs_all fun e he => hS e (hal e (by rw [isAl_alS] at he; exact he))] at c
  have : (fun x : Nat × List D × TypeId => (bs x.1, Blk.cells x.2.1 x.2.2)) = fun x => (blk (vals x.1), Blk.cells x.2.1 x.2.2) := by funext x; rw [hbs]
  rw [this]; exact c
theorem zf_skip {j : Nat} (hw : wantD l (vis [] te) o = some false) (hd : o.dst = some j) (hi : Nat.blt j N = true) (hne : ev.contains i = false) (g : Zf P C N l m De al fl pre ev h k Q bs (i + 1) rest ((j, .v (.tuple #[]), none) :: te)) : Zf P C N l m De al fl pre ev h k Q bs i (o :: rest) te := by
  intro H0 vals a hbs kt hN hdf
  refine ⟨undef, ?_, ?_⟩
  · unfold Jx.OK
    rw [wantD_ok (vis_nil hbs kt) hw, if_neg (by simp)]
    exact ⟨rfl, fun he => by have he' : ev.contains i = true := he; rw [hne] at he'; cases he'⟩
  · rw [hd]
    refine g H0 vals _ hbs (kt.put (by rw [hN]; simpa using hi) (fun _ H _ => ⟨by simp [RepC, undef, Value.cells], rfl⟩) (fun e he => by cases he)) ?_ hdf
    simp only [Act.put, Array.size_setIfInBounds]; exact hN
theorem zf_quiet {j : Nat} {x : Value} {p : List Nat} (hp : pre.getD i [] = p) (hw : wantD l (vis [] te) o = some true) (hd : o.dst = some j) (hi : Nat.blt j N = true) (hne : ev.contains i = false) (hone : one x = true) (_hpe : p.all ev.contains = true)
    (hx : ∀ hh H a w, Core C H (h ++ hh) k w → TOK H (vis p te) a → ∃ v, (execOp a.eval o).run P w = .ok (.value v) w ∧ Rep H (.v x) v)
    (g : Zf P C N l m De al fl pre ev h k Q bs (i + 1) rest ((j, .v x, none) :: te)) : Zf P C N l m De al fl pre ev h k Q bs i (o :: rest) te := by
  intro H0 vals a hbs kt hN hdf
  refine ⟨x, ?_, ?_⟩
  · unfold Jx.OK
    rw [wantD_ok (vis_nil hbs kt) hw, if_pos rfl, if_neg (by show ¬ ev.contains i = true; rw [hne]; exact Bool.false_ne_true)]
    rintro S w ⟨H, hle, _, c, hev⟩ hpS
    replace hpS : ∀ k ∈ pre.getD i [], S k = true := hpS
    rw [hp] at hpS
    obtain ⟨v, h1, h2⟩ := hx _ H a w c (vis_tok hbs kt hle fun e he he2 => hev e (hpS e (by simpa using he)) he2)
    rw [rep_v_inv h2] at h1
    exact h1
  · rw [hd]
    refine g H0 vals _ hbs (kt.put (by rw [hN]; simpa using hi) (fun _ H _ => rep_v hone) (fun e he => by cases he)) ?_ hdf
    simp only [Act.put, Array.size_setIfInBounds]; exact hN
theorem allocs_ev {S : Nat → Bool} {vals : Nat → Value} {r : Value} (hna : isAl al i = false) (hnf : isF fl i = false) : allocs (alS fl (Jx.upd S i true) al) (Jx.upd S i true) (Jx.upd vals i r) = allocs (alS fl S al) S vals := by
  rw [alS_upd hnf]
  refine allocs_congr fun e hea => ?_
  rw [isAl_alS] at hea
  have : e ≠ i := fun q => by rw [q, hna] at hea; cases hea
  exact ⟨Jx.upd_ne _ _ this, fun _ => Jx.upd_ne _ _ this⟩
theorem zf_event {j : Nat} {p : List Nat} {d : D} (hp : pre.getD i [] = p) (hw : wantD l (vis [] te) o = some true) (hd : o.dst = some j) (hi : Nat.blt j N = true) (he : ev.contains i = true) (hna : isAl al i = false) (hnf : isF fl i = false) (hDe : De i = d)
    (hx : ∀ hh H a w, Core C H (h ++ hh) k w → TOK H (vis p te) a → Jx.Gives P o a w fun v w' => ∃ H', H.le H' ∧ Core ⟨H, w, []⟩ H' [] [] w' ∧ Rep H' d v)
    (g : Zf P C N l m De al fl pre ev h k Q bs (i + 1) rest ((j, d, some i) :: te)) : Zf P C N l m De al fl pre ev h k Q bs i (o :: rest) te := by
  intro H0 vals a hbs kt hN hdf
  subst hDe
  refine ⟨vals i, ?_, ?_⟩
  · unfold Jx.OK
    rw [wantD_ok (vis_nil hbs kt) hw, if_pos rfl, if_pos he]
    refine ⟨rfl, ?_⟩
    rintro S w ⟨H, hle, hdn, c, hev⟩ hSi hpS
    replace hpS : ∀ k ∈ pre.getD i [], S k = true := hpS
    have hpS' := hpS
    rw [hp] at hpS
    refine (hx _ H a w c (vis_tok hbs kt hle fun e he he2 => hev e (hpS e (by simpa using he)) he2)).mono ?_
    rintro v w' ⟨H', hle', c', hr⟩
    refine ⟨H', Hp.le_trans hle hle', down_upd hdn hpS', ?_, fun e hes hee => ?_⟩
    · rw [allocs_ev hna hnf]
      have := Core.call (h1 := []) (k1 := []) (h2 := h ++ allocs (alS fl S al) S vals) (k2 := k) c c'
      simpa using this
    · by_cases hei : e = i
      · subst hei
        rw [Jx.upd_same]
        exact ⟨fun q => (by rw [hna] at q; cases q), fun _ => hr⟩
      · rw [Jx.upd_ne _ _ hei] at hes ⊢
        exact ⟨(hev e hes hee).1, fun q => ((hev e hes hee).2 q).mono hle'⟩
  · rw [hd]
    refine g H0 vals _ hbs (kt.put (by rw [hN]; simpa using hi) (fun q => by cases q) (fun e q => ?_)) ?_ hdf
    · cases q
      exact ⟨rfl, by unfold dE; rw [hna]; rfl, he⟩
    · simp only [Act.put, Array.size_setIfInBounds]; exact hN
theorem zf_new {j : Nat} {p : List Nat} {ds : List D} {T : TypeId} (hp : pre.getD i [] = p) (hw : wantD l (vis [] te) o = some true) (hd : o.dst = some j) (hi : Nat.blt j N = true) (he : ev.contains i = true) (hnf : isF fl i = false) (hfp : fl.all (fun x => ev.contains x.2.1 && (!Nat.beq x.1 i || (pre.getD x.2.1 []).any (Nat.beq i))) = true) (hia : (i, ds, T) ∈ al) (hnd : (al.map (·.1)).Nodup)
    (hx : ∀ hh H a w, Core C H (h ++ hh) k w → TOK H (vis p te) a → ∃ us, (execOp a.eval o).run P w = .ok (.value (.pointer (some ⟨w.heap.size, 0, none⟩))) (w.alloc (.cells (List.toArray us) T)) ∧ Reps H ds us)
    (g : Zf P C N l m De al fl pre ev h k Q bs (i + 1) rest ((j, .ptr (bs i) 0, some i) :: te)) : Zf P C N l m De al fl pre ev h k Q bs i (o :: rest) te := by
  intro H0 vals a hbs kt hN hdf
  have hisal : isAl al i = true := List.any_eq_true.2 ⟨_, hia, by simp⟩
  refine ⟨vals i, ?_, ?_⟩
  · unfold Jx.OK
    rw [wantD_ok (vis_nil hbs kt) hw, if_pos rfl, if_pos he]
    refine ⟨rfl, ?_⟩
    rintro S w ⟨H, hle, hdn, c, hev⟩ hSi hpS
    replace hpS : ∀ k ∈ pre.getD i [], S k = true := hpS
    have hpS' := hpS
    rw [hp] at hpS
    obtain ⟨us, h1, h2⟩ := hx _ H a w c (vis_tok hbs kt hle fun e he he2 => hev e (hpS e (by simpa using he)) he2)
    unfold Jx.Gives
    rw [h1]
    refine ⟨H, hle, down_upd hdn hpS', ?_, fun e hes hee => ?_⟩
    · have c' := c.alloc T h2
      refine c'.perm ?_ (List.Perm.refl _)
      rw [List.append_assoc, alS_upd hnf]
      have hz : cellsF fl S i ds = ds := cellsF_no fun x hx hxi => by
        have := List.all_eq_true.1 hfp x hx
        simp only [Bool.and_eq_true, Bool.or_eq_true, Bool.not_eq_true'] at this
        obtain ⟨q1, q2⟩ := this
        rcases q2 with q2 | q2
        · exact absurd hxi (Nat.ne_of_beq_eq_false q2)
        · cases hs : S x.2.1 with
          | false => rfl
          | true =>
            obtain ⟨z, hz1, hz2⟩ := List.any_eq_true.1 q2
            have := hdn x.2.1 hs q1 z hz1
            rw [← Nat.eq_of_beq_eq_true hz2, hSi] at this; cases this
      have hin : (i, ds, T) ∈ alS fl S al := by
        unfold alS
        exact List.mem_map.2 ⟨_, hia, by simp only [hz]⟩
      have hnd' : ((alS fl S al).map (·.1)).Nodup := by
        unfold alS
        rw [List.map_map]; exact hnd
      exact List.Perm.append_left h (allocs_new (v := .pointer (some ⟨w.heap.size, 0, none⟩)) (vals := vals) hSi hin hnd').symm
    · by_cases hei : e = i
      · subst hei
        rw [Jx.upd_same]
        exact ⟨fun _ => rfl, fun q => (by rw [hisal] at q; cases q)⟩
      · rw [Jx.upd_ne _ _ hei] at hes ⊢
        exact hev e hes hee
  · rw [hd]
    refine g H0 vals _ hbs (kt.put (by rw [hN]; simpa using hi) (fun q => by cases q) (fun e q => ?_)) ?_ hdf
    · cases q
      exact ⟨rfl, by unfold dE; rw [hisal]; rfl, he⟩
    · simp only [Act.put, Array.size_setIfInBounds]; exact hN
theorem cellsF_own {S : Nat → Bool} {e i : Nat} {zs : List D} : ∀ {fl : FL}, fl.all (fun x => Nat.beq x.1 e == Nat.beq x.2.1 i) = true → cellsF fl (Jx.upd S i true) e zs = cellsF fl (fun s => Nat.beq s i) e zs
  | [], _ => rfl
  | (a, s, ds) :: fl, h => by
    simp only [List.all_cons, Bool.and_eq_true, beq_iff_eq] at h
    unfold cellsF
    rw [cellsF_own (fl := fl) h.2]
    cases hb : Nat.beq a e with
    | false => rfl
    | true =>
      have := Nat.eq_of_beq_eq_true (h.1.symm.trans hb)
      subst this
      rw [Jx.upd_same, Nat.beq_refl]
theorem cellsF_off {S : Nat → Bool} {e e' i : Nat} {zs : List D} (hne : e' ≠ e) : ∀ {fl : FL}, fl.all (fun x => Nat.beq x.1 e == Nat.beq x.2.1 i) = true → cellsF fl (Jx.upd S i true) e' zs = cellsF fl S e' zs
  | [], _ => rfl
  | (a, s, ds) :: fl, h => by
    simp only [List.all_cons, Bool.and_eq_true, beq_iff_eq] at h
    unfold cellsF
    rw [cellsF_off hne (fl := fl) h.2]
    cases hb : Nat.beq a e' with
    | false => rfl
    | true =>
      have ha := Nat.eq_of_beq_eq_true hb
      subst ha
      have : s ≠ i := fun q => by
        subst q
        have h1 := h.1
        rw [Nat.beq_refl] at h1
        exact hne (Nat.eq_of_beq_eq_true h1)
      rw [Jx.upd_ne _ _ this]
theorem nodup_one {e : Nat} {x y : List D × TypeId} : ∀ {al : AL}, (al.map (·.1)).Nodup → (e, x) ∈ al → (e, y) ∈ al → x = y
  | [], _, h, _ => by cases h
  | z :: al, hn, h1, h2 => by
    simp only [List.map_cons, List.nodup_cons] at hn
    rcases List.mem_cons.1 h1 with q1 | q1 <;> rcases List.mem_cons.1 h2 with q2 | q2
    · have := q1.trans q2.symm; simpa using this
    · exact absurd (List.mem_map.2 ⟨_, q2, by rw [← q1]⟩) hn.1
    · exact absurd (List.mem_map.2 ⟨_, q1, by rw [← q2]⟩) hn.1
    · exact nodup_one hn.2 q1 q2
/-- A store into a variable that the region has made. -/
theorem zf_fill {e off : Nat} {T T' : TypeId} {x z : Operand} {zs ds' : List D} {ti0 : TI} {d : D} {p : List Nat} {t : List (Nat × D)} (hT : TabOK P tab) (hp : pre.getD i [] = p) (ht : vis p te = t) (ho : o.op = .store T x z) (hw : wantD l (vis [] te) o = some true) (hd : o.dst = none) (he : ev.contains i = true) (hna : isAl al i = false)
    (hx : opD t x = some (.ptr (bs e) off)) (hpe : p.any (Nat.beq e) = true) (hia : (e, zs, T') ∈ al) (hnd : (al.map (·.1)).Nodup) (hfo : fl.all (fun x => Nat.beq x.1 e == Nat.beq x.2.1 i) = true)
    (hti : ti tab T = some ti0) (hy : opD t z = some d) (hs : stor d = true) (hsz : Nat.beq (dcells d).length ti0.size = true) (hle : Nat.ble (off + ti0.size) zs.length = true)
    (e1 : lay zs off (dcells d) = ds') (e2 : cellsF fl (fun s => Nat.beq s i) e zs = ds') (hDe : De i = .any)
    (g : Zf P C N l m De al fl pre ev h k Q bs (i + 1) rest te) : Zf P C N l m De al fl pre ev h k Q bs i (o :: rest) te := by
  subst e1
  intro H0 vals a hbs kt hN hdf
  refine ⟨vals i, ?_, ?_⟩
  · unfold Jx.OK
    rw [wantD_ok (vis_nil hbs kt) hw, if_pos rfl, if_pos he]
    refine ⟨rfl, ?_⟩
    rintro S w ⟨H, hle0, hdn, c, hev⟩ hSi hpS
    replace hpS : ∀ k ∈ pre.getD i [], S k = true := hpS
    have hpS' := hpS
    rw [hp] at hpS
    have htok := ht ▸ vis_tok hbs kt hle0 fun e he he2 => hev e (hpS e (by simpa using he)) he2
    have hSe : S e = true := by
      obtain ⟨q, q1, q2⟩ := List.any_eq_true.1 hpe
      rw [Nat.eq_of_beq_eq_true q2]; exact hpS q q1
    have hz : cellsF fl S e zs = zs := cellsF_no fun x hx hxe => by
      have := List.all_eq_true.1 hfo x hx
      rw [hxe, Nat.beq_refl, beq_iff_eq] at this
      rw [Nat.eq_of_beq_eq_true this.symm]; exact hSi
    have hisal : isAl (alS fl S al) e = true := by rw [isAl_alS]; exact List.any_eq_true.2 ⟨_, hia, by simp⟩
    have hnd' : ((alS fl S al).map (·.1)).Nodup := by
      unfold alS
      rw [List.map_map]; exact hnd
    obtain ⟨j, j1, j2⟩ := allocs_set (vals := vals) (e := e) (d1 := zs) (d2 := lay zs off (dcells d)) (T := T') hSe (al1 := alS fl S al) (al2 := alS fl (Jx.upd S i true) al) (by simp [alS]) (by
      intro j x y hx hy
      unfold alS at hx hy
      rw [List.getElem?_map] at hx hy
      cases hq : al[j]? with
      | none => rw [hq] at hx; cases hx
      | some q =>
        rw [hq] at hx hy
        simp only [Option.map_some, Option.some.injEq] at hx hy
        subst hx; subst hy
        refine ⟨rfl, rfl, fun hne => ?_, fun heq => ?_⟩
        · simp only at hne
          rw [cellsF_off hne hfo]
        · simp only at heq
          obtain ⟨q1, q2⟩ := q
          simp only at heq
          subst heq
          have := nodup_one hnd (List.mem_of_getElem? hq) hia
          subst this
          simp only
          rw [hz, cellsF_own hfo, e2]
          exact ⟨rfl, rfl⟩) hnd' hisal
    have hb2 : (h ++ allocs (alS fl S al) S vals)[h.length + j]? = some (bs e, .cells zs T') := by
      rw [List.getElem?_append_right (Nat.le_add_right _ _), Nat.add_sub_cancel_left, j1, hbs]
    obtain ⟨us, h1, h2, h3⟩ := c.blks _ (List.mem_of_getElem? hb2)
    have hv := stor_cells hs (opD_ok htok hy)
    have hlen := reps_length hv
    have hlen2 := reps_length h2
    have q1 := Nat.eq_of_beq_eq_true hsz
    have q2 := Nat.le_of_ble_eq_true hle
    obtain ⟨w', h4, henv, h5, h6, h7⟩ := run_storeCells (P := P) (b := bs e) (off := off) (a.eval z).cells.toList 0 w us h1 (by omega) (reps_one hv)
    have hrun : (Instr.storeAt T (a.eval x) (a.eval z)).run P w = .ok () w' := by
      rw [rep_ptr_inv (opD_ok htok hx)]
      unfold Instr.storeAt
      rw [run_bind_ok (a := (⟨bs e, off, none⟩ : Addr)) rfl]
      unfold storeVar
      rw [run_bind_ok (run_sizeOf (ti_ok hT hti)), if_neg (by simp only [Array.length_toList] at hlen; omega)]
      exact h4
    have hex : (execOp a.eval o).run P w = .ok .skip w' := by
      unfold execOp
      rw [ho]
      show ((Instr.storeAt T (a.eval x) (a.eval z)) >>= fun _ => pure Next.skip).run P w = _
      rw [run_bind_ok hrun]; rfl
    unfold Jx.Gives
    rw [hex]
    have cw := c.write hb2 henv h5 h6 h7 (by simpa using reps_lay h2 hv off)
    rw [List.set_append_right _ _ (Nat.le_add_right _ _), Nat.add_sub_cancel_left] at cw
    have hal : ∀ r, allocs (alS fl (Jx.upd S i true) al) (Jx.upd S i true) (Jx.upd vals i r) = (allocs (alS fl S al) S vals).set j (bs e, .cells (lay zs off (dcells d)) T') := fun r => by
      rw [hbs, ← j2]
      refine allocs_congr fun e hea => ?_
      rw [isAl_alS] at hea
      have : e ≠ i := fun q => by rw [q, hna] at hea; cases hea
      exact ⟨Jx.upd_ne _ _ this, fun _ => Jx.upd_ne _ _ this⟩
    refine ⟨H, hle0, down_upd hdn hpS', by rw [hal]; exact cw, fun e2 hes hee => ?_⟩
    by_cases hei : e2 = i
    · subst hei
      rw [Jx.upd_same]
      refine ⟨fun q => (by rw [hna] at q; cases q), fun _ => ?_⟩
      rw [hDe]
      simp only [Rep, RepC]
      exact ⟨trivial, rfl⟩
    · rw [Jx.upd_ne _ _ hei] at hes ⊢
      exact hev e2 hes hee
  · rw [hd]
    exact g H0 vals _ hbs kt hN hdf
theorem zf_q {j : Nat} {x : Value} {p : List Nat} {t : List (Nat × D)} (hp : pre.getD i [] = p) (ht : vis p te = t) (hx : Ex P o t (.v x)) (hw : wantD l (vis [] te) o = some true) (hd : o.dst = some j) (hi : Nat.blt j N = true) (hne : ev.contains i = false) (hone : one x = true) (hpe : p.all ev.contains = true)
    (g : Zf P C N l m De al fl pre ev h k Q bs (i + 1) rest ((j, .v x, none) :: te)) : Zf P C N l m De al fl pre ev h k Q bs i (o :: rest) te :=
  zf_quiet hp hw hd hi hne hone hpe (fun _ H a w _ kt => hx H a w (ht ▸ kt)) g
theorem zf_e {j : Nat} {p : List Nat} {t : List (Nat × D)} {d : D} (hp : pre.getD i [] = p) (ht : vis p te = t) (hx : Ex P o t d) (hw : wantD l (vis [] te) o = some true) (hd : o.dst = some j) (hi : Nat.blt j N = true) (he : ev.contains i = true) (hna : isAl al i = false) (hnf : isF fl i = false) (hDe : De i = d)
    (g : Zf P C N l m De al fl pre ev h k Q bs (i + 1) rest ((j, d, some i) :: te)) : Zf P C N l m De al fl pre ev h k Q bs i (o :: rest) te :=
  zf_event hp hw hd hi he hna hnf hDe (fun _ H a w c kt => by
    obtain ⟨v, h1, h2⟩ := hx H a w (ht ▸ kt)
    unfold Jx.Gives
    rw [h1]
    exact ⟨H, Hp.le_refl H, Core.here c.ag, h2⟩) g
theorem zf_qM {j : Nat} {x : Value} {p : List Nat} {t : List (Nat × D)} (hp : pre.getD i [] = p) (ht : vis p te = t) (hx : ExM P C h k o t (.v x)) (hw : wantD l (vis [] te) o = some true) (hd : o.dst = some j) (hi : Nat.blt j N = true) (hne : ev.contains i = false) (hone : one x = true) (hpe : p.all ev.contains = true)
    (g : Zf P C N l m De al fl pre ev h k Q bs (i + 1) rest ((j, .v x, none) :: te)) : Zf P C N l m De al fl pre ev h k Q bs i (o :: rest) te :=
  zf_quiet hp hw hd hi hne hone hpe (fun hh H a w c kt => hx hh H a w c (ht ▸ kt)) g
theorem zf_eM {j : Nat} {p : List Nat} {t : List (Nat × D)} {d : D} (hp : pre.getD i [] = p) (ht : vis p te = t) (hx : ExM P C h k o t d) (hw : wantD l (vis [] te) o = some true) (hd : o.dst = some j) (hi : Nat.blt j N = true) (he : ev.contains i = true) (hna : isAl al i = false) (hnf : isF fl i = false) (hDe : De i = d)
    (g : Zf P C N l m De al fl pre ev h k Q bs (i + 1) rest ((j, d, some i) :: te)) : Zf P C N l m De al fl pre ev h k Q bs i (o :: rest) te :=
  zf_event hp hw hd hi he hna hnf hDe (fun hh H a w c kt => by
    obtain ⟨v, h1, h2⟩ := hx hh H a w c (ht ▸ kt)
    unfold Jx.Gives
    rw [h1]
    exact ⟨H, Hp.le_refl H, Core.here c.ag, h2⟩) g
theorem zf_call {f : FuncId} {args : List Operand} {ts : Array TypeId} {j : Nat} {p : List Nat} {t : List (Nat × D)} {ds ds' : List D} {d : D} (hp : pre.getD i [] = p) (ht : vis p te = t) (hc : CallsD P f ds' [] [] (fun d' h k => d' = d ∧ h = [] ∧ k = [])) (ho : o.op = .call ⟨.value (.func f), args.toArray, ts⟩)
    (ha : someMap args (opD t) = some ds) (hwk : WkL ds ds') (hw : wantD l (vis [] te) o = some true) (hd : o.dst = some j) (hi : Nat.blt j N = true) (he : ev.contains i = true) (hna : isAl al i = false) (hnf : isF fl i = false) (hDe : De i = d)
    (g : Zf P C N l m De al fl pre ev h k Q bs (i + 1) rest ((j, d, some i) :: te)) : Zf P C N l m De al fl pre ev h k Q bs i (o :: rest) te :=
  zf_event hp hw hd hi he hna hnf hDe (fun hh H a w c kt => by
    subst ht
    unfold Jx.Gives
    rw [call_run ho hc.1]
    simp only []
    have hv := hwk H _ (someMap_ok kt ha)
    rw [List.map_toArray]
    refine (hc.2 H w _ hv c.ag (by simp) (by simp) (by simp [claims, blkClaim])).mono ?_
    rintro e w' ⟨v, H', d', h', k', rfl, hr, hcore, rfl, rfl, rfl⟩
    exact ⟨v, rfl, H', hcore.le, hcore, hr⟩) g
theorem zf_alloc {j : Nat} {p : List Nat} {T : TypeId} {ti0 : TI} {zs : List D} (hp : pre.getD i [] = p) (hT : TabOK P tab) (ho : o.op = .alloc T) (hw : wantD l (vis [] te) o = some true) (hd : o.dst = some j) (hi : Nat.blt j N = true) (he : ev.contains i = true) (hti : ti tab T = some ti0) (hz : ti0.zero.all one = true) (ez : ti0.zero.map dOf = zs)
    (hnf : isF fl i = false) (hfp : fl.all (fun x => ev.contains x.2.1 && (!Nat.beq x.1 i || (pre.getD x.2.1 []).any (Nat.beq i))) = true) (hia : (i, zs, T) ∈ al) (hnd : (al.map (·.1)).Nodup) (g : Zf P C N l m De al fl pre ev h k Q bs (i + 1) rest ((j, .ptr (bs i) 0, some i) :: te)) : Zf P C N l m De al fl pre ev h k Q bs i (o :: rest) te :=
  zf_new hp hw hd hi he hnf hfp hia hnd (fun hh H a w c kt => by
    obtain ⟨z, h1, h2⟩ := run_zeroValue (w := w) (ti_ok hT hti)
    refine ⟨z.cells.toList, ?_, ?_⟩
    · unfold execOp
      rw [ho]
      refine exec_v ?_
      unfold Instr.alloc
      rw [run_bind_ok h1]
      simp only []
      rw [run_bind_ok run_newVar]
      simp
      first | done | rfl
    · rw [h2, ← ez]
      rw [List.all_eq_true] at hz
      revert hz
      generalize ti0.zero = l0
      intro hz
      induction l0 with
      | nil => simp [Reps]
      | cons u l0 ih =>
        simp only [List.map_cons, Reps]
        exact ⟨u, l0, rfl, ⟨(dOf_ok H u).1, hz u (by simp), (dOf_ok H u).2⟩, ih (fun x hx => hz x (by simp [hx]))⟩) g
theorem zf_E {j : Nat} {p : List Nat} {t : List (Nat × D)} {d : D} (hp : pre.getD i [] = p) (ht : vis p te = t) (hx : ExE P o t d) (hw : wantD l (vis [] te) o = some true) (hd : o.dst = some j) (hi : Nat.blt j N = true) (he : ev.contains i = true) (hna : isAl al i = false) (hnf : isF fl i = false) (hDe : De i = d)
    (g : Zf P C N l m De al fl pre ev h k Q bs (i + 1) rest ((j, d, some i) :: te)) : Zf P C N l m De al fl pre ev h k Q bs i (o :: rest) te :=
  zf_event hp hw hd hi he hna hnf hDe (fun _ H a w c kt => by
    obtain ⟨r, w', H', h1, h2, h3⟩ := hx H a w c.ag (ht ▸ kt)
    exact gives_ok h1 ⟨H', h2.le, h2, h3⟩) g
theorem wpD_fills {id : Nat} {t : List (Nat × D)} (m : Nat) (al : AL) (fl : FL) (pre : List (List Nat)) (ev : List Nat) (tp : List (List Nat)) (hfo : P.follows .mixedOrders = true) (hsl : Jx.slotsB l.toArray = true)
    (hp : Jx.preB l.toArray (fun i => pre.getD i []) = true) (hpe : pre.all (·.all ev.contains) = true) (hev : ev.all (· < (l.take m).length) = true) (hsuf : Jx.sufB l.toArray tp (l.take m).length = true)
    (hwalk : ExDs ev fun De => ∀ bs, Zf P C N l m De al fl pre ev h k Q bs 0 (l.take m) (startE t)) : wpD P C N (.region id l.toArray true) ⟨t, h, k⟩ Q := by
  obtain ⟨De, hwalk⟩ := exDs_ok hwalk
  rintro a w ⟨H, c, kt, hN, hdf⟩
  have key := Jx.region_any (P := P) (Q := QD C N Q) (id := id) (w := w) (a0 := a) (l1 := l.take m) (l2 := l.drop m) (Cf C De al fl pre ev h k H) (fun i => pre.getD i []) (fun i => ev.contains i) tp hfo (by rw [List.take_append_drop]; exact hsl) (by rw [List.take_append_drop]; exact hp) ?_ ?_
    (by rw [List.take_append_drop]; exact hsuf) ?_ ?_ ?_
  · rw [List.take_append_drop] at key; exact key
  · intro i k hk
    rw [List.all_eq_true] at hpe
    by_cases hi : i < pre.length
    · have e : pre.getD i [] = pre[i] := by simp [hi]
      rw [e] at hk
      exact List.all_eq_true.1 (hpe _ (List.getElem_mem hi)) k hk
    · have e : pre.getD i [] = [] := by simp [Nat.le_of_not_lt hi]
      rw [e] at hk; cases hk
  · intro i hi
    rw [List.all_eq_true] at hev
    simpa using hev i (by simpa using hi)
  · rintro S vals vals' w hv ⟨H', hle, hdn, c', hr⟩
    refine ⟨H', hle, hdn, ?_, fun e hes hee => ?_⟩
    · rw [← allocs_congr (S := S) (S' := S) (vals := vals) (vals' := vals') fun e _ => ⟨rfl, hv e⟩]; exact c'
    · rw [← hv e hes]; exact hr e hes hee
  · intro vals
    refine ⟨H, Hp.le_refl H, (fun e he => by cases he), ?_, fun e he => by cases he⟩
    rw [allocs_none, List.append_nil]
    exact c.drew
  · intro vals
    rw [List.take_append_drop]
    exact hwalk (fun e => blk (vals e)) H vals a (fun _ => rfl) (fun j d o e => by
      obtain ⟨h1, h2⟩ := look_start e
      obtain ⟨v, h3, h4⟩ := kt j d h1
      exact ⟨v, h3, fun _ H' hle => h4.mono hle, fun e he => by rw [h2] at he; cases he⟩) hN hdf
end
end Go.Proofs.Ytpapooaaccmnpaa.Ab
