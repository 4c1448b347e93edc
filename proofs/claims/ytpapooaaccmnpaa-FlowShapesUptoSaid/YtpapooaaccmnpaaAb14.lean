/- An abstract machine, part 14: the steps within a region that draws its order. Over any program. -/
import Derived.Test.YtpapooaaccmnpaaAb13
namespace Go.Proofs.Ytpapooaaccmnpaa.Ab
open Go
set_option linter.all false

def ExDs : List Nat → ((Nat → D) → Prop) → Prop
  | [], G => G fun _ => .any
  | e :: es, G => ∃ d, ExDs es fun f => G fun x => bif Nat.beq x e then d else f x
theorem exDs_ok : ∀ {es : List Nat} {G : (Nat → D) → Prop}, ExDs es G → ∃ De, G De
  | [], _, h => ⟨_, h⟩
  | _ :: _, _, ⟨_, h⟩ => let ⟨_, h2⟩ := exDs_ok h; ⟨_, h2⟩
theorem bycB {p : Prop} (b : Bool) (h1 : b = true → p) (h2 : b = false → p) : p := by
  cases b
  · exact h2 rfl
  · exact h1 rfl
section
variable {P : Program} {C : Ctx} {N : Nat} {l : List Oper} {m : Nat} {De : Nat → D} {al : AL} {pre : List (List Nat)} {ev : List Nat} {h : List (Nat × Blk)} {k : List (Nat × Value)} {Q : Exit → S → Prop} {tab : List (Option TI)} {bs : Nat → Nat} {i : Nat} {o : Oper} {rest : List Oper} {te : TE}
theorem wpD_draws {id : Nat} {t : List (Nat × D)} (m : Nat) (al : AL) (pre : List (List Nat)) (ev : List Nat) (tp : List (List Nat)) (hfo : P.follows .mixedOrders = true) (hsl : Jx.slotsB l.toArray = true)
    (hp : Jx.preB l.toArray (fun i => pre.getD i []) = true) (hpe : pre.all (·.all ev.contains) = true) (hev : ev.all (· < (l.take m).length) = true) (hsuf : Jx.sufB l.toArray tp (l.take m).length = true)
    (hwalk : ExDs ev fun De => ∀ bs, Zw P C N l m De al pre ev h k Q bs 0 (l.take m) (startE t)) : wpD P C N (.region id l.toArray true) ⟨t, h, k⟩ Q := by
  obtain ⟨De, hw⟩ := exDs_ok hwalk
  exact wpD_drawn m De al pre ev tp hfo hsl hp hpe hev hsuf hw
/-- What an operation gives, whatever world it stands in. -/
abbrev Ex (P : Program) (o : Oper) (t : List (Nat × D)) (d : D) : Prop := ∀ H a w, TOK H t a → ∃ v, (execOp a.eval o).run P w = .ok (.value v) w ∧ Rep H d v
theorem ex_pure {t : List (Nat × D)} {d : D} (hT : TabOK P tab) (e : evP tab t o.op = some d) : Ex P o t d := fun _ _ _ kt => evP_ok hT kt e
/-- A plain value. -/
theorem z_q {j : Nat} {x : Value} {p : List Nat} {t : List (Nat × D)} (hp : pre.getD i [] = p) (ht : vis p te = t) (hx : Ex P o t (.v x)) (hw : wantD l (vis [] te) o = some true) (hd : o.dst = some j) (hi : Nat.blt j N = true) (hne : ev.contains i = false) (hone : one x = true) (hpe : p.all ev.contains = true)
    (g : Zw P C N l m De al pre ev h k Q bs (i + 1) rest ((j, .v x, none) :: te)) : Zw P C N l m De al pre ev h k Q bs i (o :: rest) te :=
  z_quiet hp hw hd hi hne hone hpe (fun _ H a w _ kt => hx H a w (ht ▸ kt)) g
/-- Another one. -/
theorem z_e {j : Nat} {p : List Nat} {t : List (Nat × D)} {d : D} (hp : pre.getD i [] = p) (ht : vis p te = t) (hx : Ex P o t d) (hw : wantD l (vis [] te) o = some true) (hd : o.dst = some j) (hi : Nat.blt j N = true) (he : ev.contains i = true) (hna : isAl al i = false) (hDe : De i = d)
    (g : Zw P C N l m De al pre ev h k Q bs (i + 1) rest ((j, d, some i) :: te)) : Zw P C N l m De al pre ev h k Q bs i (o :: rest) te :=
  z_event hp hw hd hi he hna hDe (fun _ H a w c kt => by
    obtain ⟨v, h1, h2⟩ := hx H a w (ht ▸ kt)
    unfold Jx.Gives
    rw [h1]
    exact ⟨H, Hp.le_refl H, Core.here c.ag, h2⟩) g
/-- The same, of memory. -/
abbrev ExM (P : Program) (C : Ctx) (h : List (Nat × Blk)) (k : List (Nat × Value)) (o : Oper) (t : List (Nat × D)) (d : D) : Prop := ∀ hh H a w, Core C H (h ++ hh) k w → TOK H t a → ∃ v, (execOp a.eval o).run P w = .ok (.value v) w ∧ Rep H d v
theorem z_qM {j : Nat} {x : Value} {p : List Nat} {t : List (Nat × D)} (hp : pre.getD i [] = p) (ht : vis p te = t) (hx : ExM P C h k o t (.v x)) (hw : wantD l (vis [] te) o = some true) (hd : o.dst = some j) (hi : Nat.blt j N = true) (hne : ev.contains i = false) (hone : one x = true) (hpe : p.all ev.contains = true)
    (g : Zw P C N l m De al pre ev h k Q bs (i + 1) rest ((j, .v x, none) :: te)) : Zw P C N l m De al pre ev h k Q bs i (o :: rest) te :=
  z_quiet hp hw hd hi hne hone hpe (fun hh H a w c kt => hx hh H a w c (ht ▸ kt)) g
theorem z_eM {j : Nat} {p : List Nat} {t : List (Nat × D)} {d : D} (hp : pre.getD i [] = p) (ht : vis p te = t) (hx : ExM P C h k o t d) (hw : wantD l (vis [] te) o = some true) (hd : o.dst = some j) (hi : Nat.blt j N = true) (he : ev.contains i = true) (hna : isAl al i = false) (hDe : De i = d)
    (g : Zw P C N l m De al pre ev h k Q bs (i + 1) rest ((j, d, some i) :: te)) : Zw P C N l m De al pre ev h k Q bs i (o :: rest) te :=
  z_event hp hw hd hi he hna hDe (fun hh H a w c kt => by
    obtain ⟨v, h1, h2⟩ := hx hh H a w c (ht ▸ kt)
    unfold Jx.Gives
    rw [h1]
    exact ⟨H, Hp.le_refl H, Core.here c.ag, h2⟩) g
theorem xm_load {b off : Nat} {T T' : TypeId} {x : Operand} {t : List (Nat × D)} {ds : List D} {ti0 : TI} {d : D} (j : Nat) (hT : TabOK P tab) (ho : o.op = .load T x) (hx : opD t x = some (.ptr b off)) (hb : h[j]? = some (b, .cells ds T')) (hTi : ti tab T = some ti0) (e : partD ti0 ds off = some d) : ExM P C h k o t d :=
  fun hh H a w c kt => by
    obtain ⟨us, h1, h2, h3⟩ := c.blks _ (List.mem_append_left _ (List.mem_of_getElem? hb))
    obtain ⟨v, h4, h5⟩ := run_loadAt (P := P) (T := T) (n := off) (ti_ok hT hTi) (row_block h1) h2 e
    refine ⟨v, ?_, h5⟩
    unfold execOp
    rw [ho]
    refine exec_v ?_
    rw [rep_ptr_inv (opD_ok kt hx)]
    rwa [Nat.zero_add] at h4
theorem xm_loadEl {T : TypeId} {x : Operand} {t : List (Nat × D)} {d0 d : D} {ti0 : TI} (hT : TabOK P tab) (ho : o.op = .load T x) (hx : opD t x = some (.el d0)) (hTi : ti tab T = some ti0) (e : partD ti0 (dcells d0) 0 = some d) (hne : (dcells d0).isEmpty = false) : ExM P C h k o t d :=
  fun hh H a w c kt => by
    obtain ⟨b, off, vs, h1, h2, h3, h4⟩ := rep_el_inv (opD_ok kt hx)
    obtain ⟨v, h5, h6⟩ := run_loadAt (P := P) (T := T) (n := 0) (ti_ok hT hTi) (h3.row c.ag) (repC_cells (by intro e; rw [e] at hne; cases hne) h2 h4) e
    refine ⟨v, ?_, h6⟩
    unfold execOp
    rw [ho]
    exact exec_v (by rw [h1]; exact h5)
/-- A call that is given no block and gives none back. -/
theorem z_call {f : FuncId} {args : List Operand} {ts : Array TypeId} {j : Nat} {p : List Nat} {t : List (Nat × D)} {ds ds' : List D} {d : D} (hp : pre.getD i [] = p) (ht : vis p te = t) (hc : CallsD P f ds' [] [] (fun d' h k => d' = d ∧ h = [] ∧ k = [])) (ho : o.op = .call ⟨.value (.func f), args.toArray, ts⟩)
    (ha : someMap args (opD t) = some ds) (hwk : WkL ds ds') (hw : wantD l (vis [] te) o = some true) (hd : o.dst = some j) (hi : Nat.blt j N = true) (he : ev.contains i = true) (hna : isAl al i = false) (hDe : De i = d)
    (g : Zw P C N l m De al pre ev h k Q bs (i + 1) rest ((j, d, some i) :: te)) : Zw P C N l m De al pre ev h k Q bs i (o :: rest) te :=
  z_event hp hw hd hi he hna hDe (fun hh H a w c kt => by
    subst ht
    unfold Jx.Gives
    rw [call_run ho hc.1]
    simp only []
    have hv := hwk H _ (someMap_ok kt ha)
    rw [List.map_toArray]
    refine (hc.2 H w _ hv c.ag (by simp) (by simp) (by simp [claims, blkClaim])).mono ?_
    rintro e w' ⟨v, H', d', h', k', rfl, hr, hcore, rfl, rfl, rfl⟩
    exact ⟨v, rfl, H', hcore.le, hcore, hr⟩) g
theorem z_alloc {j : Nat} {p : List Nat} {T : TypeId} {ti0 : TI} {zs : List D} (hp : pre.getD i [] = p) (hT : TabOK P tab) (ho : o.op = .alloc T) (hw : wantD l (vis [] te) o = some true) (hd : o.dst = some j) (hi : Nat.blt j N = true) (he : ev.contains i = true) (hti : ti tab T = some ti0) (hz : ti0.zero.all one = true) (ez : ti0.zero.map dOf = zs)
    (hia : (i, zs, T) ∈ al) (hnd : (al.map (·.1)).Nodup) (g : Zw P C N l m De al pre ev h k Q bs (i + 1) rest ((j, .ptr (bs i) 0, some i) :: te)) : Zw P C N l m De al pre ev h k Q bs i (o :: rest) te :=
  z_new hp hw hd hi he hia hnd (fun hh H a w c kt => by
    obtain ⟨z, h1, h2⟩ := run_zeroValue (w := w) (ti_ok hT hti)
    refine ⟨z.cells.toList, ?_, ?_⟩
    · unfold execOp
      rw [ho]
      refine exec_v ?_
      unfold Instr.alloc
      rw [run_bind_ok h1]
      simp only []
      rw [run_bind_ok run_newVar]
      simp
      first | done | rfl
    · rw [h2, ← ez]
      rw [List.all_eq_true] at hz
      revert hz
      generalize ti0.zero = l0
      intro hz
      induction l0 with
      | nil => simp [Reps]
      | cons u l0 ih =>
        simp only [List.map_cons, Reps]
        exact ⟨u, l0, rfl, ⟨(dOf_ok H u).1, hz u (by simp), (dOf_ok H u).2⟩, ih (fun x hx => hz x (by simp [hx]))⟩) g
/-- A test's outcome is known. -/
theorem z_known {j : Nat} {b b' : Bool} (hl : look3 te j = some (.v (.bool b), none)) (e : b = b') (g : Zw P C N l m De al pre ev h k Q bs i rest ((j, .v (.bool b'), none) :: te)) : Zw P C N l m De al pre ev h k Q bs i rest te := by
  subst e
  intro H0 vals a hbs kt hN hdf
  refine g H0 vals a hbs (fun j' d o e => ?_) hN hdf
  simp only [look3] at e
  cases hb : Nat.beq j j' with
  | true =>
    rw [hb] at e; simp at e
    obtain ⟨rfl, rfl⟩ := e
    have := Nat.eq_of_beq_eq_true hb; subst this
    exact kt _ _ _ hl
  | false => rw [hb] at e; exact kt j' d o (by simpa using e)
end
end Go.Proofs.Ytpapooaaccmnpaa.Ab
