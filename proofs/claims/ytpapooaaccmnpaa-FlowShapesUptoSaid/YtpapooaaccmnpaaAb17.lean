/- An abstract machine, part 17: append and stores as events; rooms that are one's own; what a call gives back. Over any program. -/
import Derived.Test.YtpapooaaccmnpaaAb16
namespace Go.Proofs.Ytpapooaaccmnpaa.Ab
open Go
set_option linter.all false

section
variable {P : Program} {C : Ctx} {N : Nat} {l ops rest : List Oper} {m : Nat} {De : Nat → D} {al : AL} {pre : List (List Nat)} {ev : List Nat} {h : List (Nat × Blk)} {k : List (Nat × Value)} {Q : Exit → S → Prop} {tab : List (Option TI)} {bs : Nat → Nat} {y : Value} {i : Nat} {o : Oper} {te : TE} {t : List (Nat × D)}
/-- append, in a drawn region: to a slice whose room is its own, or that has none. -/
theorem zh_app {kk bb : Nat} {T T' e e' : TypeId} {x z : Operand} {xs ys zs : List D} {c c' : Cap} {i0 i1 ie : TI} {k1 k2 : List (Nat × Value)} {p : List Nat} {j : Nat} (hT : TabOK P tab) (hp : pre.getD i [] = p) (ht : vis p te = t) (ho : o.op = .call ⟨.builtin .append, [x, z].toArray, #[T, T']⟩) (hw : wantD l (vis [] te) o = some true) (hd : o.dst = some j) (hi : Nat.blt j N = true) (he : ev.contains i = true) (hna : isAl al i = false)
    (hx : ∀ H a, TOK H t a → Rep H (.lst kk xs c) (a.eval x)) (hy : opD t z = some (.lst kk ys c')) (hk1 : ∀ H a, TOK H t a → (k1 = [] ∧ c = .full) ∨ (k1 = [(kk, a.eval x)] ∧ c = .cur (a.eval x))) (hkk : k.Perm (k1 ++ k2))
    (hi0 : ti tab T = some i0) (hd0 : i0.d = .slice e) (hi1 : ti tab T' = some i1) (hd1 : i1.d = .slice e') (hie : ti tab e = some ie) (hks : ie.size = kk) (hbb : ie.bytes = bb) (hz : ie.zero.length = kk) (hb1 : Nat.ble 1 bb = true) (hbound : (xs.length + ys.length) * bb ≤ 140737488355328) (hzs : xs ++ ys = zs)
    (g : Zh P C N l m De al pre ev ⟨i, fun _ => h, fun y => (kk, y) :: k2, fun y => .lst kk zs (.cur y)⟩ h k Q bs y (i + 1) rest ((j, .lst kk zs (.cur y), some i) :: te)) :
    Zh P C N l m De al pre ev ⟨i, fun _ => h, fun y => (kk, y) :: k2, fun y => .lst kk zs (.cur y)⟩ h k Q bs y i (o :: rest) te := by
  subst hzs
  refine zh_heavy hp ht rfl ?_ hw he hna (.inl ⟨j, hd, hi, rfl⟩) g
  intro hh H a w core kt
  obtain ⟨v, w', H', h1, h2, h3, h4⟩ := app_run (P := P) (ty := o.type) hT (core.perm (List.Perm.refl _) hkk) (hk1 H a kt) (hx H a kt) (opD_ok kt hy) hi0 hd0 hi1 hd1 hie hks hbb hz (Nat.le_of_ble_eq_true hb1) hbound
  exact gives_ok (exec_builtin (s := Builtin.append_) ho (fun _ _ => rfl) (by simpa using h1)) ⟨H', h2, h3, h4⟩
theorem app_kF {x : Operand} {c : Cap} (hc : c = .full) {kk : Nat} : ∀ H a, TOK H t a → (([] : List (Nat × Value)) = [] ∧ c = .full) ∨ ([] = [(kk, a.eval x)] ∧ c = .cur (a.eval x)) := fun _ _ _ => .inl ⟨rfl, hc⟩
theorem app_kC {x : Operand} {kk : Nat} {xs : List D} {v0 : Value} (hx : opD t x = some (.lst kk xs (.cur v0))) : ∀ H a, TOK H t a → ([(kk, v0)] = ([] : List (Nat × Value)) ∧ Cap.cur v0 = .full) ∨ ([(kk, v0)] = [(kk, a.eval x)] ∧ Cap.cur v0 = .cur (a.eval x)) := fun H a kt => by
  have := (rep_lst_inv (opD_ok kt hx)).1
  simp only [CapOK] at this
  rw [this]; exact .inr ⟨rfl, rfl⟩
theorem rep_of {d : D} {x : Operand} (hx : opD t x = some d) : ∀ H a, TOK H t a → Rep H d (a.eval x) := fun _ _ kt => opD_ok kt hx
theorem rep_of0 {kk k0 : Nat} {x : Operand} (hx : opD t x = some (.lst k0 [] .full)) : ∀ H a, TOK H t a → Rep H (.lst kk [] .full) (a.eval x) := fun H _ kt => Wk.nil H _ (opD_ok kt hx)
/-- append to the slice of the j-th token. -/
theorem wpD_app {id : Nat} (m : Nat) (al : AL) (pre : List (List Nat)) (ev : List Nat) (tp : List (List Nat)) (e0 kk j : Nat) (hfo : P.follows .mixedOrders = true) (hsl : Jx.slotsB l.toArray = true)
    (hp : Jx.preB l.toArray (fun i => pre.getD i []) = true) (hpe : pre.all (·.all ev.contains) = true) (hev : ev.all (· < (l.take m).length) = true) (hsuf : Jx.sufB l.toArray tp (l.take m).length = true)
    {k2 : List (Nat × Value)} (_hk2 : k.eraseIdx j = k2)
    (hwalk : ∃ zs, ExDs ev fun De => ∀ bs y, Zh P C N l m De al pre ev ⟨e0, fun _ => h, fun y => (kk, y) :: k2, fun y => .lst kk zs (.cur y)⟩ h k Q bs y 0 (l.take m) (startE t)) : wpD P C N (.region id l.toArray true) ⟨t, h, k⟩ Q :=
  let ⟨zs, hwalk⟩ := hwalk
  wpD_heavy m al pre ev tp ⟨e0, fun _ => h, fun y => (kk, y) :: k2, fun y => .lst kk zs (.cur y)⟩ hfo hsl hp hpe hev hsuf hwalk
/-- append to a slice without room. -/
theorem wpD_appF {id : Nat} (m : Nat) (al : AL) (pre : List (List Nat)) (ev : List Nat) (tp : List (List Nat)) (e0 kk : Nat) (hfo : P.follows .mixedOrders = true) (hsl : Jx.slotsB l.toArray = true)
    (hp : Jx.preB l.toArray (fun i => pre.getD i []) = true) (hpe : pre.all (·.all ev.contains) = true) (hev : ev.all (· < (l.take m).length) = true) (hsuf : Jx.sufB l.toArray tp (l.take m).length = true)
    (hwalk : ∃ zs, ExDs ev fun De => ∀ bs y, Zh P C N l m De al pre ev ⟨e0, fun _ => h, fun y => (kk, y) :: k, fun y => .lst kk zs (.cur y)⟩ h k Q bs y 0 (l.take m) (startE t)) : wpD P C N (.region id l.toArray true) ⟨t, h, k⟩ Q :=
  let ⟨zs, hwalk⟩ := hwalk
  wpD_heavy m al pre ev tp ⟨e0, fun _ => h, fun y => (kk, y) :: k, fun y => .lst kk zs (.cur y)⟩ hfo hsl hp hpe hev hsuf hwalk
/-- A store. -/
theorem zh_store {b off : Nat} {T T' : TypeId} {x z : Operand} {ds ds' : List D} {ti0 : TI} {d : D} {p : List Nat} {h' : List (Nat × Blk)} (j : Nat) (hT : TabOK P tab) (hp : pre.getD i [] = p) (ht : vis p te = t) (ho : o.op = .store T x z) (hw : wantD l (vis [] te) o = some true) (hd : o.dst = none) (he : ev.contains i = true) (hna : isAl al i = false)
    (hx : opD t x = some (.ptr b off)) (hb : h[j]? = some (b, .cells ds T')) (hti : ti tab T = some ti0) (hy : opD t z = some d) (hs : stor d = true) (hsz : Nat.beq (dcells d).length ti0.size = true) (hle : Nat.ble (off + ti0.size) ds.length = true)
    (e1 : lay ds off (dcells d) = ds') (e2 : h.set j (b, .cells ds' T') = h')
    (g : Zh P C N l m De al pre ev ⟨i, fun _ => h', fun _ => k, fun _ => .any⟩ h k Q bs y (i + 1) rest te) : Zh P C N l m De al pre ev ⟨i, fun _ => h', fun _ => k, fun _ => .any⟩ h k Q bs y i (o :: rest) te := by
  subst e1; subst e2
  refine zh_heavy hp ht rfl ?_ hw he hna (.inr ⟨hd, rfl⟩) g
  intro hh H a w c kt
  have hjl : j < h.length := (List.getElem?_eq_some_iff.1 hb).1
  have hb2 : (h ++ hh)[j]? = some (b, .cells ds T') := by rw [List.getElem?_append_left hjl]; exact hb
  obtain ⟨us, h1, h2, h3⟩ := c.blks _ (List.mem_of_getElem? hb2)
  have hv := stor_cells hs (opD_ok kt hy)
  have hlen := reps_length hv
  have hlen2 := reps_length h2
  have q1 := Nat.eq_of_beq_eq_true hsz
  have q2 := Nat.le_of_ble_eq_true hle
  obtain ⟨w', h4, henv, h5, h6, h7⟩ := run_storeCells (P := P) (b := b) (off := off) (a.eval z).cells.toList 0 w us h1 (by omega) (reps_one hv)
  have hrun : (Instr.storeAt T (a.eval x) (a.eval z)).run P w = .ok () w' := by
    rw [rep_ptr_inv (opD_ok kt hx)]
    unfold Instr.storeAt
    rw [run_bind_ok (a := (⟨b, off, none⟩ : Addr)) rfl]
    unfold storeVar
    rw [run_bind_ok (run_sizeOf (ti_ok hT hti)), if_neg (by simp only [Array.length_toList] at hlen; omega)]
    exact h4
  have hex : (execOp a.eval o).run P w = .ok .skip w' := by
    unfold execOp
    rw [ho]
    show ((Instr.storeAt T (a.eval x) (a.eval z)) >>= fun _ => pure Next.skip).run P w = _
    rw [run_bind_ok hrun]; rfl
  unfold Jx.Gives
  rw [hex]
  have cw := c.write hb2 henv h5 h6 h7 (by simpa using reps_lay h2 hv off)
  rw [List.set_append_left _ _ hjl] at cw
  exact ⟨H, Hp.le_refl H, cw, by simp only [Rep, RepC]; exact ⟨trivial, rfl⟩⟩
theorem wpD_store {id : Nat} (m : Nat) (al : AL) (pre : List (List Nat)) (ev : List Nat) (tp : List (List Nat)) (e0 : Nat) (hfo : P.follows .mixedOrders = true) (hsl : Jx.slotsB l.toArray = true)
    (hp : Jx.preB l.toArray (fun i => pre.getD i []) = true) (hpe : pre.all (·.all ev.contains) = true) (hev : ev.all (· < (l.take m).length) = true) (hsuf : Jx.sufB l.toArray tp (l.take m).length = true)
    (hwalk : ∃ h', ExDs ev fun De => ∀ bs y, Zh P C N l m De al pre ev ⟨e0, fun _ => h', fun _ => k, fun _ => .any⟩ h k Q bs y 0 (l.take m) (startE t)) : wpD P C N (.region id l.toArray true) ⟨t, h, k⟩ Q :=
  let ⟨h', hwalk⟩ := hwalk
  wpD_heavy m al pre ev tp ⟨e0, fun _ => h', fun _ => k, fun _ => .any⟩ hfo hsl hp hpe hev hsuf hwalk
end

section
variable {P : Program} {C : Ctx} {N : Nat} {l : List Oper} {m : Nat} {De : Nat → D} {al : AL} {pre : List (List Nat)} {ev : List Nat} {h : List (Nat × Blk)} {k : List (Nat × Value)} {Q : Exit → S → Prop} {bs : Nat → Nat} {i : Nat} {o : Oper} {rest : List Oper} {te : TE}
/-- An event that may make what is told. -/
theorem z_E {j : Nat} {p : List Nat} {t : List (Nat × D)} {d : D} (hp : pre.getD i [] = p) (ht : vis p te = t) (hx : ExE P o t d) (hw : wantD l (vis [] te) o = some true) (hd : o.dst = some j) (hi : Nat.blt j N = true) (he : ev.contains i = true) (hna : isAl al i = false) (hDe : De i = d)
    (g : Zw P C N l m De al pre ev h k Q bs (i + 1) rest ((j, d, some i) :: te)) : Zw P C N l m De al pre ev h k Q bs i (o :: rest) te :=
  z_event hp hw hd hi he hna hDe (fun _ H a w c kt => by
    obtain ⟨r, w', H', h1, h2, h3⟩ := hx H a w c.ag (ht ▸ kt)
    exact gives_ok h1 ⟨H', h2.le, h2, h3⟩) g
end
section
variable {P : Program} {C : Ctx} {N : Nat} {l : List Oper} {m : Nat} {De : Nat → D} {al : AL} {pre : List (List Nat)} {ev : List Nat} {h : List (Nat × Blk)} {k : List (Nat × Value)} {Q : Exit → S → Prop} {bs : Nat → Nat} {i : Nat} {o : Oper} {rest : List Oper} {te : TE}
/-- An event behind which one's own is told as before. -/
theorem z_event2 {j : Nat} {p : List Nat} {d : D} (hp : pre.getD i [] = p) (hw : wantD l (vis [] te) o = some true) (hd : o.dst = some j) (hi : Nat.blt j N = true) (he : ev.contains i = true) (hna : isAl al i = false) (hDe : De i = d)
    (hx : ∀ hh H a w, Core C H (h ++ hh) k w → TOK H (vis p te) a → Jx.Gives P o a w fun v w' => ∃ H', H.le H' ∧ Core C H' (h ++ hh) k w' ∧ Rep H' d v)
    (g : Zw P C N l m De al pre ev h k Q bs (i + 1) rest ((j, d, some i) :: te)) : Zw P C N l m De al pre ev h k Q bs i (o :: rest) te := by
  intro H0 vals a hbs kt hN hdf
  subst hDe
  refine ⟨vals i, ?_, ?_⟩
  · unfold Jx.OK
    rw [wantD_ok (vis_nil hbs kt) hw, if_pos rfl, if_pos he]
    refine ⟨rfl, ?_⟩
    rintro S w ⟨H, hle, c, hev⟩ hSi hpS
    replace hpS : ∀ k ∈ pre.getD i [], S k = true := hpS
    rw [hp] at hpS
    refine (hx _ H a w c (vis_tok hbs kt hle fun e he he2 => hev e (hpS e (by simpa using he)) he2)).mono ?_
    rintro v w' ⟨H', hle', c', hr⟩
    have hal : allocs al (Jx.upd S i true) (Jx.upd vals i v) = allocs al S vals := allocs_congr fun e hea => by
      have : e ≠ i := fun q => by rw [q, hna] at hea; cases hea
      exact ⟨Jx.upd_ne _ _ this, fun _ => Jx.upd_ne _ _ this⟩
    refine ⟨H', Hp.le_trans hle hle', by rw [hal]; exact c', fun e hes hee => ?_⟩
    by_cases hei : e = i
    · subst hei
      rw [Jx.upd_same]
      exact ⟨fun q => (by rw [hna] at q; cases q), fun _ => hr⟩
    · rw [Jx.upd_ne _ _ hei] at hes ⊢
      exact ⟨(hev e hes hee).1, fun q => ((hev e hes hee).2 q).mono hle'⟩
  · rw [hd]
    refine g H0 vals _ hbs (kt.put (by rw [hN]; simpa using hi) (fun q => by cases q) (fun e q => ?_)) ?_ hdf
    · cases q
      exact ⟨rfl, by unfold dE; rw [hna]; rfl, he⟩
    · simp only [Act.put, Array.size_setIfInBounds]; exact hN
/-- A call that is given the b-th block and gives it back as it was. -/
theorem z_callB {f : FuncId} {args : List Operand} {ts : Array TypeId} {j : Nat} {p : List Nat} {t : List (Nat × D)} {ds ds' : List D} {d : D} {x : Nat × Blk} (b : Nat) (hp : pre.getD i [] = p) (ht : vis p te = t) (hc : CallsD P f ds' [x] [] (fun d' h k => d' = d ∧ h = [x] ∧ k = [])) (ho : o.op = .call ⟨.value (.func f), args.toArray, ts⟩)
    (ha : someMap args (opD t) = some ds) (hwk : WkL ds ds') (hb : h[b]? = some x) (hw : wantD l (vis [] te) o = some true) (hd : o.dst = some j) (hi : Nat.blt j N = true) (he : ev.contains i = true) (hna : isAl al i = false) (hDe : De i = d)
    (g : Zw P C N l m De al pre ev h k Q bs (i + 1) rest ((j, d, some i) :: te)) : Zw P C N l m De al pre ev h k Q bs i (o :: rest) te :=
  z_event2 hp hw hd hi he hna hDe (fun hh H a w c kt => by
    subst ht
    unfold Jx.Gives
    rw [call_run ho hc.1]
    simp only []
    have hv := hwk H _ (someMap_ok kt ha)
    rw [List.map_toArray]
    have hbl : b < h.length := (List.getElem?_eq_some_iff.1 hb).1
    have hb2 : (h ++ hh)[b]? = some x := by rw [List.getElem?_append_left hbl]; exact hb
    have c1 := c.perm (perm_at hb2) (List.Perm.refl k)
    have hblk := c.blks _ (List.mem_of_getElem? hb2)
    have nd := (claims_append [x] ((h ++ hh).eraseIdx b) [] k).nodup_iff.1 (by simpa using c1.nd)
    rw [List.nodup_append] at nd
    refine (hc.2 H w _ hv c.ag (by simpa using hblk) (by simp) nd.1).mono ?_
    rintro e w' ⟨v, H', d', h', k', rfl, hr, hcore, rfl, rfl, rfl⟩
    refine ⟨v, rfl, H', hcore.le, ?_, hr⟩
    have c2 := Core.call (h1 := [x]) (k1 := []) (h2 := (h ++ hh).eraseIdx b) (k2 := k) c1 hcore
    exact c2.perm (perm_at hb2).symm (List.Perm.refl k)) g
end
/-! ### Rooms that are one's own -/
theorem reps_set {H : Hp} {d : D} : ∀ {ds : List D} {us : List Value} (off : Nat) {u : Value}, Reps H ds us → us[off]? = some u → (RepC H d [u] ∧ d.flat = true) → Reps H (ds.set off d) us
  | [], us, off, u, h, e, _ => by simp only [Reps] at h; subst h; simp at e
  | d0 :: ds, us, off, u, h, e, hd => by
    simp only [Reps] at h
    obtain ⟨u0, us', rfl, h1, h2⟩ := h
    cases off with
    | zero =>
      simp only [List.getElem?_cons_zero, Option.some.injEq] at e
      subst e
      simp only [List.set_cons_zero, Reps]
      exact ⟨u0, us', rfl, ⟨hd.1, h1.2.1, hd.2⟩, h2⟩
    | succ off =>
      simp only [List.getElem?_cons_succ] at e
      simp only [List.set_cons_succ, Reps]
      exact ⟨u0, us', rfl, h1, reps_set off h2 e hd⟩
section
variable {P : Program} {C : Ctx} {N : Nat} {ops rest : List Oper} {o : Oper} {h : List (Nat × Blk)} {k : List (Nat × Value)} {Q : Exit → S → Prop} {tab : List (Option TI)} {t : List (Nat × D)}
theorem core_tok0 {H : Hp} {w : World} {b off k0 : Nat} {ds : List D} {T : TypeId} (kk j : Nat) (hb : h[j]? = some (b, .cells ds T)) (hd : ds[off]? = some (.lst k0 [] .full)) (c : Core C H h k w) : ∃ y, Core C H (h.set j (b, .cells (ds.set off (.lst kk [] (.cur y))) T)) ((kk, y) :: k) w := by
  obtain ⟨us, h1, h2, h3⟩ := c.blks _ (List.mem_of_getElem? hb)
  obtain ⟨u, hu, hr, h1u, _⟩ := reps_get h2 hd
  have hjl : j < h.length := (List.getElem?_eq_some_iff.1 hb).1
  simp only [RepC] at hr
  obtain ⟨y, e, hc, hn⟩ := hr
  simp only [List.cons.injEq, and_true] at e
  subst e
  have hm0 : ∃ a, u = .slice a 0 0 := by
    rcases hn with ⟨_, a, m, rfl, _⟩ | ⟨b', off', m, rfl, _⟩
    · simp only [CapOK] at hc; subst hc; exact ⟨a, rfl⟩
    · simp only [CapOK, List.length_nil] at hc; subst hc; exact ⟨_, rfl⟩
  obtain ⟨a0, rfl⟩ := hm0
  have hcl : tokClaim (kk, .slice a0 0 0) = [] := by cases a0 <;> simp [tokClaim]
  have hmap : ∀ k, claims (h.set j (b, .cells (ds.set off (.lst kk [] (.cur (.slice a0 0 0)))) T)) k = claims h k := fun k => claims_set hb rfl
  refine ⟨.slice a0 0 0, c.ag, c.le, c.new, c.same, c.size, fun p hp => ?_, fun p hp => ?_, ?_, ?_, c.env⟩
  · rcases List.mem_or_eq_of_mem_set hp with hp | rfl
    · exact c.blks p hp
    · refine ⟨us, h1, reps_set off h2 hu ⟨?_, rfl⟩, h3⟩
      simp only [RepC, CapOK]
      refine ⟨_, rfl, rfl, .inl ⟨by trivial, a0, 0, rfl, fun _ => rfl⟩⟩
  · rcases List.mem_cons.1 hp with rfl | hp
    · intro a n m e hlt
      simp only [Value.slice.injEq] at e
      omega
    · exact c.toks p hp
  · have : claims (h.set j (b, .cells (ds.set off (.lst kk [] (.cur (.slice a0 0 0)))) T)) ((kk, .slice a0 0 0) :: k) = claims h k := by
      rw [hmap]; unfold claims; simp [hcl]
    rw [this]; exact c.nd
  · have : claims (h.set j (b, .cells (ds.set off (.lst kk [] (.cur (.slice a0 0 0)))) T)) ((kk, .slice a0 0 0) :: k) = claims h k := by
      rw [hmap]; unfold claims; simp [hcl]
    rw [this]; exact c.own
theorem w_tok0 {c : Code} {b off k0 : Nat} {ds : List D} {T : TypeId} (kk j : Nat) (hb : h[j]? = some (b, .cells ds T)) (hd : ds[off]? = some (.lst k0 [] .full)) (g : ∀ y, wpD P C N c ⟨t, h.set j (b, .cells (ds.set off (.lst kk [] (.cur y))) T), (kk, y) :: k⟩ Q) : wpD P C N c ⟨t, h, k⟩ Q := by
  rintro a w ⟨H, c, kt, hN, hdf⟩
  obtain ⟨y, c'⟩ := core_tok0 kk j hb hd c
  exact g y a w ⟨H, c', kt, hN, hdf⟩
theorem p_tok0 {b off k0 : Nat} {ds : List D} {T : TypeId} (kk j : Nat) (hb : h[j]? = some (b, .cells ds T)) (hd : ds[off]? = some (.lst k0 [] .full)) (g : ∀ y, opsD P C N ops rest ⟨t, h.set j (b, .cells (ds.set off (.lst kk [] (.cur y))) T), (kk, y) :: k⟩ Q) : opsD P C N ops rest ⟨t, h, k⟩ Q := by
  rintro a w ⟨H, c, kt, hN, hdf⟩
  obtain ⟨y, c'⟩ := core_tok0 kk j hb hd c
  exact g y a w ⟨H, c', kt, hN, hdf⟩
theorem core_tok {H : Hp} {w : World} {a0 : Option Addr} (kk : Nat) (c : Core C H h k w) : Core C H h ((kk, .slice a0 0 0) :: k) w := by
  have hcl : tokClaim (kk, .slice a0 0 0) = [] := by cases a0 <;> simp [tokClaim]
  have hc : claims h ((kk, .slice a0 0 0) :: k) = claims h k := by unfold claims; simp [hcl]
  refine ⟨c.ag, c.le, c.new, c.same, c.size, c.blks, fun p hp => ?_, by rw [hc]; exact c.nd, by rw [hc]; exact c.own, c.env⟩
  rcases List.mem_cons.1 hp with rfl | hp
  · intro a n m e hlt
    simp only [Value.slice.injEq] at e
    omega
  · exact c.toks p hp
/-- A nil slice in a slot. -/
theorem w_tokS {c : Code} {i k0 : Nat} (kk : Nat) (hx : look t i = some (.lst k0 [] .full)) (g : ∀ y, wpD P C N c ⟨(i, .lst kk [] (.cur y)) :: t, h, (kk, y) :: k⟩ Q) : wpD P C N c ⟨t, h, k⟩ Q := by
  rintro a w ⟨H, c, kt, hN, hdf⟩
  obtain ⟨v, h1, h2⟩ := kt i _ hx
  obtain ⟨hc, hn⟩ := rep_lst_inv h2
  have hm0 : ∃ a0, v = .slice a0 0 0 := by
    rcases hn with ⟨_, a0, m, rfl, _⟩ | ⟨b', off', m, rfl, _⟩
    · simp only [CapOK] at hc; subst hc; exact ⟨a0, rfl⟩
    · simp only [CapOK, List.length_nil] at hc; subst hc; exact ⟨_, rfl⟩
  obtain ⟨a0, rfl⟩ := hm0
  refine g (.slice a0 0 0) a w ⟨H, core_tok kk c, fun j d hj => ?_, hN, hdf⟩
  simp only [look] at hj
  cases hb : Nat.beq i j with
  | true =>
    rw [hb] at hj; simp at hj; subst hj
    have := Nat.eq_of_beq_eq_true hb; subst this
    refine ⟨_, h1, rep_cell ?_ rfl rfl⟩
    simp only [RepC, CapOK]
    exact ⟨_, rfl, rfl, .inl ⟨by trivial, a0, 0, rfl, fun _ => rfl⟩⟩
  | false => rw [hb] at hj; exact kt j d (by simpa using hj)
theorem perm_at2 {α : Type} {l : List α} {i j : Nat} {x y : α} (h1 : l[i]? = some x) (h2 : (l.eraseIdx i)[j]? = some y) : l.Perm ([x, y] ++ (l.eraseIdx i).eraseIdx j) :=
  (perm_at h1).trans ((perm_at h2).cons x)
/-- A call whose value is not wanted. -/
theorem p_call0n {f : FuncId} {args : List Operand} {ts : Array TypeId} {ds ds' : List D} {R : D → Prop}
    (hc : CallsD P f ds' [] [] (fun d h k => R d ∧ h = [] ∧ k = [])) (ho : o.op = .call ⟨.value (.func f), args.toArray, ts⟩) (hw : wantD ops t o = some true) (hd : o.dst = none) (ha : someMap args (opD t) = some ds) (hwk : WkL ds ds')
    (g : ∀ d, R d → opsD P C N ops rest ⟨t, h, k⟩ Q) : opsD P C N ops (o :: rest) ⟨t, h, k⟩ Q :=
  ops_call0 (s := ⟨t, h, k⟩) hc ho hw hd ha hwk (List.Perm.refl _) (List.Perm.refl _) fun d h' k' ⟨hR, e1, e2⟩ => by subst e1; subst e2; exact g d hR
/-! ### What a call gives back -/
theorem ret0m {R : D → List (Nat × Blk) → List (Nat × Value) → Prop} {x : Exit} {h' : List (Nat × Blk)} {k' : List (Nat × Value)} (hx : x = .ret ∨ x = .normal) (hs : h'.Sublist h) (ks : k'.Sublist k) (g : R (.tup []) h' k') : retD tab [] R x ⟨t, h, k⟩ :=
  ⟨hx, [], h', k', rfl, hs, ks, g⟩
theorem ret1m {R : D → List (Nat × Blk) → List (Nat × Value) → Prop} {x : Exit} {r : Nat} {d : D} {h' : List (Nat × Blk)} {k' : List (Nat × Value)} (hx : x = .ret ∨ x = .normal) (h1 : look t r = some d) (hs : h'.Sublist h) (ks : k'.Sublist k) (g : R d h' k') : retD tab [.tmp r] R x ⟨t, h, k⟩ :=
  ⟨hx, [d], h', k', ⟨d, [], rfl, h1, rfl⟩, hs, ks, g⟩
theorem ret2m {R : D → List (Nat × Blk) → List (Nat × Value) → Prop} {x : Exit} {r r' : Nat} {d d' : D} {h' : List (Nat × Blk)} {k' : List (Nat × Value)} (hx : x = .ret ∨ x = .normal) (h1 : look t r = some d) (h2 : look t r' = some d') (hs : h'.Sublist h) (ks : k'.Sublist k) (g : R (.tup [d, d']) h' k') : retD tab [.tmp r, .tmp r'] R x ⟨t, h, k⟩ :=
  ⟨hx, [d, d'], h', k', ⟨d, _, rfl, h1, d', [], rfl, h2, rfl⟩, hs, ks, g⟩
theorem ret3m {R : D → List (Nat × Blk) → List (Nat × Value) → Prop} {x : Exit} {r r' r'' : Nat} {d d' d'' : D} {h' : List (Nat × Blk)} {k' : List (Nat × Value)} (hx : x = .ret ∨ x = .normal) (h1 : look t r = some d) (h2 : look t r' = some d') (h3 : look t r'' = some d'') (hs : h'.Sublist h) (ks : k'.Sublist k) (g : R (.tup [d, d', d'']) h' k') : retD tab [.tmp r, .tmp r', .tmp r''] R x ⟨t, h, k⟩ :=
  ⟨hx, [d, d', d''], h', k', ⟨d, _, rfl, h1, d', _, rfl, h2, d'', [], rfl, h3, rfl⟩, hs, ks, g⟩
end
end Go.Proofs.Ytpapooaaccmnpaa.Ab
