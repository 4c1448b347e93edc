/- An abstract machine, part 5: stores, calls, code, functions. Over any program. -/
import Derived.Test.YtpapooaaccmnpaaAb4
import Derived.LoopN
namespace Go.Proofs.Ytpapooaaccmnpaa.Ab
open Go
set_option linter.all false

/-- May it stand in cells? -/
def stor : D → Bool
  | .any => false
  | .tup _ => false
  | .v x => one x
  | _ => true
theorem stor_cells {H : Hp} {d : D} {v : Value} (hs : stor d = true) (h : Rep H d v) : Reps H (dcells d) v.cells.toList := by
  cases d with
  | any => cases hs
  | tup l => cases hs
  | agg l => obtain ⟨us, rfl, hr⟩ := rep_agg_inv h; simpa [dcells, Value.cells] using hr
  | v x =>
    have := rep_v_inv h; subst this
    have h1 : one v = true := hs
    rw [oneCell_cells h1]
    simp only [dcells, Reps]
    exact ⟨v, [], rfl, ⟨by simp [RepC], h1, rfl⟩, rfl⟩
  | lst k xs c =>
    obtain ⟨h1, h2⟩ := h
    have h3 : one v = true := by cases v <;> simp_all [D.shape, RepC, Value.cells, one]
    rw [oneCell_cells h3] at h1 ⊢
    simp only [dcells, Reps]
    exact ⟨v, [], rfl, ⟨h1, h3, rfl⟩, rfl⟩
  | el d =>
    obtain ⟨h1, h2⟩ := h
    have h3 : one v = true := by cases v <;> simp_all [D.shape, RepC, Value.cells, one]
    rw [oneCell_cells h3] at h1 ⊢
    simp only [dcells, Reps]
    exact ⟨v, [], rfl, ⟨h1, h3, rfl⟩, rfl⟩
  | ptr b o =>
    obtain ⟨h1, h2⟩ := h
    have h3 : one v = true := by cases v <;> simp_all [D.shape, RepC, Value.cells, one]
    rw [oneCell_cells h3] at h1 ⊢
    simp only [dcells, Reps]
    exact ⟨v, [], rfl, ⟨h1, h3, rfl⟩, rfl⟩
  | fn f as cs =>
    obtain ⟨h1, h2⟩ := h
    have h3 : one v = true := by cases v <;> simp_all [D.shape, RepC, Value.cells, one]
    rw [oneCell_cells h3] at h1 ⊢
    simp only [dcells, Reps]
    exact ⟨v, [], rfl, ⟨h1, h3, rfl⟩, rfl⟩

/-- Cells laid over others. -/
def lay (ds : List D) (off : Nat) (es : List D) : List D := ds.take off ++ (es ++ ds.drop (off + es.length))

theorem heap_set {w : World} {b o k : Nat} {v : Value} : (w.setCell ⟨b, o, none⟩ v).heap[k]? = if b = k then (w.heap[k]?).map (fun | .cells c e f => .cells (c.setIfInBounds o v) e f | x => x) else w.heap[k]? := by
  simp only [World.setCell, Array.getElem?_modify]
  by_cases h : b = k
  · rw [if_pos h, if_pos h]
    cases w.heap[k]? with
    | none => rfl
    | some x => cases x <;> rfl
  · rw [if_neg h, if_neg h]
theorem size_set {w : World} {a : Addr} {v : Value} : (w.setCell a v).heap.size = w.heap.size := by simp [World.setCell]

theorem run_storeCells {P : Program} {b off : Nat} {T : TypeId} : ∀ (vs : List Value) (i : Nat) (w : World) (us : List Value), w.heap[b]? = some (.cells us.toArray T (0, 0)) → off + i + vs.length ≤ us.length → (∀ v ∈ vs, one v = true) →
    ∃ w', (storeCells ⟨b, off, none⟩ vs i).run P w = .ok () w' ∧ Env w w' ∧ w'.heap.size = w.heap.size ∧ (∀ k, k ≠ b → w'.heap[k]? = w.heap[k]?) ∧ w'.heap[b]? = some (.cells (us.take (off + i) ++ (vs ++ us.drop (off + i + vs.length))).toArray T (0, 0))
  | [], i, w, us, h, hl, _ => ⟨w, by simp [storeCells] <;> rfl, Env.refl w, rfl, fun _ _ => rfl, by simpa using h⟩
  | v :: vs, i, w, us, h, hl, h1 => by
    simp only [List.length_cons] at hl
    have hlt : off + i < us.length := by omega
    have hcell : w.cell? ((⟨b, off, none⟩ : Addr).add i) = some us[off + i] := by rw [addr_add]; simp [World.cell?, h, hlt]
    have hfr : w.frozen? ((⟨b, off, none⟩ : Addr).add i) = false := by rw [addr_add]; simp [World.frozen?, h]
    have hst : (store ((⟨b, off, none⟩ : Addr).add i) v).run P w = .ok () (w.setCell ⟨b, off + i, none⟩ v) := by
      have hv := h1 v (by simp)
      cases v <;> first | (simp [one] at hv; done) | (simp only [store, Sem.run, hcell, hfr]; rw [addr_add]; simp)
    have hb : (w.setCell ⟨b, off + i, none⟩ v).heap[b]? = some (.cells (us.set (off + i) v).toArray T (0, 0)) := by
      rw [heap_set, if_pos rfl, h]; simp
    obtain ⟨w', h2, henv, h3, h4, h5⟩ := run_storeCells (P := P) (b := b) (off := off) (T := T) vs (i + 1) (w.setCell ⟨b, off + i, none⟩ v) (us.set (off + i) v) hb (by simp; omega) (fun x hx => h1 x (by simp [hx]))
    refine ⟨w', ?_, Env.trans (b := w.setCell ⟨b, off + i, none⟩ v) ⟨rfl, rfl, rfl⟩ henv, by rw [h3, size_set], fun k hk => by rw [h4 k hk, heap_set, if_neg (Ne.symm hk)], ?_⟩
    · unfold storeCells
      rw [run_bind_ok hst]; exact h2
    · rw [h5]
      congr 2
      rw [show off + (i + 1) = off + i + 1 by omega]
      have e1 : (us.set (off + i) v).take (off + i + 1) = us.take (off + i) ++ [v] := by
        rw [List.take_succ_eq_append_getElem (by simpa using hlt)]
        simp [List.take_set]
        exact List.set_eq_of_length_le (List.length_take_le _ _)
      have e2 : (us.set (off + i) v).drop (off + i + 1 + vs.length) = us.drop (off + i + (v :: vs).length) := by
        rw [List.drop_set, if_pos (by omega)]
        congr 1; simp; omega
      rw [e1, e2]
      simp

theorem reps_lay {H : Hp} {ds es : List D} {us vs : List Value} (h : Reps H ds us) (k : Reps H es vs) (off : Nat) : Reps H (lay ds off es) (us.take off ++ (vs ++ us.drop (off + vs.length))) := by
  unfold lay
  have := reps_length k
  exact reps_append (reps_take _ h) (reps_append k (by rw [this]; exact reps_drop _ h))

theorem perm_at {α : Type} : ∀ {l : List α} {j : Nat} {x : α}, l[j]? = some x → l.Perm (x :: l.eraseIdx j)
  | [], j, x, h => by simp at h
  | y :: l, 0, x, h => by simp at h; subst h; exact List.Perm.refl _
  | y :: l, j + 1, x, h => by
    simp at h
    simp only [List.eraseIdx_cons_succ]
    exact ((perm_at h).cons y).trans (List.Perm.swap x y _)
/-- A block of one's own is written. -/
theorem Core.write {C : Ctx} {H : Hp} {h : List (Nat × Blk)} {k : List (Nat × Value)} {w w' : World} (c : Core C H h k w) {j b : Nat} {ds ds' : List D} {us' : List Value} {T : TypeId} (hj : h[j]? = some (b, .cells ds T))
    (henv : Env w w') (hsz : w'.heap.size = w.heap.size) (hsame : ∀ i, i ≠ b → w'.heap[i]? = w.heap[i]?) (hb : w'.heap[b]? = some (.cells us'.toArray T (0, 0))) (hr : Reps H ds' us') : Core C H (h.set j (b, .cells ds' T)) k w' := by
  have hlt : j < h.length := (List.getElem?_eq_some_iff.1 hj).1
  have p1 : h.Perm ([(b, .cells ds T)] ++ h.eraseIdx j) := perm_at hj
  have c1 := c.perm p1 (List.Perm.refl k)
  obtain ⟨us, h1, h2, h3⟩ := c.blks _ (List.mem_of_getElem? hj)
  have c2 : Core ⟨H, w, claims [(b, Blk.cells ds T)] []⟩ H [(b, .cells ds' T)] [] w' := by
    refine ⟨fun a v e => ?_, Hp.le_refl H, fun _ _ x => .inl x, fun i _ hm => hsame i (by simpa [claims, blkClaim] using hm), by show w.heap.size ≤ w'.heap.size; omega, ?_, by simp, by simp [claims, blkClaim], ?_, ?_⟩
    · have hne : a.block ≠ b := fun e2 => by
        obtain ⟨ab, ao, as⟩ := a
        simp only at e2; subst e2
        have hc := c.ag _ _ e
        cases as with
        | none => rw [h3] at e; cases e
        | some s => simp [World.cell?, h1] at hc
      have := c.ag a v e
      simp only [World.cell?] at this ⊢
      rw [hsame _ hne]; exact this
    · intro p hp
      simp only [List.mem_singleton] at hp; subst hp
      exact ⟨us', hb, hr, h3⟩
    · intro x hx
      exact .inl (by simpa [claims, blkClaim] using hx)
    · exact henv
  have c3 := Core.call (h1 := [(b, .cells ds T)]) (k1 := []) (h2 := h.eraseIdx j) (k2 := k) (by simpa using c1) c2
  refine c3.perm ?_ (by simp)
  have p2 : (h.set j (b, Blk.cells ds' T))[j]? = some (b, Blk.cells ds' T) := by rw [List.getElem?_set_self hlt]
  have p3 := perm_at p2
  rw [List.eraseIdx_set_eq] at p3
  exact p3.symm

section
variable {P : Program} {C : Ctx} {N : Nat} {ops rest : List Oper} {o : Oper} {s : S} {Q : Exit → S → Prop} {tab : List (Option TI)}

theorem ops_store {b off : Nat} {T T' : TypeId} {x y : Operand} {ds : List D} {ti0 : TI} {d : D} (j : Nat) (ht : TabOK P tab) (ho : o.op = .store T x y) (hw : wantD ops s.t o = some true) (hd : o.dst = none)
    (hx : opD s.t x = some (.ptr b off)) (hb : s.h[j]? = some (b, .cells ds T')) (hT : ti tab T = some ti0) (hy : opD s.t y = some d) (hs : stor d = true) (hsz : Nat.beq (dcells d).length ti0.size = true) (hle : Nat.ble (off + ti0.size) ds.length = true)
    (h : opsD P C N ops rest ⟨s.t, s.h.set j (b, .cells (lay ds off (dcells d)) T'), s.k⟩ Q) : opsD P C N ops (o :: rest) s Q :=
  ops_unit hw hd fun H a w c k => by
    obtain ⟨us, h1, h2, h3⟩ := c.blks _ (List.mem_of_getElem? hb)
    have hv := stor_cells hs (opD_ok k hy)
    have hlen := reps_length hv
    have hlen2 := reps_length h2
    have e1 := Nat.eq_of_beq_eq_true hsz
    have e2 := Nat.le_of_ble_eq_true hle
    obtain ⟨w', h4, henv, h5, h6, h7⟩ := run_storeCells (P := P) (b := b) (off := off) (a.eval y).cells.toList 0 w us h1 (by omega) (reps_one hv)
    refine ⟨w', H, _, s.k, ?_, Hp.le_refl H, c.write hb henv h5 h6 h7 (by simpa using reps_lay h2 hv off), h⟩
    unfold execOp
    rw [ho]
    have hrun : (Instr.storeAt T (a.eval x) (a.eval y)).run P w = .ok () w' := by
      rw [rep_ptr_inv (opD_ok k hx)]
      unfold Instr.storeAt
      rw [run_bind_ok (a := (⟨b, off, none⟩ : Addr)) rfl]
      unfold storeVar
      rw [run_bind_ok (run_sizeOf (ti_ok ht hT)), if_neg (by simp only [Array.length_toList] at hlen; omega)]
      exact h4
    show ((Instr.storeAt T (a.eval x) (a.eval y)) >>= fun _ => pure Next.skip).run P w = _
    rw [run_bind_ok hrun]; rfl
theorem ops_box {i : Nat} {T : TypeId} {x : Operand} {d : D} (ho : o.op = .box T x) (hw : wantD ops s.t o = some true) (hd : o.dst = some i) (hi : Nat.blt i N = true) (hx : opD s.t x = some d) (hs : stor d = true)
    (h : ∀ b, opsD P C N ops rest ⟨(i, .ptr b 0) :: s.t, s.h ++ [(b, .cells (dcells d) T)], s.k⟩ Q) : opsD P C N ops (o :: rest) s Q := by
  refine ops_val hw hd hi fun H a w c k => ?_
  have hv := stor_cells hs (opD_ok k hx)
  refine ⟨.pointer (some ⟨w.heap.size, 0, none⟩), _, H, .ptr w.heap.size 0, _, s.k, ?_, Hp.le_refl H, c.alloc T hv, rep_cell (by simp [RepC]) rfl rfl, h w.heap.size⟩
  unfold execOp
  rw [ho]
  refine exec_v ?_
  unfold Instr.box
  rw [run_bind_ok run_newVar]
  simp
  first | done | rfl
end

/-! ### Calls -/
/-- It has a body. -/
def Goes (P : Program) (f : FuncId) : Prop := ∃ fn, P.funcs[f]? = some fn ∧ (fn.name == "runtime.NumGoroutine") = false ∧ fn.body.isNone = false
/-- What a call comes to. -/
def CallsD (P : Program) (f : FuncId) (ds : List D) (h : List (Nat × Blk)) (k : List (Nat × Value)) (R : D → List (Nat × Blk) → List (Nat × Value) → Prop) : Prop :=
  Goes P f ∧ ∀ H w vs, RepsV H ds vs → Ag H w → (∀ p ∈ h, BlkOK H w p) → (∀ p ∈ k, TokOK H w p) → (claims h k).Nodup →
    Calls P f vs.toArray w fun e w' => ∃ v H' d h' k', e = .returned v ∧ Rep H' d v ∧ Core ⟨H, w, claims h k⟩ H' h' k' w' ∧ R d h' k'
theorem CallsD.mono {P : Program} {f : FuncId} {ds : List D} {h : List (Nat × Blk)} {k : List (Nat × Value)} {R R' : D → List (Nat × Blk) → List (Nat × Value) → Prop} (c : CallsD P f ds h k R) (hr : ∀ d h k, R d h k → R' d h k) : CallsD P f ds h k R' :=
  ⟨c.1, fun H w vs h1 h2 h3 h4 h5 => (c.2 H w vs h1 h2 h3 h4 h5).mono fun _ _ ⟨v, H', d, h', k', e, a, b, r⟩ => ⟨v, H', d, h', k', e, a, b, hr _ _ _ r⟩⟩
/-- Less is told. -/
def Wk (d d' : D) : Prop := ∀ H y, Rep H d y → Rep H d' y
def WkL (ds ds' : List D) : Prop := ∀ H vs, RepsV H ds vs → RepsV H ds' vs
theorem Wk.refl (d : D) : Wk d d := fun _ _ h => h
theorem WkL.refl (ds : List D) : WkL ds ds := fun _ _ h => h
theorem WkL.cons {d d' : D} {ds ds' : List D} (h : Wk d d') (k : WkL ds ds') : WkL (d :: ds) (d' :: ds') := fun H vs x => by
  simp only [RepsV] at x ⊢
  obtain ⟨u, us, rfl, h1, h2⟩ := x
  exact ⟨u, us, rfl, h H u h1, k H us h2⟩
theorem Wk.any (d : D) : Wk d .any := fun _ y _ => ⟨by simp [RepC], rfl⟩
theorem Wk.no {k : Nat} {xs : List D} {c : Cap} : Wk (.lst k xs c) (.lst k xs .no) := fun H y h => by
  obtain ⟨h1, h2⟩ := h
  refine ⟨?_, by cases y <;> simp_all [D.shape]⟩
  simp only [RepC] at h1 ⊢
  obtain ⟨z, e, _, h3⟩ := h1
  exact ⟨z, e, trivial, h3⟩
theorem Wk.nil {k k' : Nat} : Wk (.lst k [] .full) (.lst k' [] .full) := fun H y h => by
  obtain ⟨h1, h2⟩ := h
  refine ⟨?_, by cases y <;> simp_all [D.shape]⟩
  simp only [RepC, Els] at h1 ⊢
  exact h1

theorem callFunc_run {P : Program} {f : FuncId} {w : World} {vs : Array Value} (h : Goes P f) : (callFunc f vs).run P w = .ok (.enter f vs) w := by
  obtain ⟨fn, h1, h2, h3⟩ := h
  unfold callFunc Go.program
  rw [run_bind_ok (a := P) rfl, h1]
  simp only [h2, h3, Bool.false_eq_true, if_false]
  rfl
section
variable {P : Program} {C : Ctx} {N : Nat} {ops rest : List Oper} {o : Oper} {s : S} {Q : Exit → S → Prop} {tab : List (Option TI)}
theorem call_run {f : FuncId} {args : Array Operand} {ts : Array TypeId} {a : Act} {w : World} (ho : o.op = .call ⟨.value (.func f), args, ts⟩) (h : Goes P f) : (execOp a.eval o).run P w = .ok (.enter f (args.map a.eval)) w := by
  unfold execOp
  rw [ho]
  simp only []
  have : (resolve a.eval ⟨.value (.func f), args, ts⟩ o.type).run P w = .ok ⟨.fn (.func f) #[], args.map a.eval⟩ w := by
    simp [resolve, Deferred.ofValue, Act.eval]
    first | done | rfl
  rw [run_bind_ok this]
  show (callFunc f (args.map a.eval ++ #[])).run P w = _
  rw [Array.append_empty]
  exact callFunc_run h
/-- A call. h1, k1: the blocks and the tokens that it is given. -/
theorem ops_call {f : FuncId} {args : List Operand} {ts : Array TypeId} {i : Nat} {ds ds' : List D} {h1 h2 : List (Nat × Blk)} {k1 k2 : List (Nat × Value)} {R : D → List (Nat × Blk) → List (Nat × Value) → Prop}
    (hc : CallsD P f ds' h1 k1 R) (ho : o.op = .call ⟨.value (.func f), args.toArray, ts⟩) (hw : wantD ops s.t o = some true) (hd : o.dst = some i) (hi : Nat.blt i N = true) (ha : someMap args (opD s.t) = some ds) (hwk : WkL ds ds')
    (hh : s.h.Perm (h1 ++ h2)) (hk : s.k.Perm (k1 ++ k2)) (h : ∀ d h' k', R d h' k' → opsD P C N ops rest ⟨(i, d) :: s.t, h' ++ h2, k' ++ k2⟩ Q) : opsD P C N ops (o :: rest) s Q := by
  rintro a w ⟨H, c, k, hN, hdf⟩
  unfold wpList
  rw [wantD_ok k hw, if_pos rfl]
  refine .inl ?_
  unfold Oper.wp
  rw [call_run ho hc.1, Oper.upon_enter]
  have c0 := c.perm hh hk
  have nd := (claims_append h1 h2 k1 k2).nodup_iff.1 c0.nd
  rw [List.nodup_append] at nd
  have hv := hwk H _ (someMap_ok k ha)
  have := hc.2 H w _ hv c.ag (fun p hp => c0.blks p (List.mem_append_left _ hp)) (fun p hp => c0.toks p (List.mem_append_left _ hp)) nd.1
  rw [List.map_toArray]
  refine this.mono ?_
  rintro e w' ⟨v, H', d, h', k', rfl, hr, hcore, hR⟩
  simp only []
  rw [hd]
  refine h d h' k' hR _ _ ⟨H', Core.call c0 hcore, TOK.put (k.mono hcore.le) (by rw [hN]; simpa using hi) hr, ?_, hdf⟩
  simp only [Act.put, Array.size_setIfInBounds]; exact hN
theorem ops_call0 {f : FuncId} {args : List Operand} {ts : Array TypeId} {ds ds' : List D} {h1 h2 : List (Nat × Blk)} {k1 k2 : List (Nat × Value)} {R : D → List (Nat × Blk) → List (Nat × Value) → Prop}
    (hc : CallsD P f ds' h1 k1 R) (ho : o.op = .call ⟨.value (.func f), args.toArray, ts⟩) (hw : wantD ops s.t o = some true) (hd : o.dst = none) (ha : someMap args (opD s.t) = some ds) (hwk : WkL ds ds')
    (hh : s.h.Perm (h1 ++ h2)) (hk : s.k.Perm (k1 ++ k2)) (h : ∀ d h' k', R d h' k' → opsD P C N ops rest ⟨s.t, h' ++ h2, k' ++ k2⟩ Q) : opsD P C N ops (o :: rest) s Q := by
  rintro a w ⟨H, c, k, hN, hdf⟩
  unfold wpList
  rw [wantD_ok k hw, if_pos rfl]
  refine .inl ?_
  unfold Oper.wp
  rw [call_run ho hc.1, Oper.upon_enter]
  have c0 := c.perm hh hk
  have nd := (claims_append h1 h2 k1 k2).nodup_iff.1 c0.nd
  rw [List.nodup_append] at nd
  have hv := hwk H _ (someMap_ok k ha)
  have := hc.2 H w _ hv c.ag (fun p hp => c0.blks p (List.mem_append_left _ hp)) (fun p hp => c0.toks p (List.mem_append_left _ hp)) nd.1
  rw [List.map_toArray]
  refine this.mono ?_
  rintro e w' ⟨v, H', d, h', k', rfl, hr, hcore, hR⟩
  simp only []
  rw [hd]
  exact h d h' k' hR _ _ ⟨H', Core.call c0 hcore, k.mono hcore.le, hN, hdf⟩

/-! ### Code -/
def thenD (next : S → Prop) (Q : Exit → S → Prop) : Exit → S → Prop
  | .normal, s => next s
  | x, s => Q x s
def blockD (id : Nat) (Q : Exit → S → Prop) : Exit → S → Prop
  | .exit j, s => bif Nat.beq j id then Q .normal s else Q (.exit j) s
  | x, s => Q x s
theorem wpD_region {id : Nat} {ops : List Oper} (h : opsD P C N ops ops s Q) : wpD P C N (.region id ops.toArray false) s Q := fun a w r => wp_region_lit (h a w r)
theorem wpD_seq {x y : Code} (h : wpD P C N x s (thenD (fun s' => wpD P C N y s' Q) Q)) : wpD P C N (.seq x y) s Q := fun a w r => by
  refine wp_seq (wp_mono (h a w r) ?_)
  rintro e a' w' ⟨s', r', q⟩
  cases e <;> first | exact q a' w' r' | exact ⟨s', r', q⟩
theorem wpD_skip (h : Q .normal s) : wpD P C N .skip s Q := fun _ _ r => wp_skip ⟨s, r, h⟩
theorem wpD_label {l : Nat} (h : Q .normal s) : wpD P C N (.label l) s Q := fun _ _ r => wp_label ⟨s, r, h⟩
theorem wpD_ret (h : Q .ret s) : wpD P C N .ret s Q := fun _ _ r => wp_ret ⟨s, r, h⟩
theorem wpD_exit {id : Nat} (h : Q (.exit id) s) : wpD P C N (.exit id) s Q := fun _ _ r => wp_exit ⟨s, r, h⟩
theorem wpD_goto {l : Nat} (h : Q (.goto l) s) : wpD P C N (.goto l) s Q := fun _ _ r => wp_goto ⟨s, r, h⟩
theorem wpD_cond {c : Operand} {x y : Code} {b : Bool} (hc : opD s.t c = some (.v (.bool b))) (ht : b = true → wpD P C N x s Q) (hf : b = false → wpD P C N y s Q) : wpD P C N (.cond c x y) s Q := fun a w r => by
  have r0 := r
  obtain ⟨H, _, k, _⟩ := r0
  exact wp_cond_split (t := b) (rep_v_inv (opD_ok k hc)) (fun e => ht e a w r) (fun e => hf e a w r)
theorem wpD_true {c : Operand} {x y : Code} (hc : opD s.t c = some (.v (.bool true))) (h : wpD P C N x s Q) : wpD P C N (.cond c x y) s Q := wpD_cond hc (fun _ => h) (fun e => by cases e)
theorem wpD_false {c : Operand} {x y : Code} (hc : opD s.t c = some (.v (.bool false))) (h : wpD P C N y s Q) : wpD P C N (.cond c x y) s Q := wpD_cond hc (fun e => by cases e) (fun _ => h)
theorem wpD_block {id : Nat} {c : Code} (h : wpD P C N c s (blockD id Q)) : wpD P C N (.block id c) s Q := fun a w r => by
  refine wp_block (wp_mono (h a w r) ?_)
  rintro e a' w' ⟨s', r', q⟩
  cases e with
  | exit j =>
    simp only [blockD] at q
    simp only [Exit.inBlock]
    cases hb : Nat.beq j id with
    | true => rw [hb] at q; rw [if_pos (Nat.eq_of_beq_eq_true hb)]; exact ⟨s', r', q⟩
    | false => rw [hb] at q; rw [if_neg (Nat.ne_of_beq_eq_false hb)]; exact ⟨s', r', q⟩
  | _ => exact ⟨s', r', q⟩
theorem wpD_wk {c : Code} {s' : S} (hs : ∀ H a w, Core C H s.h s.k w → TOK H s.t a → ∃ H', H.le H' ∧ Core C H' s'.h s'.k w ∧ TOK H' s'.t a) (h : wpD P C N c s' Q) : wpD P C N c s Q := by
  rintro a w ⟨H, c, k, hN, hdf⟩
  obtain ⟨H', hle, c', k'⟩ := hs H a w c k
  exact h a w ⟨H', c', k', hN, hdf⟩
theorem wpD_mono {c : Code} {Q' : Exit → S → Prop} (h : wpD P C N c s Q) (hq : ∀ x s, Q x s → Q' x s) : wpD P C N c s Q' := fun a w r => wp_mono (h a w r) fun _ _ _ ⟨s', r', q⟩ => ⟨s', r', hq _ _ q⟩
/-- Some rounds of a loop. -/
def roundsD (P : Program) (C : Ctx) (N : Nat) (c : Code) (Q : Exit → S → Prop) (n : Nat) (s : S) : Prop := ∀ a w, Rel C N s a w → Code.rounds P c (QD C N Q) n a w
theorem wpD_loop {c : Code} (n : Nat) (h : roundsD P C N c Q n s) : wpD P C N (.loop c) s Q := fun a w r => wp_loop_rounds n (h a w r)
theorem roundsD_succ {c : Code} {n : Nat} (h : wpD P C N c s (thenD (roundsD P C N c Q n) Q)) : roundsD P C N c Q (n + 1) s := fun a w r => by
  rw [rounds_succ]
  refine wp_mono (h a w r) ?_
  rintro e a' w' ⟨s', r', q⟩
  cases e <;> first | exact q a' w' r' | exact ⟨s', r', q⟩
end
end Go.Proofs.Ytpapooaaccmnpaa.Ab
