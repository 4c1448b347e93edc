/- Rows that are made, read and written element by element. Over any program. -/
import Derived.Test.YtpapooaaccmnpaaRw3
namespace Go.Proofs.Ytpapooaaccmnpaa.Ab
open Go
set_option linter.all false
/-- A pointer into a row. -/
abbrev PE (z : Z3) (o : Nat) : Value := .pointer (z.1.map (·.add o))
def mkOK (bb : Nat) (n c : Int) : Bool := decide (0 ≤ n) && decide (n ≤ c) && decide (c * bb ≤ 140737488355328)
theorem mkOK_of {bb : Nat} {n c : Int} (h : mkOK bb n c = true) : 0 ≤ n ∧ n ≤ c ∧ c * bb ≤ 140737488355328 := by
  simp only [mkOK, Bool.and_eq_true, decide_eq_true_eq] at h; exact ⟨h.1.1, h.1.2, h.2⟩
theorem flat_rep {H : Hp} {kk : Nat} {x : D} {us : List Value} (hl : us.length = kk) (h : RepC H x us) (h1 : ∀ u ∈ us, one u = true) : ∀ n, FlatR H kk (List.replicate n x) (List.replicate n us).flatten
  | 0 => rfl
  | n + 1 => by
    simp only [List.replicate_succ, List.flatten_cons]
    exact ⟨us, _, rfl, hl, ⟨h, h1⟩, flat_rep hl h h1 n⟩
theorem flat_at {H : Hp} {kk : Nat} : ∀ {xs : List D} {us : List Value} {j : Nat} {x : D}, FlatR H kk xs us → xs[j]? = some x → ∃ vs, vs.length = kk ∧ RepC H x vs ∧ (∀ u ∈ vs, one u = true) ∧ (us.drop (j * kk)).take kk = vs ∧ j * kk + kk ≤ us.length
  | [], us, j, x, _, e => by simp at e
  | y :: xs, us, 0, x, h, e => by
    obtain ⟨u1, u2, rfl, hl, ⟨h1, h2⟩, h3⟩ := h
    simp only [List.getElem?_cons_zero, Option.some.injEq] at e
    subst e
    refine ⟨u1, hl, h1, h2, ?_, by simp [hl]⟩
    rw [Nat.zero_mul, List.drop_zero, List.take_append_of_le_length (by omega), List.take_of_length_le (by omega)]
  | y :: xs, us, j + 1, x, h, e => by
    obtain ⟨u1, u2, rfl, hl, ⟨h1, h2⟩, h3⟩ := h
    simp only [List.getElem?_cons_succ] at e
    obtain ⟨vs, g1, g2, g3, g4, g5⟩ := flat_at h3 e
    refine ⟨vs, g1, g2, g3, ?_, by simp only [List.length_append, hl, Nat.add_mul]; omega⟩
    rw [show (j + 1) * kk = u1.length + j * kk by rw [hl, Nat.add_mul]; omega, List.drop_append, List.drop_of_length_le (by omega), List.nil_append, Nat.add_sub_cancel_left]
    exact g4
theorem flat_set {H : Hp} {kk : Nat} {x : D} {vs : List Value} (hl : vs.length = kk) (hx : RepC H x vs) (h1 : ∀ u ∈ vs, one u = true) : ∀ {xs : List D} {us : List Value} {j : Nat}, FlatR H kk xs us → j < xs.length → FlatR H kk (xs.set j x) (us.take (j * kk) ++ (vs ++ us.drop (j * kk + kk)))
  | [], us, j, _, e => by simp at e
  | y :: xs, us, 0, h, e => by
    obtain ⟨u1, u2, rfl, hl', ⟨h2, h3⟩, h4⟩ := h
    simp only [List.set_cons_zero, Nat.zero_mul, List.take_zero, List.nil_append, Nat.zero_add]
    refine ⟨vs, u2, ?_, hl, ⟨hx, h1⟩, h4⟩
    rw [List.drop_append, List.drop_of_length_le (by omega), List.nil_append, hl', Nat.sub_self, List.drop_zero]
  | y :: xs, us, j + 1, h, e => by
    obtain ⟨u1, u2, rfl, hl', ⟨h2, h3⟩, h4⟩ := h
    simp only [List.set_cons_succ]
    refine ⟨u1, _, ?_, hl', ⟨h2, h3⟩, flat_set hl hx h1 h4 (by simpa using e)⟩
    have q : (j + 1) * kk = u1.length + j * kk := by rw [hl', Nat.add_mul]; omega
    rw [q, List.take_append, List.take_of_length_le (by omega), Nat.add_sub_cancel_left, List.append_assoc, List.drop_append, List.drop_of_length_le (by omega), List.nil_append]
    congr 4
    omega
/-- A new row of zeros. -/
theorem Core.newRow {C : Ctx} {H : Hp} {h : List (Nat × Blk)} {k : List (Nat × Value)} {w : World} (c : Core C H h k w) {xs : List D} {us rest : List Value} {kk m : Nat} {T : TypeId} (hf : FlatR H kk xs us) (hm : xs.length ≤ m) (hl : m * kk ≤ (us ++ rest).length) (z : m = 0 → xs = []) :
    Core C H ((0, .row kk xs (SL (some ⟨w.heap.size, 0, none⟩, xs.length, m))) :: h) k (w.alloc (.cells (us ++ rest).toArray T)) := by
  have c0 : Core ⟨H, w, []⟩ H [(0, .row kk xs (SL (some ⟨w.heap.size, 0, none⟩, xs.length, m)))] [] (w.alloc (.cells (us ++ rest).toArray T)) := by
    refine ⟨fun a v e => cell_alloc _ (c.ag a v e), Hp.le_refl H, fun _ _ x => .inl x, fun b hb _ => ?_, ?_, ?_, by simp, ?_, ?_, ⟨rfl, rfl, rfl⟩⟩
    · rw [heap_alloc, if_neg (by exact Nat.ne_of_lt hb)]
    · rw [size_alloc]; exact Nat.le_succ _
    · intro p hp
      simp only [List.mem_singleton] at hp; subst hp
      by_cases q : m = 0
      · subst q
        have := z rfl
        subst this
        exact .inl ⟨_, rfl, rfl⟩
      · refine .inr ⟨w.heap.size, m, us, rest, T, rfl, hm, by omega, by rw [heap_alloc, if_pos rfl], hf, hl, fun o => ?_⟩
        cases e : H ⟨w.heap.size, o, none⟩ with
        | none => rfl
        | some v => exact absurd (c.ag.lt e) (Nat.lt_irrefl _)
    · simp only [claims, blkClaim, sliceClaim, List.flatMap_cons, List.flatMap_nil, List.append_nil]
      split <;> simp
    · intro b hb
      simp only [claims, blkClaim, sliceClaim, List.flatMap_cons, List.flatMap_nil, List.append_nil] at hb
      split at hb
      · simp at hb; subst hb
        exact .inr (Nat.le_refl _)
      · cases hb
  have := Core.call (h1 := []) (k1 := []) (h2 := h) (k2 := k) c c0
  simpa using this
theorem zero_cells {z : List Value} {kk : Nat} (hz : z.length = kk) : ∀ n, ((List.replicate n z).flatten).length = n * kk
  | 0 => by simp
  | n + 1 => by simp [List.replicate_succ, zero_cells hz n, hz, Nat.add_mul]; omega
theorem repl_at {z : List Value} : ∀ (n i : Nat), i < n * z.length → (List.replicate n z).flatten[i]? = z[i % z.length]?
  | 0, i, h => by simp at h
  | n + 1, i, h => by
    simp only [List.replicate_succ, List.flatten_cons]
    rw [List.getElem?_append]
    split
    · rename_i hlt; rw [Nat.mod_eq_of_lt hlt]
    · rename_i hge
      rw [repl_at n (i - z.length) (by rw [Nat.add_mul, Nat.one_mul] at h; omega)]
      rw [Nat.mod_eq_sub_mod (a := i) (by omega)]
section
variable {P : Program} {C : Ctx} {N : Nat} {ops rest : List Oper} {o : Oper} {t : List (Nat × D)} {h : List (Nat × Blk)} {k : List (Nat × Value)} {Q : Exit → S → Prop} {tab : List (Option TI)}
theorem p_makeR {i kk bb : Nat} {T e : TypeId} {x y : Operand} {k1 k2 : IntKind} {n c : Int} {x0 : D} {ti0 ie : TI} (hT : TabOK P tab) (ho : o.op = .makeSlice T x y) (hw : wantD ops t o = some true) (hd : o.dst = some i) (hi : Nat.blt i N = true)
    (hx : opD t x = some (.v (.int k1 n))) (hy : opD t y = some (.v (.int k2 c))) (hti : ti tab T = some ti0) (hs : ti0.d = .slice e) (hie : ti tab e = some ie) (hks : ie.size = kk) (hbb : ie.bytes = bb) (hz : ie.zero.length = kk) (hb1 : Nat.ble 1 bb = true) (hk1 : Nat.ble 1 kk = true) (h1z : ie.zero.all one = true)
    (hok : mkOK bb n c = true) (hz0 : ∀ H, RepC H x0 ie.zero)
    (g : ∀ z : Z3, opsD P C N ops rest ⟨(i, .v (SL z)) :: t, (0, .row kk (List.replicate n.toNat x0) (SL z)) :: h, k⟩ Q) : opsD P C N ops (o :: rest) ⟨t, h, k⟩ Q :=
  ops_val (s := ⟨t, h, k⟩) hw hd hi fun H a w core kt => by
    subst hks; subst hbb
    obtain ⟨h0, hnc, hcb⟩ := mkOK_of hok
    have hb1' := Nat.le_of_ble_eq_true hb1
    have hk1' := Nat.le_of_ble_eq_true hk1
    obtain ⟨d0, u0, u1⟩ := run_underlying (w := w) (ti_ok hT hti)
    have e0 := td_slice (u1.trans hs); subst e0
    have hTe := ti_ok hT hie
    obtain ⟨tif, zz, t1, t2, t3, t4, t5⟩ := run_typeInfo (w := w) hTe
    obtain ⟨zv, hz1, hz2⟩ := run_zeroValue (w := w) hTe
    have hone : ∀ u ∈ ie.zero, one u = true := by simpa [List.all_eq_true] using h1z
    have hc : c ≤ 140737488355328 := by
      have : c * 1 ≤ c * (ie.bytes : Int) := Int.mul_le_mul_of_nonneg_left (by omega) (by omega)
      omega
    have wl : IntKind.i64.wrap n = n := by rw [IntKind.wrap_i64]; omega
    have wc : IntKind.i64.wrap c = c := by rw [IntKind.wrap_i64]; omega
    let xs := List.replicate n.toNat x0
    have hxl : xs.length = n.toNat := by simp [xs]
    refine ⟨SL (some ⟨w.heap.size, 0, none⟩, n.toNat, c.toNat), w.alloc (.cells ((List.replicate n.toNat ie.zero).flatten ++ (List.replicate (c.toNat - n.toNat) ie.zero).flatten).toArray e), H, .v (SL (some ⟨w.heap.size, 0, none⟩, n.toNat, c.toNat)), (0, .row ie.size xs (SL (some ⟨w.heap.size, 0, none⟩, n.toNat, c.toNat))) :: h, k, ?_, Hp.le_refl H, ?_, rep_v rfl, g _⟩
    · unfold execOp
      rw [ho]
      refine exec_v ?_
      rw [rep_v_inv (opD_ok kt hx), rep_v_inv (opD_ok kt hy)]
      unfold Instr.makeSlice
      rw [run_bind_ok u0]
      simp only []
      rw [run_bind_ok (a := n) rfl, run_bind_ok (a := c) rfl, run_bind_ok t1]
      simp only [wl, wc, t3]
      rw [if_neg (by
        simp only [Bool.or_eq_true, decide_eq_true_eq, not_or, Int.not_lt, Int.not_le]
        refine ⟨⟨⟨by omega, ?_⟩, by omega⟩, by omega⟩
        have : (ie.bytes : Int) * c ≤ 140737488355328 := by rw [Int.mul_comm]; exact hcb
        show (ie.bytes : Int) * c ≤ 2 ^ 48
        omega)]
      rw [run_bind_ok askRoom_run, run_bind_ok (run_sizeOf hTe)]
      have hcell : ∀ zr : Array Value, (c.toNat * ie.size = 0 ∨ zr.toList = ie.zero) → (Array.range (c.toNat * ie.size)).map (zr[· % zr.size]!) = ((List.replicate n.toNat ie.zero).flatten ++ (List.replicate (c.toNat - n.toNat) ie.zero).flatten).toArray := by
        intro zr hzr
        apply Array.ext'
        have e1 : (List.replicate n.toNat ie.zero).flatten ++ (List.replicate (c.toNat - n.toNat) ie.zero).flatten = (List.replicate c.toNat ie.zero).flatten := by
          rw [← List.flatten_append, List.replicate_append_replicate, show n.toNat + (c.toNat - n.toNat) = c.toNat by omega]
        rw [e1]
        apply List.ext_getElem?
        intro i
        simp only [Array.toList_map, Array.toList_range, List.getElem?_map]
        rcases hzr with q | q
        · have hc0 : c.toNat = 0 := by
            rcases Nat.mul_eq_zero.1 q with q | q
            · exact q
            · omega
          rw [hc0]; simp
        · have hsz : zr.size = ie.size := by rw [← Array.length_toList, q, hz]
          by_cases hlt : i < c.toNat * ie.size
          · rw [List.getElem?_range hlt, repl_at c.toNat i (by rw [hz]; exact hlt)]
            simp only [Option.map_some]
            have hml : i % zr.size < zr.size := Nat.mod_lt _ (by omega)
            rw [← q, Array.length_toList, Array.getElem?_toList, getElem!_pos zr _ hml, getElem?_pos zr _ hml]
          · rw [List.getElem?_eq_none (by simpa using hlt), List.getElem?_eq_none (by rw [zero_cells hz]; omega)]
            rfl
      by_cases q : c.toNat * ie.size = 0
      · rw [if_pos q, run_bind_ok (a := (#[] : Array Value)) rfl, hcell #[] (.inl q)]
        rfl
      · rw [if_neg q]
        simp only [run_bind, hz1, run_pure]
        rw [hcell zv.cells (.inr hz2)]
        rfl
    · have := core.newRow (xs := xs) (us := (List.replicate n.toNat ie.zero).flatten) (rest := (List.replicate (c.toNat - n.toNat) ie.zero).flatten) (kk := ie.size) (m := c.toNat) (T := e)
        (flat_rep hz (hz0 H) hone n.toNat) (by omega) (by simp only [List.length_append, zero_cells hz]; rw [← Nat.add_mul]; exact Nat.mul_le_mul_right _ (by omega)) (fun q => by
          have : n.toNat = 0 := by omega
          simp [xs, this])
      rw [hxl] at this
      exact this
theorem p_makeR2 {i kk bb : Nat} {T e : TypeId} {x y : Operand} {k1 k2 : IntKind} {n c : Int} {x0 : D} {zs : List D} {ti0 ie : TI} (hT : TabOK P tab) (ho : o.op = .makeSlice T x y) (hw : wantD ops t o = some true) (hd : o.dst = some i) (hi : Nat.blt i N = true)
    (hx : opD t x = some (.v (.int k1 n))) (hy : opD t y = some (.v (.int k2 c))) (hti : ti tab T = some ti0) (hs : ti0.d = .slice e) (hie : ti tab e = some ie) (hks : ie.size = kk) (hbb : ie.bytes = bb) (hz : ie.zero.length = kk) (hb1 : Nat.ble 1 bb = true) (hk1 : Nat.ble 1 kk = true) (h1z : ie.zero.all one = true)
    (hok : mkOK bb n c = true) (hz0 : ∀ H, RepC H x0 ie.zero) (em : List.replicate n.toNat x0 = zs)
    (g : ∀ z : Z3, opsD P C N ops rest ⟨(i, .v (SL z)) :: t, (0, .row kk zs (SL z)) :: h, k⟩ Q) : opsD P C N ops (o :: rest) ⟨t, h, k⟩ Q := by
  subst em
  exact p_makeR hT ho hw hd hi hx hy hti hs hie hks hbb hz hb1 hk1 h1z hok hz0 g
theorem set_map {α : Type} {e : α → D} {xs : List α} {j : Nat} {v : α} : (xs.map e).set j (e v) = (xs.set j v).map e := List.map_set.symm
theorem idx_mlt {α : Type} {e : α → D} {xs : List α} {j : Int} {x : α} (h : idx xs j = some x) : j.toNat < (xs.map e).length := by simpa using idx_lt h
/-- An element's place in a row. -/
theorem p_elemR {i r kk : Nat} {T e : TypeId} {x ix : Operand} {xs : List D} {z : Z3} {ik : IntKind} {jx : Int} {d : D} {ti0 tie : TI} (j : Nat) (hT : TabOK P tab) (ho : o.op = .indexAddr T x ix) (hw : wantD ops t o = some true) (hd : o.dst = some i) (hi : Nat.blt i N = true)
    (hx : opD t x = some (.v (SL z))) (hj : h[j]? = some (r, .row kk xs (SL z))) (hix : opD t ix = some (.v (.int ik jx))) (hti : ti tab T = some ti0) (hs : ti0.d = .slice e) (hte : ti tab e = some tie) (hk : tie.size = kk) (h0 : 0 ≤ jx) (hb : xs[jx.toNat]? = some d)
    (g : opsD P C N ops rest ⟨(i, .v (PE z (jx.toNat * kk))) :: t, h, k⟩ Q) : opsD P C N ops (o :: rest) ⟨t, h, k⟩ Q :=
  ops_val (s := ⟨t, h, k⟩) hw hd hi fun H a w core kt => by
    obtain ⟨dd, h1, h2⟩ := run_underlying (w := w) (ti_ok hT hti)
    have := td_slice (h2.trans hs); subst this
    obtain ⟨hlt, _⟩ := List.getElem?_eq_some_iff.1 hb
    rcases core.blks _ (List.mem_of_getElem? hj) with ⟨ad, _, e2⟩ | ⟨b, m, us, rest', TT, e1, g0, hm, g1, g2, g3, g4⟩
    · subst e2; simp at hb
    refine ⟨PE z (jx.toNat * kk), w, H, _, h, k, ?_, Hp.le_refl H, core, rep_v rfl, g⟩
    unfold execOp
    rw [ho]
    refine exec_v ?_
    rw [rep_v_inv (opD_ok kt hx), rep_v_inv (opD_ok kt hix)]
    obtain ⟨z1, z2, z3⟩ := z
    simp only [SL, Value.slice.injEq] at e1
    obtain ⟨rfl, rfl, rfl⟩ := e1
    unfold Instr.indexAt
    rw [run_bind_ok (a := (ik, jx)) rfl]
    simp only []
    have hlt2 : jx < (xs.length : Int) := by omega
    simp only [SL, PE, run_bind, h1, run_pure, run_sizeOf (ti_ok hT hte), hk, if_pos (show 0 ≤ jx ∧ jx < (xs.length : Int) from ⟨h0, hlt2⟩), addr_add, Option.map_some]
theorem p_loadR {i r kk jn : Nat} {T : TypeId} {x : Operand} {xs : List D} {z : Z3} {d0 d : D} {ti0 : TI} (j : Nat) (hT : TabOK P tab) (ho : o.op = .load T x) (hw : wantD ops t o = some true) (hd : o.dst = some i) (hi : Nat.blt i N = true)
    (hx : opD t x = some (.v (PE z (jn * kk)))) (hj : h[j]? = some (r, .row kk xs (SL z))) (hti : ti tab T = some ti0) (hb : xs[jn]? = some d0) (e : partD ti0 (dcells d0) 0 = some d) (hne : dcells d0 ≠ [])
    (g : opsD P C N ops rest ⟨(i, d) :: t, h, k⟩ Q) : opsD P C N ops (o :: rest) ⟨t, h, k⟩ Q :=
  ops_val (s := ⟨t, h, k⟩) hw hd hi fun H a w core kt => by
    rcases core.blks _ (List.mem_of_getElem? hj) with ⟨ad, _, e2⟩ | ⟨b, m, us, rest', TT, e1, g0, hm, g1, g2, g3, g4⟩
    · subst e2; simp at hb
    obtain ⟨vs, f1, f2, f3, f4, f5⟩ := flat_at g2 hb
    have hrow : RowAt w b (jn * kk) vs := fun q u eq => by
      have := (row_block g1).drop (jn * kk)
      rw [Nat.zero_add] at this
      refine this q u ?_
      rw [List.drop_append_of_le_length (by omega)]
      have hq := (List.getElem?_eq_some_iff.1 eq).1
      rw [← f4, List.getElem?_take, if_pos (by omega)] at eq
      rw [List.getElem?_append_left (by rw [List.length_drop]; omega)]
      exact eq
    obtain ⟨v, h5, h6⟩ := run_loadAt (P := P) (T := T) (n := 0) (ti_ok hT hti) hrow (repC_cells hne f2 f3) e
    refine ⟨v, w, H, d, h, k, ?_, Hp.le_refl H, core, h6, g⟩
    unfold execOp
    rw [ho]
    refine exec_v ?_
    rw [rep_v_inv (opD_ok kt hx)]
    obtain ⟨z1, z2, z3⟩ := z
    simp only [SL, Value.slice.injEq] at e1
    obtain ⟨rfl, rfl, rfl⟩ := e1
    simpa [PE, addr_add] using h5
/-- A store into a row. -/
theorem p_storeR {r kk jn : Nat} {T : TypeId} {x y : Operand} {xs xs' : List D} {z : Z3} {d : D} {ti0 : TI} (j : Nat) (hT : TabOK P tab) (ho : o.op = .store T x y) (hw : wantD ops t o = some true) (hd : o.dst = none)
    (hx : opD t x = some (.v (PE z (jn * kk)))) (hj : h[j]? = some (r, .row kk xs (SL z))) (hti : ti tab T = some ti0) (hy : opD t y = some d) (hs : stor d = true) (hsz : ti0.size = kk) (hdl : Nat.beq (dcells d).length kk = true) (hlt : jn < xs.length) (em : xs.set jn d = xs')
    (g : opsD P C N ops rest ⟨t, h.set j (r, .row kk xs' (SL z)), k⟩ Q) : opsD P C N ops (o :: rest) ⟨t, h, k⟩ Q :=
  ops_unit (s := ⟨t, h, k⟩) hw hd fun H a w core kt => by
    subst em
    have hbl := core.blks _ (List.mem_of_getElem? hj)
    rcases hbl with ⟨ad, _, e2⟩ | ⟨b, m, us, rest', TT, e1, g0, hm, g1, g2, g3, g4⟩
    · subst e2; simp at hlt
    have hry := opD_ok kt hy
    have hv := stor_cells hs hry
    have hlen := reps_length hv
    have hkl := Nat.eq_of_beq_eq_true hdl
    have hul := flat_len g2
    have hvl : (a.eval y).cells.toList.length = kk := by omega
    obtain ⟨z1, z2, z3⟩ := z
    simp only [SL, Value.slice.injEq] at e1
    obtain ⟨rfl, rfl, rfl⟩ := e1
    have hjm : jn * kk + kk ≤ us.length := by
      rw [hul]
      have := Nat.mul_le_mul_right kk (show jn + 1 ≤ xs.length from hlt)
      rw [Nat.add_mul] at this; omega
    have hone := reps_one hv
    obtain ⟨w', s1, s2, s3, s4, s5⟩ := run_storeCells (P := P) (b := b) (off := jn * kk) (T := TT) (a.eval y).cells.toList 0 w (us ++ rest') g1 (by rw [hvl, List.length_append]; omega) hone
    rw [Nat.add_zero, hvl] at s5
    have ecells : (us ++ rest').take (jn * kk) ++ ((a.eval y).cells.toList ++ (us ++ rest').drop (jn * kk + kk)) = (us.take (jn * kk) ++ ((a.eval y).cells.toList ++ us.drop (jn * kk + kk))) ++ rest' := by
      rw [List.take_append_of_le_length (by omega), List.drop_append_of_le_length (by omega)]
      simp
    rw [ecells] at s5
    have hrc : RepC H d (a.eval y).cells.toList := hry.1
    have c1 : Core C H ([(r, .row kk xs (.slice (some ⟨b, 0, none⟩) xs.length z3))] ++ h.eraseIdx j) ([] ++ k) w := core.perm (perm_at hj) (List.Perm.refl _)
    have hclaim : claims [(r, Blk.row kk xs (.slice (some ⟨b, 0, none⟩) xs.length z3))] [] = [b] := by simp [claims, blkClaim, sliceClaim, hm]
    have c2 : Core ⟨H, w, claims [(r, Blk.row kk xs (.slice (some ⟨b, 0, none⟩) xs.length z3))] []⟩ H [(r, .row kk (xs.set jn d) (.slice (some ⟨b, 0, none⟩) xs.length z3))] [] w' := by
      rw [hclaim]
      refine ⟨fun a v0 ea => ?_, Hp.le_refl H, fun _ _ x => .inl x, fun i _ hm => s4 i (by simpa using hm), by show w.heap.size ≤ w'.heap.size; omega, ?_, by simp, ?_, ?_, s2⟩
      · have hcell := core.ag a v0 ea
        by_cases qb : a.block = b
        · obtain ⟨ab, ao, as⟩ := a
          simp only at qb; subst qb
          cases as with
          | some sp => simp [World.cell?, g1] at hcell
          | none => rw [g4 ao] at ea; cases ea
        · simp only [World.cell?] at hcell ⊢
          rw [s4 _ qb]; exact hcell
      · intro p hp
        simp only [List.mem_singleton] at hp; subst hp
        refine .inr ⟨b, z3, _, rest', TT, by simp, by simpa using g0, hm, s5, flat_set hvl hrc hone g2 hlt, ?_, g4⟩
        have := congrArg List.length ecells
        simp only [List.length_append, List.length_take, List.length_drop] at this g3 ⊢
        omega
      · simp [claims, blkClaim, sliceClaim, hm]
      · intro x hx; simp [claims, blkClaim, sliceClaim, hm] at hx; subst hx; exact .inl (by simp)
    refine ⟨w', H, h.set j (r, .row kk (xs.set jn d) (.slice (some ⟨b, 0, none⟩) xs.length z3)), k, ?_, Hp.le_refl H, (Core.call c1 c2).perm (perm_set hj) (List.Perm.refl _), g⟩
    unfold execOp
    rw [ho]
    have hrun : (Instr.storeAt T (a.eval x) (a.eval y)).run P w = .ok () w' := by
      rw [rep_v_inv (opD_ok kt hx)]
      unfold Instr.storeAt
      simp only [PE, Option.map_some, addr_add, Nat.zero_add]
      rw [run_bind_ok (a := (⟨b, jn * kk, none⟩ : Addr)) rfl]
      unfold storeVar
      rw [run_bind_ok (run_sizeOf (ti_ok hT hti)), if_neg (by rw [← Array.length_toList, hvl, hsz]; simp)]
      exact s1
    show ((Instr.storeAt T (a.eval x) (a.eval y)) >>= fun _ => pure Next.skip).run P w = _
    rw [run_bind_ok hrun]; rfl
end
end Go.Proofs.Ytpapooaaccmnpaa.Ab
