/- append to a row. Over any program. -/
import Derived.Test.YtpapooaaccmnpaaRw1
namespace Go.Proofs.Ytpapooaaccmnpaa.Ab
open Go
set_option linter.all false
/-- A row's cells, as append reads them. -/
theorem first_row {P : Program} {w : World} {H : Hp} {r kk : Nat} {xs : List D} {y : Value} (hb : BlkOK H w (r, .row kk xs y)) :
    ∃ us : List Value, us.length = xs.length * kk ∧ FlatR H kk xs us ∧ (Builtin.firstCells kk xs.length y).run P w = .ok us.toArray w := by
  rcases hb with ⟨a, rfl, rfl⟩ | ⟨b, m, us, rest, T, rfl, h0, hm, h1, h2, h3, h4⟩
  · refine ⟨[], by simp, rfl, ?_⟩
    cases a with
    | none => rfl
    | some a => simp only [Builtin.firstCells, List.length_nil, Nat.zero_mul]; rfl
  · have hl := flat_len h2
    refine ⟨us, hl, h2, ?_⟩
    have hr : RowAt w b 0 us := fun j u e => by
      have := row_block h1 j u (by rw [List.getElem?_append_left (List.getElem?_eq_some_iff.1 e).1]; exact e)
      exact this
    have := run_loadCells (P := P) (xs.length * kk) hr (by omega)
    rw [← hl, List.take_length] at this
    simp only [Builtin.firstCells]
    rw [← hl]; exact this
theorem first_told {P : Program} {w : World} {H : Hp} (hA : Ag H w) {kk : Nat} {xs : List D} {c : Cap} {v : Value} (hr : Rep H (.lst kk xs c) v) :
    ∃ us : List Value, us.length = xs.length * kk ∧ FlatR H kk xs us ∧ (Builtin.firstCells kk xs.length v).run P w = .ok us.toArray w := by
  obtain ⟨_, h⟩ := rep_lst_inv hr
  rcases h with ⟨rfl, a, m, rfl, _⟩ | ⟨b, off, m, rfl, hm, hE⟩
  · refine ⟨[], by simp, rfl, ?_⟩
    cases a with
    | none => rfl
    | some a => simp only [Builtin.firstCells, List.length_nil, Nat.zero_mul]; rfl
  · obtain ⟨us, h1, h2, h3⟩ := els_flatR hE
    refine ⟨us, h1, h3, ?_⟩
    have := run_loadCells (P := P) (xs.length * kk) (h2.row hA) (by omega)
    rw [← h1, List.take_length] at this
    simp only [Builtin.firstCells]
    rw [← h1]; exact this
theorem Core.drew' {H : Hp} {w : World} (hA : Ag H w) : Ag H (wDrew w) := fun a v e => hA a v e
theorem blk_drew {H : Hp} {w : World} {p : Nat × Blk} (h : BlkOK H w p) : BlkOK H (wDrew w) p := by
  obtain ⟨b, bl⟩ := p
  cases bl <;> exact h
/-- A row with what is told behind it: what append comes to. -/
theorem app_runR {P : Program} {tab : List (Option TI)} (hT : TabOK P tab) {H : Hp} {w : World} {r kk bb : Nat} {T T' e e' : TypeId} {ty : TypeId} {i0 i1 ie : TI} {xs ys : List D} {v1 v2 : Value}
    (hA : Ag H w) (hrow : BlkOK H w (r, .row kk xs v1)) (hown : ∀ b ∈ claims [(r, .row kk xs v1)] [], b < w.heap.size)
    (hl2 : (Builtin.lenOf v2).run P w = .ok ys.length w) (hf2 : ∀ w', (∀ b, b < w.heap.size → w'.heap[b]? = w.heap[b]?) → ∃ us : List Value, us.length = ys.length * kk ∧ FlatR H kk ys us ∧ (Builtin.firstCells kk ys.length v2).run P w' = .ok us.toArray w')
    (hi0 : ti tab T = some i0) (hd0 : i0.d = .slice e) (hi1 : ti tab T' = some i1) (hd1 : i1.d = .slice e') (hie : ti tab e = some ie) (hks : ie.size = kk) (hbb : ie.bytes = bb) (hz : ie.zero.length = kk) (hb1 : 1 ≤ bb) (hbound : (xs.length + ys.length) * bb ≤ 140737488355328) :
    ∃ (z : Z3) (w' : World), (Builtin.append_ #[T, T'] ty #[v1, v2]).run P w = .ok (SL z) w' ∧ Core ⟨H, w, claims [(r, .row kk xs v1)] []⟩ H [(0, .row kk (xs ++ ys) (SL z))] [] w' := by
  subst hks; subst hbb
  have hTe := ti_ok hT hie
  obtain ⟨d0, u0, u1⟩ := run_underlying (w := w) (ti_ok hT hi0)
  have e0 := td_slice (u1.trans hd0); subst e0
  obtain ⟨d1, u2, u3⟩ := run_underlying (w := w) (ti_ok hT hi1)
  have e1 := td_slice (u3.trans hd1); subst e1
  obtain ⟨tif, z, t1, t2, t3, t4, t5⟩ := run_typeInfo (w := w) hTe
  have hneed : xs.length + ys.length ≤ 140737488355328 := Nat.le_trans (Nat.le_mul_of_pos_right _ hb1) hbound
  have start : ∀ base cap, v1 = .slice base xs.length cap → (Builtin.append_ #[T, T'] ty #[v1, v2]).run P w =
      (if xs.length + ys.length ≤ cap then (do
          let new ← Builtin.firstCells ie.size ys.length v2
          if let some a := base then storeCells (a.add (xs.length * ie.size)) new.toList
          pure (.slice base (xs.length + ys.length) cap) : Sem Value)
       else (do
          if ((xs.length + ys.length : Nat) : Int) > IntKind.i64.max ∧ ((false = true) ∨ (← Go.typeInfo e).bytes = 0) then runtimePanic (.error "growslice: len out of range")
          if Builtin.nextslicecap (xs.length + ys.length) cap * (← Go.typeInfo e).bytes > 2 ^ 48 then (if false then runtimePanic (.error "growslice: len out of range") else do
            if !(← Builtin.mayShare ie.size xs.length ys.length base v2) then mark .noRoom
            unsupported (.resourceLimit "append: a slice or a string whose bytes no memory bears"))
          let newCap ← choose (.appendCap (xs.length + ys.length) cap e)
          askRoom (newCap * (← Go.typeInfo e).bytes)
          let old ← Builtin.firstCells ie.size xs.length v1
          let new ← Builtin.firstCells ie.size ys.length v2
          let rest := Builtin.zeroCells (← Go.zeroValue e).cells (newCap - (xs.length + ys.length))
          pure (.slice (some (← newRow e (old ++ new ++ rest))) (xs.length + ys.length) newCap) : Sem Value)).run P w := by
    intro base cap hv
    subst hv
    unfold Builtin.append_
    simp only [List.getElem?_toArray, List.getElem?_cons_zero, List.getElem?_cons_succ]
    rw [run_bind_ok u0]
    simp only []
    rw [run_bind_ok (run_sizeOf hTe)]
    rw [run_bind_ok u2]
    simp only []
    rw [run_bind_ok (a := false) (w' := w) rfl]
    simp only [Bool.false_eq_true, if_false]
    rw [run_bind_ok hl2]
    simp only [Bool.not_false, if_true]
    rfl
  obtain ⟨base, cap, hv⟩ := row_len hrow
  by_cases hle : xs.length + ys.length ≤ cap
  · obtain ⟨us2, g1, g2, g3⟩ := hf2 w (fun _ _ => rfl)
    rw [start base cap hv, if_pos hle, run_bind_ok g3]
    rcases hrow with ⟨a, e1, e2⟩ | ⟨b, m, us, rest, TT, e1, h0, hm, h1, h2, h3, h4⟩
    · -- no room at all: nothing is added
      rw [hv] at e1
      simp only [Value.slice.injEq] at e1
      obtain ⟨rfl, e3, rfl⟩ := e1
      have hy : ys = [] := List.eq_nil_of_length_eq_zero (by omega)
      subst hy; subst e2
      have hu2 : us2 = [] := List.eq_nil_of_length_eq_zero (by simpa using g1)
      subst hu2
      refine ⟨(base, 0, 0), w, ?_, hA, Hp.le_refl H, fun _ _ x => .inl x, fun _ _ _ => rfl, Nat.le_refl _, ?_, by simp, ?_, ?_, Env.refl w⟩
      · cases base with
        | none => rfl
        | some a => simp only [storeCells]; rfl
      · intro p hp
        simp only [List.mem_singleton] at hp; subst hp
        exact .inl ⟨base, rfl, rfl⟩
      · cases base <;> simp [claims, blkClaim, sliceClaim]
      · cases base <;> simp [claims, blkClaim, sliceClaim]
    · rw [hv] at e1
      simp only [Value.slice.injEq] at e1
      obtain ⟨rfl, _, rfl⟩ := e1
      have hul := flat_len h2
      have hclaim : claims [(r, Blk.row ie.size xs v1)] [] = [b] := by rw [hv]; simp [claims, blkClaim, sliceClaim, hm]
      have hmk : (xs.length + ys.length) * ie.size ≤ cap * ie.size := Nat.mul_le_mul_right _ hle
      rw [Nat.add_mul] at hmk
      have hsz : 0 + xs.length * ie.size + us2.length ≤ (us ++ rest).length := by rw [g1]; omega
      obtain ⟨w', s1, s2, s3, s4, s5⟩ := run_storeCells (P := P) (b := b) (off := xs.length * ie.size) (T := TT) us2 0 w (us ++ rest) h1 (by omega) (flat_one g2)
      simp only [Nat.add_zero] at s5
      have ecells : (us ++ rest).take (xs.length * ie.size) ++ (us2 ++ (us ++ rest).drop (xs.length * ie.size + us2.length)) = (us ++ us2) ++ rest.drop us2.length := by
        rw [List.take_append_of_le_length (by omega), List.take_of_length_le (by omega), List.drop_append, List.drop_of_length_le (by omega), List.nil_append, List.append_assoc]
        congr 3; omega
      rw [ecells] at s5
      refine ⟨(some ⟨b, 0, none⟩, xs.length + ys.length, cap), w', ?_, ?_⟩
      · simp only [addr_add, Nat.zero_add]
        rw [run_bind_ok s1]; rfl
      · rw [hclaim]
        refine ⟨fun a v0 ea => ?_, Hp.le_refl H, fun _ _ x => .inl x, fun i _ hm => s4 i (by simpa using hm), by show w.heap.size ≤ w'.heap.size; omega, ?_, by simp, ?_, ?_, s2⟩
        · have hcell := hA a v0 ea
          by_cases qb : a.block = b
          · obtain ⟨ab, ao, as⟩ := a
            simp only at qb; subst qb
            cases as with
            | some sp => simp [World.cell?, h1] at hcell
            | none => rw [h4 ao] at ea; cases ea
          · simp only [World.cell?] at hcell ⊢
            rw [s4 _ qb]; exact hcell
        · intro p hp
          simp only [List.mem_singleton] at hp; subst hp
          refine .inr ⟨b, cap, us ++ us2, rest.drop us2.length, TT, by simp [SL], by simpa using hle, hm, by simpa using s5, flat_append h2 g2, ?_, h4⟩
          have := congrArg List.length ecells
          simp only [List.length_append, List.length_take, List.length_drop] at this h3 ⊢
          omega
        · simp [claims, blkClaim, sliceClaim, hm]
        · intro x hx; simp [claims, blkClaim, sliceClaim, hm] at hx; subst hx; exact .inl (by simp)
  · have hgt : ¬ xs.length + ys.length ≤ cap := hle
    rw [start base cap hv, if_neg hgt]
    have hti : (Go.typeInfo e).run P w = .ok tif w := t1
    have hbytes : tif.bytes = ie.bytes := t3
    have hno1 : ¬ (((xs.length + ys.length : Nat) : Int) > IntKind.i64.max ∧ ((false = true) ∨ tif.bytes = 0)) := by
      rintro ⟨_, q | q⟩
      · cases q
      · omega
    have hno2 : ¬ (Builtin.nextslicecap (xs.length + ys.length) cap * tif.bytes > 2 ^ 48) := by
      have h5 := next_le (Nat.lt_of_not_le hgt)
      have h6 : Builtin.nextslicecap (xs.length + ys.length) cap * ie.bytes ≤ 2 * (xs.length + ys.length) * ie.bytes := Nat.mul_le_mul_right _ h5
      rw [Nat.mul_assoc] at h6
      rw [hbytes]
      omega
    have hforced : ∀ need, (Question.appendCap need cap e).forced = false := fun _ => rfl
    obtain ⟨newCap, hcap, hchoose⟩ : ∃ newCap, xs.length + ys.length ≤ newCap ∧ (choose (.appendCap (xs.length + ys.length) cap e)).run P w = .ok newCap (wDrew w) := by
      refine ⟨_, ?_, by simp only [choose, Sem.run, hforced]; rfl⟩
      simp only [Question.cut]; omega
    obtain ⟨zz, hz1, hz2⟩ := run_zeroValue (w := wDrew w) hTe
    obtain ⟨tif2, _, hti2, _⟩ := run_typeInfo (w := wDrew w) hTe
    obtain ⟨us1, f1, f2, f3⟩ := first_row (P := P) (blk_drew hrow)
    obtain ⟨us2, g1, g2, g3⟩ := hf2 (wDrew w) (fun _ _ => rfl)
    let restA := Builtin.zeroCells zz.cells (newCap - (xs.length + ys.length))
    have hrest : restA.size = (newCap - (xs.length + ys.length)) * ie.size := by
      show (Builtin.zeroCells zz.cells _).size = _
      unfold Builtin.zeroCells
      simp only [Array.size_map, Array.size_range]
      have : zz.cells.size = ie.size := by rw [← Array.length_toList, hz2, hz]
      rw [this]
    refine ⟨(some ⟨w.heap.size, 0, none⟩, xs.length + ys.length, newCap), (wDrew w).alloc (.cells (us1.toArray ++ us2.toArray ++ restA) e), ?_, ?_⟩
    · rw [run_bind_ok hti]
      rw [if_neg hno1]
      rw [run_bind_ok hti]
      rw [if_neg hno2]
      rw [run_bind_ok hchoose, run_bind_ok hti2, run_bind_ok askRoom_run, run_bind_ok f3, run_bind_ok g3, run_bind_ok hz1]
      rfl
    · have earr : us1.toArray ++ us2.toArray ++ restA = ((us1 ++ us2) ++ restA.toList).toArray := by simp
      rw [earr]
      have hsizew : (wDrew w).heap.size = w.heap.size := rfl
      have hcells : ((wDrew w).alloc (.cells ((us1 ++ us2) ++ restA.toList).toArray e)).heap[w.heap.size]? = some (.cells ((us1 ++ us2) ++ restA.toList).toArray e (0, 0)) := by
        rw [heap_alloc, hsizew, if_pos rfl]
      have hm0 : 0 < newCap := by omega
      refine ⟨fun a v e' => cell_alloc _ (hA a v e'), Hp.le_refl H, fun _ _ x => .inl x, fun b hb _ => ?_, ?_, ?_, by simp, ?_, ?_, ⟨rfl, rfl, rfl⟩⟩
      · rw [heap_alloc, hsizew, if_neg (by exact Nat.ne_of_lt hb)]; rfl
      · rw [size_alloc, hsizew]; exact Nat.le_succ _
      · intro p hp
        simp only [List.mem_singleton] at hp; subst hp
        refine .inr ⟨w.heap.size, newCap, us1 ++ us2, restA.toList, e, by simp [SL], by simpa using hcap, hm0, hcells, flat_append f2 g2, ?_, fun o => ?_⟩
        · simp only [List.length_append, Array.length_toList, hrest, f1, g1]
          rw [← Nat.add_mul, ← Nat.add_mul]
          exact Nat.mul_le_mul_right _ (by omega)
        · cases q : H ⟨w.heap.size, o, none⟩ with
          | none => rfl
          | some v => exact absurd (hA.lt q) (Nat.lt_irrefl _)
      · simp [claims, blkClaim, sliceClaim, hm0]
      · intro x hx; simp [claims, blkClaim, sliceClaim, hm0] at hx; subst hx; exact .inr (Nat.le_refl _)
section
variable {P : Program} {C : Ctx} {N : Nat} {ops rest : List Oper} {o : Oper} {t : List (Nat × D)} {h : List (Nat × Blk)} {k : List (Nat × Value)} {Q : Exit → S → Prop} {tab : List (Option TI)}
/-- append, of what is told, to a row (the j-th). -/
theorem p_appR {i r kk bb : Nat} {T T' e e' : TypeId} {x y : Operand} {xs ys : List D} {c' : Cap} {z : Z3} {i0 i1 ie : TI} (j : Nat) (hT : TabOK P tab) (ho : o.op = .call ⟨.builtin .append, [x, y].toArray, #[T, T']⟩) (hw : wantD ops t o = some true) (hd : o.dst = some i) (hi : Nat.blt i N = true)
    (hx : opD t x = some (.v (SL z))) (hj : h[j]? = some (r, .row kk xs (SL z))) (hy : opD t y = some (.lst kk ys c'))
    (hi0 : ti tab T = some i0) (hd0 : i0.d = .slice e) (hi1 : ti tab T' = some i1) (hd1 : i1.d = .slice e') (hie : ti tab e = some ie) (hks : ie.size = kk) (hbb : ie.bytes = bb) (hz : ie.zero.length = kk) (hb1 : Nat.ble 1 bb = true) (hbound : (xs.length + ys.length) * bb ≤ 140737488355328)
    (g : ∀ z' : Z3, opsD P C N ops rest ⟨(i, .v (SL z')) :: t, h.set j (0, .row kk (xs ++ ys) (SL z')), k⟩ Q) : opsD P C N ops (o :: rest) ⟨t, h, k⟩ Q :=
  ops_val (s := ⟨t, h, k⟩) hw hd hi fun H a w core kt => by
    have hry := opD_ok kt hy
    obtain ⟨a2, m2, ey⟩ := rep_slice_len hry
    have c1 : Core C H ([(r, .row kk xs (SL z))] ++ h.eraseIdx j) ([] ++ k) w := core.perm (perm_at hj) (List.Perm.refl _)
    have hbl := core.blks _ (List.mem_of_getElem? hj)
    obtain ⟨z', w', h1, h2⟩ := app_runR (P := P) (ty := o.type) (v1 := SL z) (v2 := a.eval y) hT core.ag hbl (fun b hb => c1.lt b (by
      have := (claims_append [(r, Blk.row kk xs (SL z))] (h.eraseIdx j) [] k).mem_iff (a := b)
      exact this.2 (List.mem_append_left _ hb))) (by rw [ey]; rfl) (fun w2 hw2 => first_told (fun a' v e' => by
        have := core.ag a' v e'
        have hlt := core.ag.lt e'
        unfold World.cell? at this ⊢
        rw [hw2 _ hlt]; exact this) hry) hi0 hd0 hi1 hd1 hie hks hbb hz (Nat.le_of_ble_eq_true hb1) hbound
    have c2 := Core.call c1 h2
    refine ⟨SL z', w', H, .v (SL z'), h.set j (0, .row kk (xs ++ ys) (SL z')), k, exec_builtin (s := Builtin.append_) ho (fun _ _ => rfl) ?_, Hp.le_refl H, c2.perm (perm_set hj) (List.Perm.refl _), rep_v rfl, g z'⟩
    have e := rep_v_inv (opD_ok kt hx)
    simpa [e] using h1
end
end Go.Proofs.Ytpapooaaccmnpaa.Ab
