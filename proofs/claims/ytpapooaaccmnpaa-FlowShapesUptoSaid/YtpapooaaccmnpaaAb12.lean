/- An abstract machine, part 12: append as a step, literals of slices, texts and bytes. Over any program. -/
import Derived.Test.YtpapooaaccmnpaaAb11
import Derived.Laws.BytesString
namespace Go.Proofs.Ytpapooaaccmnpaa.Ab
open Go
set_option linter.all false

section
variable {P : Program} {C : Ctx} {N : Nat} {ops rest : List Oper} {o : Oper} {t : List (Nat × D)} {h : List (Nat × Blk)} {k : List (Nat × Value)} {Q : Exit → S → Prop} {tab : List (Option TI)}
theorem app_step {i kk bb : Nat} {T T' e e' : TypeId} {x y : Operand} {xs ys : List D} {c c' : Cap} {i0 i1 ie : TI} {k1 k2 : List (Nat × Value)} (hT : TabOK P tab) (ho : o.op = .call ⟨.builtin .append, [x, y].toArray, #[T, T']⟩) (hw : wantD ops t o = some true) (hd : o.dst = some i) (hi : Nat.blt i N = true)
    (hx : ∀ H a, TOK H t a → Rep H (.lst kk xs c) (a.eval x)) (hy : opD t y = some (.lst kk ys c')) (hk1 : ∀ H a, TOK H t a → (k1 = [] ∧ c = .full) ∨ (k1 = [(kk, a.eval x)] ∧ c = .cur (a.eval x))) (hkk : k.Perm (k1 ++ k2))
    (hi0 : ti tab T = some i0) (hd0 : i0.d = .slice e) (hi1 : ti tab T' = some i1) (hd1 : i1.d = .slice e') (hie : ti tab e = some ie) (hks : ie.size = kk) (hbb : ie.bytes = bb) (hz : ie.zero.length = kk) (hb1 : 1 ≤ bb) (hbound : (xs.length + ys.length) * bb ≤ 140737488355328)
    (g : ∀ v, opsD P C N ops rest ⟨(i, .lst kk (xs ++ ys) (.cur v)) :: t, h, (kk, v) :: k2⟩ Q) : opsD P C N ops (o :: rest) ⟨t, h, k⟩ Q :=
  ops_val (s := ⟨t, h, k⟩) hw hd hi fun H a w core kt => by
    obtain ⟨v, w', H', h1, h2, h3, h4⟩ := app_run (P := P) (ty := o.type) hT (core.perm (List.Perm.refl _) hkk) (hk1 H a kt) (hx H a kt) (opD_ok kt hy) hi0 hd0 hi1 hd1 hie hks hbb hz hb1 hbound
    exact ⟨v, w', H', _, h, (kk, v) :: k2, exec_builtin (s := Builtin.append_) ho (fun _ _ => rfl) (by simpa using h1), h2, h3, h4, g v⟩
/-- append to a slice that has no room. -/
theorem p_appF {i kk bb : Nat} {T T' e e' : TypeId} {x y : Operand} {xs ys : List D} {c' : Cap} {i0 i1 ie : TI} (hT : TabOK P tab) (ho : o.op = .call ⟨.builtin .append, [x, y].toArray, #[T, T']⟩) (hw : wantD ops t o = some true) (hd : o.dst = some i) (hi : Nat.blt i N = true)
    (hx : opD t x = some (.lst kk xs .full)) (hy : opD t y = some (.lst kk ys c'))
    (hi0 : ti tab T = some i0) (hd0 : i0.d = .slice e) (hi1 : ti tab T' = some i1) (hd1 : i1.d = .slice e') (hie : ti tab e = some ie) (hks : ie.size = kk) (hbb : ie.bytes = bb) (hz : ie.zero.length = kk) (hb1 : Nat.ble 1 bb = true) (hbound : (xs.length + ys.length) * bb ≤ 140737488355328)
    (g : ∀ v, opsD P C N ops rest ⟨(i, .lst kk (xs ++ ys) (.cur v)) :: t, h, (kk, v) :: k⟩ Q) : opsD P C N ops (o :: rest) ⟨t, h, k⟩ Q :=
  app_step (k1 := []) hT ho hw hd hi (fun _ _ kt => opD_ok kt hx) hy (fun _ _ _ => .inl ⟨rfl, rfl⟩) (List.Perm.refl _) hi0 hd0 hi1 hd1 hie hks hbb hz (Nat.le_of_ble_eq_true hb1) hbound g
/-- append to nil. -/
theorem p_app0 {i kk k0 bb : Nat} {T T' e e' : TypeId} {x y : Operand} {ys : List D} {c' : Cap} {i0 i1 ie : TI} (hT : TabOK P tab) (ho : o.op = .call ⟨.builtin .append, [x, y].toArray, #[T, T']⟩) (hw : wantD ops t o = some true) (hd : o.dst = some i) (hi : Nat.blt i N = true)
    (hx : opD t x = some (.lst k0 [] .full)) (hy : opD t y = some (.lst kk ys c'))
    (hi0 : ti tab T = some i0) (hd0 : i0.d = .slice e) (hi1 : ti tab T' = some i1) (hd1 : i1.d = .slice e') (hie : ti tab e = some ie) (hks : ie.size = kk) (hbb : ie.bytes = bb) (hz : ie.zero.length = kk) (hb1 : Nat.ble 1 bb = true) (hbound : ys.length * bb ≤ 140737488355328)
    (g : ∀ v, opsD P C N ops rest ⟨(i, .lst kk ys (.cur v)) :: t, h, (kk, v) :: k⟩ Q) : opsD P C N ops (o :: rest) ⟨t, h, k⟩ Q :=
  app_step (k1 := []) (xs := []) hT ho hw hd hi (fun H a kt => Wk.nil H _ (opD_ok kt hx)) hy (fun _ _ _ => .inl ⟨rfl, rfl⟩) (List.Perm.refl _) hi0 hd0 hi1 hd1 hie hks hbb hz (Nat.le_of_ble_eq_true hb1) (by simpa using hbound) g
/-- append to a slice whose room is its own (the j-th token). -/
theorem p_appC {i kk bb : Nat} {T T' e e' : TypeId} {x y : Operand} {xs ys : List D} {c' : Cap} {v0 : Value} {i0 i1 ie : TI} {k2 : List (Nat × Value)} (j : Nat) (hT : TabOK P tab) (ho : o.op = .call ⟨.builtin .append, [x, y].toArray, #[T, T']⟩) (hw : wantD ops t o = some true) (hd : o.dst = some i) (hi : Nat.blt i N = true)
    (hx : opD t x = some (.lst kk xs (.cur v0))) (hy : opD t y = some (.lst kk ys c')) (hj : k[j]? = some (kk, v0)) (he : k.eraseIdx j = k2)
    (hi0 : ti tab T = some i0) (hd0 : i0.d = .slice e) (hi1 : ti tab T' = some i1) (hd1 : i1.d = .slice e') (hie : ti tab e = some ie) (hks : ie.size = kk) (hbb : ie.bytes = bb) (hz : ie.zero.length = kk) (hb1 : Nat.ble 1 bb = true) (hbound : (xs.length + ys.length) * bb ≤ 140737488355328)
    (g : ∀ v, opsD P C N ops rest ⟨(i, .lst kk (xs ++ ys) (.cur v)) :: t, h, (kk, v) :: k2⟩ Q) : opsD P C N ops (o :: rest) ⟨t, h, k⟩ Q :=
  app_step (k1 := [(kk, v0)]) hT ho hw hd hi (fun _ _ kt => opD_ok kt hx) hy (fun H a kt => by
    have := (rep_lst_inv (opD_ok kt hx)).1
    simp only [CapOK] at this
    rw [this]; exact .inr ⟨rfl, rfl⟩) (he ▸ perm_at hj) hi0 hd0 hi1 hd1 hie hks hbb hz (Nat.le_of_ble_eq_true hb1) hbound g
end

/-! ### Literals of slices -/
def chunkD (agg : Bool) (k : Nat) : Nat → List D → List D
  | 0, _ => []
  | n + 1, r => (bif agg then .agg (r.take k) else r.headD .any) :: chunkD agg k n (r.drop k)
theorem chunk_els {H : Hp} {k b : Nat} {agg : Bool} (hk : agg = false → k = 1) : ∀ (n : Nat) {r : List D} {us : List Value} {off : Nat}, Reps H r us → r.length = n * k → Told H b off us → Els H k b off (chunkD agg k n r)
  | 0, r, us, off, _, _, _ => by simp [chunkD, Els]
  | n + 1, r, us, off, hr, hl, ht => by
    have hul := reps_length hr
    have hkl : k ≤ r.length := by rw [hl, Nat.add_mul]; omega
    simp only [chunkD, Els]
    refine ⟨⟨us.take k, by simp; omega, ?_, told_take ht k, fun u hu => reps_one hr u (List.mem_of_mem_take hu)⟩, ?_⟩
    · cases agg with
      | true => simp only [cond_true, RepC]; exact reps_take k hr
      | false =>
        have := hk rfl; subst this
        simp only [cond_false]
        cases r with
        | nil => simp at hkl
        | cons d r =>
          simp only [Reps] at hr
          obtain ⟨u, us', rfl, h1, _⟩ := hr
          simpa using h1.1
    · exact chunk_els hk n (reps_drop k hr) (by simp [hl, Nat.add_mul]) (reps_told ht k)
theorem chunk_length {agg : Bool} {k : Nat} : ∀ (n : Nat) (r : List D), (chunkD agg k n r).length = n
  | 0, _ => rfl
  | n + 1, r => by simp [chunkD, chunk_length n]
theorem buildD_length {tab : List (Option TI)} {fs : List (Nat × Nat)} {t : List (Nat × D)} : ∀ {ps : List (Nat × Operand)} {cs r : List D}, buildD tab fs t ps cs = some r → r.length = cs.length
  | [], cs, r, e => by simp [buildD] at e; rw [e]
  | (f, x) :: ps, cs, r, e => by
    simp only [buildD] at e
    split at e
    · split at e
      · rename_i fl _ _ _ j d _ _
        cases hb : (stor d && Nat.beq (dcells d).length j.size && Nat.ble (fl.2 + j.size) cs.length) with
        | false => rw [hb] at e; cases e
        | true =>
          rw [hb] at e
          simp only [cond_true] at e
          simp only [Bool.and_eq_true] at hb
          have h2 := Nat.eq_of_beq_eq_true hb.1.2
          have h3 := Nat.le_of_ble_eq_true hb.2
          rw [buildD_length e, lay_length (by omega)]
      · cases e
    · cases e
section
variable {P : Program} {C : Ctx} {N : Nat} {ops rest : List Oper} {o : Oper} {t : List (Nat × D)} {h : List (Nat × Blk)} {k : List (Nat × Value)} {Q : Exit → S → Prop} {tab : List (Option TI)}
/-- An operation that may make what is told, and turns nothing. -/
abbrev ExE (P : Program) (o : Oper) (t : List (Nat × D)) (d : D) : Prop := ∀ H a w, Ag H w → TOK H t a → ∃ v w' H', (execOp a.eval o).run P w = .ok (.value v) w' ∧ Core ⟨H, w, []⟩ H' [] [] w' ∧ Rep H' d v
theorem p_e {i : Nat} {d : D} (hx : ExE P o t d) (hw : wantD ops t o = some true) (hd : o.dst = some i) (hi : Nat.blt i N = true) (g : opsD P C N ops rest ⟨(i, d) :: t, h, k⟩ Q) : opsD P C N ops (o :: rest) ⟨t, h, k⟩ Q :=
  ops_val (s := ⟨t, h, k⟩) hw hd hi fun H a w core kt => by
    obtain ⟨v, w', H', h1, h2, h3⟩ := hx H a w core.ag kt
    exact ⟨v, w', H', _, h, k, h1, h2.le, by simpa using Core.call (h1 := []) (k1 := []) (h2 := h) (k2 := k) core h2, h3, g⟩
theorem x_litS {n kk : Nat} {T e : TypeId} {ps : Array (Nat × Operand)} {i0 ie : TI} {r : List D} (hT : TabOK P tab) (ho : o.op = .buildSlice T n ps)
    (hi0 : ti tab T = some i0) (hd0 : i0.d = .slice e) (hie : ti tab e = some ie) (hks : ie.size = kk) (hz : ie.zero.all one = true) (hzl : Nat.beq ie.zero.length kk = true) (hpos : Nat.ble 1 (n * kk) = true) (hmax : Nat.ble (n * kk) 16777216 = true) (hag : (ie.agg || Nat.beq kk 1) = true)
    (er : buildD tab ((List.range n).map fun j => (e, j * kk)) t ps.toList (List.replicate (n * kk) .any) = some r) : ∀ H a w, Ag H w → TOK H t a → ∃ w' H', (execOp a.eval o).run P w = .ok (.value (.slice (some ⟨w.heap.size, 0, none⟩) n n)) w' ∧ Core ⟨H, w, []⟩ H' [] [] w' ∧ Rep H' (.lst kk (chunkD ie.agg kk n r) .full) (.slice (some ⟨w.heap.size, 0, none⟩) n n) := fun H a w hA kt => by
    have core : Core ⟨H, w, []⟩ H [] [] w := Core.here hA
    subst hks
    obtain ⟨d0, u0, u1⟩ := run_underlying (w := w) (ti_ok hT hi0)
    have e0 := td_slice (u1.trans hd0); subst e0
    obtain ⟨z, hz1, hz2⟩ := run_zeroValue (w := w) (ti_ok hT hie)
    have hpos := Nat.le_of_ble_eq_true hpos
    have hmax := Nat.le_of_ble_eq_true hmax
    have hzl := Nat.eq_of_beq_eq_true hzl
    have hzs : z.cells.size = ie.size := by rw [← Array.length_toList, hz2, hzl]
    have hkp : 0 < ie.size := by
      rcases Nat.eq_zero_or_pos ie.size with x | x
      · rw [x] at hpos; omega
      · exact x
    let init : List Value := ((Array.range (n * ie.size)).map fun j => z.cells[j % z.cells.size]!).toList
    have hil : init.length = n * ie.size := by simp [init]
    have hi1 : ∀ u ∈ init, one u = true := by
      intro u hu
      simp only [init, Array.toList_map, List.mem_map] at hu
      obtain ⟨j, _, rfl⟩ := hu
      rw [List.all_eq_true] at hz
      have hlt : j % z.cells.size < z.cells.size := Nat.mod_lt _ (by omega)
      rw [getElem!_pos z.cells _ hlt]
      apply hz
      rw [← hz2]
      exact Array.getElem_mem_toList hlt
    have hany : ∀ (us : List Value), (∀ u ∈ us, one u = true) → Reps H (List.replicate us.length .any) us := by
      intro us
      induction us with
      | nil => intro _; simp [Reps]
      | cons u us ih =>
        intro hu
        simp only [List.length_cons, List.replicate_succ, Reps]
        exact ⟨u, us, rfl, ⟨by simp [RepC], hu u (by simp), rfl⟩, ih fun x hx => hu x (by simp [hx])⟩
    have hr0 := hany init hi1
    rw [hil] at hr0
    obtain ⟨vs, f1, f2⟩ := fill_ok (P := P) (place := fun j => some (j * ie.size, ie.size)) hT kt (fs := (List.range n).map fun j => (e, j * ie.size)) (by
      intro f fl j hf hj
      rw [List.getElem?_map, Option.map_eq_some_iff] at hf
      obtain ⟨x, h8, h9⟩ := hf
      have hx := (List.getElem?_eq_some_iff.1 h8).2
      simp at hx
      subst hx
      subst h9
      simp only at hj
      rw [hie] at hj
      cases hj
      rfl) ps.toList _ _ r hr0 er
    have hrl := buildD_length er
    simp only [List.length_replicate] at hrl
    obtain ⟨hle, core', told⟩ := core.allocTold (us := vs) (vs := vs) e (fun _ _ x => x)
    refine ⟨_, _, ?_, core', ?_⟩
    · unfold execOp
      rw [ho]
      refine exec_v ?_
      unfold Instr.buildSlice
      rw [run_bind_ok u0]
      simp only []
      rw [run_bind_ok (run_sizeOf (ti_ok hT hie))]
      rw [if_neg (by omega)]
      rw [if_neg (show ¬ n * ie.size = 0 by omega), run_bind_ok hz1]
      rw [run_bind_ok (a := z.cells) (w' := w) rfl]
      have e1 : (ps.map fun x => (x.1, a.eval x.2)).toList = ps.toList.map fun p => (p.1, a.eval p.2) := by simp
      have e2 : (Array.range (n * ie.size)).map (fun j => z.cells[j % z.cells.size]!) = init.toArray := (Array.toArray_toList).symm
      rw [e1, e2]
      simp only [f1]
      rfl
    · refine rep_cell ?_ rfl rfl
      simp only [RepC, CapOK]
      refine ⟨_, rfl, rfl, .inr ⟨w.heap.size, 0, n, by rw [chunk_length], by rw [chunk_length]; exact Nat.le_refl _, ?_⟩⟩
      refine chunk_els ?_ n (Reps.mono hle _ _ f2) hrl told
      intro hf
      rw [hf] at hag
      simpa using hag
theorem x_lit {n kk : Nat} {T e : TypeId} {ps : Array (Nat × Operand)} {i0 ie : TI} {r : List D} (hT : TabOK P tab) (ho : o.op = .buildSlice T n ps)
    (hi0 : ti tab T = some i0) (hd0 : i0.d = .slice e) (hie : ti tab e = some ie) (hks : ie.size = kk) (hz : ie.zero.all one = true) (hzl : Nat.beq ie.zero.length kk = true) (hpos : Nat.ble 1 (n * kk) = true) (hmax : Nat.ble (n * kk) 16777216 = true) (hag : (ie.agg || Nat.beq kk 1) = true)
    (er : buildD tab ((List.range n).map fun j => (e, j * kk)) t ps.toList (List.replicate (n * kk) .any) = some r) : ExE P o t (.lst kk (chunkD ie.agg kk n r) .full) := fun H a w hA kt => let ⟨w', H', h1, h2, h3⟩ := x_litS hT ho hi0 hd0 hie hks hz hzl hpos hmax hag er H a w hA kt; ⟨_, w', H', h1, h2, h3⟩
theorem p_lit {i n kk : Nat} {T e : TypeId} {ps : Array (Nat × Operand)} {i0 ie : TI} {r : List D} (hT : TabOK P tab) (ho : o.op = .buildSlice T n ps) (hw : wantD ops t o = some true) (hd : o.dst = some i) (hi : Nat.blt i N = true)
    (hi0 : ti tab T = some i0) (hd0 : i0.d = .slice e) (hie : ti tab e = some ie) (hks : ie.size = kk) (hz : ie.zero.all one = true) (hzl : Nat.beq ie.zero.length kk = true) (hpos : Nat.ble 1 (n * kk) = true) (hmax : Nat.ble (n * kk) 16777216 = true) (hag : (ie.agg || Nat.beq kk 1) = true)
    (er : buildD tab ((List.range n).map fun j => (e, j * kk)) t ps.toList (List.replicate (n * kk) .any) = some r) (g : opsD P C N ops rest ⟨(i, .lst kk (chunkD ie.agg kk n r) .full) :: t, h, k⟩ Q) : opsD P C N ops (o :: rest) ⟨t, h, k⟩ Q :=
  p_e (x_lit hT ho hi0 hd0 hie hks hz hzl hpos hmax hag er) hw hd hi g
/-- The empty literal. -/
theorem p_lit0 {i kk : Nat} {T e : TypeId} {i0 ie : TI} (hT : TabOK P tab) (ho : o.op = .buildSlice T 0 #[]) (hw : wantD ops t o = some true) (hd : o.dst = some i) (hi : Nat.blt i N = true)
    (hi0 : ti tab T = some i0) (hd0 : i0.d = .slice e) (hie : ti tab e = some ie) (_hks : ie.size = kk) (g : opsD P C N ops rest ⟨(i, .lst kk [] .full) :: t, h, k⟩ Q) : opsD P C N ops (o :: rest) ⟨t, h, k⟩ Q :=
  ops_val (s := ⟨t, h, k⟩) hw hd hi fun H a w core kt => by
    obtain ⟨d0, u0, u1⟩ := run_underlying (w := w) (ti_ok hT hi0)
    have e0 := td_slice (u1.trans hd0); subst e0
    obtain ⟨hle, core', told⟩ := core.allocTold (us := []) (vs := []) e (fun _ _ x => x)
    refine ⟨.slice (some ⟨w.heap.size, 0, none⟩) 0 0, _, _, _, h, k, ?_, hle, core', ?_, g⟩
    · unfold execOp
      rw [ho]
      refine exec_v ?_
      unfold Instr.buildSlice
      rw [run_bind_ok u0]
      simp only []
      rw [run_bind_ok (run_sizeOf (ti_ok hT hie))]
      simp only [Nat.zero_mul]
      rw [if_neg (by decide), if_pos trivial, run_bind_ok (a := #[]) (w' := w) rfl]
      have e1 : Array.map (fun x => (#[] : Array Value)[x % (#[] : Array Value).size]!) (Array.range 0) = #[] := by simp
      have e2 : (Array.map (fun x : Nat × Operand => (x.1, a.eval x.2)) #[]).toList = [] := by simp
      rw [e1, e2]
      rfl
    · refine rep_cell ?_ rfl rfl
      simp only [RepC, CapOK]
      exact ⟨_, rfl, by trivial, .inl ⟨by trivial, _, _, rfl, fun q => by cases q⟩⟩
/-! ### Texts -/
def byteD (b : UInt8) : D := .v (.int .u8 b.toNat)
theorem els_bytes {H : Hp} {w : World} (hA : Ag H w) {b : Nat} : ∀ (bs : List UInt8) (off : Nat), Els H 1 b off (bs.map byteD) → RowAt w b off (bs.map fun c => .int .u8 c.toNat)
  | [], off, _ => fun j u e => by simp at e
  | c :: bs, off, h => by
    simp only [List.map_cons, Els, byteD] at h
    obtain ⟨⟨us, h1, h2, h3, _⟩, h5⟩ := h
    simp only [RepC] at h2
    subst h2
    have ih := els_bytes hA bs (off + 1) h5
    intro j u e
    cases j with
    | zero => simp at e; subst e; exact hA _ _ (h3 0 _ (by simp))
    | succ j =>
      have := ih j u (by simpa using e)
      rwa [show off + 1 + j = off + (j + 1) by omega] at this
theorem x_toStr {T T' e : TypeId} {x : Operand} {bs : List UInt8} {c : Cap} {i0 i1 ie : TI} (hT : TabOK P tab) (ho : o.op = .convert T T' x)
    (hx : opD t x = some (.lst 1 (bs.map byteD) c)) (hi0 : ti tab T = some i0) (hd0 : i0.d = .slice e) (hi1 : ti tab T' = some i1) (hd1 : i1.d = .str) (hie : ti tab e = some ie) (hde : ie.d = .int .u8) : ExE P o t (.v (.string ⟨bs.toArray⟩)) := fun H a w hA kt => by
    have core : Core ⟨H, w, []⟩ H [] [] w := Core.here hA
    obtain ⟨d0, u0, u1⟩ := run_underlying (w := w) (ti_ok hT hi0)
    have e0 := td_slice (u1.trans hd0); subst e0
    obtain ⟨d1, u2, u3⟩ := run_underlying (w := w) (ti_ok hT hi1)
    have e1 := td_str (u3.trans hd1); subst e1
    obtain ⟨d2, u4, u5⟩ := run_underlying (w := w) (ti_ok hT hie)
    have e2 := td_int (u5.trans hde); subst e2
    refine ⟨.string ⟨bs.toArray⟩, w, H, ?_, core, rep_v rfl⟩
    unfold execOp
    rw [ho]
    refine exec_v ?_
    obtain ⟨_, hr⟩ := rep_lst_inv (opD_ok kt hx)
    unfold convert
    rw [run_bind_ok u0, run_bind_ok u2]
    rcases hr with ⟨hn, a0, m0, hy, _⟩ | ⟨b, off, m, hy, hm, hE⟩
    · have : bs = [] := by simpa using hn
      subst this
      rw [hy]
      simp only []
      rw [run_bind_ok u4]
      cases a0 <;> rfl
    · rw [hy]
      simp only []
      rw [run_bind_ok u4]
      have hrow := els_bytes core.ag bs off hE
      have hload := run_loadCells (P := P) bs.length hrow (by simp)
      simp only [List.length_map]
      unfold Conv.bytesToString
      simp only []
      rw [run_bind_ok hload]
      have : ((bs.map fun c => Value.int .u8 c.toNat).take bs.length) = bs.map fun c => Value.int .u8 c.toNat := by rw [List.take_of_length_le (by simp)]
      rw [this]
      have key : ∀ (f : Value → ByteArray → Sem (ForInStep ByteArray)), (∀ (c : UInt8) (s : ByteArray), f (.int .u8 c.toNat) s = pure (ForInStep.yield (s.push (UInt8.ofNat (Int.toNat (c.toNat : Int)))))) →
          ∀ (l : List UInt8) (s : ByteArray), (forIn (l.map fun c => Value.int .u8 c.toNat) s f : Sem ByteArray).run P w = .ok ⟨s.data ++ l.toArray⟩ w := by
        intro f hf l
        induction l with
        | nil => intro s; simp
        | cons c l ih =>
          intro s
          rw [List.map_cons, List.forIn_cons, hf]
          rw [run_bind_ok (a := ForInStep.yield (s.push (UInt8.ofNat (Int.toNat (c.toNat : Int))))) rfl]
          simp only []
          rw [ih]
          congr 2
          simp
      rw [← Array.forIn_toList]
      simp only []
      rw [run_bind_ok (key _ (fun _ _ => rfl) bs ByteArray.empty)]
      simp
theorem p_toStr {i : Nat} {T T' e : TypeId} {x : Operand} {bs : List UInt8} {c : Cap} {i0 i1 ie : TI} (hT : TabOK P tab) (ho : o.op = .convert T T' x) (hw : wantD ops t o = some true) (hd : o.dst = some i) (hi : Nat.blt i N = true)
    (hx : opD t x = some (.lst 1 (bs.map byteD) c)) (hi0 : ti tab T = some i0) (hd0 : i0.d = .slice e) (hi1 : ti tab T' = some i1) (hd1 : i1.d = .str) (hie : ti tab e = some ie) (hde : ie.d = .int .u8)
    (g : opsD P C N ops rest ⟨(i, .v (.string ⟨bs.toArray⟩)) :: t, h, k⟩ Q) : opsD P C N ops (o :: rest) ⟨t, h, k⟩ Q :=
  p_e (x_toStr hT ho hx hi0 hd0 hi1 hd1 hie hde) hw hd hi g
end
end Go.Proofs.Ytpapooaaccmnpaa.Ab
