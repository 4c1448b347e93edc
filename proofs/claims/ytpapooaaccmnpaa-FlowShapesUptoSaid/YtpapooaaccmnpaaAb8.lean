/- An abstract machine, part 8: quotients, literals of structs; contracts that were proved otherwise. Over any program. -/
import Derived.Test.YtpapooaaccmnpaaAb7
namespace Go.Proofs.Ytpapooaaccmnpaa.Ab
open Go Go.RowKit
set_option linter.all false

section
variable {P : Program} {C : Ctx} {N : Nat} {ops rest : List Oper} {o : Oper} {t : List (Nat × D)} {h : List (Nat × Blk)} {k : List (Nat × Value)} {Q : Exit → S → Prop} {tab : List (Option TI)}
def divV (op : BinOp) (k : IntKind) (a b : Int) : Option Value :=
  match op with
  | .quo => some (.int k (k.wrap (a.tdiv b)))
  | .rem => some (.int k (a.tmod b))
  | _ => none
theorem x_div {op : BinOp} {xt yt : TypeId} {x y : Operand} {kk : IntKind} {a b : Int} {r : Value} (ho : o.op = .binOp op xt x y yt) (hx : opD t x = some (.v (.int kk a))) (hy : opD t y = some (.v (.int kk b))) (e : divV op kk a b = some r) (hb : b ≠ 0) : ∀ H a w, TOK H t a → ∃ v, (execOp a.eval o).run P w = .ok (.value v) w ∧ Rep H (.v r) v :=
  fun H ac w kt => by
    refine ⟨r, ?_, rep_v ?_⟩
    · unfold execOp
      rw [ho]
      refine exec_v ?_
      rw [rep_v_inv (opD_ok kt hx), rep_v_inv (opD_ok kt hy)]
      cases op <;> simp [divV] at e <;> subst e <;> simp [eqGuard, binOp, Op.intDiv, hb] <;> rfl
    · cases op <;> simp [divV] at e <;> subst e <;> rfl
theorem p_div {i : Nat} {op : BinOp} {xt yt : TypeId} {x y : Operand} {kk : IntKind} {a b : Int} {r : Value} (ho : o.op = .binOp op xt x y yt) (hw : wantD ops t o = some true) (hd : o.dst = some i) (hi : Nat.blt i N = true)
    (hx : opD t x = some (.v (.int kk a))) (hy : opD t y = some (.v (.int kk b))) (e : divV op kk a b = some r) (hb : b ≠ 0)
    (g : opsD P C N ops rest ⟨(i, .v r) :: t, h, k⟩ Q) : opsD P C N ops (o :: rest) ⟨t, h, k⟩ Q := ops_run (s := ⟨t, h, k⟩) hw hd hi (x_div ho hx hy e hb) g
/-! ### Literals of structs -/
theorem foldl_lay : ∀ (cs : List Value) (off j : Nat) (us : List Value), off + j + cs.length ≤ us.length →
    (cs.zipIdx j).foldl (fun (a : Array Value) (x : Value × Nat) => a.setIfInBounds (off + x.2) x.1) us.toArray = (us.take (off + j) ++ (cs ++ us.drop (off + j + cs.length))).toArray
  | [], off, j, us, _ => by simp
  | c :: cs, off, j, us, hl => by
    simp only [List.length_cons] at hl
    rw [List.zipIdx_cons, List.foldl_cons]
    simp only [List.setIfInBounds_toArray]
    rw [foldl_lay cs off (j + 1) (us.set (off + j) c) (by simp; omega)]
    congr 1
    rw [show off + (j + 1) = off + j + 1 by omega]
    have hlt : off + j < us.length := by omega
    have e1 : (us.set (off + j) c).take (off + j + 1) = us.take (off + j) ++ [c] := by
      rw [List.take_succ_eq_append_getElem (by simpa using hlt)]
      simp [List.take_set]
      exact List.set_eq_of_length_le (List.length_take_le _ _)
    have e2 : (us.set (off + j) c).drop (off + j + 1 + cs.length) = us.drop (off + j + (c :: cs).length) := by
      rw [List.drop_set, if_pos (by omega)]
      congr 1; simp; omega
    rw [e1, e2]; simp
/-- Parts laid into cells, of a struct's fields fs. -/
def buildD (tab : List (Option TI)) (fs : List (Nat × Nat)) (t : List (Nat × D)) : List (Nat × Operand) → List D → Option (List D)
  | [], cs => some cs
  | (f, x) :: ps, cs => match fs[f]? with
    | some fl => match ti tab fl.1, opD t x with
      | some j, some d => bif stor d && Nat.beq (dcells d).length j.size && Nat.ble (fl.2 + j.size) cs.length then buildD tab fs t ps (lay cs fl.2 (dcells d)) else none
      | _, _ => none
    | none => none
theorem lay_length {ds es : List D} {off : Nat} (h : off + es.length ≤ ds.length) : (lay ds off es).length = ds.length := by
  unfold lay; simp; omega
theorem fill_ok {H : Hp} {a : Act} (hT : TabOK P tab) (kt : TOK H t a) {fs : List (Nat × Nat)} {place : Nat → Option (Nat × Nat)} (hp : ∀ f fl j, fs[f]? = some fl → ti tab fl.1 = some j → place f = some (fl.2, j.size)) :
    ∀ (ps : List (Nat × Operand)) (cs : List D) (us : List Value) (r : List D), Reps H cs us → buildD tab fs t ps cs = some r → ∃ vs, Instr.fill place us.toArray (ps.map fun p => (p.1, a.eval p.2)) = some vs.toArray ∧ Reps H r vs
  | [], cs, us, r, hr, e => by
    simp only [buildD, Option.some.injEq] at e; subst e
    exact ⟨us, by simp [Instr.fill], hr⟩
  | (f, x) :: ps, cs, us, r, hr, e => by
    simp only [buildD] at e
    split at e
    · rename_i fl hf
      split at e
      · rename_i j d hj hx
        cases hb : (stor d && Nat.beq (dcells d).length j.size && Nat.ble (fl.2 + j.size) cs.length) with
        | false => rw [hb] at e; cases e
        | true =>
          rw [hb] at e
          simp only [cond_true] at e
          simp only [Bool.and_eq_true] at hb
          obtain ⟨⟨h1, h2⟩, h3⟩ := hb
          have h2 := Nat.eq_of_beq_eq_true h2
          have h3 := Nat.le_of_ble_eq_true h3
          have hv := stor_cells h1 (opD_ok kt hx)
          have hl1 := reps_length hv
          have hl2 := reps_length hr
          have hl := reps_lay hr hv fl.2
          obtain ⟨vs, h4, h5⟩ := fill_ok hT kt hp ps _ _ r hl e
          refine ⟨vs, ?_, h5⟩
          simp only [List.map_cons, Instr.fill, hp f fl j hf hj]
          simp only [Array.length_toList] at hl1
          rw [if_neg]
          · have := foldl_lay (a.eval x).cells.toList fl.2 0 us (by simp; omega)
            simp only [Nat.add_zero] at this
            rw [← h4]
            congr 1
            rw [← this]
            rw [← Array.foldl_toList]
            congr 1
            simp
          · simp; omega
      · cases e
    · cases e
theorem x_build {T : TypeId} {ps : Array (Nat × Operand)} {ti0 : TI} {fs : List (Nat × Nat)} {r : List D} (hT : TabOK P tab) (ho : o.op = .build T ps) (hti : ti tab T = some ti0) (hfs : ti0.d = .struct fs) (hall : fs.all (fun f => (ti tab f.1).isSome) = true) (hz : ti0.zero.all one = true) (e : buildD tab fs t ps.toList (ti0.zero.map dOf) = some r) : ∀ H a w, TOK H t a → ∃ v, (execOp a.eval o).run P w = .ok (.value v) w ∧ Rep H (.agg r) v :=
  fun H a w kt => by
  obtain ⟨z, h1, h2⟩ := run_zeroValue (w := w) (ti_ok hT hti)
  obtain ⟨d, h3, h4⟩ := run_underlying (w := w) (ti_ok hT hti)
  obtain ⟨gs, rfl, h5⟩ := td_struct (h4.trans hfs)
  have hr : Reps H (ti0.zero.map dOf) z.cells.toList := by
    rw [h2]
    rw [List.all_eq_true] at hz
    revert hz
    generalize ti0.zero = l
    intro hz
    induction l with
    | nil => simp [Reps]
    | cons u l ih =>
      simp only [List.map_cons, Reps]
      exact ⟨u, l, rfl, ⟨(dOf_ok H u).1, hz u (by simp), (dOf_ok H u).2⟩, ih (fun x hx => hz x (by simp [hx]))⟩
  -- the places
  have hpl : ∀ (l : List Field), (∀ f ∈ l, (ti tab f.type).isSome = true) → (l.mapM (fun f => do pure (f.offset, ← Go.sizeOf f.type) : Field → Sem (Nat × Nat))).run P w = .ok (l.map fun f => (f.offset, ((ti tab f.type).map (·.size)).getD 0)) w := by
    intro l
    induction l with
    | nil => intro _; rfl
    | cons f l ih =>
      intro hl
      have hf := hl f (by simp)
      obtain ⟨j, hj⟩ := Option.isSome_iff_exists.1 hf
      rw [List.mapM_cons, run_bind_ok (a := (f.offset, j.size)) ?_, run_bind_ok (ih fun x hx => hl x (by simp [hx]))]
      · simp [hj]
      · rw [run_bind_ok (run_sizeOf (ti_ok hT hj))]; rfl
  have hgs : ∀ f ∈ gs.toList, (ti tab f.type).isSome = true := by
    intro f hf
    rw [List.all_eq_true] at hall
    have := hall (f.type, f.offset) (by rw [← h5]; exact List.mem_map.2 ⟨f, hf, rfl⟩)
    exact this
  have hpl2 : (gs.mapM (fun f => do pure (f.offset, ← Go.sizeOf f.type) : Field → Sem (Nat × Nat))).run P w = .ok (gs.toList.map fun f => (f.offset, ((ti tab f.type).map (·.size)).getD 0)).toArray w := by
    rw [Array.mapM_eq_mapM_toList, map_eq_pure_bind, run_bind_ok (hpl gs.toList hgs)]; rfl
  obtain ⟨vs, h6, h7⟩ := fill_ok (P := P) (place := fun f => (gs.toList.map fun f => (f.offset, ((ti tab f.type).map (·.size)).getD 0)).toArray[f]?) hT kt (fs := fs) (by
    intro f fl j hf hj
    rw [← h5, List.getElem?_map, Option.map_eq_some_iff] at hf
    obtain ⟨x, h8, h9⟩ := hf
    subst h9
    simp at hj
    simp only [List.getElem?_toArray, List.getElem?_map, h8, Option.map_some, hj, Option.getD_some]) ps.toList _ _ r hr e
  refine ⟨.agg vs.toArray, ?_, rep_agg h7⟩
  unfold execOp
  rw [ho]
  refine exec_v ?_
  unfold Instr.build
  rw [run_bind_ok h1]
  simp only []
  rw [run_bind_ok h3]
  simp only []
  rw [run_bind_ok hpl2]
  have e1 : (ps.map fun x => (x.1, a.eval x.2)).toList = ps.toList.map fun p => (p.1, a.eval p.2) := by simp
  rw [e1]
  have e2 : z.cells = z.cells.toList.toArray := by simp
  rw [e2]
  simp only [h6]
  rfl
theorem p_build {i : Nat} {T : TypeId} {ps : Array (Nat × Operand)} {ti0 : TI} {fs : List (Nat × Nat)} {r : List D} (hT : TabOK P tab) (ho : o.op = .build T ps) (hw : wantD ops t o = some true) (hd : o.dst = some i) (hi : Nat.blt i N = true)
    (hti : ti tab T = some ti0) (hfs : ti0.d = .struct fs) (hall : fs.all (fun f => (ti tab f.1).isSome) = true) (hz : ti0.zero.all one = true) (e : buildD tab fs t ps.toList (ti0.zero.map dOf) = some r)
    (g : opsD P C N ops rest ⟨(i, .agg r) :: t, h, k⟩ Q) : opsD P C N ops (o :: rest) ⟨t, h, k⟩ Q := ops_run (s := ⟨t, h, k⟩) hw hd hi (x_build hT ho hti hfs hall hz e) g
end
/-! ### Contracts that were proved otherwise -/
def dvals : List D → Option (List Value)
  | [] => some []
  | .v x :: l => (dvals l).map (x :: ·)
  | _ => none
def dval : D → Option Value
  | .v x => some x
  | .agg l => (dvals l).map fun us => .agg us.toArray
  | _ => none
theorem dvals_ok {H : Hp} : ∀ {l : List D} {us vs : List Value}, dvals l = some us → Reps H l vs → vs = us
  | [], us, vs, e, h => by simp [dvals] at e; simp only [Reps] at h; rw [h, ← e]
  | .v x :: l, us, vs, e, h => by
    simp only [dvals, Option.map_eq_some_iff] at e
    obtain ⟨us', h1, h2⟩ := e
    simp only [Reps] at h
    obtain ⟨u, vs', rfl, ⟨h3, _⟩, h4⟩ := h
    simp only [RepC, List.cons.injEq, and_true] at h3
    rw [h3, dvals_ok h1 h4, h2]
  | .any :: l, us, vs, e, h => by simp [dvals] at e
  | .agg _ :: l, us, vs, e, h => by simp [dvals] at e
  | .lst _ _ _ :: l, us, vs, e, h => by simp [dvals] at e
  | .el _ :: l, us, vs, e, h => by simp [dvals] at e
  | .ptr _ _ :: l, us, vs, e, h => by simp [dvals] at e
  | .fn _ _ _ :: l, us, vs, e, h => by simp [dvals] at e
  | .tup _ :: l, us, vs, e, h => by simp [dvals] at e
theorem dval_ok {H : Hp} {d : D} {x y : Value} (e : dval d = some x) (h : Rep H d y) : y = x := by
  cases d with
  | v z => simp [dval] at e; rw [← e]; exact rep_v_inv h
  | agg l =>
    simp only [dval, Option.map_eq_some_iff] at e
    obtain ⟨us, h1, h2⟩ := e
    obtain ⟨vs, rfl, h3⟩ := rep_agg_inv h
    rw [dvals_ok h1 h3, h2]
  | _ => simp [dval] at e
def dvalL : List D → Option (List Value)
  | [] => some []
  | d :: l => match dval d, dvalL l with
    | some x, some xs => some (x :: xs)
    | _, _ => none
theorem dvalL_ok {H : Hp} : ∀ {l : List D} {us vs : List Value}, dvalL l = some us → RepsV H l vs → vs = us
  | [], us, vs, e, h => by simp [dvalL] at e; simp only [RepsV] at h; rw [h, ← e]
  | d :: l, us, vs, e, h => by
    simp only [dvalL] at e
    split at e
    · rename_i x xs h1 h2
      simp only [Option.some.injEq] at e; subst e
      simp only [RepsV] at h
      obtain ⟨u, vs', rfl, h3, h4⟩ := h
      rw [dval_ok h1 h3, dvalL_ok h2 h4]
    · cases e
theorem core_below {H : Hp} {w w' : World} (hA : Ag H w) (hb : Below w.heap.size w w') : Core ⟨H, w, []⟩ H [] [] w' :=
  ⟨fun a v e => by rw [hb.cell (p := a) (hA.lt e)]; exact hA a v e, Hp.le_refl H, fun _ _ x => .inl x, fun b h _ => hb.block b h, hb.size, (by simp), (by simp), (by simp [claims, blkClaim]), (by simp [claims, blkClaim]), ⟨hb.os, hb.tape, hb.output⟩⟩
theorem of_calls {P : Program} {f : FuncId} {ds : List D} {us : Array Value} {d : D} {v : Value} (hg : Goes P f) (h1 : dvalL ds = some us.toList) (h2 : ∀ H, Rep H d v)
    (c : ∀ w, Calls P f us w fun e w' => e = .returned v ∧ Below w.heap.size w w') : CallsD P f ds [] [] (fun d' h k => d' = d ∧ h = [] ∧ k = []) := by
  refine ⟨hg, fun H w vs hv hA _ _ _ => ?_⟩
  have e := dvalL_ok h1 hv
  subst e
  refine (c w).mono fun e w' ⟨he, hb⟩ => ⟨v, H, d, [], [], he, h2 H, core_below hA hb, rfl, rfl, rfl⟩
/-- What a statement's function comes to. -/
theorem to_calls {P : Program} {f : FuncId} {ds : List D} {us : Array Value} {x : Value} (c : CallsD P f ds [] [] (fun d' h k => d' = .v x ∧ h = [] ∧ k = [])) {H : Hp} {w : World} (hA : Ag H w) (h1 : RepsV H ds us.toList) :
    Calls P f us w fun e w' => e = .returned x ∧ Below w.heap.size w w' := by
  have := c.2 H w us.toList h1 hA (by simp) (by simp) (by simp [claims, blkClaim])
  refine this.mono fun e w' ⟨v, H', d, h', k', he, hr, hc, h2, _, _⟩ => ?_
  subst h2
  have := rep_v_inv hr
  subst this
  exact ⟨he, ⟨hc.env.1, hc.env.2.1, hc.env.2.2, hc.size, fun k hk => hc.same k hk (by simp [claims, blkClaim])⟩⟩
end Go.Proofs.Ytpapooaaccmnpaa.Ab
