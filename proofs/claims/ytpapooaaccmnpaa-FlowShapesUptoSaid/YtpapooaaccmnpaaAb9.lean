/- An abstract machine, part 9: structs compared. Over any program. -/
import Derived.Test.YtpapooaaccmnpaaAb8
import Derived.Laws.StructEq
namespace Go.Proofs.Ytpapooaaccmnpaa.Ab
open Go
set_option linter.all false

/-- A type of structs that may be compared. -/
structure EqT (P : Program) (t : TypeId) : Prop where
  guard : P.eqGuardType P.depth t = false
  stood : P.stoodInHeld t = false
  names : (P.fieldsOf t).toList.all (fun f => f.name != "_") = true
def eqV (d : TD) (x y : Value) : Option Bool :=
  match d, x, y with
  | .int _, .int k a, .int k' b => bif keq k k' then some (a == b) else none
  | .bool, .bool a, .bool b => some (a == b)
  | .str, .string a, .string b => some (decide (a = b))
  | _, _, _ => none
theorem eqV_ok {P : Program} {w : World} {t : TypeId} {i : TI} (hi : tiOf P t = some i) {x y : Value} {b : Bool} (d : Nat) (e : eqV i.d x y = some b) : (Op.equalIn (d + 1) t x y).run P w = .ok b w := by
  obtain ⟨dd, h1, h2⟩ := run_underlying (w := w) hi
  obtain ⟨ti, z, dd', h3, h4, h5, _⟩ := tiOf_inv hi
  unfold eqV at e
  split at e
  · rename_i k k1 a k2 c hd
    cases hk : keq k1 k2 with
    | false => rw [hk] at e; cases e
    | true =>
      have := keq_eq hk; subst this
      rw [hk] at e
      simp only [cond_true, Option.some.injEq] at e
      subst e
      exact run_equalIn_int w d t k1 k a c (by rw [h4, td_int (h5.trans hd)])
  · rename_i a c hd
    simp only [Option.some.injEq] at e; subst e
    exact run_equalIn_bool' w d t a c (by rw [h4, td_bool (h5.trans hd)])
  · rename_i a c hd
    simp only [Option.some.injEq] at e; subst e
    rw [← toList_beq]
    exact run_equalIn_string w d t a c (by rw [h4, td_str (h5.trans hd)])
  · cases e
def eqL (tab : List (Option TI)) : List (Nat × Nat) → List D → List D → Option Bool
  | [], _, _ => some true
  | f :: fs, ds, es => match ti tab f.1, ds[f.2]?, es[f.2]? with
    | some i, some (.v x), some (.v y) => match eqV i.d x y, eqL tab fs ds es with
      | some b, some r => some (b && r)
      | _, _ => none
    | _, _, _ => none
theorem eqV_flat {i : TI} {x y : Value} {b : Bool} (e : eqV i.d x y = some b) : i.agg = false := by
  unfold eqV at e
  unfold TI.agg
  split at e
  · rename_i h; rw [h]
  · rename_i h; rw [h]
  · rename_i h; rw [h]
  · cases e
theorem eqL_ok {P : Program} {w : World} {tab : List (Option TI)} (hT : TabOK P tab) {H : Hp} {ds es : List D} {us vs : List Value} (h1 : Reps H ds us) (h2 : Reps H es vs) (d : Nat) :
    ∀ (gs : List Field) (fs : List (Nat × Nat)) (b : Bool), gs.map (fun f => (f.type, f.offset)) = fs → gs.all (fun f => f.name != "_") = true → eqL tab fs ds es = some b → (Op.eqFields (d + 1) us.toArray vs.toArray gs).run P w = .ok b w
  | [], fs, b, e, hn, h => by
    simp at e; subst e
    simp [eqL] at h; subst h; rfl
  | g :: gs, fs, b, e, hn, h => by
    simp only [List.map_cons] at e
    subst e
    simp only [List.all_cons, Bool.and_eq_true, bne_iff_ne] at hn
    simp only [eqL] at h
    split at h
    · rename_i i x y hi hx hy
      split at h
      · rename_i b0 r0 hb hr
        simp only [Option.some.injEq] at h
        have ih := eqL_ok (w := w) hT h1 h2 d gs _ r0 rfl hn.2 hr
        have hag := eqV_flat hb
        obtain ⟨v1, p1, q1⟩ := run_part (P := P) (w := w) (ti_ok hT hi) h1 (d := .v x) (off := g.offset) (by simp [partD, hag, hx])
        obtain ⟨v2, p2, q2⟩ := run_part (P := P) (w := w) (ti_ok hT hi) h2 (d := .v y) (off := g.offset) (by simp [partD, hag, hy])
        have e1 := rep_v_inv q1; subst e1
        have e2 := rep_v_inv q2; subst e2
        unfold Op.eqFields
        rw [if_pos hn.1, run_bind_ok p1, run_bind_ok p2, run_bind_ok (eqV_ok (w := w) (ti_ok hT hi) d hb)]
        cases b0 with
        | false => simp at h; subst h; rfl
        | true => simp at h; subst h; simpa using ih
      · cases h
    · cases h
section
variable {P : Program} {C : Ctx} {N : Nat} {ops rest : List Oper} {o : Oper} {t : List (Nat × D)} {h : List (Nat × Blk)} {k : List (Nat × Value)} {Q : Exit → S → Prop} {tab : List (Option TI)}
def isNeq : BinOp → Option Bool
  | .eql => some false
  | .neq => some true
  | _ => none
theorem x_eqS {op : BinOp} {neg : Bool} {xt yt : TypeId} {x y : Operand} {ti0 : TI} {fs : List (Nat × Nat)} {ds es : List D} {b : Bool} (hT : TabOK P tab) (ho : o.op = .binOp op xt x y yt)
    (hop : isNeq op = some neg) (hE : EqT P xt) (hx : opD t x = some (.agg ds)) (hy : opD t y = some (.agg es)) (hti : ti tab xt = some ti0) (hfs : ti0.d = .struct fs) (e : eqL tab fs ds es = some b) : ∀ H a w, TOK H t a → ∃ v, (execOp a.eval o).run P w = .ok (.value v) w ∧ Rep H (.v (.bool (bif neg then !b else b))) v :=
  fun H a w kt => by
    refine ⟨.bool (bif neg then !b else b), ?_, rep_v rfl⟩
    obtain ⟨us, h1, h2⟩ := rep_agg_inv (opD_ok kt hx)
    obtain ⟨vs, h3, h4⟩ := rep_agg_inv (opD_ok kt hy)
    obtain ⟨ti', z, dd', h5, h6, h7, _⟩ := tiOf_inv (ti_ok hT hti)
    obtain ⟨gs, rfl, h8⟩ := td_struct (h7.trans hfs)
    have hf : P.fieldsOf xt = gs := by unfold Program.fieldsOf; rw [h6]
    have hq : (Op.equalIn 10000 xt (.agg us.toArray) (.agg vs.toArray)).run P w = .ok b w := by
      show (Op.equalIn (9999 + 1) xt _ _).run P w = _
      rw [run_equalIn_struct w 9999 xt _ _ (by rw [h6, hf]) hE.stood]
      have hn := hE.names
      rw [hf] at hn ⊢
      exact eqL_ok hT h2 h4 9998 gs.toList fs b h8 hn e
    unfold execOp
    rw [ho]
    refine exec_v ?_
    rw [h1, h3]
    rw [run_bind_ok (run_eqGuard_agg w op xt x y _ _ hE.guard)]
    cases op <;> simp [isNeq] at hop <;> subst hop
    · rw [run_eql_struct, hq]; rfl
    · rw [run_neq_struct, hq]; rfl
theorem p_eqS {i : Nat} {op : BinOp} {neg : Bool} {xt yt : TypeId} {x y : Operand} {ti0 : TI} {fs : List (Nat × Nat)} {ds es : List D} {b : Bool} (hT : TabOK P tab) (ho : o.op = .binOp op xt x y yt) (hw : wantD ops t o = some true) (hd : o.dst = some i) (hi : Nat.blt i N = true)
    (hop : isNeq op = some neg) (hE : EqT P xt) (hx : opD t x = some (.agg ds)) (hy : opD t y = some (.agg es)) (hti : ti tab xt = some ti0) (hfs : ti0.d = .struct fs) (e : eqL tab fs ds es = some b)
    (g : opsD P C N ops rest ⟨(i, .v (.bool (bif neg then !b else b))) :: t, h, k⟩ Q) : opsD P C N ops (o :: rest) ⟨t, h, k⟩ Q :=
  ops_run (s := ⟨t, h, k⟩) hw hd hi (x_eqS hT ho hop hE hx hy hti hfs e) g
end
end Go.Proofs.Ytpapooaaccmnpaa.Ab
