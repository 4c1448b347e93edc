/- The texts that webPairsUpto_holds leans on, part 3. -/
import Derived.Test.YtpdekcfeecdlbaaVp2
namespace Go.Proofs.Ytpdekcfeecdlbaa.Ab
open Go
set_option linter.all false
def eqD (tab : List (Option TI)) (ts : List Nat) : Nat → Nat → D → D → Option Bool
  | 0, _, _, _ => none
  | n + 1, t, x, y => match ti tab t with
    | none => none
    | some i => match i.d, x, y with
      | .struct fs, .agg ds, .agg es => bif ts.contains t then fs.foldr (fun f acc => match ti tab f.1 with
          | none => none
          | some j => match partD j ds f.2, partD j es f.2 with
            | some p, some q => match eqD tab ts n f.1 p q, acc with
              | some b, some r => some (b && r)
              | _, _ => none
            | _, _ => none) (some true) else none
      | .array m e, .agg ds, .agg es => bif ts.contains t then (match ti tab e with
          | none => none
          | some j => (List.range m).foldr (fun k acc => match partD j ds (k * j.size), partD j es (k * j.size) with
            | some p, some q => match eqD tab ts n e p q, acc with
              | some b, some r => some (b && r)
              | _, _ => none
            | _, _ => none) (some true)) else none
      | _, .v a, .v b => eqV i.d a b
      | _, _, _ => none
section
variable {P : Program} {C : Ctx} {N : Nat} {ops rest : List Oper} {o : Oper} {t : List (Nat × D)} {h : List (Nat × Blk)} {k : List (Nat × Value)} {Q : Exit → S → Prop} {tab : List (Option TI)}
theorem eqD_ok (hT : TabOK P tab) {ts : List Nat} (hE : ∀ t ∈ ts, EqT P t) {H : Hp} {w : World} (d : Nat) : ∀ (n t : Nat) (x y : D) (u v : Value) (b : Bool), eqD tab ts n t x y = some b → Rep H x u → Rep H y v → (Op.equalIn (d + n) t u v).run P w = .ok b w
  | 0, _, _, _, _, _, _, e, _, _ => by simp [eqD] at e
  | n + 1, t, x, y, u, v, b, e, hu, hv => by
    simp only [eqD] at e
    split at e
    · cases e
    · rename_i i hi
      obtain ⟨ti', z, dd, h5, h6, h7, _⟩ := tiOf_inv (ti_ok hT hi)
      split at e
      · rename_i fs ds es hd
        cases hc : ts.contains t with
        | false => rw [hc] at e; cases e
        | true =>
          rw [hc] at e
          simp only [cond_true] at e
          have hEt := hE t (by simpa using hc)
          obtain ⟨us, rfl, h2⟩ := rep_agg_inv hu
          obtain ⟨vs, rfl, h4⟩ := rep_agg_inv hv
          obtain ⟨gs, rfl, h8⟩ := td_struct (h7.trans hd)
          have hf : P.fieldsOf t = gs := by unfold Program.fieldsOf; rw [h6]
          show (Op.equalIn ((d + n) + 1) t _ _).run P w = _
          rw [run_equalIn_struct w (d + n) t _ _ (by rw [h6, hf]) hEt.stood]
          have hn := hEt.names
          rw [hf] at hn ⊢
          generalize gs.toList = L at h8 hn
          subst h8
          clear h6 h7 hd hi hf
          induction L generalizing b with
          | nil => simp at e; subst e; rfl
          | cons g L ih =>
            simp only [List.all_cons, Bool.and_eq_true, bne_iff_ne] at hn
            simp only [List.map_cons, List.foldr_cons] at e
            split at e
            · cases e
            · rename_i j hj
              split at e
              · rename_i p q hp hq
                split at e
                · rename_i b0 r0 hb hr
                  simp only [Option.some.injEq] at e
                  have ih' := ih r0 hn.2 hr
                  obtain ⟨v1, p1, q1⟩ := run_part (P := P) (w := w) (ti_ok hT hj) h2 hp
                  obtain ⟨v2, p2, q2⟩ := run_part (P := P) (w := w) (ti_ok hT hj) h4 hq
                  unfold Op.eqFields
                  rw [if_pos hn.1, run_bind_ok p1, run_bind_ok p2, run_bind_ok (eqD_ok hT hE d n _ _ _ _ _ _ hb q1 q2)]
                  cases b0 with
                  | false => simp at e; subst e; rfl
                  | true => simp at e; subst e; simpa using ih'
                · cases e
              · cases e
      · rename_i m e' ds es hd
        cases hc : ts.contains t with
        | false => rw [hc] at e; cases e
        | true =>
          rw [hc] at e
          simp only [cond_true] at e
          split at e
          · cases e
          · rename_i j hj
            obtain ⟨us, rfl, h2⟩ := rep_agg_inv hu
            obtain ⟨vs, rfl, h4⟩ := rep_agg_inv hv
            have hdd := td_array (h7.trans hd); subst hdd
            obtain ⟨ie, _, _, h8, _, _, h9, _⟩ := tiOf_inv (ti_ok hT hj)
            have hce : P.cellsOf e' = j.size := by unfold Program.cellsOf; rw [h8]; exact h9
            show (Op.equalIn ((d + n) + 1) t _ _).run P w = _
            rw [run_equalIn_array w (d + n) _ _ h6 h8, hce]
            generalize List.range m = L at e
            clear h6 h7 hd hi
            induction L generalizing b with
            | nil => simp at e; subst e; rfl
            | cons g L ih =>
              simp only [List.foldr_cons] at e
              split at e
              · rename_i p q hp hq
                split at e
                · rename_i b0 r0 hb hr
                  simp only [Option.some.injEq] at e
                  have ih' := ih r0 hr
                  obtain ⟨v1, p1, q1⟩ := run_part (P := P) (w := w) (ti_ok hT hj) h2 hp
                  obtain ⟨v2, p2, q2⟩ := run_part (P := P) (w := w) (ti_ok hT hj) h4 hq
                  unfold Op.eqItems
                  rw [run_bind_ok p1, run_bind_ok p2, run_bind_ok (eqD_ok hT hE d n _ _ _ _ _ _ hb q1 q2)]
                  cases b0 with
                  | false => simp at e; subst e; rfl
                  | true => simp at e; subst e; simpa using ih'
                · cases e
              · cases e
      · rename_i a c hne1 hne2
        have := rep_v_inv hu; subst this
        have := rep_v_inv hv; subst this
        exact eqV_ok (ti_ok hT hi) (d + n) e
      · cases e
theorem x_eqC {op : BinOp} {neg : Bool} {xt yt : TypeId} {x y : Operand} {ds es : D} {b : Bool} (ts : List Nat) (hT : TabOK P tab) (ho : o.op = .binOp op xt x y yt)
    (hop : isNeq op = some neg) (hE : ∀ t ∈ ts, EqT P t) (hg : P.eqGuardType P.depth xt = false) (hx : opD t x = some ds) (hy : opD t y = some es) (ha : (match ds, es with | .agg _, .agg _ => true | _, _ => false) = true) (e : eqD tab ts 8 xt ds es = some b) : ∀ H a w, TOK H t a → ∃ v, (execOp a.eval o).run P w = .ok (.value v) w ∧ Rep H (.v (.bool (bif neg then !b else b))) v :=
  fun H a w kt => by
    refine ⟨.bool (bif neg then !b else b), ?_, rep_v rfl⟩
    have hu := opD_ok kt hx
    have hv := opD_ok kt hy
    cases ds <;> cases es <;> simp only [Bool.false_eq_true] at ha
    have hq := eqD_ok (w := w) hT hE 9992 8 xt _ _ _ _ b e hu hv
    obtain ⟨us, h1, h2⟩ := rep_agg_inv hu
    obtain ⟨vs, h3, h4⟩ := rep_agg_inv hv
    unfold execOp
    rw [ho]
    refine exec_v ?_
    rw [h1, h3] at hq ⊢
    rw [run_bind_ok (run_eqGuard_agg w op xt x y _ _ hg)]
    have hq' : (Op.equalIn 10000 xt (.agg us.toArray) (.agg vs.toArray)).run P w = .ok b w := hq
    cases op <;> simp [isNeq] at hop <;> subst hop
    · rw [run_eql_struct, hq']; rfl
    · rw [run_neq_struct, hq']; rfl
theorem p_eqC {i : Nat} {op : BinOp} {neg : Bool} {xt yt : TypeId} {x y : Operand} {ds es : D} {b : Bool} (ts : List Nat) (hT : TabOK P tab) (ho : o.op = .binOp op xt x y yt) (hw : wantD ops t o = some true) (hd : o.dst = some i) (hi : Nat.blt i N = true)
    (hop : isNeq op = some neg) (hE : ∀ t ∈ ts, EqT P t) (hg : P.eqGuardType P.depth xt = false) (hx : opD t x = some ds) (hy : opD t y = some es) (ha : (match ds, es with | .agg _, .agg _ => true | _, _ => false) = true) (e : eqD tab ts 8 xt ds es = some b)
    (g : opsD P C N ops rest ⟨(i, .v (.bool (bif neg then !b else b))) :: t, h, k⟩ Q) : opsD P C N ops (o :: rest) ⟨t, h, k⟩ Q :=
  ops_run (s := ⟨t, h, k⟩) hw hd hi (x_eqC ts hT ho hop hE hg hx hy ha e) g
end
section
variable {P : Program} {C : Ctx} {N : Nat} {ops rest : List Oper} {o : Oper} {t : List (Nat × D)} {h : List (Nat × Blk)} {k : List (Nat × Value)} {Q : Exit → S → Prop} {tab : List (Option TI)}
end
end Go.Proofs.Ytpdekcfeecdlbaa.Ab
namespace Go.Proofs.Ytpdekcfeecdlbaa.Ab
open Go
set_option linter.all false
noncomputable def key_Cut_1 (a0 : TApiKey) (m0 : TApiKey) : Option (Bool) :=
  ((key_Clean m0).bind fun x2 => some (decide (a0.gName = x2.gName) && (a0.gNode == x2.gNode && true)))
set_option maxRecDepth 100000 in
set_option maxHeartbeats 2000000 in
theorem key_Cut_1_ok (a0 : TApiKey) (m0 : TApiKey) (o0 : Nat) (T0 : TypeId) (r : Bool) (h0 : key_Cut_1 a0 m0 = some r) : CallsD Try.prog 47 [eTApiKey a0, .ptr o0 0] [(o0, Blk.cells [.v (.string m0.gName), .v (.int .i64 m0.gNode)] T0)] [] (fun d h k => d = .v (.bool r) ∧ h = [(o0, Blk.cells [.v (.string m0.gName), .v (.int .i64 m0.gNode)] T0)] ∧ k = []) := by
  have hm := yes_of h0
  unfold key_Cut_1 at hm
  clear h0
  refine enterX htab Try.func47 rfl rfl rfl rfl rfl (fun C => ?_)
  refine wpD_sr ?_
  refine p_box rfl rfl rfl rfl rfl rfl rfl (fun b1 => ?_)
  refine pu ?_
  refine ops_nt ?_
  refine wpD_seq ?_
  obtain ⟨x2, q2, hm⟩ := yes_bind hm
  refine wpD_draws 3 [] [[],[],[1]] [0,1,2] [[],[],[1],[0,1,2],[0,1,2,3]] (by kernel_rfl) (by kernel_rfl) (by kernel_rfl) (by rfl) (by rfl) (by kernel_rfl) ?_
  iterate 3 apply Exists.intro
  intro bs
  refine z_eM rfl rfl (xm_load (d := eTApiKey a0) 1 htab rfl rfl rfl rfl rfl) rfl rfl rfl rfl rfl rfl ?_
  refine z_eM rfl rfl (xm_load (d := eTApiKey m0) 0 htab rfl rfl rfl rfl rfl) rfl rfl rfl rfl rfl rfl ?_
  refine z_call rfl rfl (key_Clean_ok m0 x2 q2) rfl rfl Wl rfl rfl rfl rfl rfl rfl ?_
  refine z_nil rfl rfl (fun e he => by simp [isAl] at he) ?_
  refine p_eqS htab rfl rfl rfl rfl rfl eqt34 rfl rfl rfl rfl rfl ?_
  refine pu ?_
  refine ops_nt ?_
  refine wpD_ret ?_
  have er3 := yes_eq hm; subst er3
  refine rP (t' := [(3, .v (.bool (decide (a0.gName = x2.gName) && (a0.gNode == x2.gNode && true))))]) [0] [] 1 (wC wN) (lT lN) ?_
  exact ⟨rfl, rfl, rfl⟩
end Go.Proofs.Ytpdekcfeecdlbaa.Ab
namespace Go.Proofs.Ytpdekcfeecdlbaa.Ab
open Go Go.RowKit Go.Shelf Go.Proofs Go.Proofs.Ytpdekcfeecdlbaa.Ab.Pq
set_option linter.all false
theorem cells_at {W : World} {b : Nat} {zs : List TApiKey} {rest : List Value} {T : TypeId} (h : W.heap[b]? = some (.cells (zs.flatMap kc2 ++ rest).toArray T (0, 0))) {j : Nat} {x : TApiKey} (hj : zs[j]? = some x) :
    W.cell? ⟨b, j * 2, none⟩ = some (.string x.gName) ∧ W.cell? ⟨b, j * 2 + 1, none⟩ = some (.int .i64 x.gNode) := by
  have key : ∀ (zs : List TApiKey) (j : Nat), zs[j]? = some x → (zs.flatMap kc2)[j * 2]? = some (.string x.gName) ∧ (zs.flatMap kc2)[j * 2 + 1]? = some (.int .i64 x.gNode) := by
    intro zs
    induction zs with
    | nil => intro j hj; simp at hj
    | cons z zs ih =>
      intro j hj
      cases j with
      | zero => simp at hj; subst hj; simp [kc2]
      | succ j =>
        have := ih j (by simpa using hj)
        rw [show (j + 1) * 2 = j * 2 + 1 + 1 by omega]
        simpa [kc2] using this
  obtain ⟨k1, k2⟩ := key zs j hj
  have l1 := (List.getElem?_eq_some_iff.1 k1).1
  have l2 := (List.getElem?_eq_some_iff.1 k2).1
  constructor
  · simp only [World.cell?, h, Option.isSome_none, Bool.false_eq_true, if_false, List.getElem?_toArray]
    rw [List.getElem?_append_left l1]; exact k1
  · simp only [World.cell?, h, Option.isSome_none, Bool.false_eq_true, if_false, List.getElem?_toArray]
    rw [List.getElem?_append_left l2]; exact k2
theorem run_clear_blk {P : Program} {w : World} {t e ty : TypeId} {z : Value} {b o n cap : Nat} {A : List Value} {T : TypeId} (ht : P.underlying t = some (.slice e)) (hz : (Go.zeroValue e).run P w = .ok z w) (hb : w.heap[b]? = some (.cells A.toArray T (0, 0))) (h1 : ∀ v ∈ z.cells.toList, one v = true) (h0 : 0 < z.cells.size) (hfit : o + n * z.cells.size ≤ A.length) :
    ∃ w' Z, (Builtin.clear_ #[t] ty #[.slice (some ⟨b, o, none⟩) n cap]).run P w = .ok (.tuple #[]) w' ∧ Env w w' ∧ w'.heap.size = w.heap.size ∧ (∀ j, j ≠ b → w'.heap[j]? = w.heap[j]?) ∧ Z.length = n * z.cells.size ∧
      w'.heap[b]? = some (.cells (A.take o ++ (Z ++ A.drop (o + n * z.cells.size))).toArray T (0, 0)) := by
  by_cases hn : n = 0
  · subst hn
    refine ⟨w, [], ?_, Env.refl w, rfl, fun _ _ => rfl, by simp, by simpa using hb⟩
    unfold Builtin.clear_
    simp only [List.getElem?_toArray, List.getElem?_cons_zero]
    rw [run_bind_ok (_root_.Go.run_underlying ht w)]
    rfl
  · have hZl : (Builtin.zeroCells z.cells n).toList.length = n * z.cells.size := by simp [Builtin.zeroCells]
    obtain ⟨w', s1, s2, s3, s4, s5⟩ := run_storeCells (P := P) (b := b) (off := o) (T := T) (Builtin.zeroCells z.cells n).toList 0 w A hb (by omega) (fun v hv => by
      simp only [Builtin.zeroCells, Array.toList_map, List.mem_map] at hv
      obtain ⟨i, _, rfl⟩ := hv
      have hlt : i % z.cells.size < z.cells.size := Nat.mod_lt _ h0
      rw [getElem!_pos z.cells _ hlt]
      exact h1 _ (by simp))
    refine ⟨w', (Builtin.zeroCells z.cells n).toList, ?_, s2, s3, s4, hZl, ?_⟩
    · unfold Builtin.clear_
      simp only [List.getElem?_toArray, List.getElem?_cons_zero]
      rw [run_bind_ok (_root_.Go.run_underlying ht w)]
      cases n with
      | zero => exact absurd rfl hn
      | succ n =>
        simp only []
        rw [run_bind_ok hz]
        rw [run_bind_ok s1]
        rfl
    · rw [hZl] at s5; simpa using s5
theorem kc2_set (zs : List TApiKey) (i : Nat) (x : TApiKey) (hi : i < zs.length) : (zs.set i x).flatMap kc2 = (zs.flatMap kc2).take (i * 2) ++ (kc2 x ++ (zs.flatMap kc2).drop (i * 2 + 2)) := by
  rw [show i * 2 + 2 = (i + 1) * 2 by omega, kc2_take, kc2_drop, List.set_eq_take_append_cons_drop, if_pos hi]
  simp
theorem set2 {α : Type} : ∀ (L : List α) (a : Nat) (u v : α), a + 1 < L.length → (L.set a u).set (a + 1) v = L.take a ++ (u :: v :: L.drop (a + 2))
  | [], a, u, v, h => by simp at h
  | y :: L, 0, u, v, h => by
    cases L with
    | nil => simp at h
    | cons z L => simp
  | y :: L, a + 1, u, v, h => by
    simp only [List.set_cons_succ, List.take_succ_cons, List.cons_append]
    rw [set2 L a u v (by simpa using h)]
    rfl
theorem set_at {W : World} {b : Nat} {zs : List TApiKey} {rest : List Value} {T : TypeId} (h : W.heap[b]? = some (.cells (zs.flatMap kc2 ++ rest).toArray T (0, 0))) {i : Nat} (hi : i < zs.length) (x : TApiKey) :
    ((W.setCell ⟨b, i * 2, none⟩ (.string x.gName)).setCell ⟨b, i * 2 + 1, none⟩ (.int .i64 x.gNode)).heap[b]? = some (.cells ((zs.set i x).flatMap kc2 ++ rest).toArray T (0, 0)) := by
  have hX := kc2_len zs
  obtain ⟨hlt, hk⟩ := Array.getElem?_eq_some_iff.1 h
  have e1 : (W.setCell ⟨b, i * 2, none⟩ (.string x.gName)).heap[b]? = some (.cells ((zs.flatMap kc2 ++ rest).set (i * 2) (.string x.gName)).toArray T (0, 0)) := by
    show (W.heap.modify b _)[b]? = _
    rw [Array.getElem?_eq_getElem (by rw [Array.size_modify]; exact hlt), Array.getElem_modify_self, hk]
    simp
  obtain ⟨hlt2, hk2⟩ := Array.getElem?_eq_some_iff.1 e1
  have e2 : ((W.setCell ⟨b, i * 2, none⟩ (.string x.gName)).setCell ⟨b, i * 2 + 1, none⟩ (.int .i64 x.gNode)).heap[b]? = some (.cells (((zs.flatMap kc2 ++ rest).set (i * 2) (.string x.gName)).set (i * 2 + 1) (.int .i64 x.gNode)).toArray T (0, 0)) := by
    show ((W.setCell ⟨b, i * 2, none⟩ (.string x.gName)).heap.modify b _)[b]? = _
    rw [Array.getElem?_eq_getElem (by rw [Array.size_modify]; exact hlt2), Array.getElem_modify_self, hk2]
    simp
  rw [e2, kc2_set zs i x hi]
  rw [set2 _ _ _ _ (by rw [List.length_append]; omega), List.take_append_of_le_length (by omega), List.drop_append_of_le_length (by omega)]
  simp [kc2]
theorem wrap_smallK (j : Nat) (h : j < 4398046511104) : IntKind.i64.wrap ((j : Int) + 1) = (j : Int) + 1 := by rw [IntKind.wrap_i64]; omega
theorem meas_p {L k : Nat} (hk : k < L) : L - (intOf (Value.int .i64 ((k : Int) + 1))).toNat < L - (intOf (Value.int .i64 (k : Int))).toNat := meas_lt hk
set_option maxRecDepth 100000 in
set_option maxHeartbeats 4000000 in
theorem index_calls (g : FuncId) (cb : Array Value) (p : TApiKey → Bool) (Good : World → Prop) (hgood : ∀ W W', Good W → Below W.heap.size W W' → Good W') (eg : ∀ args w, (callFunc g args).run Try.prog w = .ok (.enter g args) w)
    (hdel : ∀ W x, Good W → Calls Try.prog g (#[.agg #[.string x.gName, .int .i64 x.gNode]] ++ cb) W fun e w' => e = .returned (.bool (p x)) ∧ Below W.heap.size W w')
    (w : World) (hG : Good w) (b c : Nat) (xs : List TApiKey) (rest : List Value) (T : TypeId) (h : w.heap[b]? = some (.cells (xs.flatMap kc2 ++ rest).toArray T (0, 0))) (hl : xs.length < 4398046511104) :
    Calls Try.prog 51 #[.slice (some ⟨b, 0, none⟩) xs.length c, .func (.func g) #[] cb] w fun e w' => Below w.heap.size w w' ∧
      ((e = .returned (.int .i64 (-1)) ∧ ∀ x ∈ xs, p x = false) ∨ ∃ i : Nat, ∃ x, e = .returned (.int .i64 i) ∧ xs[i]? = some x ∧ p x = true ∧ ∀ y ∈ xs.take i, p y = false) := by
  go_enter Try.func51, Try.ntmps51
  go_wp2
  go_loopw [8] (fun s8 wr => ∃ k : Nat, s8 = .int .i64 k ∧ k ≤ xs.length ∧ Below w.heap.size w wr ∧ Good wr ∧ ∀ y ∈ xs.take k, p y = false) (fun s8 _ => xs.length - (intOf s8).toNat)
  case atStart => exact ⟨0, rfl, Nat.zero_le _, Below.refl _ _, hG, by simp⟩
  case round =>
    obtain ⟨k, rfl, hk, hb, hgd, hp⟩ := hrel
    by_cases hlt : k < xs.length
    · have hbl : b < w.heap.size := (Array.getElem?_eq_some_iff.1 h).1
      obtain ⟨c0, c1⟩ := cells_at ((hb.block b hbl).trans h) (List.getElem?_eq_getElem hlt)
      have hkk := List.getElem?_eq_getElem hlt
      generalize xs[k] = x at c0 c1 hkk
      have hw1 := wrap_small k (by omega)
      have hd := hdel wr x hgd
      have htk := take_snoc hkk
      go_wp2_with fail
      refine hd.mono ?_
      rintro e W2 ⟨rfl, hb2⟩
      cases hpx : p x
      · go_wp2
        go_roundw
        case rel =>
          refine ⟨k + 1, by simp [hw1], hlt, hb.trans (hb2.mono hb.size), hgood _ _ hgd hb2, fun y hy => ?_⟩
          rw [htk] at hy
          rcases List.mem_append.1 hy with hy | hy
          · exact hp y hy
          · simp at hy; subst hy; exact hpx
        case measure => exact meas_p hlt
      · go_wp2
        go_ret
        exact ⟨hb.trans (hb2.mono hb.size), .inr ⟨k, x, rfl, hkk, hpx, hp⟩⟩
    · obtain rfl : k = xs.length := Nat.le_antisymm hk (Nat.le_of_not_lt hlt)
      go_wp2
      go_ret
      exact ⟨hb, .inl ⟨rfl, by simpa using hp⟩⟩
theorem df_set {zs xs : List TApiKey} {p : TApiKey → Bool} {i j : Nat} {x : TApiKey} (hij : i < j) (hzl : zs.length = xs.length) (htk : zs.take i = (xs.take j).filter fun x => !p x) (hdr : zs.drop j = xs.drop j) (hx : xs[j]? = some x) (hp : p x = false) :
    (zs.set i x).take (i + 1) = (xs.take (j + 1)).filter (fun x => !p x) ∧ (zs.set i x).drop (j + 1) = xs.drop (j + 1) := by
  have hj := (List.getElem?_eq_some_iff.1 hx).1
  constructor
  · rw [take_snoc hx, List.filter_append, ← htk, take_snoc (x := x) (by rw [List.getElem?_set_self (by omega)]), List.take_set_of_le (by omega)]
    simp [hp]
  · rw [List.drop_set_of_lt (by omega)]
    have := congrArg (List.drop 1) hdr
    simpa using this
theorem df_skip {zs xs : List TApiKey} {p : TApiKey → Bool} {i j : Nat} {x : TApiKey} (htk : zs.take i = (xs.take j).filter fun x => !p x) (hdr : zs.drop j = xs.drop j) (hx : xs[j]? = some x) (hp : p x = true) :
    zs.take i = (xs.take (j + 1)).filter (fun x => !p x) ∧ zs.drop (j + 1) = xs.drop (j + 1) := by
  constructor
  · rw [take_snoc hx, List.filter_append, ← htk]; simp [hp]
  · have := congrArg (List.drop 1) hdr
    simpa using this
theorem lt_of2 {a : Nat} {w w1 : World} (h : a < w.heap.size) (k : w1.heap.size = w.heap.size + 1) : a < w1.heap.size := by omega
theorem lt_self2 {w w1 : World} (k : w1.heap.size = w.heap.size + 1) : w.heap.size < w1.heap.size := by omega
theorem df_step {w wr W1 W2 : World} {b : Nat} (henv : Env w wr) (hsz : w.heap.size ≤ wr.heap.size) (hoth : ∀ q, q < w.heap.size → q ≠ b → wr.heap[q]? = w.heap[q]?) (h1 : Below wr.heap.size wr W1) (h2 : Below W1.heap.size W1 W2) : Env w W2 ∧ w.heap.size ≤ W2.heap.size ∧ (∀ q, q < w.heap.size → q ≠ b → W2.heap[q]? = w.heap[q]?) ∧ Below wr.heap.size wr W2 := by
  have h3 : Below wr.heap.size wr W2 := h1.trans (h2.mono h1.size)
  exact ⟨henv.trans ⟨h3.os, h3.tape, h3.output, Nat.le_refl _⟩, Nat.le_trans hsz h3.size, fun q hq hne => (h3.block q (Nat.lt_of_lt_of_le hq hsz)).trans (hoth q hq hne), h3⟩
set_option maxRecDepth 100000 in
set_option maxHeartbeats 8000000 in
theorem delete_calls (g : FuncId) (cb : Array Value) (p : TApiKey → Bool) (Good : World → Prop) (b : Nat) (hgood : ∀ W W', Good W → Env W W' → W.heap.size ≤ W'.heap.size → (∀ j, j < W.heap.size → j ≠ b → W'.heap[j]? = W.heap[j]?) → Good W') (eg : ∀ args w, (callFunc g args).run Try.prog w = .ok (.enter g args) w)
    (hdel : ∀ W x, Good W → Calls Try.prog g (#[.agg #[.string x.gName, .int .i64 x.gNode]] ++ cb) W fun e w' => e = .returned (.bool (p x)) ∧ Below W.heap.size W w')
    (w : World) (hG : Good w) (c : Nat) (xs : List TApiKey) (rest : List Value) (T : TypeId) (h : w.heap[b]? = some (.cells (xs.flatMap kc2 ++ rest).toArray T (0, 0))) (hl : xs.length < 4398046511104) (hc : xs.length ≤ c) :
    Calls Try.prog 46 #[.slice (some ⟨b, 0, none⟩) xs.length c, .func (.func g) #[] cb] w fun e w' => Env w w' ∧ w.heap.size ≤ w'.heap.size ∧ (∀ j, j < w.heap.size → j ≠ b → w'.heap[j]? = w.heap[j]?) ∧
      ∃ rest', e = .returned (.slice (some ⟨b, 0, none⟩) (xs.filter fun x => !p x).length c) ∧ w'.heap[b]? = some (.cells ((xs.filter fun x => !p x).flatMap kc2 ++ rest').toArray T (0, 0)) ∧ ((xs.filter fun x => !p x).flatMap kc2 ++ rest').length = (xs.flatMap kc2 ++ rest).length := by
  have hbl : b < w.heap.size := (Array.getElem?_eq_some_iff.1 h).1
  have hgb : ∀ W W', Good W → Below W.heap.size W W' → Good W' := fun W W' hg hb => hgood W W' hg ⟨hb.os, hb.tape, hb.output, Nat.le_refl _⟩ hb.size (fun j hj _ => hb.block j hj)
  have hix := index_calls g cb p Good hgb eg hdel w hG b c xs rest T h hl
  go_enter Try.func46, Try.ntmps46
  go_wp2_with fail
  refine hix.mono ?_
  rintro e w1 ⟨hb1, ⟨rfl, hno⟩ | ⟨i0, x0, rfl, hi0, hx0, hpre⟩⟩
  · have hf : xs.filter (fun x => !p x) = xs := List.filter_eq_self.2 (fun x hx => by simp [hno x hx])
    go_wp2
    go_ret
    rw [hf]
    exact ⟨⟨hb1.os, hb1.tape, hb1.output, Nat.le_refl _⟩, hb1.size, fun j hj _ => hb1.block j hj, rest, rfl, (hb1.block b hbl).trans h, rfl⟩
  · have hi0l := (List.getElem?_eq_some_iff.1 hi0).1
    have hne : ¬ ((i0 : Int) = -1) := by omega
    have hi42 : i0 < 4398046511104 := by omega
    have hi1 : i0 + 1 ≤ xs.length := hi0l
    have hinit : xs.take i0 = (xs.take (i0 + 1)).filter (fun x => !p x) := by
      rw [take_snoc hi0, List.filter_append, List.filter_eq_self.2 (fun x hx => by simp [hpre x hx])]
      simp [hx0]
    have hw0 := wrap_smallK i0 hi42
    have hne' : ((i0 : Int) == -1) = false := by simp
    go_wp2
    clear hw0
    go_loopw [5, 6] (fun s5 s6 wr => ∃ (i j : Nat) (zs : List TApiKey), s5 = .int .i64 i ∧ s6 = .int .i64 j ∧ i < j ∧ j ≤ xs.length ∧ zs.length = xs.length ∧ zs.take i = (xs.take j).filter (fun x => !p x) ∧ zs.drop j = xs.drop j ∧
        wr.heap[b]? = some (Obj.cells (zs.flatMap kc2 ++ rest).toArray T (0, 0)) ∧ Env w wr ∧ w.heap.size ≤ wr.heap.size ∧ (∀ q, q < w.heap.size → q ≠ b → wr.heap[q]? = w.heap[q]?) ∧ Good wr) (fun _ s6 _ => xs.length - (intOf s6).toNat)
    case atStart =>
      exact ⟨i0, i0 + 1, xs, rfl, rfl, Nat.lt_succ_self _, hi1, rfl, hinit, rfl, (hb1.block b hbl).trans h, ⟨hb1.os, hb1.tape, hb1.output, Nat.le_refl _⟩, hb1.size, fun q hq _ => hb1.block q hq, hgb _ _ hG hb1⟩
    case round =>
      obtain ⟨i, j, zs, rfl, rfl, hij, hj, hzl, htk, hdr, hbz, henv, hsz, hoth, hgd⟩ := hrel
      by_cases hlt : j < xs.length
      · have hxj : zs[j]? = xs[j]? := by
          have := congrArg (fun l => l[0]?) hdr
          simpa using this
        have hkk := List.getElem?_eq_getElem hlt
        obtain ⟨c0, c1⟩ := cells_at hbz (hxj.trans hkk)
        generalize xs[j] = x at c0 c1 hkk
        have hj42 : j < 4398046511104 := by omega
        have hk42 : i < 4398046511104 := by omega
        have hil : i < xs.length := by omega
        have hblr : b < wr.heap.size := by omega
        obtain ⟨W1, hW1⟩ : ∃ W1, W1 = wr.alloc (Obj.cells #[.string x.gName, .int .i64 x.gNode] 34) := ⟨_, rfl⟩
        have hbW1 : Below wr.heap.size wr W1 := by rw [hW1]; exact (Below.refl _ wr).alloc (Nat.le_refl _) _
        have hd := hdel W1 x (hgb _ _ hgd hbW1)
        have hnx : W1.heap[wr.heap.size]? = some (Obj.cells #[.string x.gName, .int .i64 x.gNode] 34 (0, 0)) := by rw [hW1, heap_alloc, if_pos rfl]
        have hsW1 : W1.heap.size = wr.heap.size + 1 := by rw [hW1]; simp
        have hw1 := wrap_smallK j hj42
        have hw2 := wrap_smallK i hk42
        go_wp2_with fail
        rw [← hW1]
        refine hd.mono ?_
        rintro e W2 ⟨rfl, hb2⟩
        have hbz2 : W2.heap[b]? = some (Obj.cells (zs.flatMap kc2 ++ rest).toArray T (0, 0)) := (hb2.block b (lt_of2 hblr hsW1)).trans ((hbW1.block b hblr).trans hbz)
        have hnx2 : W2.heap[wr.heap.size]? = some (Obj.cells #[.string x.gName, .int .i64 x.gNode] 34 (0, 0)) := (hb2.block _ (lt_self2 hsW1)).trans hnx
        have d0 : W2.cell? ⟨wr.heap.size, 0, none⟩ = some (.string x.gName) := by simp [World.cell?, hnx2]
        have d1 : W2.cell? ⟨wr.heap.size, 1, none⟩ = some (.int .i64 x.gNode) := by simp [World.cell?, hnx2]
        have hzi : i < zs.length := by rw [hzl]; exact hil
        obtain ⟨g0, g1⟩ := cells_at hbz2 (List.getElem?_eq_getElem hzi)
        have f0 : W2.frozen? ⟨b, i * 2, none⟩ = false := by simp [World.frozen?, hbz2]
        have f1 : W2.frozen? ⟨b, i * 2 + 1, none⟩ = false := by simp [World.frozen?, hbz2]
        have st := df_step henv hsz hoth hbW1 hb2
        clear hbW1 hd hnx hnx2 hW1
        cases hpx : p x
        · go_wp2
          go_roundw
          case rel =>
            obtain ⟨s1, s2, s3, s4⟩ := st
            obtain ⟨t1, t2⟩ := df_set hij hzl htk hdr hkk hpx
            have hse := set_at hbz2 hzi x
            have hot : ∀ q, q ≠ b → ((W2.setCell ⟨b, i * 2, none⟩ (.string x.gName)).setCell ⟨b, i * 2 + 1, none⟩ (.int .i64 x.gNode)).heap[q]? = W2.heap[q]? := fun q hq =>
              (Below.heap_setCell _ ⟨b, i * 2 + 1, none⟩ _ q hq).trans (Below.heap_setCell _ ⟨b, i * 2, none⟩ _ q hq)
            have hsz3 : ((W2.setCell ⟨b, i * 2, none⟩ (.string x.gName)).setCell ⟨b, i * 2 + 1, none⟩ (.int .i64 x.gNode)).heap.size = W2.heap.size := by simp [World.setCell]
            exact ⟨i + 1, j + 1, zs.set i x, rfl, rfl, Nat.succ_lt_succ hij, hlt, by rw [List.length_set]; exact hzl, t1, t2, hse, s1.trans ⟨rfl, rfl, rfl, Nat.le_refl _⟩, Nat.le_trans s2 (Nat.le_of_eq hsz3.symm), fun q hq hne => (hot q hne).trans (s3 q hq hne),
              hgood _ _ (hgb _ _ hgd s4) ⟨rfl, rfl, rfl, Nat.le_refl _⟩ (Nat.le_of_eq hsz3.symm) (fun q _ hne => hot q hne)⟩
          case measure => exact meas_p hlt
        · go_wp2
          go_roundw
          case rel =>
            obtain ⟨s1, s2, s3, s4⟩ := st
            obtain ⟨t1, t2⟩ := df_skip htk hdr hkk hpx
            exact ⟨i, j + 1, zs, rfl, rfl, Nat.lt_succ_of_lt hij, hlt, hzl, t1, t2, hbz2, s1, s2, s3, hgb _ _ hgd s4⟩
          case measure => exact meas_p hlt
      · obtain rfl : j = xs.length := Nat.le_antisymm hj (Nat.le_of_not_lt hlt)
        rw [List.take_length] at htk
        have hfl : (xs.filter fun x => !p x).length = i := by rw [← htk, List.length_take]; omega
        have t1 : Try.prog.underlying 23 = some (.slice 34) := by kernel_rfl
        have hzv : (Go.zeroValue 34).run Try.prog wr = .ok (.agg #[.string ⟨#[]⟩, .int .i64 0]) wr := run_zv (by kernel_rfl)
        have hX := kc2_len zs
        obtain ⟨wc, Z, r1, r2, r3, r4, r5, r6⟩ := run_clear_blk (P := Try.prog) (ty := 0) (t := 23) (o := i * 2) (n := xs.length - i) (cap := c - i) t1 hzv hbz (by intro v hv; simp [Value.cells] at hv; rcases hv with rfl | rfl <;> rfl) (by decide) (by
          show i * 2 + (xs.length - i) * 2 ≤ _
          rw [List.length_append, hX, hzl]; omega)
        have hci : ¬ (c = i) := by omega
        have hil : i ≤ xs.length := by omega
        have hic : i ≤ c := by omega
        have hi0' : (0 : Int) ≤ (i : Int) := by omega
        have fin : Env w wc ∧ w.heap.size ≤ wc.heap.size ∧ (∀ q, q < w.heap.size → q ≠ b → wc.heap[q]? = w.heap[q]?) ∧ ∃ rest', wc.heap[b]? = some (Obj.cells ((xs.filter fun x => !p x).flatMap kc2 ++ rest').toArray T (0, 0)) ∧ ((xs.filter fun x => !p x).flatMap kc2 ++ rest').length = (xs.flatMap kc2 ++ rest).length := by
          refine ⟨henv.trans r2, Nat.le_trans hsz (Nat.le_of_eq r3.symm), fun q hq hne => (r4 q hne).trans (hoth q hq hne), Z ++ List.drop (i * 2 + (xs.length - i) * 2) (zs.flatMap kc2 ++ rest), ?_, ?_⟩
          · refine r6.trans ?_
            rw [List.take_append_of_le_length (by rw [hX, hzl]; omega), kc2_take, htk]
            rfl
          · have r5' : Z.length = (xs.length - i) * 2 := r5
            have hX2 := kc2_len xs
            rw [List.length_append, kc2_len, hfl, List.length_append, r5', List.length_drop, List.length_append, List.length_append, hX, hX2, hzl]; omega
        clear r2 r3 r4 r5 r6 henv hsz hoth hgd
        go_wp2
        go_ret
        obtain ⟨f1, f2, f3, rest', f4, f5⟩ := fin
        exact ⟨f1, f2, f3, rest', by rw [hfl]; rfl, f4, f5⟩
set_option maxRecDepth 100000 in
set_option maxHeartbeats 4000000 in
theorem delete_nil (fv : Value) (a : Option Addr) (w : World) : Calls Try.prog 46 #[.slice a 0 0, fv] w fun e w' => e = .returned (.slice a 0 0) ∧ w' = w := by
  have hix : Calls Try.prog 51 #[.slice a 0 0, fv] w fun e w' => e = .returned (.int .i64 (-1)) ∧ w' = w := by
    go_enter Try.func51, Try.ntmps51
    go_wp2
    go_loopw [8] (fun s8 wr => s8 = .int .i64 0 ∧ wr = w) (fun s8 _ => 0)
    case atStart => exact ⟨rfl, rfl⟩
    case round =>
      obtain ⟨rfl, rfl⟩ := hrel
      go_wp2
      go_ret
      exact ⟨rfl, rfl⟩
  go_enter Try.func46, Try.ntmps46
  go_wp2_with fail
  refine hix.mono ?_
  rintro e w1 ⟨rfl, rfl⟩
  go_wp2
  go_ret
  exact ⟨rfl, rfl⟩
theorem delete_row (g : FuncId) (cb : Array Value) (p : TApiKey → Bool) (Good : World → Prop) {H : Hp} {w : World} {xs : List TApiKey} {z : Z3} (hA : Ag H w) (hrow : BlkOK H w (0, .row 2 (xs.map eTApiKey) (SL z)))
    (hgood : ∀ W W', Good W → Env W W' → W.heap.size ≤ W'.heap.size → (∀ j, j < W.heap.size → j ∉ claims [(0, Blk.row 2 (xs.map eTApiKey) (SL z))] [] → W'.heap[j]? = W.heap[j]?) → Good W') (eg : ∀ args w, (callFunc g args).run Try.prog w = .ok (.enter g args) w)
    (hdel : ∀ W x, Good W → Calls Try.prog g (#[.agg #[.string x.gName, .int .i64 x.gNode]] ++ cb) W fun e w' => e = .returned (.bool (p x)) ∧ Below W.heap.size W w') (hG : Good w) (hl : xs.length < 4398046511104) :
    Calls Try.prog 46 #[SL z, .func (.func g) #[] cb] w fun e w' => ∃ z' : Z3, e = .returned (SL z') ∧ Core ⟨H, w, claims [(0, Blk.row 2 (xs.map eTApiKey) (SL z))] []⟩ H [(0, .row 2 ((xs.filter fun x => !p x).map eTApiKey) (SL z'))] [] w' := by
  rcases key_row hrow with ⟨e1, e2, rfl⟩ | ⟨b, c, rest, T, rfl, c0, c1, c2, c3, c4, c5⟩
  · obtain ⟨z1, z2, z3⟩ := z
    simp only at e1 e2; subst e1; subst e2
    refine (delete_nil _ z1 w).mono ?_
    rintro e w' ⟨rfl, rfl⟩
    exact ⟨(z1, 0, 0), rfl, row_same hA hrow (by cases z1 <;> simp [claims, blkClaim, sliceClaim])⟩
  · rw [c5] at hgood ⊢
    refine (delete_calls g cb p Good b (fun W W' h1 h2 h3 h4 => hgood W W' h1 h2 h3 (fun j hj hne => h4 j hj (by simpa using hne))) eg hdel w hG c xs rest T c2 hl c0).mono ?_
    rintro e w' ⟨f1, f2, f3, rest', rfl, f5, f6⟩
    have hle : (xs.filter fun x => !p x).length ≤ xs.length := List.length_filter_le _ _
    exact ⟨(some ⟨b, 0, none⟩, (xs.filter fun x => !p x).length, c), rfl, row_core hA f1 f2 (fun j hj hne => f3 j hj (by simpa using hne)) (by intro j hj; simp at hj; subst hj; exact c4) (by intro j hj; simp at hj; subst hj; exact ⟨_, _, c2⟩) f5 (.inl (by simp)) (Nat.le_trans hle c0) c1 (by rw [f6]; exact c3)⟩
theorem keEq (x y : TApiKey) : (decide (x.gName = y.gName) && (x.gNode == y.gNode && true)) = decide (x = y) := by
  rw [Bool.eq_iff_iff, decide_eq_true_iff]
  obtain ⟨a0, a1⟩ := x
  obtain ⟨b0, b1⟩ := y
  simp
theorem cut1_calls (k x : TApiKey) (B : Nat) (T : TypeId) (W : World) (h : W.heap[B]? = some (.cells (kc2 k).toArray T (0, 0))) : Calls Try.prog 47 #[.agg #[.string x.gName, .int .i64 x.gNode], .pointer (some ⟨B, 0, none⟩)] W fun e w' => e = .returned (.bool (decide (x = clK k))) ∧ Below W.heap.size W w' := by
  have hr : key_Cut_1 x k = some (decide (x = clK k)) := by
    unfold key_Cut_1 key_Clean
    simp only [Option.bind_some]
    congr 1
    exact keEq x (clK k)
  have hB : B < W.heap.size := (Array.getElem?_eq_some_iff.1 h).1
  refine ((key_Cut_1_ok x k B T _ hr).2 (fun _ => none) W [.agg #[.string x.gName, .int .i64 x.gNode], .pointer (some ⟨B, 0, none⟩)] ?_ (fun a v e => by cases e) ?_ (by simp) (by simp [claims, blkClaim])).mono ?_
  · simp only [RepsV]
    refine ⟨_, _, rfl, ?_, _, _, rfl, ⟨by simp [RepC, Value.cells], rfl⟩, rfl⟩
    exact rep_va (fun _ => none) (us := kc2 x) rfl
  · intro p hp
    simp at hp; subst hp
    exact ⟨kc2 k, h, reps_v _ (kc2 k) rfl, fun _ => rfl⟩
  · rintro e w' ⟨v, H', d, h', k', rfl, hv, hc, rfl, rfl, rfl⟩
    refine ⟨by rw [rep_v_inv hv], hc.env.1, hc.env.2.1, hc.env.2.2.1, hc.size, fun j hj => ?_⟩
    by_cases q : j = B
    · subst q
      obtain ⟨us, g1, g2, _⟩ := hc.blks _ (List.mem_singleton.2 rfl)
      have := reps_v_inv (us := kc2 k) g2
      subst this
      exact g1.trans h.symm
    · exact hc.same j hj (by simp [claims, blkClaim, q])
set_option maxRecDepth 100000 in
set_option maxHeartbeats 4000000 in
theorem Cut_calls (H : Hp) (w : World) (hA : Ag H w) (l : List TApiKey) (v : Value) (hv : SlK w.heap.size w v l) (hl : l.length < 4398046511104) (k : TApiKey) :
    Calls Try.prog 39 #[v, encK k] w fun e w' => ∃ z : Z3, e = .returned (SL z) ∧ Core ⟨H, w, []⟩ H [(0, .row 2 (((rowK l).filter fun x => !decide (x = clK k)).map eTApiKey) (SL z))] [] w' := by
  obtain ⟨W1, hW1⟩ : ∃ W1, W1 = w.alloc (Obj.cells #[.string k.gName, .int .i64 k.gNode] 34) := ⟨_, rfl⟩
  have hb1 : Below w.heap.size w W1 := by rw [hW1]; exact (Below.refl _ w).alloc (Nat.le_refl _) _
  have hnx : W1.heap[w.heap.size]? = some (Obj.cells (kc2 k).toArray 34 (0, 0)) := by rw [hW1, heap_alloc, if_pos rfl]; rfl
  have hs1 : W1.heap.size = w.heap.size + 1 := by rw [hW1]; simp
  have hA1 : Ag H W1 := fun a u e => by rw [hb1.cell (p := a) (hA.lt e)]; exact hA a u e
  have hv1 : SlK W1.heap.size W1 v l := by
    obtain ⟨a, cap, e1, e2⟩ := hv
    refine ⟨a, cap, e1, fun j x hj => ?_⟩
    obtain ⟨b, off, g1, g2, g3, g4⟩ := e2 j x hj
    exact ⟨b, off, g1, by omega, (hb1.cell (p := ⟨b, _, none⟩) g2).trans g3, (hb1.cell (p := ⟨b, _, none⟩) g2).trans g4⟩
  have hrow := Row_calls H W1 hA1 l v hv1 hl
  have hvv : ∃ a n m, v = .slice a n m := by obtain ⟨a, cap, e1, _⟩ := hv; exact ⟨_, _, _, e1⟩
  obtain ⟨va, vn, vm, rfl⟩ := hvv
  unfold encK
  go_enter Try.func39, Try.ntmps39
  go_wp2_with fail
  rw [← hW1]
  clear hW1
  refine hrow.mono ?_
  rintro e W2 ⟨z, rfl, hc⟩
  have hdl := delete_row 47 #[.pointer (some ⟨w.heap.size, 0, none⟩)] (fun x => decide (x = clK k)) (fun W => W.heap[w.heap.size]? = some (Obj.cells (kc2 k).toArray 34 (0, 0))) hc.ag (hc.blks _ (List.mem_singleton.2 rfl))
    (fun W W' h1 h2 h3 h4 => (h4 w.heap.size (Array.getElem?_eq_some_iff.1 h1).1 (fun q => by
      rcases hc.own _ q with q | q
      · cases q
      · have : W1.heap.size ≤ w.heap.size := q
        omega)).trans h1) (enters_of Try.func47 (by kernel_rfl) rfl) (fun W x hW => cut1_calls k x w.heap.size _ W hW) ((hc.same _ (lt_self2 hs1) (by simp)).trans hnx) (by have := (rowK_all l).2.2; omega)
  go_wp2_with fail
  refine hdl.mono ?_
  rintro e W3 ⟨z', rfl, hc3⟩
  go_wp2
  go_ret
  exact ⟨z', rfl, Core.call (h1 := []) (k1 := []) (h2 := []) (k2 := []) (core_below0 hA hb1) (Core.call (h1 := [(0, .row 2 ((rowK l).map eTApiKey) (SL z))]) (k1 := []) (h2 := []) (k2 := []) hc hc3)⟩
end Go.Proofs.Ytpdekcfeecdlbaa.Ab
namespace Go.Proofs.Ytpdekcfeecdlbaa.Ab
open Go Go.RowKit Go.Shelf Go.Proofs Go.Proofs.Ytpdekcfeecdlbaa.Ab.Pq
set_option linter.all false
def mdel {β : Type} : List (TApiKey × β) → TApiKey → List (TApiKey × β)
  | [], _ => []
  | (a, b) :: l, k => if a = k then l else (a, b) :: mdel l k
theorem mapR_del {β : Type} {f : TApiKey → Value} {e : β → D} {H : Hp} (k : TApiKey) : ∀ {l : List (TApiKey × β)} {me : List MapEntry} (i : Nat), MapR H (l.map fun p => (f p.1, e p.2)) me →
    (ffind (l.map (·.1)) k me i = none ∧ mdel l k = l) ∨ ∃ j v, ffind (l.map (·.1)) k me i = some (i + j, v) ∧ j < me.length ∧ MapR H ((mdel l k).map fun p => (f p.1, e p.2)) (me.eraseIdx j)
  | [], me, i, h => by
    simp [MapR] at h; subst h
    exact .inl ⟨rfl, rfl⟩
  | p :: l, me, i, h => by
    simp only [List.map_cons, MapR] at h
    obtain ⟨m, me', rfl, h1, h2, h3⟩ := h
    by_cases q : p.1 = k
    · refine .inr ⟨0, m.val, ?_, by simp, ?_⟩
      · simp only [List.map_cons, ffind]; rw [if_pos q]; rfl
      · obtain ⟨a, b⟩ := p
        simp only at q
        simp only [mdel, if_pos q, List.eraseIdx_cons_zero]; exact h3
    · rcases mapR_del k (i + 1) h3 with ⟨g1, g2⟩ | ⟨j, v, g1, g2, g3⟩
      · refine .inl ⟨?_, ?_⟩
        · simp only [List.map_cons, ffind]; rw [if_neg q]; exact g1
        · obtain ⟨a, b⟩ := p
          simp only at q
          simp only [mdel, if_neg q, g2]
      · refine .inr ⟨j + 1, v, ?_, by simpa using g2, ?_⟩
        · simp only [List.map_cons, ffind]; rw [if_neg q, g1]; congr 2; omega
        · obtain ⟨a, b⟩ := p
          simp only at q
          simp only [mdel, if_neg q, List.map_cons, List.eraseIdx_cons_succ, MapR]
          exact ⟨_, _, rfl, h1, h2, g3⟩
theorem mdel_sub {β : Type} : ∀ (l : List (TApiKey × β)) (k : TApiKey), (mdel l k).Sublist l
  | [], _ => List.Sublist.refl _
  | (a, b) :: l, k => by
    unfold mdel
    split
    · exact List.sublist_cons_self _ _
    · exact (mdel_sub l k).cons_cons _
theorem mdelL (es : Ties) (k : TApiKey) : tieL (mdel es k) = mdel (tieL es) k := by
  unfold tieL
  induction es with
  | nil => rfl
  | cons p es ih =>
    obtain ⟨a, v⟩ := p
    simp only [mdel, List.map_cons]
    split
    · rfl
    · simp only [List.map_cons, ih]
theorem run_del {H : Hp} {w : World} {b : Nat} {es : Ties} (hb : BlkOK H w (b, .mp (tieM es))) (k : TApiKey) (ty : TypeId) :
    ∃ me ck, (Builtin.delete_ #[44, 34] ty #[.map (some b), .agg #[.string k.gName, .int .i64 k.gNode]]).run Try.prog w = .ok (.tuple #[]) { w with heap := w.heap.setIfInBounds b (.map me ck) } ∧ MapR H (tieM (mdel es k)) me.toList := by
  obtain ⟨dd, h1, h2⟩ := run_underlying (P := Try.prog) (w := w) (ti_ok htab (t := 44) rfl)
  have hd : tdOf dd = .map 34 23 := h2
  have := td_map hd; subst this
  obtain ⟨me, ck, g1, g2, g3⟩ := hb
  have hfk := mkK.find w k me.toList (es.map (·.1)) (mapR_keys (f := fun a : TApiKey => Value.agg (kc2 a).toArray) (e := fun q : List TApiKey × Z3 => D.v (SL q.2)) g2)
  unfold Builtin.delete_
  rcases mapR_del (f := fun a : TApiKey => Value.agg (kc2 a).toArray) (e := fun q : List TApiKey × Z3 => D.v (SL q.2)) k 0 g2 with ⟨q1, q2⟩ | ⟨j, v, q1, q2, q3⟩
  · refine ⟨me, ck, ?_, by rw [q2]; exact g2⟩
    rw [q1] at hfk
    simp only [List.getElem?_toArray, List.getElem?_cons_zero, List.getElem?_cons_succ, run_bind, h1, Result.andThen, MapKept.run_getObj_map g1, run_pure, mkK.check, show (Value.agg #[.string k.gName, .int .i64 k.gNode]) = Value.agg (kc2 k).toArray from rfl, hfk, MapKept.run_setObj_map _ g1]
  · refine ⟨me.eraseIdxIfInBounds j, ck, ?_, ?_⟩
    · rw [q1, Nat.zero_add] at hfk
      simp only [List.getElem?_toArray, List.getElem?_cons_zero, List.getElem?_cons_succ, run_bind, h1, Result.andThen, MapKept.run_getObj_map g1, run_pure, mkK.check, show (Value.agg #[.string k.gName, .int .i64 k.gNode]) = Value.agg (kc2 k).toArray from rfl, hfk, MapKept.run_setObj_map _ g1]
    · have : (me.eraseIdxIfInBounds j).toList = me.toList.eraseIdx j := by simp
      rw [this]; exact q3
def cutF (m : List (TApiKey × List TApiKey)) (x y : TApiKey) : List (TApiKey × List TApiKey) :=
  let l := (rowK (mgetD m x [])).filter fun q => !decide (q = clK y)
  if l = [] then mdel m x else mput m x l
theorem tie_del {C : Ctx} {H : Hp} {W : World} {b : Nat} {es : Ties} {ex : List (Nat × Blk)} {me : Array MapEntry} {ck : Nat} {x : TApiKey} (c : Core C H (tieH b es ++ ex) [] W) (hm : MapR H (tieM (mdel es x)) me.toList) :
    Core C H (tieH b (mdel es x)) [] { W with heap := W.heap.setIfInBounds b (.map me ck) } := by
  have c1 := Core.setMap (j := 0) (es' := tieM (mdel es x)) (me := me) (ck := ck) c rfl hm
  refine c1.drop ?_ (List.Sublist.refl _)
  show (((b, Blk.mp (tieM (mdel es x))) :: tieR (mdel es x))).Sublist ((b, Blk.mp (tieM (mdel es x))) :: (tieR es ++ ex))
  exact (List.Sublist.trans ((mdel_sub es x).map _) (List.sublist_append_left _ _)).cons_cons _
theorem tie_put {C : Ctx} {H : Hp} {W : World} {b : Nat} {es : Ties} {ex : List (Nat × Blk)} {me : Array MapEntry} {ck : Nat} {x : TApiKey} {xs : List TApiKey} {z : Z3} (c : Core C H ((0, .row 2 (xs.map eTApiKey) (SL z)) :: (tieH b es ++ ex)) [] W) (hm : MapR H (tieM (mput es x (xs, z))) me.toList) :
    Core C H (tieH b (mput es x (xs, z))) [] { W with heap := W.heap.setIfInBounds b (.map me ck) } := by
  have c1 := Core.setMap (j := 1) (es' := tieM (mput es x (xs, z))) (me := me) (ck := ck) c rfl hm
  have c2 : Core C H ((0, .row 2 (xs.map eTApiKey) (SL z)) :: (b, .mp (tieM (mput es x (xs, z)))) :: (tieR es ++ ex)) [] { W with heap := W.heap.setIfInBounds b (.map me ck) } := c1
  clear c1
  rcases mget_split (l := es) (k := x) with ⟨h1, h2, _⟩ | ⟨l1, l2, v, h1, h2, h3, _⟩
  · rw [h2] at c2 ⊢
    have c3 := c2.drop (h' := (0, .row 2 (xs.map eTApiKey) (SL z)) :: (b, .mp (tieM (es ++ [(x, (xs, z))]))) :: tieR es) (((List.sublist_append_left _ _).cons_cons _).cons_cons _) (List.Sublist.refl _)
    refine c3.perm ?_ (List.Perm.refl _)
    unfold tieH
    refine (List.Perm.swap _ _ _).trans (List.Perm.cons _ ?_)
    simp only [tieR, List.map_append, List.map_cons, List.map_nil]
    exact (List.perm_append_singleton _ _).symm
  · rw [h3] at c2 ⊢
    have c3 := c2.drop (h' := (0, .row 2 (xs.map eTApiKey) (SL z)) :: (b, .mp (tieM (l1 ++ (x, (xs, z)) :: l2))) :: (tieR l1 ++ tieR l2)) ((List.Sublist.cons_cons _ (by
      refine List.Sublist.trans ?_ (List.sublist_append_left _ _)
      rw [h2]
      simp only [tieR, List.map_append, List.map_cons]
      exact List.Sublist.append_left (List.sublist_cons_self _ _) _)).cons_cons _) (List.Sublist.refl _)
    refine c3.perm ?_ (List.Perm.refl _)
    unfold tieH
    refine (List.Perm.swap _ _ _).trans (List.Perm.cons _ ?_)
    simp only [tieR, List.map_append, List.map_cons]
    exact List.perm_middle.symm
set_option maxRecDepth 100000 in
set_option maxHeartbeats 4000000 in
theorem cut_calls (H : Hp) (w : World) (hA : Ag H w) (b : Nat) (es : Ties) (x y : TApiKey) (hb : ∀ p ∈ tieH b es, BlkOK H w p) (nd : (claims (tieH b es) []).Nodup) (hl : (mgetD es x zr0).1.length < 4398046511104) :
    Calls Try.prog 32 #[.map (some b), encK x, encK y] w fun e w' => ∃ es', e = .returned (.tuple #[]) ∧ Core ⟨H, w, claims (tieH b es) []⟩ H (tieH b es') [] w' ∧ tieL es' = cutF (tieL es) x y := by
  have mixed : Try.prog.follows .mixedOrders = true := by kernel_rfl
  obtain ⟨W1, hW1⟩ : ∃ W1, W1 = (w.alloc (Obj.cells #[Value.string x.gName, Value.int IntKind.i64 x.gNode] 34)).alloc (Obj.cells #[Value.string y.gName, Value.int IntKind.i64 y.gNode] 34) := ⟨_, rfl⟩
  have hs1 : W1.heap.size = w.heap.size + 2 := by rw [hW1]; simp
  have c1 : Core ⟨H, w, claims (tieH b es) []⟩ H (tieH b es ++ [(w.heap.size, .cells ((kc2 x).map .v) 34), (w.heap.size + 1, .cells ((kc2 y).map .v) 34)]) [] W1 := by
    rw [hW1]
    have q := Core.alloc (Core.alloc (core_stay hA hb nd (Below.refl _ w)) (ds := (kc2 x).map .v) (us := kc2 x) 34 (reps_v H (kc2 x) rfl)) (ds := (kc2 y).map .v) (us := kc2 y) 34 (reps_v H (kc2 y) rfl)
    simp only [List.append_assoc, List.singleton_append, World.size_alloc] at q
    exact q
  have hlk : (Instr.lookup 44 (.map (some b)) (.agg #[.string x.gName, .int .i64 x.gNode]) false).run Try.prog W1.drew = .ok (SL (mgetD es x zr0).2) W1.drew := run_lkp ((Core.drew c1).blks (b, .mp (tieM es)) (by simp [tieH])) x
  obtain ⟨rest, hex, c1s, hback⟩ := tie_split x c1
  have hct := Cut_calls H W1.drew (Core.drew c1s).ag _ (SL (mgetD es x zr0).2) (slk_row (Core.drew c1s).ag ((Core.drew c1s).blks _ (List.mem_cons_self ..))) hl y
  have box : ∀ (W : World) (p : Nat × Blk) (hs : List (Nat × Blk)) (C' : Ctx), p ∈ rest → Core C' H (hs ++ rest) [] W → BlkOK H W p := fun W p hs C' hp c => c.blks p (List.mem_append_right _ hp)
  obtain ⟨hx0, hx1⟩ := key_box (box W1 _ [_, _] _ (hex (w.heap.size, .cells ((kc2 x).map .v) 34) (by simp)) c1s)
  obtain ⟨hy0, hy1⟩ := key_box (box W1 _ [_, _] _ (hex (w.heap.size + 1, .cells ((kc2 y).map .v) 34) (by simp)) c1s)
  unfold encK
  simp only [encK] at hct
  go_enter Try.func32, Try.ntmps32
  go_wp2
  rw [← hW1]
  clear hW1
  go_region_with_o (
    go_at_call 39
    refine hct.mono ?_
    rintro e W2 ⟨z', rfl, c2⟩)
  all_goals
    have cc := Core.call (h1 := []) (k1 := []) (Core.drew c1) c2
    obtain ⟨ca, cm, hcz⟩ := row_len (cc.blks _ (List.mem_cons_self ..))
    simp only [SL, Value.slice.injEq, List.length_map] at hcz
    obtain ⟨_, hzl, _⟩ := hcz
    have cd : Core ⟨H, w, claims (tieH b es) []⟩ H (tieH b es ++ [(w.heap.size, .cells ((kc2 x).map .v) 34), (w.heap.size + 1, .cells ((kc2 y).map .v) 34)]) [] W2 := cc.drop (List.sublist_cons_self _ _) (List.Sublist.refl _)
    obtain ⟨hx2, hx3⟩ := key_box (cd.blks (w.heap.size, .cells ((kc2 x).map .v) 34) (by simp))
    by_cases hnil : ((rowK (mgetD es x zr0).1).filter fun q => !decide (q = clK y)) = []
    · have hz0 : z'.2.1 = 0 := by rw [hzl, hnil]; rfl
      obtain ⟨me, ck, hdl, hmr⟩ := run_del (cd.blks (b, .mp (tieM es)) (by simp [tieH])) x 0
      have hz0' : ((z'.2.1 : Int) == 0) = true := by rw [hz0]; rfl
      clear hzl c1s hback hlk
      go_wp2
      refine bodyPost_ret (results_none rfl _ _ _) rfl ?_
      refine ⟨mdel es x, rfl, tie_del cd hmr, ?_⟩
      unfold cutF
      rw [mdelL, mgetL, hnil]
      simp
    · have hz0' : ((z'.2.1 : Int) == 0) = false := by
        rw [hzl, beq_eq_false_iff_ne]
        intro e
        exact hnil (List.eq_nil_of_length_eq_zero (by omega))
      obtain ⟨me, ck, hup, hmr⟩ := run_upd (cd.blks (b, .mp (tieM es)) (by simp [tieH])) x (((rowK (mgetD es x zr0).1).filter fun q => !decide (q = clK y)), z')
      clear hzl c1s hback hlk
      go_wp2
      go_end0
      refine ⟨rfl, _, tie_put cc hmr, ?_⟩
      unfold cutF
      rw [mputL, mgetL, if_neg hnil]
end Go.Proofs.Ytpdekcfeecdlbaa.Ab
namespace Go.Proofs.Ytpdekcfeecdlbaa.Ab
open Go Go.RowKit Go.Shelf Go.Proofs Go.Proofs.Ytpdekcfeecdlbaa.Ab.Pq
set_option linter.all false
theorem slk_first {P : Program} {n₀ : Nat} {w : World} {v : Value} {l : List TApiKey} (h : SlK n₀ w v l) : (Builtin.firstCells 2 l.length v).run P w = .ok (l.flatMap kc2).toArray w := by
  obtain ⟨a, cap, rfl, hc⟩ := h
  cases l with
  | nil =>
    cases a with
    | none => rfl
    | some a => simp only [Builtin.firstCells, List.length_nil, Nat.zero_mul]; rfl
  | cons x xs =>
    obtain ⟨b, off, rfl, _⟩ := hc 0 x rfl
    have hl := kc2_len (x :: xs)
    have hr : RowAt w b off ((x :: xs).flatMap kc2) := fun j u e => by
      have hj := (List.getElem?_eq_some_iff.1 e).1
      have hq : j / 2 < (x :: xs).length := by omega
      obtain ⟨b', off', e1, _, e3, e4⟩ := hc (j / 2) (x :: xs)[j / 2] (List.getElem?_eq_getElem hq)
      simp only [Option.some.injEq, Addr.mk.injEq] at e1
      obtain ⟨rfl, rfl, _⟩ := e1
      have key : ∀ (zs : List TApiKey) (j : Nat) (y : TApiKey), zs[j / 2]? = some y → (zs.flatMap kc2)[j]? = (if j % 2 = 0 then some (.string y.gName) else some (.int .i64 y.gNode)) := by
        intro zs
        induction zs with
        | nil => intro j y hy; simp at hy
        | cons z zs ih =>
          intro j y hy
          match j, hy with
          | 0, hy => simp at hy; subst hy; simp [kc2]
          | 1, hy => simp at hy; subst hy; simp [kc2]
          | j + 2, hy =>
            have := ih j y (by rw [show (j + 2) / 2 = j / 2 + 1 by omega] at hy; simpa using hy)
            simp only [List.flatMap_cons, kc2, List.cons_append, List.nil_append, List.getElem?_cons_succ]
            rw [show (j + 2) % 2 = j % 2 by omega]; exact this
      have hk := key _ j _ (List.getElem?_eq_getElem hq)
      rw [e] at hk
      by_cases hm : j % 2 = 0
      · rw [if_pos hm] at hk
        rw [hk, show off + j = off + j / 2 * 2 by omega]; exact e3
      · rw [if_neg hm] at hk
        rw [hk, show off + j = off + j / 2 * 2 + 1 by omega]; exact e4
    have := run_loadCells (P := P) ((x :: xs).length * 2) hr (by omega)
    rw [← hl, List.take_length] at this
    simp only [Builtin.firstCells]
    rw [← hl]; exact this
theorem eq_nil (ad : Option Addr) (n m : Nat) (w : World) : (binOp .eql 23 (.slice ad n m) (.slice none 0 0)).run Try.prog w = .ok (.bool ad.isNone) w := by
  obtain ⟨d0, u0, u1⟩ := run_underlying (P := Try.prog) (w := w) (ti_ok htab (t := 23) rfl)
  have e0 : d0 = .slice 34 := td_slice (u1.trans rfl)
  subst e0
  show (do pure (.bool (← Op.equal 23 (.slice ad n m) (.slice none 0 0))) : Sem Value).run Try.prog w = _
  have h2 : (Op.equal 23 (.slice ad n m) (.slice none 0 0)).run Try.prog w = .ok ad.isNone w := by
    show (Op.equalIn (9999 + 1) 23 _ _).run Try.prog w = _
    rw [Op.equalIn, run_bind_ok u0]
    cases ad <;> rfl
  rw [run_bind_ok h2]; rfl
set_option maxRecDepth 100000 in
set_option maxHeartbeats 4000000 in
theorem Clone_calls (H : Hp) (w : World) (hA : Ag H w) (l : List TApiKey) (v : Value) (hv : SlK w.heap.size w v l) (hl : l.length < 4398046511104) :
    Calls Try.prog 28 #[v] w fun e w' => ∃ z : Z3, e = .returned (SL z) ∧ Core ⟨H, w, []⟩ H [(0, .row 2 (l.map eTApiKey) (SL z))] [] w' := by
  obtain ⟨W1, hW1⟩ : ∃ W1, W1 = w.alloc (Obj.cells #[] 34) := ⟨_, rfl⟩
  have hb1 : Below w.heap.size w W1 := by rw [hW1]; exact (Below.refl _ w).alloc (Nat.le_refl _) _
  have hA1 : Ag H W1 := fun a u e => by rw [hb1.cell (p := a) (hA.lt e)]; exact hA a u e
  obtain ⟨a, cap, rfl, hc⟩ := hv
  have hst : ∀ w', (∀ b, b < W1.heap.size → w'.heap[b]? = W1.heap[b]?) → SlK w.heap.size w' (.slice a l.length cap) l := fun w' hw' => by
    refine ⟨a, cap, rfl, fun j x hj => ?_⟩
    obtain ⟨b, off, g1, g2, g3, g4⟩ := hc j x hj
    have q : ∀ o, w'.cell? ⟨b, o, none⟩ = w.cell? ⟨b, o, none⟩ := fun o => by
      simp only [World.cell?]
      rw [hw' b (Nat.lt_of_lt_of_le g2 hb1.size), hb1.block b g2]
    exact ⟨b, off, g1, g2, (q _).trans g3, (q _).trans g4⟩
  have happ : ∀ ty, ∃ (z' : Z3) (w' : World), (Builtin.append_ #[23, 23] ty #[SL (some ⟨w.heap.size, 0, none⟩, 0, 0), .slice a l.length cap]).run Try.prog W1 = .ok (SL z') w' ∧ Core ⟨H, W1, claims [(0, .row 2 ([].map eTApiKey) (SL (some ⟨w.heap.size, 0, none⟩, 0, 0)))] []⟩ H [(0, .row 2 ([].map eTApiKey ++ l.map eTApiKey) (SL z'))] [] w' := fun ty =>
    app_runR (bb := 24) (kk := 2) htab hA1 (.inl ⟨_, rfl, rfl⟩) (by simp [claims, blkClaim, sliceClaim]) (by rw [List.length_map]; rfl) (fun w' hw' => ⟨l.flatMap kc2, by rw [List.length_map]; exact kc2_len l, k_flat l, by rw [List.length_map]; exact slk_first (hst w' hw')⟩) rfl rfl rfl rfl rfl rfl rfl rfl (by omega) (by simp only [List.length_map, List.length_nil]; omega)
  obtain ⟨z', w', hrun, hcore⟩ := happ 23
  have hrun' : ∀ ty, (Builtin.append_ #[23, 23] ty #[.slice (some ⟨w.heap.size, 0, none⟩) 0 0, .slice a l.length cap]).run Try.prog W1 = .ok (SL z') w' := fun ty => hrun
  go_enter Try.func28, Try.ntmps28
  cases a with
  | none =>
    have hnil : l = [] := by
      cases l with
      | nil => rfl
      | cons x xs => obtain ⟨b, off, e, _⟩ := hc 0 x rfl; cases e
    subst hnil
    have hq := eq_nil none 0 cap w
    simp only [List.length_nil, Option.isNone_none] at hq ⊢
    go_wp2
    go_ret
    refine ⟨(none, 0, 0), rfl, hA, Hp.le_refl H, fun _ _ x => .inl x, fun _ _ _ => rfl, Nat.le_refl _, ?_, by simp, by simp [claims, blkClaim, sliceClaim], by simp [claims, blkClaim, sliceClaim], Env.refl w⟩
    intro p hp
    simp at hp; subst hp
    exact .inl ⟨none, rfl, rfl⟩
  | some a =>
    obtain ⟨ab, ao, sq⟩ := a
    have hq := eq_nil (some ⟨ab, ao, sq⟩) l.length cap w
    simp only [Option.isNone_some] at hq
    go_wp2_with (at_builtin; rw [← hW1]; refine Lib.wpList_append_run _ rfl _ _ _ _ rfl _ _ rfl rfl _ _ (hrun' _) ?_)
    go_ret
    refine ⟨z', rfl, ?_⟩
    have c0 := Core.call (h1 := []) (k1 := []) (h2 := []) (k2 := []) (core_below0 hA hb1) (hcore.wid (M' := claims [] []) (by simp [claims, blkClaim, sliceClaim]))
    simpa using c0
end Go.Proofs.Ytpdekcfeecdlbaa.Ab
namespace Go.Proofs.Ytpdekcfeecdlbaa.Ab
open Go Go.RowKit Go.Shelf Go.Proofs Go.Proofs.Ytpdekcfeecdlbaa.Ab.Pq
set_option linter.all false
abbrev Tm := List (TApiKey × List TApiKey)
def univ (m : Tm) (l : List TApiKey) : List TApiKey := l.map clK ++ m.flatMap (·.2)
def AllP (m : Tm) (l out : List TApiKey) : Prop := RowC out ∧ (∀ k ∈ l.map clK, k ∈ out) ∧ (∀ x ∈ out, ∀ y ∈ mgetD m x [], y ∈ out) ∧ ∀ S : TApiKey → Prop, (∀ k ∈ l.map clK, S k) → (∀ x, S x → ∀ y ∈ mgetD m x [], S y) → ∀ k ∈ out, S k
def AJ (m : Tm) (l out todo : List TApiKey) (op : TApiKey → Prop) : Prop := RowC out ∧ (∀ k ∈ l.map clK, k ∈ out) ∧ (∀ k ∈ todo, k ∈ out) ∧ (∀ x ∈ out, x ∈ todo ∨ op x ∨ ∀ y ∈ mgetD m x [], y ∈ out) ∧ (∀ S : TApiKey → Prop, (∀ k ∈ l.map clK, S k) → (∀ x, S x → ∀ y ∈ mgetD m x [], S y) → ∀ k ∈ out, S k) ∧ ∀ k ∈ out, k ∈ univ m l
theorem mget_mem {m : Tm} {x y : TApiKey} (h : y ∈ mgetD m x []) : y ∈ m.flatMap (·.2) := by
  unfold mgetD at h
  induction m with
  | nil => simp [mget] at h
  | cons p m ih =>
    obtain ⟨a, v⟩ := p
    simp only [mget] at h
    by_cases q : a = x
    · rw [if_pos q] at h; exact List.mem_flatMap.2 ⟨(a, v), by simp, by simpa using h⟩
    · rw [if_neg q] at h
      rw [List.flatMap_cons]; exact List.mem_append_right _ (ih h)
theorem nodup_le {α : Type} [DecidableEq α] : ∀ {l U : List α}, l.Nodup → (∀ x ∈ l, x ∈ U) → l.length ≤ U.length
  | [], U, _, _ => Nat.zero_le _
  | x :: l, U, hn, hs => by
    rw [List.nodup_cons] at hn
    have := nodup_le (l := l) (U := U.erase x) hn.2 (fun y hy => (List.mem_erase_of_ne (fun e => hn.1 (by rw [← e]; exact hy))).2 (hs y (by simp [hy])))
    have h2 := List.length_erase_of_mem (hs x (by simp))
    have h3 : 0 < U.length := List.length_pos_of_mem (hs x (by simp))
    simp only [List.length_cons]; omega
theorem rise_nodup {l : List TApiKey} (h : Rise leK l) : l.Nodup := List.Pairwise.imp (fun h => h.2) h
theorem AJ.le {m : Tm} {l out todo : List TApiKey} {op : TApiKey → Prop} (h : AJ m l out todo op) : out.length ≤ (univ m l).length := nodup_le (rise_nodup h.1.1) h.2.2.2.2.2
theorem AJ.put {m : Tm} {l out todo : List TApiKey} {x y : TApiKey} (h : AJ m l out todo (· = x)) (hx : x ∈ out) (hy : y ∈ mgetD m x []) (hc : clK y = y) : AJ m l (insT ltK y out) (todo ++ [y]) (· = x) := by
  obtain ⟨h1, h2, h3, h4, h5, h6⟩ := h
  have hm : ∀ k, k ∈ insT ltK y out ↔ k = y ∨ k ∈ out := insT_mem ltK y out
  refine ⟨rowC_ins h1 hc, fun k hk => (hm k).2 (.inr (h2 k hk)), fun k hk => ?_, fun k hk => ?_, fun S s1 s2 k hk => ?_, fun k hk => ?_⟩
  · rcases List.mem_append.1 hk with hk | hk
    · exact (hm k).2 (.inr (h3 k hk))
    · simp at hk; exact (hm k).2 (.inl hk)
  · rcases (hm k).1 hk with rfl | hk
    · exact .inl (by simp)
    · rcases h4 k hk with q | q | q
      · exact .inl (by simp [q])
      · exact .inr (.inl q)
      · exact .inr (.inr fun z hz => (hm z).2 (.inr (q z hz)))
  · rcases (hm k).1 hk with rfl | hk
    · exact s2 x (h5 S s1 s2 x hx) _ hy
    · exact h5 S s1 s2 k hk
  · rcases (hm k).1 hk with rfl | hk
    · exact List.mem_append_right _ (mget_mem hy)
    · exact h6 k hk
theorem AJ.shut {m : Tm} {l out todo : List TApiKey} {x : TApiKey} (h : AJ m l out todo (· = x)) (hp : ∀ y ∈ mgetD m x [], y ∈ out) : AJ m l out todo (fun _ => False) := by
  obtain ⟨h1, h2, h3, h4, h5, h6⟩ := h
  refine ⟨h1, h2, h3, fun k hk => ?_, h5, h6⟩
  rcases h4 k hk with q | q | q
  · exact .inl q
  · subst q; exact .inr (.inr hp)
  · exact .inr (.inr q)
theorem AJ.pop {m : Tm} {l out todo : List TApiKey} {x : TApiKey} (h : AJ m l out (todo ++ [x]) (fun _ => False)) : AJ m l out todo (· = x) ∧ x ∈ out := by
  obtain ⟨h1, h2, h3, h4, h5, h6⟩ := h
  refine ⟨⟨h1, h2, fun k hk => h3 k (by simp [hk]), fun k hk => ?_, h5, h6⟩, h3 x (by simp)⟩
  rcases h4 k hk with q | q | q
  · rcases List.mem_append.1 q with q | q
    · exact .inl q
    · simp at q; exact .inr (.inl q)
  · exact q.elim
  · exact .inr (.inr q)
theorem AJ.done {m : Tm} {l out : List TApiKey} (h : AJ m l out [] (fun _ => False)) : AllP m l out := by
  obtain ⟨h1, h2, h3, h4, h5, h6⟩ := h
  refine ⟨h1, h2, fun x hx => ?_, h5⟩
  rcases h4 x hx with q | q | q
  · cases q
  · exact q.elim
  · exact q
theorem AJ.first (m : Tm) (l : List TApiKey) : AJ m l (rowK l) (rowK l) (fun _ => False) :=
  ⟨rowC_row l, fun k hk => ((rowK_all l).2.1 k).2 hk, fun k hk => hk, fun k hk => .inl hk, fun S s1 _ k hk => s1 k (((rowK_all l).2.1 k).1 hk), fun k hk => List.mem_append_left _ (((rowK_all l).2.1 k).1 hk)⟩
theorem ins_core {C : Ctx} {H : Hp} {W : World} {rest : List (Nat × Blk)} {y : TApiKey} {xs : List TApiKey} {z : Z3} {i : Nat} (hrest : Core C H ((0, .row 2 (xs.map eTApiKey) (SL z)) :: rest) [] W) (hi : i ≤ xs.length) (hl : xs.length < 4398046511104) :
    Calls Try.prog 37 #[SL z, .int .i64 i, .slice (some ⟨W.heap.size, 0, none⟩) 1 1] (W.alloc (.cells #[Value.string y.gName, Value.int IntKind.i64 y.gNode] 34)) fun e w' => ∃ z' : Z3, e = .returned (SL z') ∧ Core C H ((0, .row 2 ((insAt xs i y).map eTApiKey) (SL z')) :: rest) [] w' := by
  have c3 := Core.newRow hrest (xs := [y].map eTApiKey) (us := kc2 y) (rest := []) (kk := 2) (m := 1) (T := 34) (k_flat [y]) (by simp) (by simp [kc2]) (by simp)
  simp only [List.append_nil, List.length_map, List.length_cons, List.length_nil] at c3
  have c3' : Core C H ([(0, .row 2 (xs.map eTApiKey) (SL z)), (0, .row 2 ([y].map eTApiKey) (SL (some ⟨W.heap.size, 0, none⟩, 1, 1)))] ++ rest) ([] ++ []) (W.alloc (.cells (kc2 y).toArray 34)) :=
    c3.perm (List.Perm.swap _ _ _) (List.Perm.refl _)
  refine (insert_calls y i hi hl c3'.ag (c3'.blks (0, .row 2 (xs.map eTApiKey) (SL z)) (by simp)) (c3'.blks (0, .row 2 ([y].map eTApiKey) (SL (some ⟨W.heap.size, 0, none⟩, 1, 1))) (by simp)) (by
        have := (claims_append [(0, Blk.row 2 (xs.map eTApiKey) (SL z)), (0, Blk.row 2 ([y].map eTApiKey) (SL (some ⟨W.heap.size, 0, none⟩, 1, 1)))] rest [] []).nodup_iff.1 c3'.nd
        exact (List.nodup_append.1 this).1)).mono ?_
  rintro e w' ⟨z', he, hc⟩
  exact ⟨z', he, Core.call c3' hc⟩
theorem app_core {C : Ctx} {H : Hp} {W : World} {rest : List (Nat × Blk)} (y : TApiKey) {xs : List TApiKey} {z : Z3} (hrest : Core C H ((0, .row 2 (xs.map eTApiKey) (SL z)) :: rest) [] W) (hl : xs.length < 4398046511104) :
    ∃ (z' : Z3) (w' : World), (∀ ty, (Builtin.append_ #[23, 23] ty #[SL z, .slice (some ⟨W.heap.size, 0, none⟩) 1 1]).run Try.prog (W.alloc (.cells #[Value.string y.gName, Value.int IntKind.i64 y.gNode] 34)) = .ok (SL z') w') ∧ Core C H ((0, .row 2 ((xs ++ [y]).map eTApiKey) (SL z')) :: rest) [] w' := by
  have c3 := Core.newRow hrest (xs := [y].map eTApiKey) (us := kc2 y) (rest := []) (kk := 2) (m := 1) (T := 34) (k_flat [y]) (by simp) (by simp [kc2]) (by simp)
  simp only [List.append_nil, List.length_map, List.length_cons, List.length_nil] at c3
  have c4 : Core C H ([(0, .row 2 (xs.map eTApiKey) (SL z))] ++ rest) ([] ++ []) (W.alloc (.cells (kc2 y).toArray 34)) := c3.drop (List.sublist_cons_self _ _) (List.Sublist.refl _)
  have hnw : (W.alloc (.cells (kc2 y).toArray 34)).heap[W.heap.size]? = some (.cells (kc2 y).toArray 34 (0, 0)) := by rw [heap_alloc, if_pos rfl]
  have app : ∀ ty, ∃ (z' : Z3) (w' : World), (Builtin.append_ #[23, 23] ty #[SL z, SL (some ⟨W.heap.size, 0, none⟩, 1, 1)]).run Try.prog (W.alloc (.cells (kc2 y).toArray 34)) = .ok (SL z') w' ∧ Core ⟨H, W.alloc (.cells (kc2 y).toArray 34), claims [(0, .row 2 (xs.map eTApiKey) (SL z))] []⟩ H [(0, .row 2 (xs.map eTApiKey ++ [y].map eTApiKey) (SL z'))] [] w' := fun ty =>
      app_runR (bb := 24) (kk := 2) htab c4.ag (c4.blks _ (List.mem_cons_self ..)) (fun b hb => claims_lt (h := [(0, .row 2 (xs.map eTApiKey) (SL z))]) (k := []) (by simpa using c4.blks _ (List.mem_cons_self ..)) (by simp) b hb) rfl
        (fun w' hw' => ⟨kc2 y, rfl, k_flat [y], by
          have hr : RowAt w' W.heap.size 0 (kc2 y) := fun j u e => by
            have := row_block ((hw' W.heap.size (by simp)).trans hnw) j u e
            simpa using this
          have := run_loadCells (P := Try.prog) 2 hr (by simp [kc2])
          rw [List.take_of_length_le (by simp [kc2])] at this
          simp only [Builtin.firstCells]
          exact this⟩) rfl rfl rfl rfl rfl rfl rfl rfl (by omega) (by simp only [List.length_map, List.length_cons, List.length_nil]; omega)
  obtain ⟨z', w', hrun, hcore⟩ := app 0
  refine ⟨z', w', fun ty => hrun, ?_⟩
  rw [List.map_append]
  exact Core.call c4 hcore
theorem row_cut {C : Ctx} {H : Hp} {W : World} {rest : List (Nat × Blk)} {xs : List TApiKey} {x : TApiKey} {z : Z3} (c : Core C H ((0, .row 2 ((xs ++ [x]).map eTApiKey) (SL z)) :: rest) [] W) : ∃ b m, z = (some ⟨b, 0, none⟩, xs.length + 1, m) ∧ xs.length + 1 ≤ m ∧ W.cell? ⟨b, xs.length * 2, none⟩ = some (.string x.gName) ∧ W.cell? ⟨b, xs.length * 2 + 1, none⟩ = some (.int .i64 x.gNode) ∧
    Core C H ((0, .row 2 (xs.map eTApiKey) (SL (some ⟨b, 0, none⟩, xs.length, m))) :: rest) [] W := by
  rcases key_row (c.blks _ (List.mem_cons_self ..)) with ⟨_, _, e⟩ | ⟨b, m, rs, T, rfl, h0, hm, h1, h3, h4, h5⟩
  · simp at e
  · have hlen : (xs ++ [x]).length = xs.length + 1 := by simp
    rw [hlen] at h0
    obtain ⟨k1, k2⟩ := cells_at h1 (j := xs.length) (x := x) (by simp)
    refine ⟨b, m, by rw [hlen], h0, k1, k2, c.ag, c.le, c.new, c.same, c.size, fun p hp => ?_, by simp, ?_, ?_, c.env⟩
    · rcases List.mem_cons.1 hp with rfl | hp
      · refine .inr ⟨b, m, xs.flatMap kc2, kc2 x ++ rs, T, by simp [SL], by rw [List.length_map]; omega, hm, ?_, k_flat xs, ?_, h4⟩
        · rw [h1]; congr 3; simp
        · simp only [List.flatMap_append, List.length_append] at h3 ⊢; simpa [Nat.add_assoc] using h3
      · exact c.blks p (by simp [hp])
    · have := c.nd; simpa [claims, blkClaim, sliceClaim, hm] using this
    · have := c.own; simpa [claims, blkClaim, sliceClaim, hm] using this
end Go.Proofs.Ytpdekcfeecdlbaa.Ab
namespace Go.Proofs.Ytpdekcfeecdlbaa.Ab
open Go Go.RowKit Go.Shelf Go.Proofs Go.Proofs.Ytpdekcfeecdlbaa.Ab.Pq
set_option linter.all false
def lenOfS : Value → Nat | .slice _ n _ => n | _ => 0
structure AllAt (H : Hp) (w : World) (b : Nat) (es : Ties) (l out todo : List TApiKey) (zo zt : Z3) (op : TApiKey → Prop) (W : World) : Prop where
  core : Core ⟨H, w, []⟩ H ((0, .row 2 (out.map eTApiKey) (SL zo)) :: (0, .row 2 (todo.map eTApiKey) (SL zt)) :: []) [] W
  aj : AJ (tieL es) l out todo op
  tn : todo.Nodup
theorem AllAt.lens {H : Hp} {w : World} {b : Nat} {es : Ties} {l out todo : List TApiKey} {zo zt : Z3} {op : TApiKey → Prop} {W : World} (h : AllAt H w b es l out todo zo zt op W) : zo.2.1 = out.length ∧ zt.2.1 = todo.length := by
  obtain ⟨a1, m1, e1⟩ := row_len (h.core.blks (0, .row 2 (out.map eTApiKey) (SL zo)) (by simp))
  obtain ⟨a2, m2, e2⟩ := row_len (h.core.blks (0, .row 2 (todo.map eTApiKey) (SL zt)) (by simp))
  simp only [SL, Value.slice.injEq, List.length_map] at e1 e2
  exact ⟨e1.2.1, e2.2.1⟩
theorem jump_weak {l : Nat} {J : Act → World → Prop} {μ : Act → World → Nat} {a0 : Act} {w0 : World} {Q : Exit → Act → World → Prop} : ∀ e a w, Exit.jump l (fun a' w' => J a' w' ∧ μ a' w' < μ a0 w0) Q e a w → Exit.jump l J Q e a w
  | .goto _, _, _, h => ⟨h.1, h.2.1⟩
  | .normal, _, _, h => h
  | .exit _, _, _, h => h
  | .ret, _, _, h => h
  | .panic _, _, _, h => h
  | .outgrown, _, _, h => h
theorem scope_loop {P : Program} {c rest : Code} {Q : Exit → Act → World → Prop} {a : Act} {w : World} (l : Nat) (J : Act → World → Prop) (μ : Act → World → Nat) (hf : findLabel c l = some (Code.skip.seq rest))
    (first : (∀ a w, J a w → rest.wp P (Exit.jump l J Q) a w) → c.wp P (Exit.jump l J Q) a w) (pass : ∀ a w, J a w → rest.wp P (Exit.jump l (fun a' w' => J a' w' ∧ μ a' w' < μ a w) Q) a w) : (Code.scope c).wp P Q a w :=
  wp_scope_jumps l J μ hf (first fun a w h => wp_mono (pass a w h) jump_weak) (fun a w h => wp_seq (wp_skip (pass a w h)))
def allJ (H : Hp) (w : World) (b : Nat) (es : Ties) (l : List TApiKey) (va : Option Addr) (vn vm : Nat) (a' : Act) (w' : World) : Prop := ∃ (out todo : List TApiKey) (zo zt : Z3) (u7 u8 u9 u10 u11 u12 u13 u14 u15 u16 u17 u18 u19 u20 u21 u22 u23 u24 u25 u26 u27 u28 u29 u30 u31 u32 u33 u34 u35 u36 u37 u38 u39 u40 u41 u42 u43 u44 u45 u46 u47 u48 u49 u50 u51 u52 u53 u54 u55 u56 : Value), a' = { tmps := #[.map (some b), .slice va vn vm, undef, undef, .slice none 0 0, SL zo, SL zt, u7, u8, u9, u10, u11, u12, u13, u14, u15, u16, u17, u18, u19, u20, u21, u22, u23, u24, u25, u26, u27, u28, u29, u30, u31, u32, u33, u34, u35, u36, u37, u38, u39, u40, u41, u42, u43, u44, u45, u46, u47, u48, u49, u50, u51, u52, u53, u54, u55, u56], defers := [] } ∧ AllAt H w b es l out todo zo zt (fun _ => False) w'
def allMu (N : Nat) (a' : Act) (_ : World) : Nat := lenOfS (a'.tmps.getD 6 undef) + 2 * (N - lenOfS (a'.tmps.getD 5 undef))
theorem row_in {es : Ties} {x : TApiKey} {row : List TApiKey} {zx : Z3} (h : mgetD es x zr0 = (row, zx)) (hr : row ≠ []) {b : Nat} : (0, Blk.row 2 (row.map eTApiKey) (SL zx)) ∈ tieH b es := by
  rcases mget_split (l := es) (k := x) with ⟨h1, _, _⟩ | ⟨l1, l2, v, h1, h2, _, _⟩
  · unfold mgetD at h; rw [h1] at h; exact absurd (by cases h; rfl) hr
  · have : v = (row, zx) := by unfold mgetD at h; rw [h1] at h; exact h
    subst this
    refine List.mem_cons_of_mem _ (List.mem_map.2 ⟨(x, (row, zx)), by rw [h2]; simp, rfl⟩)
theorem row_lenT {C : Ctx} {H : Hp} {W : World} {b : Nat} {es : Ties} {x : TApiKey} {row : List TApiKey} {zx : Z3} (h : mgetD es x zr0 = (row, zx)) (hs : ∀ p ∈ tieH b es, BlkOK H W p) : zx.2.1 = row.length := by
  by_cases hr : row = []
  · subst hr
    rcases mget_split (l := es) (k := x) with ⟨h1, _, _⟩ | ⟨l1, l2, v, h1, h2, _, _⟩
    · unfold mgetD at h; rw [h1] at h; cases h; rfl
    · have : v = ([], zx) := by unfold mgetD at h; rw [h1] at h; exact h
      subst this
      obtain ⟨a2, m2, e2⟩ := row_len (hs (0, Blk.row 2 (([] : List TApiKey).map eTApiKey) (SL zx)) (List.mem_cons_of_mem _ (List.mem_map.2 ⟨(x, ([], zx)), by rw [h2]; simp, rfl⟩)))
      simp only [SL, Value.slice.injEq, List.length_map] at e2
      exact e2.2.1
  · obtain ⟨a2, m2, e2⟩ := row_len (hs _ (row_in h hr))
    simp only [SL, Value.slice.injEq, List.length_map] at e2
    exact e2.2.1
set_option maxRecDepth 100000 in
set_option maxHeartbeats 16000000 in
theorem all_calls (H : Hp) (w : World) (hA : Ag H w) (b : Nat) (es : Ties) (l : List TApiKey) (v : Value) (hv : SlK w.heap.size w v l) (hb : ∀ p ∈ tieH b es, BlkOK H w p) (hr : ∀ x, RowC (mgetD (tieL es) x [])) (hN : (univ (tieL es) l).length < 4398046511104) :
    Calls Try.prog 26 #[.map (some b), v] w fun e w' => ∃ (out : List TApiKey) (z : Z3), e = .returned (SL z) ∧ Core ⟨H, w, []⟩ H ((0, .row 2 (out.map eTApiKey) (SL z)) :: []) [] w' ∧ AllP (tieL es) l out := by
  have hll : l.length < 4398046511104 := by
    have : l.length ≤ (univ (tieL es) l).length := by unfold univ; rw [List.length_append, List.length_map]; omega
    omega
  have c0 := Core.here hA
  have hrow := Row_calls H w hA l v hv hll
  obtain ⟨va, vn, vm, rfl⟩ : ∃ a n m, v = .slice a n m := by obtain ⟨a, cap, e1, _⟩ := hv; exact ⟨_, _, _, e1⟩
  go_enter Try.func26, Try.ntmps26
  go_wp2_with fail
  refine scope_loop 0 (allJ H w b es l va vn vm) (allMu (univ (tieL es) l).length) rfl ?_ ?_
  · intro pass
    go_wp2_with fail
    refine hrow.mono ?_
    rintro e W1 ⟨zo, rfl, hc1⟩
    have c1 : Core ⟨H, w, []⟩ H ((0, .row 2 ((rowK l).map eTApiKey) (SL zo)) :: []) [] W1 := Core.call (h1 := []) (k1 := []) c0 hc1
    have hcl := Clone_calls H W1 c1.ag (rowK l) (SL zo) (slk_row c1.ag (c1.blks _ (List.mem_cons_self ..))) (by have := (rowK_all l).2.2; omega)
    go_wp2_with fail
    refine hcl.mono ?_
    rintro e W2 ⟨zt, rfl, hc2⟩
    have c2 : Core ⟨H, w, []⟩ H ((0, .row 2 ((rowK l).map eTApiKey) (SL zt)) :: (0, .row 2 ((rowK l).map eTApiKey) (SL zo)) :: []) [] W2 := Core.call (h1 := []) (k1 := []) c1 hc2
    have hat : AllAt H w b es l (rowK l) (rowK l) zo zt (fun _ => False) W2 := ⟨c2.perm (List.Perm.swap _ _ _) (List.Perm.refl _), AJ.first _ _, rise_nodup (rowK_all l).1⟩
    clear hrow hcl
    go_wp2_with fail
    refine wp_label ?_
    rename_i K hK
    exact hK _ _ (pass _ _ ⟨rowK l, rowK l, zo, zt, _, _, _, _, _, _, _, _, _, _, _, _, _, _, _, _, _, _, _, _, _, _, _, _, _, _, _, _, _, _, _, _, _, _, _, _, _, _, _, _, _, _, _, _, _, _, _, _, _, _, rfl, hat⟩)
  · clear hrow
    rintro a' W ⟨out, todo, zo, zt, u7, u8, u9, u10, u11, u12, u13, u14, u15, u16, u17, u18, u19, u20, u21, u22, u23, u24, u25, u26, u27, u28, u29, u30, u31, u32, u33, u34, u35, u36, u37, u38, u39, u40, u41, u42, u43, u44, u45, u46, u47, u48, u49, u50, u51, u52, u53, u54, u55, u56, rfl, hat⟩
    obtain ⟨hzo, hzt⟩ := hat.lens
    obtain ⟨hc, haj, htn⟩ := hat
    rcases List.eq_nil_or_concat todo with rfl | ⟨ts, x, hts⟩
    · have hz0 : ((zt.2.1 : Int) == 0) = true := by rw [hzt]; rfl
      have hz1 : (zt.2.1 : Int) = 0 := by rw [hzt]; rfl
      clear hzt
      go_wp2
      simp only [Exit.jump]
      go_ret
      refine ⟨out, zo, rfl, ?_, haj.done⟩
      exact hc.drop ((List.sublist_cons_self _ _).cons_cons _) (List.Sublist.refl _)
    · rw [List.concat_eq_append] at hts
      subst hts
      have hN2 := haj.le
      have hct : Core ⟨H, w, []⟩ H ((0, .row 2 ((ts ++ [x]).map eTApiKey) (SL zt)) :: (0, .row 2 (out.map eTApiKey) (SL zo)) :: []) [] W := hc.perm (List.Perm.swap _ _ _) (List.Perm.refl _)
      obtain ⟨tb, tm, rfl, htm, k1, k2, ct⟩ := row_cut hct
      have hts : (ts ++ [x]).length ≤ out.length := nodup_le htn (fun k hk => haj.2.2.1 k hk)
      obtain ⟨haj, hxo⟩ := haj.pop
      have htn' : ts.Nodup := (List.nodup_append.1 htn).1
      have hts2 : ts.length < 4398046511104 := by simp at hts; omega
      have hq0 : ((((ts.length + 1 : Nat) : Int)) == 0) = false := by rw [beq_eq_false_iff_ne]; omega
      have hq1 : IntKind.i64.wrap (((ts.length + 1 : Nat) : Int) - 1) = (ts.length : Int) := by rw [IntKind.wrap_i64]; omega
      have hq2 : ts.length < ts.length + 1 := Nat.lt_succ_self _
      have hq3 : ts.length ≤ tm := by omega
      have hq4 : ¬ (((ts.length + 1 : Nat) : Int) = 0) := by omega
      have hwW := hc.size
      obtain ⟨W1, hW1⟩ : ∃ W1, W1 = W.alloc (Obj.cells #[.string x.gName, .int .i64 x.gNode] 34) := ⟨_, rfl⟩
      have c1 : Core ⟨H, w, []⟩ H (((0, .row 2 (ts.map eTApiKey) (SL (some ⟨tb, 0, none⟩, ts.length, tm))) :: (0, .row 2 (out.map eTApiKey) (SL zo)) :: []) ++ [(W.heap.size, .cells ((kc2 x).map .v) 34)]) [] W1 := by
        rw [hW1]; exact Core.alloc ct (ds := (kc2 x).map .v) (us := kc2 x) 34 (reps_v H (kc2 x) rfl)
      obtain ⟨x0, x1⟩ := key_box (c1.blks (W.heap.size, .cells ((kc2 x).map .v) 34) (by simp))
      have c2 : Core ⟨H, w, []⟩ H ((0, .row 2 (out.map eTApiKey) (SL zo)) :: (0, .row 2 (ts.map eTApiKey) (SL (some ⟨tb, 0, none⟩, ts.length, tm))) :: []) [] W1 :=
        (c1.drop (List.sublist_append_left _ _) (List.Sublist.refl _)).perm (List.Perm.swap _ _ _) (List.Perm.refl _)
      have hlk := run_lkp (BlkOK.later c2 (hb (b, .mp (tieM es)) (by simp [tieH])) (by simp)) x
      obtain ⟨⟨row, zx⟩, hrz⟩ : ∃ q, mgetD es x zr0 = q := ⟨_, rfl⟩
      rw [hrz] at hlk
      have hrow : mgetD (tieL es) x [] = row := by rw [mgetL, hrz]
      have hrc := hr x
      rw [hrow] at hrc
      have hzl := row_lenT (C := ⟨H, w, []⟩) hrz (fun p hp => BlkOK.later c2 (hb p hp) (by simp))
      have hzl' : (zx.2.1 : Int) = (row.length : Int) := by rw [hzl]
      have hrlen : row.length < 4398046511104 := by
        have : row.length ≤ (univ (tieL es) l).length := nodup_le (rise_nodup hrc.1) (fun y hy => List.mem_append_right _ (mget_mem (x := x) (by rw [hrow]; exact hy)))
        omega
      clear hct ct hc
      obtain ⟨zx1, zx2, hzlS⟩ : ∃ a m, SL zx = .slice a row.length m := ⟨zx.1, zx.2.2, by unfold SL; rw [hzl]⟩
      rw [hzlS] at hlk
      dsimp only [SL]
      go_wp2_with fail
      rw [← hW1]
      clear hW1
      go_wp2_with fail
      rw [hlk]
      go_wp2_with fail
      have hmu0 : allMu (univ (tieL es) l).length { tmps := #[.map (some b), .slice va vn vm, undef, undef, .slice none 0 0, SL zo, SL (some ⟨tb, 0, none⟩, ts.length + 1, tm), u7, u8, u9, u10, u11, u12, u13, u14, u15, u16, u17, u18, u19, u20, u21, u22, u23, u24, u25, u26, u27, u28, u29, u30, u31, u32, u33, u34, u35, u36, u37, u38, u39, u40, u41, u42, u43, u44, u45, u46, u47, u48, u49, u50, u51, u52, u53, u54, u55, u56], defers := [] } W = ts.length + 1 + 2 * ((univ (tieL es) l).length - out.length) := by
        show (ts.length + 1) + 2 * (_ - zo.2.1) = _
        rw [hzo]
      go_loopw [5, 6, 35] (fun s5 s6 s35 wr => ∃ (out' ts' : List TApiKey) (zo' zt' : Z3) (i : Nat), s5 = SL zo' ∧ s6 = SL zt' ∧ s35 = .int .i64 i ∧ i ≤ row.length ∧ AllAt H w b es l out' ts' zo' zt' (· = x) wr ∧ x ∈ out' ∧ (∀ y ∈ row.take i, y ∈ out') ∧ ts'.length + 2 * ((univ (tieL es) l).length - out'.length) ≤ ts.length + 2 * ((univ (tieL es) l).length - out.length)) (fun _ _ s35 _ => row.length - (intOf s35).toNat)
      case atStart => exact ⟨out, ts, zo, (some ⟨tb, 0, none⟩, ts.length, tm), 0, by unfold SL; rw [hzo], rfl, rfl, Nat.zero_le _, ⟨c2, haj, htn'⟩, hxo, by simp, Nat.le_refl _⟩
      case round =>
        obtain ⟨out', ts', zo', zt', i, rfl, rfl, rfl, hi, ⟨c3, aj3, tn3⟩, hx3, hp3, hmu⟩ := hrel
        by_cases hlt : i < row.length
        · have hne : row ≠ [] := fun e => by rw [e] at hlt; simp at hlt
          have hrb := BlkOK.later c3 (hb _ (row_in hrz hne (b := b))) (by simp)
          rcases key_row hrb with ⟨_, _, e⟩ | ⟨rb, rm, rs, T, hzx, g0, gm, g1, g3, g4, g5⟩
          · exact absurd e hne
          rw [hzx] at hzlS
          simp only [SL, Value.slice.injEq] at hzlS
          obtain ⟨q1, _, q2⟩ := hzlS
          subst q1; subst q2
          have hkk := List.getElem?_eq_getElem hlt
          obtain ⟨y0, y1⟩ := cells_at g1 hkk
          have hym : row[i] ∈ row := List.getElem_mem _
          have htk := take_snoc hkk
          generalize row[i] = y at hkk y0 y1 hym htk
          have hyc : clK y = y := hrc.2 y hym
          have hym' : y ∈ mgetD (tieL es) x [] := by rw [hrow]; exact hym
          have hi42 : i < 4398046511104 := by omega
          have hN3 := aj3.le
          have hol : out'.length < 4398046511104 := by omega
          obtain ⟨V1, hV1⟩ : ∃ V1, V1 = wr.alloc (Obj.cells #[.string y.gName, .int .i64 y.gNode] 34) := ⟨_, rfl⟩
          have d1 : Core ⟨H, w, []⟩ H (((0, .row 2 (out'.map eTApiKey) (SL zo')) :: (0, .row 2 (ts'.map eTApiKey) (SL zt')) :: []) ++ [(wr.heap.size, .cells ((kc2 y).map .v) 34)]) [] V1 := by
            rw [hV1]; exact Core.alloc c3 (ds := (kc2 y).map .v) (us := kc2 y) 34 (reps_v H (kc2 y) rfl)
          obtain ⟨v0, v1⟩ := key_box (d1.blks (wr.heap.size, .cells ((kc2 y).map .v) 34) (by simp))
          obtain ⟨q, hq, q3, q4, hbs⟩ := bs_calls y d1.ag (d1.blks _ (List.mem_cons_self ..)) hyc aj3.1 hol
          simp only [encK] at hbs
          have hw1 := wrap_smallK i hi42
          clear g1 g3 g4 g5 hrb
          by_cases hm : y ∈ out'
          · rw [decide_eq_true hm] at hbs
            dsimp only [SL] at hbs ⊢
            go_wp2_with fail
            rw [← hV1]
            clear hV1
            refine hbs.mono ?_
            rintro e V2 ⟨rfl, hb2⟩
            have d2 : Core ⟨H, w, []⟩ H (((0, .row 2 (out'.map eTApiKey) (SL zo')) :: (0, .row 2 (ts'.map eTApiKey) (SL zt')) :: []) ++ [(wr.heap.size, .cells ((kc2 y).map .v) 34)]) [] V2 := Core.call (h1 := []) (k1 := []) d1 (core_below0 d1.ag hb2)
            dsimp only
            go_wp2
            refine ⟨⟨out', ts', zo', zt', i + 1, rfl, rfl, rfl, hlt, ⟨d2.drop (List.sublist_append_left _ _) (List.Sublist.refl _), aj3, tn3⟩, hx3, fun k hk => ?_, hmu⟩, meas_p hlt⟩
            rw [htk] at hk
            rcases List.mem_append.1 hk with hk | hk
            · exact hp3 k hk
            · simp at hk; subst hk; exact hm
          · rw [decide_eq_false hm] at hbs
            dsimp only [SL] at hbs ⊢
            go_wp2_with fail
            rw [← hV1]
            clear hV1
            refine hbs.mono ?_
            rintro e V2 ⟨rfl, hb2⟩
            have d2 : Core ⟨H, w, []⟩ H (((0, .row 2 (out'.map eTApiKey) (SL zo')) :: (0, .row 2 (ts'.map eTApiKey) (SL zt')) :: []) ++ [(wr.heap.size, .cells ((kc2 y).map .v) 34)]) [] V2 := Core.call (h1 := []) (k1 := []) d1 (core_below0 d1.ag hb2)
            obtain ⟨v2, v3⟩ := key_box (d2.blks (wr.heap.size, .cells ((kc2 y).map .v) 34) (by simp))
            have hins := ins_core (y := y) d2 hq hol
            dsimp only [SL] at hins
            clear hbs v0 v1 hw1
            dsimp only
            go_wp2_with fail
            refine hins.mono ?_
            rintro e V3 ⟨zo2, rfl, d3⟩
            obtain ⟨v4, v5⟩ := key_box (d3.blks (wr.heap.size, .cells ((kc2 y).map .v) 34) (by simp))
            have htl : ts'.length < 4398046511104 := Nat.lt_of_le_of_lt (nodup_le tn3 (fun k hk => aj3.2.2.1 k hk)) hol
            obtain ⟨zt2, V4, hrun, d4⟩ := app_core y (d3.perm (List.Perm.swap _ _ _) (List.Perm.refl _)) htl
            have hrun' : ∀ ty, (Builtin.append_ #[23, 23] ty #[.slice zt'.1 zt'.2.1 zt'.2.2, .slice (some ⟨V3.heap.size, 0, none⟩) 1 1]).run Try.prog (V3.alloc (.cells #[Value.string y.gName, Value.int IntKind.i64 y.gNode] 34)) = .ok (.slice zt2.1 zt2.2.1 zt2.2.2) V4 := hrun
            have hw1 := wrap_smallK i hi42
            clear hins hrun v2 v3
            dsimp only
            go_wp2_with (at_builtin; refine Lib.wpList_append_run _ rfl _ _ _ _ rfl _ _ rfl rfl _ _ (hrun' _) ?_)
            have haj4 := aj3.put hx3 hym' hyc
            rw [← ins_eq hq q3 q4 hm] at haj4
            have hN4 := haj4.le
            have hil4 : (insAt out' q y).length = out'.length + 1 := by simp [insAt]; omega
            have hmem : ∀ k, k ∈ insAt out' q y ↔ k = y ∨ k ∈ out' := fun k => by rw [ins_eq hq q3 q4 hm]; exact insT_mem ltK y out' k
            clear hw1
            refine ⟨⟨insAt out' q y, ts' ++ [y], zo2, zt2, i + 1, rfl, rfl, rfl, hlt, ⟨(d4.drop (h' := (0, .row 2 ((ts' ++ [y]).map eTApiKey) (SL zt2)) :: (0, .row 2 ((insAt out' q y).map eTApiKey) (SL zo2)) :: []) (((List.sublist_append_left _ _).cons_cons _).cons_cons _) (List.Sublist.refl _)).perm (List.Perm.swap _ _ _) (List.Perm.refl _), haj4, ?_⟩, (hmem x).2 (.inr hx3), fun k hk => ?_, ?_⟩, meas_p hlt⟩
            · refine List.nodup_append.2 ⟨tn3, by simp, fun k hk k2 hk2 e => ?_⟩
              simp at hk2; subst hk2; subst e
              exact hm (aj3.2.2.1 _ hk)
            · rw [htk] at hk
              rcases List.mem_append.1 hk with hk | hk
              · exact (hmem k).2 (.inr (hp3 k hk))
              · simp at hk; exact (hmem k).2 (.inl hk)
            · rw [hil4] at hN4 ⊢
              simp only [List.length_append, List.length_cons, List.length_nil]
              omega
        · obtain rfl : i = row.length := Nat.le_antisymm hi (Nat.le_of_not_lt hlt)
          have hat2 : AllAt H w b es l out' ts' zo' zt' (fun _ => False) wr := ⟨c3, aj3.shut (fun y hy => hp3 y (by rw [hrow] at hy; simpa using hy)), tn3⟩
          obtain ⟨g1, g2⟩ := hat2.lens
          clear hmu0
          dsimp only [SL]
          go_wp2
          refine wp_goto ?_
          refine ⟨rfl, ⟨out', ts', zo', zt', _, _, _, _, _, _, _, _, _, _, _, _, _, _, _, _, _, _, _, _, _, _, _, _, _, _, _, _, _, _, _, _, _, _, _, _, _, _, _, _, _, _, _, _, _, _, _, _, _, _, rfl, hat2⟩, ?_⟩
          show zt'.2.1 + 2 * ((univ (tieL es) l).length - zo'.2.1) < (ts.length + 1) + 2 * ((univ (tieL es) l).length - zo.2.1)
          rw [g1, g2, hzo]
          omega
end Go.Proofs.Ytpdekcfeecdlbaa.Ab
namespace Go.Proofs.Ytpdekcfeecdlbaa.Ab
open Go Go.RowKit Go.Shelf Go.Proofs Go.Proofs.Ytpdekcfeecdlbaa.Ab.Pq
set_option linter.all false
structure YW where
  p : Nat
  b1 : Nat
  b2 : Nat
  T : TypeId
  e1 : Ties
  e2 : Ties
def webH (z : YW) : List (Nat × Blk) := (z.p, .cells [.v (.map (some z.b1)), .v (.map (some z.b2))] z.T) :: (tieH z.b1 z.e1 ++ tieH z.b2 z.e2)
theorem mk_map (T : TypeId) (w : World) : (Instr.makeMap T none).run Try.prog w = .ok (.map (some w.heap.size)) (w.alloc (.map #[] 0)) := rfl
set_option maxRecDepth 100000 in
set_option maxHeartbeats 4000000 in
theorem New_calls (H : Hp) (w : World) (hA : Ag H w) : Calls Try.prog 7 #[] w fun e w' => ∃ z : YW, e = .returned (.pointer (some ⟨z.p, 0, none⟩)) ∧ Core ⟨H, w, []⟩ H (webH z) [] w' ∧ z.e1 = [] ∧ z.e2 = [] := by
  have c1 := Core.allocMap (Core.here hA)
  have c2 := Core.allocMap c1
  have c3 := Core.alloc c2 (ds := [.v (.map (some w.heap.size)), .v (.map (some (w.heap.size + 1)))]) (us := [.map (some w.heap.size), .map (some (w.heap.size + 1))]) 46 (reps_v H [.map (some w.heap.size), .map (some (w.heap.size + 1))] rfl)
  go_enter Try.func7, Try.ntmps7
  go_wp2_with fail
  rw [mk_map]
  go_wp2_with fail
  rw [mk_map]
  go_wp2
  go_ret
  refine ⟨⟨w.heap.size + 1 + 1, w.heap.size, w.heap.size + 1, 46, [], []⟩, rfl, ?_, rfl, rfl⟩
  simp only [World.size_alloc] at c3
  refine Core.perm c3 ?_ (List.Perm.refl _)
  show ([(w.heap.size + 1, Blk.mp []), (w.heap.size, Blk.mp [])] ++ [_]).Perm (_ :: [(w.heap.size, Blk.mp []), (w.heap.size + 1, Blk.mp [])])
  exact (List.perm_append_singleton _ _).trans (List.Perm.cons _ (List.Perm.swap _ _ _))
theorem web_box {H : Hp} {W : World} {z : YW} (h : ∀ p ∈ webH z, BlkOK H W p) : W.cell? ⟨z.p, 0, none⟩ = some (.map (some z.b1)) ∧ W.cell? ⟨z.p, 1, none⟩ = some (.map (some z.b2)) := by
  obtain ⟨us, h1, h2, _⟩ := h (z.p, .cells [.v (.map (some z.b1)), .v (.map (some z.b2))] z.T) (by simp [webH])
  have := reps_v_inv (us := [.map (some z.b1), .map (some z.b2)]) h2; subst this
  simp [World.cell?, h1]
theorem web_t1 {H : Hp} {W : World} {z : YW} (h : ∀ p ∈ webH z, BlkOK H W p) : ∀ p ∈ tieH z.b1 z.e1, BlkOK H W p := fun p hp => h p (List.mem_cons_of_mem _ (List.mem_append_left _ hp))
theorem web_t2 {H : Hp} {W : World} {z : YW} (h : ∀ p ∈ webH z, BlkOK H W p) : ∀ p ∈ tieH z.b2 z.e2, BlkOK H W p := fun p hp => h p (List.mem_cons_of_mem _ (List.mem_append_right _ hp))
theorem slk_mget {H : Hp} {w : World} {b : Nat} {es : Ties} (hA : Ag H w) (hs : ∀ p ∈ tieH b es, BlkOK H w p) (x : TApiKey) : SlK w.heap.size w (SL (mgetD es x zr0).2) (mgetD es x zr0).1 := by
  rcases mget_split (l := es) (k := x) with ⟨h1, _, _⟩ | ⟨l1, l2, v, h1, h2, _, _⟩
  · have : mgetD es x zr0 = zr0 := by unfold mgetD; rw [h1]; rfl
    rw [this]
    exact ⟨none, 0, rfl, fun j x hj => by simp at hj⟩
  · have : mgetD es x zr0 = v := by unfold mgetD; rw [h1]; rfl
    rw [this]
    exact slk_row hA (hs (0, Blk.row 2 (v.1.map eTApiKey) (SL v.2)) (List.mem_cons_of_mem _ (List.mem_map.2 ⟨(x, v), by rw [h2]; simp, rfl⟩)))
set_option maxRecDepth 100000 in
set_option maxHeartbeats 4000000 in
theorem On_calls (H : Hp) (w : World) (hA : Ag H w) (z : YW) (hs : ∀ p ∈ webH z, BlkOK H w p) (x : TApiKey) (hl : (mgetD z.e1 (clK x) zr0).1.length < 4398046511104) :
    Calls Try.prog 14 #[.pointer (some ⟨z.p, 0, none⟩), encK x] w fun e w' => ∃ y : Z3, e = .returned (SL y) ∧ Core ⟨H, w, []⟩ H [(0, .row 2 ((mgetD z.e1 (clK x) zr0).1.map eTApiKey) (SL y))] [] w' := by
  have mixed : Try.prog.follows .mixedOrders = true := by kernel_rfl
  obtain ⟨W1, hW1⟩ : ∃ W1, W1 = w.alloc (Obj.cells #[Value.string x.gName, Value.int IntKind.i64 x.gNode] 34) := ⟨_, rfl⟩
  have hb1 : Below w.heap.size w W1 := by rw [hW1]; exact (Below.refl _ w).alloc (Nat.le_refl _) _
  have hnx : W1.heap[w.heap.size]? = some (Obj.cells #[Value.string x.gName, Value.int IntKind.i64 x.gNode] 34 (0, 0)) := by rw [hW1, heap_alloc, if_pos rfl]
  have x0 : W1.cell? ⟨w.heap.size, 0, none⟩ = some (.string x.gName) := by simp [World.cell?, hnx]
  have x1 : W1.cell? ⟨w.heap.size, 1, none⟩ = some (.int .i64 x.gNode) := by simp [World.cell?, hnx]
  have hs1 : ∀ p ∈ webH z, BlkOK H W1 p := fun p hp => blk_bel hA hb1 (hs p hp)
  obtain ⟨m0, m1⟩ := web_box hs1
  have hpl : z.p < W1.heap.size := cell_lt m0
  have hcl := clean_calls x W1.drew
  simp only [encK] at hcl ⊢
  have hxl : w.heap.size < W1.heap.size := by rw [hW1]; simp
  have hcl2 : Calls Try.prog 29 #[.agg #[.string x.gName, .int .i64 x.gNode]] W1.drew fun e w3 => e = .returned (.agg #[.string (clK x).gName, .int .i64 (clK x).gNode]) ∧ w3.cell? ⟨z.p, 0, none⟩ = some (.map (some z.b1)) ∧
      (Instr.lookup 44 (.map (some z.b1)) (.agg #[.string (clK x).gName, .int .i64 (clK x).gNode]) false).run Try.prog w3 = .ok (SL (mgetD z.e1 (clK x) zr0).2) w3 ∧
      Calls Try.prog 28 #[SL (mgetD z.e1 (clK x) zr0).2] w3 fun e w' => ∃ y : Z3, e = .returned (SL y) ∧ Core ⟨H, w, []⟩ H [(0, .row 2 ((mgetD z.e1 (clK x) zr0).1.map eTApiKey) (SL y))] [] w' := by
    refine hcl.mono ?_
    rintro e w3 ⟨rfl, hb3⟩
    have hb13 : Below w.heap.size w w3 := hb1.trans (⟨hb3.os, hb3.tape, hb3.output, hb3.size, fun k hk => hb3.block k (Nat.lt_of_lt_of_le hk hb1.size)⟩ : Below w.heap.size W1 w3)
    have hs3 : ∀ p ∈ webH z, BlkOK H w3 p := fun p hp => blk_bel hA hb13 (hs p hp)
    have hA3 : Ag H w3 := fun a u e => by rw [hb13.cell (p := a) (hA.lt e)]; exact hA a u e
    refine ⟨rfl, (web_box hs3).1, run_lkp (hs3 (z.b1, .mp (tieM z.e1)) (by simp [webH, tieH])) (clK x), (Clone_calls H w3 hA3 _ _ (slk_mget hA3 (web_t1 hs3) (clK x)) hl).mono ?_⟩
    rintro e w4 ⟨y, rfl, hc4⟩
    exact ⟨y, rfl, Core.call (h1 := []) (k1 := []) (h2 := []) (k2 := []) (core_below0 hA hb13) hc4⟩
  go_enter Try.func14, Try.ntmps14
  go_wp2
  rw [← hW1]
  clear hW1 hnx
  go_region_with_o (first
    | (go_at_call 29
       refine hcl2.mono ?_
       rintro e w3 ⟨rfl, m3, hlk, hcn⟩)
    | (go_at_call 28
       refine hcn.mono ?_
       rintro e w4 ⟨y, rfl, hc4⟩))
  all_goals
    go_wp2
    go_ret
    exact ⟨y, rfl, hc4⟩
set_option maxRecDepth 100000 in
set_option maxHeartbeats 4000000 in
theorem Of_calls (H : Hp) (w : World) (hA : Ag H w) (z : YW) (hs : ∀ p ∈ webH z, BlkOK H w p) (x : TApiKey) (hl : (mgetD z.e2 (clK x) zr0).1.length < 4398046511104) :
    Calls Try.prog 16 #[.pointer (some ⟨z.p, 0, none⟩), encK x] w fun e w' => ∃ y : Z3, e = .returned (SL y) ∧ Core ⟨H, w, []⟩ H [(0, .row 2 ((mgetD z.e2 (clK x) zr0).1.map eTApiKey) (SL y))] [] w' := by
  have mixed : Try.prog.follows .mixedOrders = true := by kernel_rfl
  obtain ⟨W1, hW1⟩ : ∃ W1, W1 = w.alloc (Obj.cells #[Value.string x.gName, Value.int IntKind.i64 x.gNode] 34) := ⟨_, rfl⟩
  have hb1 : Below w.heap.size w W1 := by rw [hW1]; exact (Below.refl _ w).alloc (Nat.le_refl _) _
  have hnx : W1.heap[w.heap.size]? = some (Obj.cells #[Value.string x.gName, Value.int IntKind.i64 x.gNode] 34 (0, 0)) := by rw [hW1, heap_alloc, if_pos rfl]
  have x0 : W1.cell? ⟨w.heap.size, 0, none⟩ = some (.string x.gName) := by simp [World.cell?, hnx]
  have x1 : W1.cell? ⟨w.heap.size, 1, none⟩ = some (.int .i64 x.gNode) := by simp [World.cell?, hnx]
  have hs1 : ∀ p ∈ webH z, BlkOK H W1 p := fun p hp => blk_bel hA hb1 (hs p hp)
  obtain ⟨m0, m1⟩ := web_box hs1
  have hpl : z.p < W1.heap.size := cell_lt m0
  have hcl := clean_calls x W1.drew
  simp only [encK] at hcl ⊢
  have hxl : w.heap.size < W1.heap.size := by rw [hW1]; simp
  have hcl2 : Calls Try.prog 29 #[.agg #[.string x.gName, .int .i64 x.gNode]] W1.drew fun e w3 => e = .returned (.agg #[.string (clK x).gName, .int .i64 (clK x).gNode]) ∧ w3.cell? ⟨z.p, 1, none⟩ = some (.map (some z.b2)) ∧
      (Instr.lookup 44 (.map (some z.b2)) (.agg #[.string (clK x).gName, .int .i64 (clK x).gNode]) false).run Try.prog w3 = .ok (SL (mgetD z.e2 (clK x) zr0).2) w3 ∧
      Calls Try.prog 28 #[SL (mgetD z.e2 (clK x) zr0).2] w3 fun e w' => ∃ y : Z3, e = .returned (SL y) ∧ Core ⟨H, w, []⟩ H [(0, .row 2 ((mgetD z.e2 (clK x) zr0).1.map eTApiKey) (SL y))] [] w' := by
    refine hcl.mono ?_
    rintro e w3 ⟨rfl, hb3⟩
    have hb13 : Below w.heap.size w w3 := hb1.trans (⟨hb3.os, hb3.tape, hb3.output, hb3.size, fun k hk => hb3.block k (Nat.lt_of_lt_of_le hk hb1.size)⟩ : Below w.heap.size W1 w3)
    have hs3 : ∀ p ∈ webH z, BlkOK H w3 p := fun p hp => blk_bel hA hb13 (hs p hp)
    have hA3 : Ag H w3 := fun a u e => by rw [hb13.cell (p := a) (hA.lt e)]; exact hA a u e
    refine ⟨rfl, (web_box hs3).2, run_lkp (hs3 (z.b2, .mp (tieM z.e2)) (by simp [webH, tieH])) (clK x), (Clone_calls H w3 hA3 _ _ (slk_mget hA3 (web_t2 hs3) (clK x)) hl).mono ?_⟩
    rintro e w4 ⟨y, rfl, hc4⟩
    exact ⟨y, rfl, Core.call (h1 := []) (k1 := []) (h2 := []) (k2 := []) (core_below0 hA hb13) hc4⟩
  go_enter Try.func16, Try.ntmps16
  go_wp2
  rw [← hW1]
  clear hW1 hnx
  go_region_with_o (first
    | (go_at_call 29
       refine hcl2.mono ?_
       rintro e w3 ⟨rfl, m3, hlk, hcn⟩)
    | (go_at_call 28
       refine hcn.mono ?_
       rintro e w4 ⟨y, rfl, hc4⟩))
  all_goals
    go_wp2
    go_ret
    exact ⟨y, rfl, hc4⟩
set_option maxRecDepth 100000 in
set_option maxHeartbeats 4000000 in
theorem Below_calls (H : Hp) (w : World) (hA : Ag H w) (z : YW) (hs : ∀ p ∈ webH z, BlkOK H w p) (l : List TApiKey) (v : Value) (hv : SlK w.heap.size w v l) (hr : ∀ x, RowC (mgetD (tieL z.e2) x [])) (hN : (univ (tieL z.e2) l).length < 4398046511104) :
    Calls Try.prog 10 #[.pointer (some ⟨z.p, 0, none⟩), v] w fun e w' => ∃ (out : List TApiKey) (y : Z3), e = .returned (SL y) ∧ Core ⟨H, w, []⟩ H [(0, .row 2 (out.map eTApiKey) (SL y))] [] w' ∧ AllP (tieL z.e2) l out := by
  have hal := all_calls H w hA z.b2 z.e2 l v hv (web_t2 hs) hr hN
  obtain ⟨m0, m1⟩ := web_box hs
  obtain ⟨va, vn, vm, rfl⟩ : ∃ a n m, v = .slice a n m := by obtain ⟨a, cap, e1, _⟩ := hv; exact ⟨_, _, _, e1⟩
  go_enter Try.func10, Try.ntmps10
  go_wp2_with fail
  refine hal.mono ?_
  rintro e w1 ⟨out, y, rfl, hc, hp⟩
  go_wp2
  go_ret
  exact ⟨out, y, rfl, hc, hp⟩
set_option maxRecDepth 100000 in
set_option maxHeartbeats 4000000 in
theorem Above_calls (H : Hp) (w : World) (hA : Ag H w) (z : YW) (hs : ∀ p ∈ webH z, BlkOK H w p) (l : List TApiKey) (v : Value) (hv : SlK w.heap.size w v l) (hr : ∀ x, RowC (mgetD (tieL z.e1) x [])) (hN : (univ (tieL z.e1) l).length < 4398046511104) :
    Calls Try.prog 12 #[.pointer (some ⟨z.p, 0, none⟩), v] w fun e w' => ∃ (out : List TApiKey) (y : Z3), e = .returned (SL y) ∧ Core ⟨H, w, []⟩ H [(0, .row 2 (out.map eTApiKey) (SL y))] [] w' ∧ AllP (tieL z.e1) l out := by
  have hal := all_calls H w hA z.b1 z.e1 l v hv (web_t1 hs) hr hN
  obtain ⟨m0, m1⟩ := web_box hs
  obtain ⟨va, vn, vm, rfl⟩ : ∃ a n m, v = .slice a n m := by obtain ⟨a, cap, e1, _⟩ := hv; exact ⟨_, _, _, e1⟩
  go_enter Try.func12, Try.ntmps12
  go_wp2_with fail
  refine hal.mono ?_
  rintro e w1 ⟨out, y, rfl, hc, hp⟩
  go_wp2
  go_ret
  exact ⟨out, y, rfl, hc, hp⟩
end Go.Proofs.Ytpdekcfeecdlbaa.Ab
namespace Go.Proofs.Ytpdekcfeecdlbaa.Ab
open Go Go.RowKit Go.Shelf Go.Proofs Go.Proofs.Ytpdekcfeecdlbaa.Ab.Pq
set_option linter.all false
theorem setCell_heap (W : World) (b o : Nat) (v : Value) (c : Array Value) (T : TypeId) (h : W.heap[b]? = some (.cells c T (0, 0))) (i : Nat) : (W.setCell ⟨b, o, none⟩ v).heap[i]? = if i = b then some (.cells (c.setIfInBounds o v) T (0, 0)) else W.heap[i]? := by
  by_cases q : i = b
  · subst q
    rw [if_pos rfl]
    simp only [World.setCell, Array.getElem?_modify, if_pos rfl, h, Option.map_some]
    rfl
  · rw [if_neg q]
    simp only [World.setCell, Array.getElem?_modify]
    rw [if_neg (fun e => q e.symm)]
theorem setCell_size (W : World) (p : Addr) (v : Value) : (W.setCell p v).heap.size = W.heap.size := by simp
theorem key_fro {H : Hp} {W : World} {b : Nat} {T : TypeId} {x : TApiKey} (h : BlkOK H W (b, .cells ((kc2 x).map .v) T)) : W.frozen? ⟨b, 0, none⟩ = false ∧ W.frozen? ⟨b, 1, none⟩ = false := by
  obtain ⟨us, h1, h2, _⟩ := h
  have := reps_v_inv h2; subst this
  simp [World.frozen?, h1]
theorem key_store {C : Ctx} {H : Hp} {h : List (Nat × Blk)} {W : World} (c : Core C H h [] W) {j b : Nat} {x y : TApiKey} {T : TypeId} (hj : h[j]? = some (b, .cells ((kc2 x).map .v) T)) :
    Core C H (h.set j (b, .cells ((kc2 y).map .v) T)) [] ((W.setCell ⟨b, 0, none⟩ (.string y.gName)).setCell ⟨b, 1, none⟩ (.int .i64 y.gNode)) := by
  obtain ⟨us, h1, h2, _⟩ := c.blks _ (List.mem_of_getElem? hj)
  have := reps_v_inv h2; subst this
  have e1 := setCell_heap W b 0 (.string y.gName) _ T h1
  have hb1 : (W.setCell ⟨b, 0, none⟩ (.string y.gName)).heap[b]? = some (.cells #[.string y.gName, .int .i64 x.gNode] T (0, 0)) := by rw [e1, if_pos rfl]; rfl
  have e2 := setCell_heap _ b 1 (.int .i64 y.gNode) _ T hb1
  refine Core.write c hj ⟨rfl, rfl, rfl, Nat.le_refl _⟩ (by rw [setCell_size, setCell_size]) (fun i hi => ?_) (us' := kc2 y) ?_ (reps_v H (kc2 y) rfl)
  · rw [e2, if_neg hi, e1, if_neg hi]
  · rw [e2, if_pos rfl]; rfl
def keepQ (A : Act) (R : World → Prop) : Exit → Act → World → Prop
  | .normal, a', w' => a' = A ∧ R w'
  | _, _, _ => False
theorem wp_keep {P : Program} {c : Code} {Q : Exit → Act → World → Prop} {a A : Act} {w : World} (R : World → Prop) (h : c.wp P (keepQ A R) a w) (k : ∀ w', R w' → Q .normal A w') : c.wp P Q a w :=
  wp_mono h (by
    intro e a' w' hq
    cases e with
    | normal => obtain ⟨rfl, hr⟩ := hq; exact k w' hr
    | _ => exact hq.elim)
theorem web_pm1 (z : YW) (ex : List (Nat × Blk)) : (webH z ++ ex).Perm (tieH z.b1 z.e1 ++ ((z.p, .cells [.v (.map (some z.b1)), .v (.map (some z.b2))] z.T) :: tieH z.b2 z.e2 ++ ex)) := by
  unfold webH
  simp only [List.cons_append, List.append_assoc]
  exact List.perm_middle.symm
theorem web_pm2 (z : YW) (ex : List (Nat × Blk)) : (webH z ++ ex).Perm (tieH z.b2 z.e2 ++ ((z.p, .cells [.v (.map (some z.b1)), .v (.map (some z.b2))] z.T) :: tieH z.b1 z.e1 ++ ex)) := by
  unfold webH
  simp only [List.cons_append, List.append_assoc]
  refine List.Perm.trans ?_ List.perm_middle.symm
  refine List.Perm.cons _ ?_
  rw [← List.append_assoc, ← List.append_assoc]
  exact List.Perm.append_right _ List.perm_append_comm
theorem web_turn1 {C : Ctx} {H : Hp} {z : YW} {ex : List (Nat × Blk)} {W W' : World} {e' : Ties} (c : Core C H (webH z ++ ex) [] W) (c' : Core ⟨H, W, claims (tieH z.b1 z.e1) []⟩ H (tieH z.b1 e') [] W') : Core C H (webH ⟨z.p, z.b1, z.b2, z.T, e', z.e2⟩ ++ ex) [] W' := by
  have q := Core.call (k1 := []) (k2 := []) (c.perm (web_pm1 z ex) (List.Perm.refl _)) c'
  exact q.perm (web_pm1 ⟨z.p, z.b1, z.b2, z.T, e', z.e2⟩ ex).symm (List.Perm.refl _)
theorem web_turn2 {C : Ctx} {H : Hp} {z : YW} {ex : List (Nat × Blk)} {W W' : World} {e' : Ties} (c : Core C H (webH z ++ ex) [] W) (c' : Core ⟨H, W, claims (tieH z.b2 z.e2) []⟩ H (tieH z.b2 e') [] W') : Core C H (webH ⟨z.p, z.b1, z.b2, z.T, z.e1, e'⟩ ++ ex) [] W' := by
  have q := Core.call (k1 := []) (k2 := []) (c.perm (web_pm2 z ex) (List.Perm.refl _)) c'
  exact q.perm (web_pm2 ⟨z.p, z.b1, z.b2, z.T, z.e1, e'⟩ ex).symm (List.Perm.refl _)
theorem web_nd1 {C : Ctx} {H : Hp} {z : YW} {ex : List (Nat × Blk)} {W : World} (c : Core C H (webH z ++ ex) [] W) : (claims (tieH z.b1 z.e1) []).Nodup :=
  (c.perm (web_pm1 z ex) (List.Perm.refl _)).drop (List.sublist_append_left _ _) (List.Sublist.refl _) |>.nd
theorem web_nd2 {C : Ctx} {H : Hp} {z : YW} {ex : List (Nat × Blk)} {W : World} (c : Core C H (webH z ++ ex) [] W) : (claims (tieH z.b2 z.e2) []).Nodup :=
  (c.perm (web_pm2 z ex) (List.Perm.refl _)).drop (List.sublist_append_left _ _) (List.Sublist.refl _) |>.nd
theorem clK_idem (x : TApiKey) : clK (clK x) = clK x := by
  unfold clK; simp
set_option maxRecDepth 100000 in
set_option maxHeartbeats 4000000 in
theorem Add_calls (H : Hp) (w : World) (hA : Ag H w) (z : YW) (hs : ∀ p ∈ webH z, BlkOK H w p) (nd : (claims (webH z) []).Nodup) (x y : TApiKey)
    (hr1 : RowC (mgetD z.e1 (clK x) zr0).1) (hl1 : (mgetD z.e1 (clK x) zr0).1.length < 4398046511104) (hr2 : RowC (mgetD z.e2 (clK y) zr0).1) (hl2 : (mgetD z.e2 (clK y) zr0).1.length < 4398046511104) :
    Calls Try.prog 19 #[.pointer (some ⟨z.p, 0, none⟩), encK x, encK y] w fun e w' => ∃ e1 e2, e = .returned (.tuple #[]) ∧ Core ⟨H, w, claims (webH z) []⟩ H (webH ⟨z.p, z.b1, z.b2, z.T, e1, e2⟩) [] w' ∧ tieL e1 = tieF (tieL z.e1) (clK x) (clK y) ∧ tieL e2 = tieF (tieL z.e2) (clK y) (clK x) := by
  have mixed : Try.prog.follows .mixedOrders = true := by kernel_rfl
  obtain ⟨W1, hW1⟩ : ∃ W1, W1 = (w.alloc (Obj.cells #[Value.string x.gName, Value.int IntKind.i64 x.gNode] 34)).alloc (Obj.cells #[Value.string y.gName, Value.int IntKind.i64 y.gNode] 34) := ⟨_, rfl⟩
  have hs1 : W1.heap.size = w.heap.size + 2 := by rw [hW1]; simp
  have c1 : Core ⟨H, w, claims (webH z) []⟩ H (webH z ++ [(w.heap.size, .cells ((kc2 x).map .v) 34), (w.heap.size + 1, .cells ((kc2 y).map .v) 34)]) [] W1 := by
    rw [hW1]
    have q := Core.alloc (Core.alloc (core_stay hA hs nd (Below.refl _ w)) (ds := (kc2 x).map .v) (us := kc2 x) 34 (reps_v H (kc2 x) rfl)) (ds := (kc2 y).map .v) (us := kc2 y) 34 (reps_v H (kc2 y) rfl)
    simp only [List.append_assoc, List.singleton_append, World.size_alloc] at q
    exact q
  obtain ⟨x0, x1⟩ := key_box (c1.blks (w.heap.size, .cells ((kc2 x).map .v) 34) (by simp))
  obtain ⟨y0, y1⟩ := key_box (c1.blks (w.heap.size + 1, .cells ((kc2 y).map .v) 34) (by simp))
  have hclx : Calls Try.prog 29 #[encK x] W1.drew fun e W2 => e = .returned (encK (clK x)) ∧ Core ⟨H, w, claims (webH z) []⟩ H (webH z ++ [(w.heap.size, .cells ((kc2 x).map .v) 34), (w.heap.size + 1, .cells ((kc2 y).map .v) 34)]) [] W2 :=
    (clean_calls x W1.drew).mono fun e W2 ⟨he, hb⟩ => ⟨he, Core.call (h1 := []) (k1 := []) (Core.drew c1) (core_below0 (Core.drew c1).ag hb)⟩
  have hcly : ∀ W2, Core ⟨H, w, claims (webH z) []⟩ H (webH z ++ [(w.heap.size, .cells ((kc2 x).map .v) 34), (w.heap.size + 1, .cells ((kc2 y).map .v) 34)]) [] W2 → Calls Try.prog 29 #[encK y] W2 fun e W3 => e = .returned (encK (clK y)) ∧ Core ⟨H, w, claims (webH z) []⟩ H (webH z ++ [(w.heap.size, .cells ((kc2 x).map .v) 34), (w.heap.size + 1, .cells ((kc2 y).map .v) 34)]) [] W3 :=
    fun W2 c2 => (clean_calls y W2).mono fun e W3 ⟨he, hb⟩ => ⟨he, Core.call (h1 := []) (k1 := []) c2 (core_below0 c2.ag hb)⟩
  simp only [encK] at hclx hcly ⊢
  have hne1 : ¬ (w.heap.size = w.heap.size + 1) := by omega
  have hne2 : ¬ (w.heap.size + 1 = w.heap.size) := by omega
  go_enter Try.func19, Try.ntmps19
  go_wp2
  rw [← hW1]
  clear hW1
  apply wp_keep (R := fun w' => Core ⟨H, w, claims (webH z) []⟩ H (webH z ++ [(w.heap.size, .cells ((kc2 (clK x)).map .v) 34), (w.heap.size + 1, .cells ((kc2 (clK y)).map .v) 34)]) [] w')
  case h =>
    go_region_with_o (first
      | (go_at_call 29
         refine hclx.mono ?_
         rintro e W2 ⟨rfl, c2⟩
         obtain ⟨x2, x3⟩ := key_box (c2.blks (w.heap.size, .cells ((kc2 x).map .v) 34) (by simp))
         obtain ⟨y2, y3⟩ := key_box (c2.blks (w.heap.size + 1, .cells ((kc2 y).map .v) 34) (by simp)))
      | (go_at_call 29
         refine (hcly _ (by assumption)).mono ?_
         rintro e W3 ⟨rfl, c3⟩
         obtain ⟨x4, x5⟩ := key_box (c3.blks (w.heap.size, .cells ((kc2 x).map .v) 34) (by simp))
         obtain ⟨y4, y5⟩ := key_box (c3.blks (w.heap.size + 1, .cells ((kc2 y).map .v) 34) (by simp))
         obtain ⟨x6, x7⟩ := key_fro (c3.blks (w.heap.size, .cells ((kc2 x).map .v) 34) (by simp))
         obtain ⟨y6, y7⟩ := key_fro (c3.blks (w.heap.size + 1, .cells ((kc2 y).map .v) 34) (by simp))))
    all_goals
      refine ⟨rfl, ?_⟩
      have d1 := key_store (y := clK x) c3 (j := (webH z).length) (b := w.heap.size) (by rw [List.getElem?_append_right (Nat.le_refl _), Nat.sub_self]; rfl)
      have d2 := key_store (y := clK y) d1 (j := (webH z).length + 1) (b := w.heap.size + 1) (x := y) (T := 34) (by
        rw [List.getElem?_set_ne (by omega), List.getElem?_append_right (by omega), Nat.add_sub_cancel_left]; rfl)
      have he : ∀ (p q p' q' : Nat × Blk), (((webH z ++ [p, q]).set (webH z).length p').set ((webH z).length + 1) q') = webH z ++ [p', q'] := by
        intro p q p' q'
        rw [List.set_append_right _ _ (Nat.le_refl _), Nat.sub_self, List.set_append_right _ _ (by omega), Nat.add_sub_cancel_left]; rfl
      rw [he] at d2
      exact d2
  clear hclx hcly x0 x1 y0 y1 c1 hs1
  intro W2 c2
  obtain ⟨x2, x3⟩ := key_box (c2.blks (w.heap.size, .cells ((kc2 (clK x)).map .v) 34) (by simp))
  obtain ⟨y2, y3⟩ := key_box (c2.blks (w.heap.size + 1, .cells ((kc2 (clK y)).map .v) 34) (by simp))
  obtain ⟨m0, m1⟩ := web_box (z := z) (fun p hp => c2.blks p (List.mem_append_left _ hp))
  have ht1 : Calls Try.prog 31 #[.map (some z.b1), encK (clK x), encK (clK y)] W2.drew fun e w' => ∃ e1, e = .returned (.tuple #[]) ∧ Core ⟨H, w, claims (webH z) []⟩ H (webH ⟨z.p, z.b1, z.b2, z.T, e1, z.e2⟩ ++ [(w.heap.size, .cells ((kc2 (clK x)).map .v) 34), (w.heap.size + 1, .cells ((kc2 (clK y)).map .v) 34)]) [] w' ∧ tieL e1 = tieF (tieL z.e1) (clK x) (clK y) :=
    (tie_calls H W2.drew (Core.drew c2).ag z.b1 z.e1 (clK x) (clK y) (fun p hp => (Core.drew c2).blks p (List.mem_append_left _ (List.mem_cons_of_mem _ (List.mem_append_left _ hp)))) (web_nd1 c2) (clK_idem y) hr1 hl1).mono fun e w' ⟨e1, he, hc, hl⟩ => ⟨e1, he, web_turn1 (Core.drew c2) hc, hl⟩
  simp only [encK] at ht1
  go_wp2
  apply wp_keep (R := fun w' => ∃ e1, Core ⟨H, w, claims (webH z) []⟩ H (webH ⟨z.p, z.b1, z.b2, z.T, e1, z.e2⟩ ++ [(w.heap.size, .cells ((kc2 (clK x)).map .v) 34), (w.heap.size + 1, .cells ((kc2 (clK y)).map .v) 34)]) [] w' ∧ tieL e1 = tieF (tieL z.e1) (clK x) (clK y))
  case h =>
    go_region_with_o (
      go_at_call 31
      refine ht1.mono ?_
      rintro e W3 ⟨e1, rfl, c3, he1⟩)
    all_goals
      exact ⟨rfl, e1, c3, he1⟩
  clear ht1 x2 x3 y2 y3 m0 m1 c2
  rintro W3 ⟨e1, c3, he1⟩
  obtain ⟨x2, x3⟩ := key_box (c3.blks (w.heap.size, .cells ((kc2 (clK x)).map .v) 34) (by simp))
  obtain ⟨y2, y3⟩ := key_box (c3.blks (w.heap.size + 1, .cells ((kc2 (clK y)).map .v) 34) (by simp))
  obtain ⟨m0, m1⟩ := web_box (z := ⟨z.p, z.b1, z.b2, z.T, e1, z.e2⟩) (fun p hp => c3.blks p (List.mem_append_left _ hp))
  have ht1 : Calls Try.prog 31 #[.map (some z.b2), encK (clK y), encK (clK x)] W3.drew fun e w' => ∃ e2, e = .returned (.tuple #[]) ∧ Core ⟨H, w, claims (webH z) []⟩ H (webH ⟨z.p, z.b1, z.b2, z.T, e1, e2⟩ ++ [(w.heap.size, .cells ((kc2 (clK x)).map .v) 34), (w.heap.size + 1, .cells ((kc2 (clK y)).map .v) 34)]) [] w' ∧ tieL e2 = tieF (tieL z.e2) (clK y) (clK x) :=
    (tie_calls H W3.drew (Core.drew c3).ag z.b2 z.e2 (clK y) (clK x) (fun p hp => (Core.drew c3).blks p (List.mem_append_left _ (List.mem_cons_of_mem _ (List.mem_append_right _ hp)))) (web_nd2 (z := ⟨z.p, z.b1, z.b2, z.T, e1, z.e2⟩) c3) (clK_idem x) hr2 hl2).mono fun e w' ⟨e2, he, hc, hl⟩ => ⟨e2, he, web_turn2 (z := ⟨z.p, z.b1, z.b2, z.T, e1, z.e2⟩) (Core.drew c3) hc, hl⟩
  simp only [encK] at ht1
  go_wp2
  apply wp_keep (R := fun w' => ∃ e2, Core ⟨H, w, claims (webH z) []⟩ H (webH ⟨z.p, z.b1, z.b2, z.T, e1, e2⟩ ++ [(w.heap.size, .cells ((kc2 (clK x)).map .v) 34), (w.heap.size + 1, .cells ((kc2 (clK y)).map .v) 34)]) [] w' ∧ tieL e2 = tieF (tieL z.e2) (clK y) (clK x))
  case h =>
    go_region_with_o (
      go_at_call 31
      refine ht1.mono ?_
      rintro e W4 ⟨e2, rfl, c4, he2⟩)
    all_goals
      exact ⟨rfl, e2, c4, he2⟩
  rintro W4 ⟨e2, c4, he2⟩
  go_end0
  exact ⟨e1, e2, rfl, c4.drop (List.sublist_append_left _ _) (List.Sublist.refl _), he1, he2⟩
end Go.Proofs.Ytpdekcfeecdlbaa.Ab
namespace Go.Proofs.Ytpdekcfeecdlbaa.Ab
open Go Go.RowKit Go.Shelf Go.Proofs Go.Proofs.Ytpdekcfeecdlbaa.Ab.Pq
set_option linter.all false
theorem mget_none {β : Type} : ∀ {m : List (TApiKey × β)} {k : TApiKey}, (∀ p ∈ m, p.1 ≠ k) → mget m k = none
  | [], _, _ => rfl
  | (a, b) :: m, k, h => by
    unfold mget
    rw [if_neg (h (a, b) (by simp))]
    exact mget_none fun p hp => h p (by simp [hp])
theorem mgetD_put {β : Type} (d v : β) : ∀ (m : List (TApiKey × β)) (k k' : TApiKey), mgetD (mput m k v) k' d = if k' = k then v else mgetD m k' d
  | [], k, k' => by
    unfold mgetD mput
    by_cases q : k' = k
    · subst q; simp [mget]
    · rw [if_neg q]; simp [mget, show ¬ k = k' from fun e => q e.symm]
  | (a, b) :: m, k, k' => by
    have ih := mgetD_put d v m k k'
    unfold mgetD at ih ⊢
    unfold mput
    by_cases q : a = k
    · subst q
      rw [if_pos rfl]
      by_cases q2 : k' = a
      · subst q2; simp [mget]
      · rw [if_neg q2]; simp [mget, show ¬ a = k' from fun e => q2 e.symm]
    · rw [if_neg q]
      by_cases q3 : a = k'
      · subst q3
        rw [if_neg q]; simp [mget]
      · simp only [mget, if_neg q3]; exact ih
theorem mput_keys {β : Type} (v : β) : ∀ (m : List (TApiKey × β)) (k : TApiKey), (m.map (·.1)).Nodup → ((mput m k v).map (·.1)).Nodup ∧ ∀ x ∈ (mput m k v).map (·.1), x = k ∨ x ∈ m.map (·.1)
  | [], k, _ => by simp [mput]
  | (a, b) :: m, k, h => by
    simp only [List.map_cons, List.nodup_cons] at h
    obtain ⟨i1, i2⟩ := mput_keys v m k h.2
    unfold mput
    by_cases q : a = k
    · rw [if_pos q]
      subst q
      exact ⟨by simp only [List.map_cons, List.nodup_cons]; exact h, fun x hx => .inr (by simpa using hx)⟩
    · rw [if_neg q]
      refine ⟨?_, fun x hx => ?_⟩
      · simp only [List.map_cons, List.nodup_cons]
        refine ⟨fun hx => ?_, i1⟩
        rcases i2 _ hx with e | e
        · exact q e
        · exact h.1 e
      · simp only [List.map_cons, List.mem_cons] at hx ⊢
        rcases hx with rfl | hx
        · exact .inr (.inl rfl)
        · rcases i2 x hx with e | e
          · exact .inl e
          · exact .inr (.inr e)
theorem mdel_keys {β : Type} (m : List (TApiKey × β)) (k : TApiKey) (h : (m.map (·.1)).Nodup) : ((mdel m k).map (·.1)).Nodup :=
  ((mdel_sub m k).map _).nodup h
theorem mgetD_del {β : Type} (d : β) : ∀ (m : List (TApiKey × β)) (k k' : TApiKey), (m.map (·.1)).Nodup → mgetD (mdel m k) k' d = if k' = k then d else mgetD m k' d
  | [], k, k', _ => by unfold mgetD; simp [mdel, mget]
  | (a, b) :: m, k, k', h => by
    simp only [List.map_cons, List.nodup_cons] at h
    have ih := mgetD_del d m k k' h.2
    unfold mdel
    by_cases q : a = k
    · subst q
      rw [if_pos rfl]
      by_cases q2 : k' = a
      · subst q2
        rw [if_pos rfl]
        unfold mgetD
        rw [mget_none (fun p hp e => h.1 (by rw [← e]; exact List.mem_map.2 ⟨p, hp, rfl⟩))]; rfl
      · rw [if_neg q2]
        unfold mgetD
        simp [mget, show ¬ a = k' from fun e => q2 e.symm]
    · rw [if_neg q]
      unfold mgetD at ih ⊢
      by_cases q3 : a = k'
      · subst q3
        rw [if_neg q]; simp [mget]
      · simp only [mget, if_neg q3]; exact ih
def GoodM (B : Nat) (m : Tm) : Prop := (m.map (·.1)).Nodup ∧ ∀ k, RowC (mgetD m k []) ∧ (mgetD m k []).length ≤ B
theorem rowK_same {l : List TApiKey} (h : RowC l) : rowK l = l :=
  rise_unique leK_an (rowK_all l).1 h.1 (fun x => ((rowK_all l).2.1 x).trans ⟨fun hx => by obtain ⟨y, hy, rfl⟩ := List.mem_map.1 hx; rw [h.2 y hy]; exact hy, fun hx => List.mem_map.2 ⟨x, hx, h.2 x hx⟩⟩)
theorem rowC_filter {l : List TApiKey} (h : RowC l) (p : TApiKey → Bool) : RowC (l.filter p) :=
  ⟨List.Pairwise.sublist List.filter_sublist h.1, fun x hx => h.2 x (List.mem_filter.1 hx).1⟩
theorem cutF_get {B : Nat} {m : Tm} (h : GoodM B m) (x y k : TApiKey) : mgetD (cutF m x y) k [] = if k = x then (mgetD m x []).filter (fun q => !decide (q = clK y)) else mgetD m k [] := by
  unfold cutF
  rw [rowK_same (h.2 x).1]
  dsimp only
  split
  · rename_i hn
    rw [mgetD_del _ _ _ _ h.1]
    split
    · exact hn.symm
    · rfl
  · rw [mgetD_put]
theorem cutF_good {B : Nat} {m : Tm} (h : GoodM B m) (x y : TApiKey) : GoodM B (cutF m x y) := by
  refine ⟨?_, fun k => ?_⟩
  · unfold cutF
    dsimp only
    split
    · exact mdel_keys m x h.1
    · exact (mput_keys _ m x h.1).1
  · rw [cutF_get h]
    split
    · exact ⟨rowC_filter (h.2 x).1 _, Nat.le_trans (List.length_filter_le _ _) (h.2 x).2⟩
    · exact h.2 k
theorem cutF_mem {B : Nat} {m : Tm} (h : GoodM B m) (x y k z : TApiKey) : z ∈ mgetD (cutF m x y) k [] ↔ z ∈ mgetD m k [] ∧ ¬ (k = x ∧ z = clK y) := by
  rw [cutF_get h]
  split
  · rename_i q
    subst q
    simp
  · rename_i q
    simp [q]
def cutM (m : Tm) (l : List TApiKey) (x : TApiKey) : Tm := l.foldl (fun m y => cutF m y x) m
theorem cutM_snoc (m : Tm) (l : List TApiKey) (y x : TApiKey) : cutM m (l ++ [y]) x = cutF (cutM m l x) y x := by simp [cutM]
theorem cutM_good {B : Nat} (x : TApiKey) : ∀ (l : List TApiKey) {m : Tm}, GoodM B m → GoodM B (cutM m l x)
  | [], _, h => h
  | y :: l, m, h => cutM_good x l (cutF_good h y x)
theorem cutM_mem {B : Nat} (x k z : TApiKey) : ∀ (l : List TApiKey) {m : Tm}, GoodM B m → (z ∈ mgetD (cutM m l x) k [] ↔ z ∈ mgetD m k [] ∧ ¬ (k ∈ l ∧ z = clK x))
  | [], _, h => by simp [cutM]
  | y :: l, m, h => by
    have := cutM_mem x k z l (cutF_good h y x)
    rw [cutF_mem h] at this
    show z ∈ mgetD (cutM (cutF m y x) l x) k [] ↔ _
    rw [this]
    simp only [List.mem_cons]
    grind
theorem del_good {B : Nat} {m : Tm} (h : GoodM B m) (x : TApiKey) : GoodM B (mdel m x) := by
  refine ⟨mdel_keys m x h.1, fun k => ?_⟩
  rw [mgetD_del _ _ _ _ h.1]
  split
  · exact ⟨⟨List.Pairwise.nil, by simp⟩, Nat.zero_le _⟩
  · exact h.2 k
def dropM (m1 m2 : Tm) (x : TApiKey) : Tm := cutM m2 (mgetD m1 x []) x
def drop1 (m1 m2 : Tm) (x : TApiKey) : Tm := mdel (cutM m1 (mgetD (dropM m1 m2 x) x []) x) x
def drop2 (m1 m2 : Tm) (x : TApiKey) : Tm := mdel (dropM m1 m2 x) x
end Go.Proofs.Ytpdekcfeecdlbaa.Ab
namespace Go.Proofs.Ytpdekcfeecdlbaa.Ab
open Go Go.RowKit Go.Shelf Go.Proofs Go.Proofs.Ytpdekcfeecdlbaa.Ab.Pq
set_option linter.all false
theorem cut_turn2 {C : Ctx} {H : Hp} {z : YW} {ex : List (Nat × Blk)} {W : World} (c : Core C H (webH z ++ ex) [] W) (y x : TApiKey) (hl : (mgetD z.e2 y zr0).1.length < 4398046511104) :
    Calls Try.prog 32 #[.map (some z.b2), encK y, encK x] W fun e w' => ∃ e2, e = .returned (.tuple #[]) ∧ Core C H (webH ⟨z.p, z.b1, z.b2, z.T, z.e1, e2⟩ ++ ex) [] w' ∧ tieL e2 = cutF (tieL z.e2) y x :=
  (cut_calls H W c.ag z.b2 z.e2 y x (fun p hp => c.blks p (List.mem_append_left _ (List.mem_cons_of_mem _ (List.mem_append_right _ hp)))) (web_nd2 c) hl).mono fun e w' ⟨e2, he, hc, hq⟩ => ⟨e2, he, web_turn2 c hc, hq⟩
theorem cut_turn1 {C : Ctx} {H : Hp} {z : YW} {ex : List (Nat × Blk)} {W : World} (c : Core C H (webH z ++ ex) [] W) (y x : TApiKey) (hl : (mgetD z.e1 y zr0).1.length < 4398046511104) :
    Calls Try.prog 32 #[.map (some z.b1), encK y, encK x] W fun e w' => ∃ e1, e = .returned (.tuple #[]) ∧ Core C H (webH ⟨z.p, z.b1, z.b2, z.T, e1, z.e2⟩ ++ ex) [] w' ∧ tieL e1 = cutF (tieL z.e1) y x :=
  (cut_calls H W c.ag z.b1 z.e1 y x (fun p hp => c.blks p (List.mem_append_left _ (List.mem_cons_of_mem _ (List.mem_append_left _ hp)))) (web_nd1 c) hl).mono fun e w' ⟨e1, he, hc, hq⟩ => ⟨e1, he, web_turn1 c hc, hq⟩
theorem del_turn1 {C : Ctx} {H : Hp} {z : YW} {ex : List (Nat × Blk)} {W : World} (c : Core C H (webH z ++ ex) [] W) {x : TApiKey} {me : Array MapEntry} {ck : Nat} (hm : MapR H (tieM (mdel z.e1 x)) me.toList) :
    Core C H (webH ⟨z.p, z.b1, z.b2, z.T, mdel z.e1 x, z.e2⟩ ++ ex) [] { W with heap := W.heap.setIfInBounds z.b1 (.map me ck) } :=
  web_turn1 c (tie_del (ex := []) (by rw [List.append_nil]; exact core_stay c.ag (fun p hp => c.blks p (List.mem_append_left _ (List.mem_cons_of_mem _ (List.mem_append_left _ hp)))) (web_nd1 c) (Below.refl _ W)) hm)
theorem del_turn2 {C : Ctx} {H : Hp} {z : YW} {ex : List (Nat × Blk)} {W : World} (c : Core C H (webH z ++ ex) [] W) {x : TApiKey} {me : Array MapEntry} {ck : Nat} (hm : MapR H (tieM (mdel z.e2 x)) me.toList) :
    Core C H (webH ⟨z.p, z.b1, z.b2, z.T, z.e1, mdel z.e2 x⟩ ++ ex) [] { W with heap := W.heap.setIfInBounds z.b2 (.map me ck) } :=
  web_turn2 c (tie_del (ex := []) (by rw [List.append_nil]; exact core_stay c.ag (fun p hp => c.blks p (List.mem_append_left _ (List.mem_cons_of_mem _ (List.mem_append_right _ hp)))) (web_nd2 c) (Below.refl _ W)) hm)
set_option maxRecDepth 100000 in
set_option maxHeartbeats 8000000 in
theorem Drop_calls (H : Hp) (w : World) (hA : Ag H w) (z : YW) (hs : ∀ p ∈ webH z, BlkOK H w p) (nd : (claims (webH z) []).Nodup) (x : TApiKey) (B : Nat) (hB : B < 4398046511104) (g1 : GoodM B (tieL z.e1)) (g2 : GoodM B (tieL z.e2)) :
    Calls Try.prog 20 #[.pointer (some ⟨z.p, 0, none⟩), encK x] w fun e w' => ∃ e1 e2, e = .returned (.tuple #[]) ∧ Core ⟨H, w, claims (webH z) []⟩ H (webH ⟨z.p, z.b1, z.b2, z.T, e1, e2⟩) [] w' ∧ tieL e1 = drop1 (tieL z.e1) (tieL z.e2) (clK x) ∧ tieL e2 = drop2 (tieL z.e1) (tieL z.e2) (clK x) := by
  have mixed : Try.prog.follows .mixedOrders = true := by kernel_rfl
  obtain ⟨W1, hW1⟩ : ∃ W1, W1 = w.alloc (Obj.cells #[Value.string x.gName, Value.int IntKind.i64 x.gNode] 34) := ⟨_, rfl⟩
  have c1 : Core ⟨H, w, claims (webH z) []⟩ H (webH z ++ [(w.heap.size, .cells ((kc2 x).map .v) 34)]) [] W1 := by
    rw [hW1]
    exact Core.alloc (core_stay hA hs nd (Below.refl _ w)) (ds := (kc2 x).map .v) (us := kc2 x) 34 (reps_v H (kc2 x) rfl)
  obtain ⟨x0, x1⟩ := key_box (c1.blks (w.heap.size, .cells ((kc2 x).map .v) 34) (by simp))
  have hclx : Calls Try.prog 29 #[encK x] W1 fun e W2 => e = .returned (encK (clK x)) ∧ Core ⟨H, w, claims (webH z) []⟩ H (webH z ++ [(w.heap.size, .cells ((kc2 x).map .v) 34)]) [] W2 :=
    (clean_calls x W1).mono fun e W2 ⟨he, hb⟩ => ⟨he, Core.call (h1 := []) (k1 := []) c1 (core_below0 c1.ag hb)⟩
  simp only [encK] at hclx ⊢
  go_enter Try.func20, Try.ntmps20
  go_wp2_with fail
  rw [← hW1]
  clear hW1
  go_wp2_with fail
  refine hclx.mono ?_
  rintro e W2 ⟨rfl, c2⟩
  obtain ⟨x4, x5⟩ := key_box (c2.blks (w.heap.size, .cells ((kc2 x).map .v) 34) (by simp))
  obtain ⟨x6, x7⟩ := key_fro (c2.blks (w.heap.size, .cells ((kc2 x).map .v) 34) (by simp))
  have d1 := key_store (y := clK x) c2 (j := (webH z).length) (b := w.heap.size) (by rw [List.getElem?_append_right (Nat.le_refl _), Nat.sub_self]; rfl)
  rw [List.set_append_right _ _ (Nat.le_refl _), Nat.sub_self] at d1
  clear hclx x0 x1
  go_wp2_with fail
  obtain ⟨W3, hW3⟩ : ∃ W3, W3 = (W2.setCell ⟨w.heap.size, 0, none⟩ (.string (clK x).gName)).setCell ⟨w.heap.size, 1, none⟩ (.int .i64 (clK x).gNode) := ⟨_, rfl⟩
  rw [← hW3] at d1 ⊢
  clear hW3 c2 x4 x5 x6 x7
  obtain ⟨x4, x5⟩ := key_box (x := clK x) (b := w.heap.size) (T := 34) (d1.blks _ (by simp))
  obtain ⟨m0, m1⟩ := web_box (z := z) (fun p hp => d1.blks p (List.mem_append_left _ hp))
  replace d1 : Core _ _ _ _ W3.drew := Core.drew d1
  have hlk := run_lkp (w := W3.drew) (d1.blks (z.b1, .mp (tieM z.e1)) (List.mem_append_left _ (by simp [webH, tieH]))) (clK x)
  obtain ⟨⟨row, zx⟩, hrz⟩ : ∃ q, mgetD z.e1 (clK x) zr0 = q := ⟨_, rfl⟩
  have hrow : mgetD (tieL z.e1) (clK x) [] = row := by rw [mgetL, hrz]
  have hrl : row.length < 4398046511104 := by have := (g1.2 (clK x)).2; rw [hrow] at this; omega
  have hzl := row_lenT (C := ⟨H, w, []⟩) hrz (fun p hp => d1.blks p (List.mem_append_left _ (List.mem_cons_of_mem _ (List.mem_append_left _ hp))))
  rw [hrz] at hlk
  obtain ⟨zx1, zx2, hzlS⟩ : ∃ a m, SL zx = .slice a row.length m := ⟨zx.1, zx.2.2, by unfold SL; rw [hzl]⟩
  rw [hzlS] at hlk
  apply wp_keep (R := fun w' => w' = W3.drew)
  case h =>
    go_region_with_o fail
    all_goals exact ⟨rfl, rfl⟩
  rintro _ rfl
  clear hlk m0 m1 x4 x5
  go_wp2_with fail
  go_loopw [19] (fun s19 wr => ∃ (i : Nat) (e2 : Ties), s19 = .int .i64 i ∧ i ≤ row.length ∧ Core ⟨H, w, claims (webH z) []⟩ H (webH ⟨z.p, z.b1, z.b2, z.T, z.e1, e2⟩ ++ [(w.heap.size, .cells ((kc2 (clK x)).map .v) 34)]) [] wr ∧ tieL e2 = cutM (tieL z.e2) (row.take i) (clK x)) (fun s19 _ => row.length - (intOf s19).toNat)
  case atStart => exact ⟨0, z.e2, rfl, Nat.zero_le _, d1, by simp [cutM]⟩
  case round =>
    obtain ⟨i, e2, rfl, hi, c3, he2⟩ := hrel
    clear d1
    have ge2 : GoodM B (tieL e2) := by rw [he2]; exact cutM_good _ _ g2
    by_cases hlt : i < row.length
    · have hne : row ≠ [] := fun e => by rw [e] at hlt; simp at hlt
      have hrb := c3.blks _ (List.mem_append_left _ (List.mem_cons_of_mem _ (List.mem_append_left _ (row_in hrz hne (b := z.b1)))))
      rcases key_row hrb with ⟨_, _, e⟩ | ⟨rb, rm, rs, T, hzx, g0, gm, q1, q3, q4, q5⟩
      · exact absurd e hne
      rw [hzx] at hzlS
      simp only [SL, Value.slice.injEq] at hzlS
      obtain ⟨r1, _, r2⟩ := hzlS
      subst r1; subst r2
      have hkk := List.getElem?_eq_getElem hlt
      obtain ⟨y0, y1⟩ := cells_at q1 hkk
      have htk := take_snoc hkk
      generalize row[i] = y at hkk y0 y1 htk
      have hi42 : i < 4398046511104 := by omega
      have hw1 := wrap_smallK i hi42
      obtain ⟨V1, hV1⟩ : ∃ V1, V1 = wr.alloc (Obj.cells #[.string y.gName, .int .i64 y.gNode] 34) := ⟨_, rfl⟩
      have d2 : Core ⟨H, w, claims (webH z) []⟩ H (webH ⟨z.p, z.b1, z.b2, z.T, z.e1, e2⟩ ++ [(w.heap.size, .cells ((kc2 (clK x)).map .v) 34), (wr.heap.size, .cells ((kc2 y).map .v) 34)]) [] V1 := by
        rw [hV1]
        have q := Core.alloc c3 (ds := (kc2 y).map .v) (us := kc2 y) 34 (reps_v H (kc2 y) rfl)
        rw [List.append_assoc] at q
        exact q
      obtain ⟨x4, x5⟩ := key_box (x := clK x) (b := w.heap.size) (T := 34) (d2.blks _ (by simp))
      obtain ⟨y4, y5⟩ := key_box (x := y) (b := wr.heap.size) (T := 34) (d2.blks _ (by simp))
      obtain ⟨m0, m1⟩ := web_box (z := ⟨z.p, z.b1, z.b2, z.T, z.e1, e2⟩) (fun p hp => d2.blks p (List.mem_append_left _ hp))
      have hct := cut_turn2 (z := ⟨z.p, z.b1, z.b2, z.T, z.e1, e2⟩) (Core.drew d2) y (clK x) (by have := (ge2.2 y).2; rw [mgetL] at this; exact Nat.lt_of_le_of_lt this hB)
      simp only [encK] at hct
      clear hrb q1 q3 q4 q5
      go_wp2_with fail
      rw [← hV1]
      clear hV1
      go_wp2_with fail
      apply wp_keep (R := fun w' => ∃ e2', Core ⟨H, w, claims (webH z) []⟩ H (webH ⟨z.p, z.b1, z.b2, z.T, z.e1, e2'⟩ ++ [(w.heap.size, .cells ((kc2 (clK x)).map .v) 34), (wr.heap.size, .cells ((kc2 y).map .v) 34)]) [] w' ∧ tieL e2' = cutF (tieL e2) y (clK x))
      case h =>
        go_region_with_o (
          go_at_call 32
          refine hct.mono ?_
          rintro e W4 ⟨e2', rfl, c4, hq⟩)
        all_goals exact ⟨rfl, e2', c4, hq⟩
      rintro W4 ⟨e2', c4, hq⟩
      clear hct x4 x5 y4 y5 m0 m1 y0 y1 d2 c3
      go_wp2
      refine ⟨⟨i + 1, e2', rfl, hlt, c4.drop (List.Sublist.append_left (by simp) _) (List.Sublist.refl _), ?_⟩, meas_p hlt⟩
      rw [hq, he2, htk, cutM_snoc]
    · obtain rfl : i = row.length := Nat.le_antisymm hi (Nat.le_of_not_lt hlt)
      rw [List.take_length] at he2
      clear hi hlt
      go_wp2_with fail
      obtain ⟨x4, x5⟩ := key_box (x := clK x) (b := w.heap.size) (T := 34) (c3.blks _ (by simp))
      obtain ⟨m0, m1⟩ := web_box (z := ⟨z.p, z.b1, z.b2, z.T, z.e1, e2⟩) (fun p hp => c3.blks p (List.mem_append_left _ hp))
      replace c3 : Core _ _ _ _ wr.drew := Core.drew c3
      have hlk := run_lkp (w := wr.drew) (c3.blks (z.b2, .mp (tieM e2)) (List.mem_append_left _ (by simp [webH, tieH]))) (clK x)
      clear hzlS hrz hzl
      obtain ⟨⟨row2, zy⟩, hrz⟩ : ∃ q, mgetD e2 (clK x) zr0 = q := ⟨_, rfl⟩
      have hrow2 : mgetD (tieL e2) (clK x) [] = row2 := by rw [mgetL, hrz]
      have hrl2 : row2.length < 4398046511104 := by have := (ge2.2 (clK x)).2; rw [hrow2] at this; omega
      have hzl := row_lenT (C := ⟨H, w, []⟩) hrz (fun p hp => c3.blks p (List.mem_append_left _ (List.mem_cons_of_mem _ (List.mem_append_right _ hp))))
      rw [hrz] at hlk
      obtain ⟨zy1, zy2, hzlS⟩ : ∃ a m, SL zy = .slice a row2.length m := ⟨zy.1, zy.2.2, by unfold SL; rw [hzl]⟩
      rw [hzlS] at hlk
      apply wp_keep (R := fun w' => w' = wr.drew)
      case h =>
        go_region_with_o fail
        all_goals exact ⟨rfl, rfl⟩
      rintro _ rfl
      clear hlk m0 m1 x4 x5
      go_wp2_with fail
      go_loopw [38] (fun s38 wr2 => ∃ (i : Nat) (e1 : Ties), s38 = .int .i64 i ∧ i ≤ row2.length ∧ Core ⟨H, w, claims (webH z) []⟩ H (webH ⟨z.p, z.b1, z.b2, z.T, e1, e2⟩ ++ [(w.heap.size, .cells ((kc2 (clK x)).map .v) 34)]) [] wr2 ∧ tieL e1 = cutM (tieL z.e1) (row2.take i) (clK x)) (fun s38 _ => row2.length - (intOf s38).toNat)
      case atStart => exact ⟨0, z.e1, rfl, Nat.zero_le _, c3, by simp [cutM]⟩
      case round =>
        obtain ⟨i, e1, rfl, hi, c3, he1⟩ := hrel
        have ge1 : GoodM B (tieL e1) := by rw [he1]; exact cutM_good _ _ g1
        by_cases hlt : i < row2.length
        · have hne : row2 ≠ [] := fun e => by rw [e] at hlt; simp at hlt
          have hrb := c3.blks _ (List.mem_append_left _ (List.mem_cons_of_mem _ (List.mem_append_right _ (row_in hrz hne (b := z.b2)))))
          rcases key_row hrb with ⟨_, _, e⟩ | ⟨rb, rm, rs, T, hzx, g0, gm, q1, q3, q4, q5⟩
          · exact absurd e hne
          rw [hzx] at hzlS
          simp only [SL, Value.slice.injEq] at hzlS
          obtain ⟨r1, _, r2⟩ := hzlS
          subst r1; subst r2
          have hkk := List.getElem?_eq_getElem hlt
          obtain ⟨y0, y1⟩ := cells_at q1 hkk
          have htk := take_snoc hkk
          generalize row2[i] = y at hkk y0 y1 htk
          have hi42 : i < 4398046511104 := by omega
          have hw1 := wrap_smallK i hi42
          obtain ⟨V1, hV1⟩ : ∃ V1, V1 = wr.alloc (Obj.cells #[.string y.gName, .int .i64 y.gNode] 34) := ⟨_, rfl⟩
          have d2 : Core ⟨H, w, claims (webH z) []⟩ H (webH ⟨z.p, z.b1, z.b2, z.T, e1, e2⟩ ++ [(w.heap.size, .cells ((kc2 (clK x)).map .v) 34), (wr.heap.size, .cells ((kc2 y).map .v) 34)]) [] V1 := by
            rw [hV1]
            have q := Core.alloc c3 (ds := (kc2 y).map .v) (us := kc2 y) 34 (reps_v H (kc2 y) rfl)
            rw [List.append_assoc] at q
            exact q
          obtain ⟨x4, x5⟩ := key_box (x := clK x) (b := w.heap.size) (T := 34) (d2.blks _ (by simp))
          obtain ⟨y4, y5⟩ := key_box (x := y) (b := wr.heap.size) (T := 34) (d2.blks _ (by simp))
          obtain ⟨m0, m1⟩ := web_box (z := ⟨z.p, z.b1, z.b2, z.T, e1, e2⟩) (fun p hp => d2.blks p (List.mem_append_left _ hp))
          have hct := cut_turn1 (z := ⟨z.p, z.b1, z.b2, z.T, e1, e2⟩) (Core.drew d2) y (clK x) (by have := (ge1.2 y).2; rw [mgetL] at this; exact Nat.lt_of_le_of_lt this hB)
          simp only [encK] at hct
          clear hrb q1 q3 q4 q5
          go_wp2_with fail
          rw [← hV1]
          clear hV1
          go_wp2_with fail
          apply wp_keep (R := fun w' => ∃ e1', Core ⟨H, w, claims (webH z) []⟩ H (webH ⟨z.p, z.b1, z.b2, z.T, e1', e2⟩ ++ [(w.heap.size, .cells ((kc2 (clK x)).map .v) 34), (wr.heap.size, .cells ((kc2 y).map .v) 34)]) [] w' ∧ tieL e1' = cutF (tieL e1) y (clK x))
          case h =>
            go_region_with_o (
              go_at_call 32
              refine hct.mono ?_
              rintro e W4 ⟨e1', rfl, c4, hq⟩)
            all_goals exact ⟨rfl, e1', c4, hq⟩
          rintro W4 ⟨e1', c4, hq⟩
          clear hct x4 x5 y4 y5 m0 m1 y0 y1 d2 c3
          go_wp2
          refine ⟨⟨i + 1, e1', rfl, hlt, c4.drop (List.Sublist.append_left (by simp) _) (List.Sublist.refl _), ?_⟩, meas_p hlt⟩
          rw [hq, he1, htk, cutM_snoc]
        · obtain rfl : i = row2.length := Nat.le_antisymm hi (Nat.le_of_not_lt hlt)
          rw [List.take_length] at he1
          clear hi hlt
          have he2' : tieL e2 = dropM (tieL z.e1) (tieL z.e2) (clK x) := by rw [he2]; unfold dropM; rw [hrow]
          have he1' : mdel (tieL e1) (clK x) = drop1 (tieL z.e1) (tieL z.e2) (clK x) := by rw [he1]; unfold drop1; rw [← he2', hrow2]
          go_wp2_with fail
          obtain ⟨x4, x5⟩ := key_box (x := clK x) (b := w.heap.size) (T := 34) (c3.blks _ (by simp))
          obtain ⟨m0, m1⟩ := web_box (z := ⟨z.p, z.b1, z.b2, z.T, e1, e2⟩) (fun p hp => c3.blks p (List.mem_append_left _ hp))
          replace c3 : Core _ _ _ _ wr.drew := Core.drew c3
          obtain ⟨me, ck, hdl, hmr⟩ := run_del (w := wr.drew) (c3.blks (z.b1, .mp (tieM e1)) (List.mem_append_left _ (by simp [webH, tieH]))) (clK x) 0
          have c5 := del_turn1 (z := ⟨z.p, z.b1, z.b2, z.T, e1, e2⟩) (ck := ck) c3 hmr
          obtain ⟨W5, hW5⟩ : ∃ W5, W5 = ({ wr.drew with heap := wr.drew.heap.setIfInBounds z.b1 (.map me ck) } : World) := ⟨_, rfl⟩
          rw [← hW5] at c5 hdl
          apply wp_keep (R := fun w' => w' = W5)
          case h =>
            go_region_with_o fail
            all_goals exact ⟨rfl, hW5.symm⟩
          rintro W5 rfl
          clear hdl hmr m0 m1 x4 x5 c3 hW5
          obtain ⟨x4, x5⟩ := key_box (x := clK x) (b := w.heap.size) (T := 34) (c5.blks _ (by simp))
          obtain ⟨m0, m1⟩ := web_box (z := ⟨z.p, z.b1, z.b2, z.T, mdel e1 (clK x), e2⟩) (fun p hp => c5.blks p (List.mem_append_left _ hp))
          replace c5 : Core _ _ _ _ W5.drew := Core.drew c5
          obtain ⟨me, ck, hdl, hmr⟩ := run_del (w := W5.drew) (c5.blks (z.b2, .mp (tieM e2)) (List.mem_append_left _ (by simp [webH, tieH]))) (clK x) 0
          have c6 := del_turn2 (z := ⟨z.p, z.b1, z.b2, z.T, mdel e1 (clK x), e2⟩) (ck := ck) c5 hmr
          obtain ⟨W6, hW6⟩ : ∃ W6, W6 = ({ W5.drew with heap := W5.drew.heap.setIfInBounds z.b2 (.map me ck) } : World) := ⟨_, rfl⟩
          rw [← hW6] at c6 hdl
          go_wp2_with fail
          apply wp_keep (R := fun w' => w' = W6)
          case h =>
            go_region_with_o fail
            all_goals exact ⟨rfl, hW6.symm⟩
          rintro _ rfl
          go_end0
          exact ⟨mdel e1 (clK x), mdel e2 (clK x), rfl, c6.drop (List.sublist_append_left _ _) (List.Sublist.refl _), by rw [mdelL, he1'], by rw [mdelL, he2']; rfl⟩
end Go.Proofs.Ytpdekcfeecdlbaa.Ab
namespace Go.Proofs.Ytpdekcfeecdlbaa.Ab
open Go Go.RowKit Go.Shelf Go.Proofs Go.Proofs.Ytpdekcfeecdlbaa.Ab.Pq
set_option linter.all false
theorem run_clear {H : Hp} {w : World} {b : Nat} {es : Ties} (hb : BlkOK H w (b, .mp (tieM es))) :
    ∃ ck, ∀ ty, (Builtin.clear_ #[44] ty #[.map (some b)]).run Try.prog w = .ok (.tuple #[]) { w with heap := w.heap.setIfInBounds b (.map #[] ck) } := by
  obtain ⟨dd, h1, h2⟩ := run_underlying (P := Try.prog) (w := w) (ti_ok htab (t := 44) rfl)
  have hd : tdOf dd = .map 34 23 := h2
  have := td_map hd; subst this
  obtain ⟨me, ck, g1, g2, g3⟩ := hb
  refine ⟨ck, fun ty => ?_⟩
  unfold Builtin.clear_
  simp only [List.getElem?_toArray, List.getElem?_cons_zero, run_bind, h1, Result.andThen, MapKept.run_getObj_map g1, run_pure, MapKept.run_setObj_map _ g1]
theorem tie_clear {C : Ctx} {H : Hp} {W : World} {b : Nat} {es : Ties} {ck : Nat} (c : Core C H (tieH b es) [] W) :
    Core C H (tieH b []) [] { W with heap := W.heap.setIfInBounds b (.map #[] ck) } := by
  have c1 := Core.setMap (j := 0) (es' := []) (me := #[]) (ck := ck) c rfl rfl
  exact c1.drop (List.Sublist.cons_cons _ (List.nil_sublist _)) (List.Sublist.refl _)
theorem clear_turn1 {C : Ctx} {H : Hp} {z : YW} {W : World} {ck : Nat} (c : Core C H (webH z) [] W) :
    Core C H (webH ⟨z.p, z.b1, z.b2, z.T, [], z.e2⟩) [] { W with heap := W.heap.setIfInBounds z.b1 (.map #[] ck) } := by
  have c := (List.append_nil (webH z)).symm ▸ c
  have := web_turn1 c (tie_clear (ck := ck) (core_stay c.ag (fun p hp => c.blks p (List.mem_append_left _ (List.mem_cons_of_mem _ (List.mem_append_left _ hp)))) (web_nd1 c) (Below.refl _ W)))
  simpa using this
theorem clear_turn2 {C : Ctx} {H : Hp} {z : YW} {W : World} {ck : Nat} (c : Core C H (webH z) [] W) :
    Core C H (webH ⟨z.p, z.b1, z.b2, z.T, z.e1, []⟩) [] { W with heap := W.heap.setIfInBounds z.b2 (.map #[] ck) } := by
  have c := (List.append_nil (webH z)).symm ▸ c
  have := web_turn2 c (tie_clear (ck := ck) (core_stay c.ag (fun p hp => c.blks p (List.mem_append_left _ (List.mem_cons_of_mem _ (List.mem_append_right _ hp)))) (web_nd2 c) (Below.refl _ W)))
  simpa using this
set_option maxRecDepth 100000 in
set_option maxHeartbeats 4000000 in
theorem Clear_calls (H : Hp) (w : World) (hA : Ag H w) (z : YW) (hs : ∀ p ∈ webH z, BlkOK H w p) (nd : (claims (webH z) []).Nodup) :
    Calls Try.prog 21 #[.pointer (some ⟨z.p, 0, none⟩)] w fun e w' => e = .returned (.tuple #[]) ∧ Core ⟨H, w, claims (webH z) []⟩ H (webH ⟨z.p, z.b1, z.b2, z.T, [], []⟩) [] w' := by
  have c1 : Core ⟨H, w, claims (webH z) []⟩ H (webH z) [] w := core_stay hA hs nd (Below.refl _ w)
  obtain ⟨m0, m1⟩ := web_box (z := z) (fun p hp => c1.blks p hp)
  obtain ⟨ck, hcl⟩ := run_clear (c1.blks (z.b1, .mp (tieM z.e1)) (by simp [webH, tieH]))
  have c2 := clear_turn1 (ck := ck) c1
  obtain ⟨W2, hW2⟩ : ∃ W2, W2 = ({ w with heap := w.heap.setIfInBounds z.b1 (.map #[] ck) } : World) := ⟨_, rfl⟩
  rw [← hW2] at c2
  rw [← hW2] at hcl
  obtain ⟨n0, n1⟩ := web_box (z := ⟨z.p, z.b1, z.b2, z.T, [], z.e2⟩) (fun p hp => c2.blks p hp)
  obtain ⟨ck2, hcl2⟩ := run_clear (c2.blks (z.b2, .mp (tieM z.e2)) (by simp [webH, tieH]))
  have c3 := clear_turn2 (z := ⟨z.p, z.b1, z.b2, z.T, [], z.e2⟩) (ck := ck2) c2
  obtain ⟨W3, hW3⟩ : ∃ W3, W3 = ({ W2 with heap := W2.heap.setIfInBounds z.b2 (.map #[] ck2) } : World) := ⟨_, rfl⟩
  rw [← hW3] at c3
  rw [← hW3] at hcl2
  clear hW2 hW3
  go_enter Try.func21, Try.ntmps21
  go_wp2
  go_end0
  exact ⟨rfl, c3⟩
end Go.Proofs.Ytpdekcfeecdlbaa.Ab
namespace Go.Proofs.Ytpdekcfeecdlbaa.Ab
open Go
set_option linter.all false
noncomputable def r26_Clean (a0 : TApiKey) : Option (TApiKey) :=
  (bif (decide (a0.gNode < (0 : Int))) then some (⟨a0.gName, (-1 : Int)⟩ : TApiKey) else some a0)
set_option maxRecDepth 100000 in
set_option maxHeartbeats 2000000 in
theorem r26_Clean_ok (a0 : TApiKey) (r : TApiKey) (h0 : r26_Clean a0 = some r) : CallsD Try.prog 30 [eTApiKey a0] [] [] (fun d h k => d = eTApiKey r ∧ h = [] ∧ k = []) := by
  have hm := yes_of h0
  unfold r26_Clean at hm
  clear h0
  refine enterX htab Try.func30 rfl rfl rfl rfl rfl (fun C => ?_)
  refine wpD_sr ?_
  refine p_box rfl rfl rfl rfl rfl rfl rfl (fun b1 => ?_)
  refine p_alloc htab rfl rfl rfl rfl rfl rfl rfl (fun b2 => ?_)
  refine ops_nt ?_
  refine wpD_seq ?_
  refine wpD_sr ?_
  refine pu ?_
  refine pL 0 ?_
  refine pu ?_
  refine ops_nt ?_
  refine wpD_cond rfl (fun hc3 => ?_) (fun hc3 => ?_)
  ·replace hm := yes_t hc3 hm
   refine wpD_sr ?_
   refine pu ?_
   refine pL 0 ?_
   refine p_build (r := [.v (.string a0.gName), .v (.int .i64 (-1 : Int))]) htab rfl rfl rfl rfl rfl rfl rfl rfl rfl ?_
   refine pS1 (ds' := [.v (.string a0.gName), .v (.int .i64 (-1 : Int))]) ?_
   refine ops_nt ?_
   refine wpD_ret ?_
   refine then_ret ?_
   have er4 := yes_eq hm; subst er4
   refine rP (t' := [(2, .ptr b2 0)]) [1] [] 0 (wC wN) (lC 0 lN) ?_
   exact ⟨rfl, rfl, rfl⟩
  ·replace hm := yes_f hc3 hm
   refine wpD_skip ?_
   refine then_normal ?_
   refine wpD_sr ?_
   refine p_load (d := eTApiKey a0) 0 htab rfl rfl rfl rfl rfl rfl rfl rfl ?_
   refine pS1 (ds' := [.v (.string a0.gName), .v (.int .i64 a0.gNode)]) ?_
   refine ops_nt ?_
   refine wpD_ret ?_
   have er5 := yes_eq hm; subst er5
   refine rP (t' := [(2, .ptr b2 0)]) [1] [] 0 (wC wN) (lC 0 lN) ?_
   exact ⟨rfl, rfl, rfl⟩
structure TSondageref29Pair where
  gX : TApiKey
  gY : TApiKey
def eTSondageref29Pair (x : TSondageref29Pair) : D := .agg [.v (.string x.gX.gName), .v (.int .i64 x.gX.gNode), .v (.string x.gY.gName), .v (.int .i64 x.gY.gNode)]
noncomputable def r29_Add (a0 : List TSondageref29Pair) (a1 : TApiKey) (a2 : TApiKey) : Option (List TSondageref29Pair) :=
  ((r26_Clean a1).bind fun x3 => ((r26_Clean a2).bind fun x4 => (Option.bind (α := List TSondageref29Pair) (loopM (fun (s27 : List TSondageref29Pair × Int) => (bif (decide (s27.2 < (a0.length : Int))) then ((idx a0 s27.2).bind fun x42 => (bif (!((decide (x42.gX.gName = x3.gName) && (x42.gX.gNode == x3.gNode && true)) && ((decide (x42.gY.gName = x4.gName) && (x42.gY.gNode == x4.gNode && true)) && true))) then ((idx a0 s27.2).bind fun x44 => ((app 48 s27.1 ([x44] : List TSondageref29Pair)).bind fun x45 => some (.next (x45, (IntKind.i64.wrap (s27.2 + (1 : Int))))))) else some (.next (s27.1, (IntKind.i64.wrap (s27.2 + (1 : Int))))))) else some (.done s27.1))) (([] : List TSondageref29Pair), (0 : Int))) fun y26 => ((app 48 y26 ([(⟨x3, x4⟩ : TSondageref29Pair)] : List TSondageref29Pair)).bind fun x46 => some x46))))
set_option maxRecDepth 100000 in
set_option maxHeartbeats 2000000 in
theorem r29_Add_ok (a0 : List TSondageref29Pair) (a1 : TApiKey) (a2 : TApiKey) (r : List TSondageref29Pair) (h0 : r29_Add a0 a1 a2 = some r) : CallsD Try.prog 23 [.lst 4 (a0.map eTSondageref29Pair) .no, eTApiKey a1, eTApiKey a2] [] [] (fun d h k => ∃ y0, d = .lst 4 (r.map eTSondageref29Pair) (.cur y0) ∧ h = [] ∧ k = [(4, y0)]) := by
  have hm := yes_of h0
  unfold r29_Add at hm
  clear h0
  refine enterX htab Try.func23 rfl rfl rfl rfl rfl (fun C => ?_)
  refine wpD_sr ?_
  refine p_box rfl rfl rfl rfl rfl rfl rfl (fun b1 => ?_)
  refine p_box rfl rfl rfl rfl rfl rfl rfl (fun b2 => ?_)
  refine pu ?_
  refine ops_nt ?_
  refine wpD_seq ?_
  obtain ⟨x3, q3, hm⟩ := yes_bind hm
  obtain ⟨x4, q4, hm⟩ := yes_bind hm
  refine wpD_draws 6 [(5, [.v (.string ByteArray.empty), .v (.int .i64 (0 : Int)), .v (.string ByteArray.empty), .v (.int .i64 (0 : Int))], 52)] [[],[0],[],[0,1,2],[0,1,2,3],[]] [0,1,2,3,4,5] [[],[0],[],[0,1,2],[0,1,2,3],[],[0,1,2,3,4,5]] (by kernel_rfl) (by kernel_rfl) (by kernel_rfl) (by rfl) (by rfl) (by kernel_rfl) ?_
  iterate 5 apply Exists.intro
  refine ⟨.any, ?_⟩
  intro bs
  refine z_eM rfl rfl (xm_load (d := eTApiKey a1) 0 htab rfl rfl rfl rfl rfl) rfl rfl rfl rfl rfl rfl ?_
  refine z_call rfl rfl (r26_Clean_ok a1 x3 q3) rfl rfl Wl rfl rfl rfl rfl rfl rfl ?_
  refine z_eM rfl rfl (xm_load (d := eTApiKey a2) 1 htab rfl rfl rfl rfl rfl) rfl rfl rfl rfl rfl rfl ?_
  refine z_call rfl rfl (r26_Clean_ok a2 x4 q4) rfl rfl Wl rfl rfl rfl rfl rfl rfl ?_
  refine z_e rfl rfl (x_build (r := [.v (.string x3.gName), .v (.int .i64 x3.gNode), .v (.string x4.gName), .v (.int .i64 x4.gNode)]) htab rfl rfl rfl rfl rfl rfl) rfl rfl rfl rfl rfl rfl ?_
  refine z_alloc rfl htab rfl rfl rfl rfl rfl rfl rfl rfl (by simp [dOf, eI64]) (by simp) ?_
  refine z_nil rfl (by simp only [List.map_cons, List.map_nil]; exact rfl) (fun e he => by simp [isAl] at he; subst he; rfl) ?_
  obtain ⟨b5, hb5⟩ : ∃ b, bs 5 = b := ⟨_, rfl⟩
  simp only [hb5]
  clear hb5
  refine pS2 (ds' := [.v (.string x3.gName), .v (.int .i64 x3.gNode), .v (.string x4.gName), .v (.int .i64 x4.gNode)]) ?_
  refine ops_n2 ?_
  refine pu ?_
  refine ops_nt ?_
  refine wpD_seq ?_
  refine wpD_sr ?_
  refine pu ?_
  refine ops_nt ?_
  obtain ⟨y26, q26, ho26⟩ := yes_bind hm
  refine wpD_mid (Y := Value) (fun z26 => (⟨[(7, .ptr b5 0), (8, .lst 4 (y26.map eTSondageref29Pair) (.cur z26))], [(b5, Blk.cells [.v (.string x3.gName), .v (.int .i64 x3.gNode), .v (.string x4.gName), .v (.int .i64 x4.gNode)] 52)], [(4, z26)]⟩ : S)) ?_ ?_
  ·clear hm; have hm := yes_of q26
   refine wpD_block ?_
   obtain ⟨u27, hl27, hq27⟩ := yes_m hm
   refine loop_M (Y := Value) hl27 (fun s27 z27 => (⟨[(0, .lst 4 (a0.map eTSondageref29Pair) .no), (7, .ptr b5 0), (8, .lst 4 (s27.1.map eTSondageref29Pair) (.cur z27)), (9, .v (.int .i64 s27.2))], [(b5, Blk.cells [.v (.string x3.gName), .v (.int .i64 x3.gNode), .v (.string x4.gName), .v (.int .i64 x4.gNode)] 52)], [(4, z27)]⟩ : S)) ?_ ?_
   ·skip
    refine WkX.tokN (i := 8) 4 rfl (fun w40 => ?_)
    exact WkX.of w40 (WkS.perm (WkS.cons rfl (Wk.refl _) (WkS.cons rfl (Wk.refl _) (WkS.cons rfl (Wk.refl _) (WkS.cons rfl (Wk.refl _) (WkS.nil))))) ((perm_at (j := 2) rfl).trans (List.Perm.cons _ Pf)) Pf)
   ·intro G27 s27 z27 hm
    refine wpD_seq ?_
    refine wpD_sr ?_
    refine pu ?_
    refine pu ?_
    refine p_lenL htab rfl rfl rfl rfl rfl rfl rfl (by first | exact map_len | rfl) ?_
    refine pu ?_
    refine ops_nt ?_
    refine wpD_cond rfl (fun hc41 => ?_) (fun hc41 => ?_)
    ·replace hm := yes_t hc41 hm
     refine wpD_skip ?_
     refine then_normal ?_
     refine wpD_seq ?_
     refine wpD_block ?_
     refine wpD_seq ?_
     obtain ⟨x42, q42, hm⟩ := yes_bind hm
     refine wpD_draws 5 [] [[],[],[0],[0,2],[]] [0,2,3,4] [[],[],[0,1],[0,1,2],[],[0,1,2,3,4]] (by kernel_rfl) (by kernel_rfl) (by kernel_rfl) (by rfl) (by rfl) (by kernel_rfl) ?_
     iterate 4 apply Exists.intro
     intro bs
     refine zep ?_
     refine zqp ?_
     refine z_e rfl rfl (x_elem htab rfl rfl rfl rfl rfl rfl rfl (idx_nonneg q42) (idx_map q42)) rfl rfl rfl rfl rfl rfl ?_
     refine z_eM rfl rfl (xm_loadEl (d := eTSondageref29Pair x42) htab rfl rfl rfl rfl rfl) rfl rfl rfl rfl rfl rfl ?_
     refine z_eM rfl rfl (xm_load (d := eTSondageref29Pair (⟨x3, x4⟩ : TSondageref29Pair)) 0 htab rfl rfl rfl rfl rfl) rfl rfl rfl rfl rfl rfl ?_
     refine z_nil rfl rfl (fun e he => by simp [isAl] at he) ?_
     refine p_eqC eqn52 htab rfl rfl rfl rfl rfl eqs52 eqg52 rfl rfl rfl rfl ?_
     refine ops_nt ?_
     refine wpD_cond rfl (fun hc43 => ?_) (fun hc43 => ?_)
     ·replace hm := yes_t hc43 hm
      refine wpD_region ?_
      iterate 3 refine pu ?_
      obtain ⟨x44, q44, hm⟩ := yes_bind hm
      refine p_elem htab rfl rfl rfl rfl rfl rfl rfl rfl rfl rfl (idx_nonneg q44) (idx_map q44) ?_
      refine p_loadEl (d := eTSondageref29Pair x44) htab rfl rfl rfl rfl rfl rfl rfl rfl ?_
      refine p_lit htab rfl rfl rfl rfl rfl rfl rfl rfl rfl rfl rfl rfl rfl rfl ?_
      refine p_eq (i := 32) (d' := .lst 4 (([x44] : List TSondageref29Pair).map eTSondageref29Pair) .full) rfl (Wk.lst0 (.cons (WkC.refl _) (.nil))) ?_
      obtain ⟨x45, q45, hm⟩ := yes_bind hm
      refine p_appC 0 htab rfl rfl rfl rfl rfl rfl rfl rfl rfl rfl rfl rfl rfl rfl rfl rfl rfl (app_bound q45) (fun v45 => ?_)
      refine p_mapD (i := 33) q45 rfl ?_
      refine pu ?_
      refine ops_nil ?_
      refine block_normal ?_
      refine then_normal ?_
      refine wpD_region ?_
      iterate 3 refine pu ?_
      refine ops_nil ?_
      refine then_normal ⟨_, lp_next hm, ?_⟩
      exact WkX.of v45 (WkS.perm (WkS.cons rfl (Wk.refl _) (WkS.cons rfl (Wk.refl _) (WkS.cons rfl (Wk.refl _) (WkS.cons rfl (Wk.refl _) (WkS.nil))))) Pf Pf)
     ·replace hm := yes_f hc43 hm
      refine wpD_skip ?_
      refine block_normal ?_
      refine then_normal ?_
      refine wpD_region ?_
      iterate 3 refine pu ?_
      refine ops_nil ?_
      refine then_normal ⟨_, lp_next hm, ?_⟩
      exact WkX.of z27 (WkS.perm (WkS.cons rfl (Wk.refl _) (WkS.cons rfl (Wk.refl _) (WkS.cons rfl (Wk.refl _) (WkS.cons rfl (Wk.refl _) (WkS.nil))))) Pf Pf)
    ·replace hm := yes_f hc41 hm
     refine wpD_exit ?_
     refine then_exit ?_
     have e27 := lp_done hm; subst e27; clear hm; have hm := hq27
     refine then_exit ?_
     refine block_hit ?_
     have e26 := yes_eq hm; subst e26
     refine ⟨rfl, ?_⟩
     exact WkX.of z27 (WkS.perm (WkS.cons rfl (Wk.refl _) (WkS.cons rfl (Wk.refl _) (WkS.nil))) Pf Pf)
  ·intro s26 hw26; clear hm; have hm := ho26; clear q26 ho26
   refine then_normal ?_
   refine wpD_wkX hw26 (fun z26 => ?_)
   refine wpD_sr ?_
   refine pu ?_
   refine p_load (d := eTSondageref29Pair (⟨x3, x4⟩ : TSondageref29Pair)) 0 htab rfl rfl rfl rfl rfl rfl rfl rfl ?_
   refine p_lit htab rfl rfl rfl rfl rfl rfl rfl rfl rfl rfl rfl rfl rfl rfl ?_
   refine p_eq (i := 36) (d' := .lst 4 (([(⟨x3, x4⟩ : TSondageref29Pair)] : List TSondageref29Pair).map eTSondageref29Pair) .full) rfl (Wk.lst0 (.cons (WkC.refl _) (.nil))) ?_
   obtain ⟨x46, q46, hm⟩ := yes_bind hm
   refine p_appC 0 htab rfl rfl rfl rfl rfl rfl rfl rfl rfl rfl rfl rfl rfl rfl rfl rfl rfl (app_bound q46) (fun v46 => ?_)
   refine p_mapD (i := 37) q46 rfl ?_
   refine pu ?_
   refine ops_nt ?_
   refine wpD_ret ?_
   have er47 := yes_eq hm; subst er47
   refine rP (t' := [(6, .lst 4 (x46.map eTSondageref29Pair) (.cur v46))]) [] [0] 0 (wC wN) (lT lN) ?_
   exact ⟨v46, rfl, rfl, rfl⟩
abbrev nlWb3_1 : List (List Nat) := [[],[],[0],[0,2],[0,2,3],[],[5],[0,2,3,4,5,6],[0,2,3,4,5,6],[0,2,3,4,5,6],[0,2,3,4,5,6],[0,2,3,4,5,6,9],[0,2,3,4,5,6,9,11],[0,2,3,4,5,6,9,11,12],[0,2,3,4,5,6],[0,2,3,4,5,6,14]]
abbrev nlWb3_2 : List (List Nat) := [[],[],[0,1],[0,1,2],[0,1,2,3],[],[5],[0,1,2,3,4,5,6],[0,1,2,3,4,5,6,7],[0,1,2,3,4,5,6,7,8],[0,1,2,3,4,5,6,7,8],[0,1,2,3,4,5,6,7,8,9,10],[0,1,2,3,4,5,6,7,8,9,10,11],[0,1,2,3,4,5,6,7,8,9,10,11,12],[0,1,2,3,4,5,6,7,8],[0,1,2,3,4,5,6,7,8,14],[0,1,2,3,4,5,6,7,8,9,10,11,12,13,14,15],[0,1,2,3,4,5,6,7,8,9,10,11,12,13,14,15,16]]
noncomputable def r29_Drop (a0 : List TSondageref29Pair) (a1 : TApiKey) : Option (List TSondageref29Pair) :=
  (Option.bind (α := List TSondageref29Pair) (loopM (fun (s53 : List TSondageref29Pair × Int) => (bif (decide (s53.2 < (a0.length : Int))) then (Option.bind (α := Bool) ((idx a0 s53.2).bind fun x94 => ((r26_Clean a1).bind fun x95 => (bif (!(decide (x94.gX.gName = x95.gName) && (x94.gX.gNode == x95.gNode && true))) then ((idx a0 s53.2).bind fun x97 => ((r26_Clean a1).bind fun x98 => some (!(decide (x97.gY.gName = x98.gName) && (x97.gY.gNode == x98.gNode && true))))) else some false))) fun y93 => (bif y93 then ((idx a0 s53.2).bind fun x100 => ((app 48 s53.1 ([x100] : List TSondageref29Pair)).bind fun x101 => some (.next (x101, (IntKind.i64.wrap (s53.2 + (1 : Int))))))) else some (.next (s53.1, (IntKind.i64.wrap (s53.2 + (1 : Int))))))) else some (.done s53.1))) (([] : List TSondageref29Pair), (0 : Int))) fun y52 => some y52)
set_option maxRecDepth 100000 in
set_option maxHeartbeats 2000000 in
theorem r29_Drop_ok (a0 : List TSondageref29Pair) (a1 : TApiKey) (r : List TSondageref29Pair) (h0 : r29_Drop a0 a1 = some r) : CallsD Try.prog 24 [.lst 4 (a0.map eTSondageref29Pair) .no, eTApiKey a1] [] [] (fun d h k => ∃ y0, d = .lst 4 (r.map eTSondageref29Pair) (.cur y0) ∧ h = [] ∧ k = [(4, y0)]) := by
  have hm := yes_of h0
  unfold r29_Drop at hm
  clear h0
  refine enterX htab Try.func24 rfl rfl rfl rfl rfl (fun C => ?_)
  refine wpD_sr ?_
  refine p_box rfl rfl rfl rfl rfl rfl rfl (fun b1 => ?_)
  refine pu ?_
  refine ops_n2 ?_
  refine pu ?_
  refine ops_nt ?_
  refine wpD_seq ?_
  refine wpD_sr ?_
  refine pu ?_
  refine ops_nt ?_
  obtain ⟨y52, q52, ho52⟩ := yes_bind hm
  refine wpD_mid (Y := Value) (fun z52 => (⟨[(5, .lst 4 (y52.map eTSondageref29Pair) (.cur z52))], [], [(4, z52)]⟩ : S)) ?_ ?_
  ·clear hm; have hm := yes_of q52
   refine wpD_block ?_
   obtain ⟨u53, hl53, hq53⟩ := yes_m hm
   refine loop_M (Y := Value) hl53 (fun s53 z53 => (⟨[(0, .lst 4 (a0.map eTSondageref29Pair) .no), (3, .ptr b1 0), (5, .lst 4 (s53.1.map eTSondageref29Pair) (.cur z53)), (6, .v (.int .i64 s53.2))], [(b1, Blk.cells [.v (.string a1.gName), .v (.int .i64 a1.gNode)] 34)], [(4, z53)]⟩ : S)) ?_ ?_
   ·skip
    refine WkX.tokN (i := 5) 4 rfl (fun w86 => ?_)
    exact WkX.of w86 (WkS.perm (WkS.cons rfl (Wk.refl _) (WkS.cons rfl (Wk.refl _) (WkS.cons rfl (Wk.refl _) (WkS.cons rfl (Wk.refl _) (WkS.nil))))) Pf Pf)
   ·intro G53 s53 z53 hm
    refine wpD_seq ?_
    refine wpD_sr ?_
    refine pu ?_
    refine pu ?_
    refine p_lenL htab rfl rfl rfl rfl rfl rfl rfl (by first | exact map_len | rfl) ?_
    refine pu ?_
    refine ops_nt ?_
    refine wpD_cond rfl (fun hc87 => ?_) (fun hc87 => ?_)
    ·replace hm := yes_t hc87 hm
     refine wpD_skip ?_
     refine then_normal ?_
     refine wpD_seq ?_
     refine wpD_block ?_
     refine wpD_seq ?_
     obtain ⟨y93, q93, ho93⟩ := yes_bind hm
     refine wpD_mid (Y := Unit) (fun z93 => (⟨[(0, .lst 4 (a0.map eTSondageref29Pair) .no), (3, .ptr b1 0), (5, .lst 4 (s53.1.map eTSondageref29Pair) (.cur z53)), (6, .v (.int .i64 s53.2)), (30, .v (.bool y93))], [(b1, Blk.cells [.v (.string a1.gName), .v (.int .i64 a1.gNode)] 34)], [(4, z53)]⟩ : S)) ?_ ?_
     ·clear hm; have hm := yes_of q93
      obtain ⟨x94, q94, hm⟩ := yes_bind hm
      obtain ⟨x95, q95, hm⟩ := yes_bind hm
      refine bycB (!(decide (x94.gX.gName = x95.gName) && (x94.gX.gNode == x95.gNode && true))) (fun hs96 => ?_) (fun hs96 => ?_)
      ·replace hm := yes_t hs96 hm
       obtain ⟨x97, q97, hm⟩ := yes_bind hm
       obtain ⟨x98, q98, hm⟩ := yes_bind hm
       refine wpD_draws 16 [] nlWb3_1 [0,2,3,4,5,6,9,11,12,13,14,15] nlWb3_2 (by kernel_rfl) (by kernel_rfl) (by kernel_rfl) (by rfl) (by rfl) (by kernel_rfl) ?_
       iterate 12 apply Exists.intro
       intro bs
       refine zep ?_
       refine zqp ?_
       refine z_e rfl rfl (x_elem htab rfl rfl rfl rfl rfl rfl rfl (idx_nonneg q94) (idx_map q94)) rfl rfl rfl rfl rfl rfl ?_
       refine zep ?_
       refine z_eM rfl rfl (xm_loadEl (d := eTApiKey x94.gX) htab rfl rfl rfl rfl rfl) rfl rfl rfl rfl rfl rfl ?_
       refine z_eM rfl rfl (xm_load (d := eTApiKey a1) 0 htab rfl rfl rfl rfl rfl) rfl rfl rfl rfl rfl rfl ?_
       refine z_call rfl rfl (r26_Clean_ok a1 x95 q95) rfl rfl Wl rfl rfl rfl rfl rfl rfl ?_
       refine z_q rfl rfl (x_eqS htab rfl rfl eqt34 rfl rfl rfl rfl rfl) rfl rfl rfl rfl rfl rfl ?_
       refine zqp ?_
       refine z_known (j := 21) (b' := true) rfl hs96 ?_
       refine zep ?_
       refine zqp ?_
       refine z_e rfl rfl (x_elem htab rfl rfl rfl rfl rfl rfl rfl (idx_nonneg q97) (idx_map q97)) rfl rfl rfl rfl rfl rfl ?_
       refine zep ?_
       refine z_eM rfl rfl (xm_loadEl (d := eTApiKey x97.gY) htab rfl rfl rfl rfl rfl) rfl rfl rfl rfl rfl rfl ?_
       refine z_eM rfl rfl (xm_load (d := eTApiKey a1) 0 htab rfl rfl rfl rfl rfl) rfl rfl rfl rfl rfl rfl ?_
       refine z_call rfl rfl (r26_Clean_ok a1 x98 q98) rfl rfl Wl rfl rfl rfl rfl rfl rfl ?_
       refine z_nil rfl rfl (fun e he => by simp [isAl] at he) ?_
       refine p_eqS htab rfl rfl rfl rfl rfl eqt34 rfl rfl rfl rfl rfl ?_
       refine p_pickT rfl rfl rfl rfl rfl rfl ?_
       refine ops_nil ?_
       have e93 := yes_eq hm; subst e93
       refine ⟨rfl, ?_⟩
       exact WkX.of () (WkS.perm (WkS.cons rfl (Wk.refl _) (WkS.cons rfl (Wk.refl _) (WkS.cons rfl (Wk.refl _) (WkS.cons rfl (Wk.refl _) (WkS.cons rfl (Wk.refl _) (WkS.nil)))))) Pf Pf)
      ·replace hm := yes_f hs96 hm
       refine wpD_draws 16 [] [[],[],[0],[0,2],[0,2,3],[],[5],[0,2,3,4,5,6],[0,2,3,4,5,6],[0,2,3,4,5,6],[0,2,3,4,5,6],[0,2,3,4,5,6],[0,2,3,4,5,6],[0,2,3,4,5,6],[0,2,3,4,5,6],[0,2,3,4,5,6]] [0,2,3,4,5,6] nlWb3_2 (by kernel_rfl) (by kernel_rfl) (by kernel_rfl) (by rfl) (by rfl) (by kernel_rfl) ?_
       iterate 6 apply Exists.intro
       intro bs
       refine zep ?_
       refine zqp ?_
       refine z_e rfl rfl (x_elem htab rfl rfl rfl rfl rfl rfl rfl (idx_nonneg q94) (idx_map q94)) rfl rfl rfl rfl rfl rfl ?_
       refine zep ?_
       refine z_eM rfl rfl (xm_loadEl (d := eTApiKey x94.gX) htab rfl rfl rfl rfl rfl) rfl rfl rfl rfl rfl rfl ?_
       refine z_eM rfl rfl (xm_load (d := eTApiKey a1) 0 htab rfl rfl rfl rfl rfl) rfl rfl rfl rfl rfl rfl ?_
       refine z_call rfl rfl (r26_Clean_ok a1 x95 q95) rfl rfl Wl rfl rfl rfl rfl rfl rfl ?_
       refine z_q rfl rfl (x_eqS htab rfl rfl eqt34 rfl rfl rfl rfl rfl) rfl rfl rfl rfl rfl rfl ?_
       refine zqp ?_
       refine z_known (j := 21) (b' := false) rfl hs96 ?_
       iterate 7 refine zK ?_
       refine z_nil rfl rfl (fun e he => by simp [isAl] at he) ?_
       refine pK ?_
       refine p_pickF rfl rfl rfl rfl rfl rfl ?_
       refine ops_nil ?_
       have e93 := yes_eq hm; subst e93
       refine ⟨rfl, ?_⟩
       exact WkX.of () (WkS.perm (WkS.cons rfl (Wk.refl _) (WkS.cons rfl (Wk.refl _) (WkS.cons rfl (Wk.refl _) (WkS.cons rfl (Wk.refl _) (WkS.cons rfl (Wk.refl _) (WkS.nil)))))) Pf Pf)
     ·intro s93 hw93; clear hm; have hm := ho93; clear q93 ho93
      refine then_normal ?_
      refine wpD_wkX hw93 (fun z93 => ?_)
      refine wpD_cond rfl (fun hc99 => ?_) (fun hc99 => ?_)
      ·replace hm := yes_t hc99 hm
       refine wpD_region ?_
       iterate 3 refine pu ?_
       obtain ⟨x100, q100, hm⟩ := yes_bind hm
       refine p_elem htab rfl rfl rfl rfl rfl rfl rfl rfl rfl rfl (idx_nonneg q100) (idx_map q100) ?_
       refine p_loadEl (d := eTSondageref29Pair x100) htab rfl rfl rfl rfl rfl rfl rfl rfl ?_
       refine p_lit htab rfl rfl rfl rfl rfl rfl rfl rfl rfl rfl rfl rfl rfl rfl ?_
       refine p_eq (i := 36) (d' := .lst 4 (([x100] : List TSondageref29Pair).map eTSondageref29Pair) .full) rfl (Wk.lst0 (.cons (WkC.refl _) (.nil))) ?_
       obtain ⟨x101, q101, hm⟩ := yes_bind hm
       refine p_appC 0 htab rfl rfl rfl rfl rfl rfl rfl rfl rfl rfl rfl rfl rfl rfl rfl rfl rfl (app_bound q101) (fun v101 => ?_)
       refine p_mapD (i := 37) q101 rfl ?_
       refine pu ?_
       refine ops_nil ?_
       refine block_normal ?_
       refine then_normal ?_
       refine wpD_region ?_
       iterate 3 refine pu ?_
       refine ops_nil ?_
       refine then_normal ⟨_, lp_next hm, ?_⟩
       exact WkX.of v101 (WkS.perm (WkS.cons rfl (Wk.refl _) (WkS.cons rfl (Wk.refl _) (WkS.cons rfl (Wk.refl _) (WkS.cons rfl (Wk.refl _) (WkS.nil))))) Pf Pf)
      ·replace hm := yes_f hc99 hm
       refine wpD_skip ?_
       refine block_normal ?_
       refine then_normal ?_
       refine wpD_region ?_
       iterate 3 refine pu ?_
       refine ops_nil ?_
       refine then_normal ⟨_, lp_next hm, ?_⟩
       exact WkX.of z53 (WkS.perm (WkS.cons rfl (Wk.refl _) (WkS.cons rfl (Wk.refl _) (WkS.cons rfl (Wk.refl _) (WkS.cons rfl (Wk.refl _) (WkS.nil))))) Pf Pf)
    ·replace hm := yes_f hc87 hm
     refine wpD_exit ?_
     refine then_exit ?_
     have e53 := lp_done hm; subst e53; clear hm; have hm := hq53
     refine then_exit ?_
     refine block_hit ?_
     have e52 := yes_eq hm; subst e52
     refine ⟨rfl, ?_⟩
     exact WkX.of z53 (WkS.perm (WkS.cons rfl (Wk.refl _) (WkS.nil)) Pf Pf)
  ·intro s52 hw52; clear hm; have hm := ho52; clear q52 ho52
   refine then_normal ?_
   refine wpD_wkX hw52 (fun z52 => ?_)
   refine wpD_sr ?_
   refine pu ?_
   refine pu ?_
   refine ops_nt ?_
   refine wpD_ret ?_
   have er102 := yes_eq hm; subst er102
   refine rP (t' := [(4, .lst 4 (y52.map eTSondageref29Pair) (.cur z52))]) [] [0] 0 (wC wN) (lT lN) ?_
   exact ⟨z52, rfl, rfl, rfl⟩
noncomputable def r26_Less (a0 : TApiKey) (a1 : TApiKey) : Option (Bool) :=
  (bif (!decide (a0.gName = a1.gName)) then some (ltB a0.gName a1.gName) else some (decide (a0.gNode < a1.gNode)))
set_option maxRecDepth 100000 in
set_option maxHeartbeats 2000000 in
theorem r26_Less_ok (a0 : TApiKey) (a1 : TApiKey) (r : Bool) (h0 : r26_Less a0 a1 = some r) : CallsD Try.prog 38 [eTApiKey a0, eTApiKey a1] [] [] (fun d h k => d = .v (.bool r) ∧ h = [] ∧ k = []) := by
  have hm := yes_of h0
  unfold r26_Less at hm
  clear h0
  refine enterX htab Try.func38 rfl rfl rfl rfl rfl (fun C => ?_)
  refine wpD_sr ?_
  refine p_box rfl rfl rfl rfl rfl rfl rfl (fun b1 => ?_)
  refine p_box rfl rfl rfl rfl rfl rfl rfl (fun b2 => ?_)
  refine pu ?_
  refine ops_nt ?_
  refine wpD_seq ?_
  refine wpD_sr ?_
  refine pu ?_
  refine pL 0 ?_
  refine pu ?_
  refine pL 1 ?_
  refine pu ?_
  refine ops_nt ?_
  refine wpD_cond rfl (fun hc4 => ?_) (fun hc4 => ?_)
  ·replace hm := yes_t hc4 hm
   refine wpD_sr ?_
   refine pu ?_
   refine pL 0 ?_
   refine pu ?_
   refine pL 1 ?_
   refine p_ltS rfl rfl rfl rfl rfl rfl rfl ?_
   refine pu ?_
   refine ops_nt ?_
   refine wpD_ret ?_
   refine then_ret ?_
   have er5 := yes_eq hm; subst er5
   refine rP (t' := [(4, .v (.bool (ltB a0.gName a1.gName)))]) [] [] 0 (wC wN) (lT lN) ?_
   exact ⟨rfl, rfl, rfl⟩
  ·replace hm := yes_f hc4 hm
   refine wpD_skip ?_
   refine then_normal ?_
   refine wpD_sr ?_
   refine pu ?_
   refine pL 0 ?_
   refine pu ?_
   refine pL 1 ?_
   refine pu ?_
   refine pu ?_
   refine ops_nt ?_
   refine wpD_ret ?_
   have er6 := yes_eq hm; subst er6
   refine rP (t' := [(4, .v (.bool (decide (a0.gNode < a1.gNode))))]) [] [] 0 (wC wN) (lT lN) ?_
   exact ⟨rfl, rfl, rfl⟩
noncomputable def r26_Put (a0 : List TApiKey) (a1 : TApiKey) : Option (List TApiKey) :=
  ((r26_Clean a1).bind fun x2 => (Option.bind (α := List TApiKey) (loopM (fun (s39 : List TApiKey × Int) => (Option.bind (α := Bool) (bif (decide (s39.2 < (a0.length : Int))) then ((idx a0 s39.2).bind fun x68 => ((r26_Less x68 x2).bind fun x69 => some x69)) else some false) fun y66 => (bif y66 then ((idx a0 s39.2).bind fun x71 => ((app 24 s39.1 ([x71] : List TApiKey)).bind fun x72 => some (.next (x72, (IntKind.i64.wrap (s39.2 + (1 : Int))))))) else some (.done s39.1)))) (([] : List TApiKey), (0 : Int))) fun y38 => ((app 24 y38 ([x2] : List TApiKey)).bind fun x73 => (Option.bind (α := List TApiKey) (loopM (fun (s94 : List TApiKey × Int) => (bif (decide (s94.2 < (a0.length : Int))) then ((idx a0 s94.2).bind fun x108 => (bif (!(decide (x108.gName = x2.gName) && (x108.gNode == x2.gNode && true))) then ((idx a0 s94.2).bind fun x110 => ((app 24 s94.1 ([x110] : List TApiKey)).bind fun x111 => some (.next (x111, (IntKind.i64.wrap (s94.2 + (1 : Int))))))) else some (.next (s94.1, (IntKind.i64.wrap (s94.2 + (1 : Int))))))) else some (.done s94.1))) (x73, (y38.length : Int))) fun y93 => some y93))))
set_option maxRecDepth 100000 in
set_option maxHeartbeats 2000000 in
theorem r26_Put_ok (a0 : List TApiKey) (a1 : TApiKey) (r : List TApiKey) (h0 : r26_Put a0 a1 = some r) : CallsD Try.prog 27 [.lst 2 (a0.map eTApiKey) .no, eTApiKey a1] [] [] (fun d h k => ∃ y0, d = .lst 2 (r.map eTApiKey) (.cur y0) ∧ h = [] ∧ k = [(2, y0)]) := by
  have hm := yes_of h0
  unfold r26_Put at hm
  clear h0
  refine enterX htab Try.func27 rfl rfl rfl rfl rfl (fun C => ?_)
  refine wpD_sr ?_
  refine p_box rfl rfl rfl rfl rfl rfl rfl (fun b1 => ?_)
  refine pu ?_
  refine ops_n2 ?_
  refine p_load (d := eTApiKey a1) 0 htab rfl rfl rfl rfl rfl rfl rfl rfl ?_
  obtain ⟨x2, q2, hm⟩ := yes_bind hm
  refine p_call0 (r26_Clean_ok a1 x2 q2) rfl rfl rfl rfl rfl Wl ?_
  rintro _ rfl
  refine pS0 (ds' := [.v (.string x2.gName), .v (.int .i64 x2.gNode)]) ?_
  refine ops_n2 ?_
  refine pu ?_
  refine ops_nt ?_
  refine wpD_seq ?_
  refine wpD_sr ?_
  refine pu ?_
  refine ops_nt ?_
  obtain ⟨y38, q38, ho38⟩ := yes_bind hm
  refine wpD_mid (Y := Value) (fun z38 => (⟨[(0, .lst 2 (a0.map eTApiKey) .no), (3, .ptr b1 0), (5, .lst 2 (y38.map eTApiKey) (.cur z38))], [(b1, Blk.cells [.v (.string x2.gName), .v (.int .i64 x2.gNode)] 34)], [(2, z38)]⟩ : S)) ?_ ?_
  ·clear hm; have hm := yes_of q38
   refine wpD_block ?_
   obtain ⟨u39, hl39, hq39⟩ := yes_m hm
   refine loop_M (Y := Value) hl39 (fun s39 z39 => (⟨[(0, .lst 2 (a0.map eTApiKey) .no), (3, .ptr b1 0), (5, .lst 2 (s39.1.map eTApiKey) (.cur z39)), (6, .v (.int .i64 s39.2))], [(b1, Blk.cells [.v (.string x2.gName), .v (.int .i64 x2.gNode)] 34)], [(2, z39)]⟩ : S)) ?_ ?_
   ·skip
    refine WkX.tokN (i := 5) 2 rfl (fun w62 => ?_)
    exact WkX.of w62 (WkS.perm (WkS.cons rfl (Wk.refl _) (WkS.cons rfl (Wk.refl _) (WkS.cons rfl (Wk.refl _) (WkS.cons rfl (Wk.refl _) (WkS.nil))))) Pf Pf)
   ·intro G39 s39 z39 hm
    refine wpD_seq ?_
    refine wpD_seq ?_
    obtain ⟨y66, q66, ho66⟩ := yes_bind hm
    refine wpD_mid (Y := Unit) (fun z66 => (⟨[(0, .lst 2 (a0.map eTApiKey) .no), (3, .ptr b1 0), (5, .lst 2 (s39.1.map eTApiKey) (.cur z39)), (6, .v (.int .i64 s39.2)), (22, .v (.bool y66))], [(b1, Blk.cells [.v (.string x2.gName), .v (.int .i64 x2.gNode)] 34)], [(2, z39)]⟩ : S)) ?_ ?_
    ·clear hm; have hm := yes_of q66
     refine bycB (decide (s39.2 < (a0.length : Int))) (fun hs67 => ?_) (fun hs67 => ?_)
     ·replace hm := yes_t hs67 hm
      obtain ⟨x68, q68, hm⟩ := yes_bind hm
      refine wpD_draws 10 [] [[],[],[1],[1],[1],[1],[1],[1,5],[1,5,7],[1]] [1,5,7,8,9] [[],[],[1],[0,1,2],[0,1,2,3],[0,1,2,3,4],[0,1,2,3,4],[0,1,2,3,4,5,6],[0,1,2,3,4,5,6,7],[0,1,2,3,4],[0,1,2,3,4,5,6,7,8,9],[0,1,2,3,4,5,6,7,8,9,10]] (by kernel_rfl) (by kernel_rfl) (by kernel_rfl) (by rfl) (by rfl) (by kernel_rfl) ?_
      iterate 5 apply Exists.intro
      intro bs
      refine zqp ?_
      refine zep ?_
      refine z_q rfl rfl (x_lenL htab rfl rfl rfl rfl (by first | exact map_len | rfl)) rfl rfl rfl rfl rfl rfl ?_
      refine zqp ?_
      refine zqp ?_
      refine z_known (j := 15) (b' := true) rfl hs67 ?_
      refine zep ?_
      refine zqp ?_
      refine z_e rfl rfl (x_elem htab rfl rfl rfl rfl rfl rfl rfl (idx_nonneg q68) (idx_map q68)) rfl rfl rfl rfl rfl rfl ?_
      refine z_eM rfl rfl (xm_loadEl (d := eTApiKey x68) htab rfl rfl rfl rfl rfl) rfl rfl rfl rfl rfl rfl ?_
      refine z_eM rfl rfl (xm_load (d := eTApiKey x2) 0 htab rfl rfl rfl rfl rfl) rfl rfl rfl rfl rfl rfl ?_
      refine z_nil rfl rfl (fun e he => by simp [isAl] at he) ?_
      obtain ⟨x69, q69, hm⟩ := yes_bind hm
      refine p_call0 (r26_Less_ok x68 x2 x69 q69) rfl rfl rfl rfl rfl Wl ?_
      rintro _ rfl
      refine p_pickT rfl rfl rfl rfl rfl rfl ?_
      refine ops_nil ?_
      have e66 := yes_eq hm; subst e66
      refine ⟨rfl, ?_⟩
      exact WkX.of () (WkS.perm (WkS.cons rfl (Wk.refl _) (WkS.cons rfl (Wk.refl _) (WkS.cons rfl (Wk.refl _) (WkS.cons rfl (Wk.refl _) (WkS.cons rfl (Wk.refl _) (WkS.nil)))))) Pf Pf)
     ·replace hm := yes_f hs67 hm
      refine wpD_draws 10 [] [[],[],[1],[1],[1],[1],[1],[1],[1],[1]] [1] [[],[],[1],[0,1,2],[0,1,2,3],[0,1,2,3,4],[0,1,2,3,4],[0,1,2,3,4,5,6],[0,1,2,3,4,5,6,7],[0,1,2,3,4],[0,1,2,3,4,5,6,7,8,9],[0,1,2,3,4,5,6,7,8,9,10]] (by kernel_rfl) (by kernel_rfl) (by kernel_rfl) (by rfl) (by rfl) (by kernel_rfl) ?_
      apply Exists.intro
      intro bs
      refine zqp ?_
      refine zep ?_
      refine z_q rfl rfl (x_lenL htab rfl rfl rfl rfl (by first | exact map_len | rfl)) rfl rfl rfl rfl rfl rfl ?_
      refine zqp ?_
      refine zqp ?_
      refine z_known (j := 15) (b' := false) rfl hs67 ?_
      iterate 5 refine zK ?_
      refine z_nil rfl rfl (fun e he => by simp [isAl] at he) ?_
      refine pK ?_
      refine p_pickF rfl rfl rfl rfl rfl rfl ?_
      refine ops_nil ?_
      have e66 := yes_eq hm; subst e66
      refine ⟨rfl, ?_⟩
      exact WkX.of () (WkS.perm (WkS.cons rfl (Wk.refl _) (WkS.cons rfl (Wk.refl _) (WkS.cons rfl (Wk.refl _) (WkS.cons rfl (Wk.refl _) (WkS.cons rfl (Wk.refl _) (WkS.nil)))))) Pf Pf)
    ·intro s66 hw66; clear hm; have hm := ho66; clear q66 ho66
     refine then_normal ?_
     refine wpD_wkX hw66 (fun z66 => ?_)
     refine wpD_cond rfl (fun hc70 => ?_) (fun hc70 => ?_)
     ·replace hm := yes_t hc70 hm
      refine wpD_skip ?_
      refine then_normal ?_
      refine wpD_seq ?_
      refine wpD_block ?_
      refine wpD_region ?_
      iterate 3 refine pu ?_
      obtain ⟨x71, q71, hm⟩ := yes_bind hm
      refine p_elem htab rfl rfl rfl rfl rfl rfl rfl rfl rfl rfl (idx_nonneg q71) (idx_map q71) ?_
      refine p_loadEl (d := eTApiKey x71) htab rfl rfl rfl rfl rfl rfl rfl rfl ?_
      refine p_lit htab rfl rfl rfl rfl rfl rfl rfl rfl rfl rfl rfl rfl rfl rfl ?_
      refine p_eq (i := 30) (d' := .lst 2 (([x71] : List TApiKey).map eTApiKey) .full) rfl (Wk.lst0 (.cons (WkC.refl _) (.nil))) ?_
      obtain ⟨x72, q72, hm⟩ := yes_bind hm
      refine p_appC 0 htab rfl rfl rfl rfl rfl rfl rfl rfl rfl rfl rfl rfl rfl rfl rfl rfl rfl (app_bound q72) (fun v72 => ?_)
      refine p_mapD (i := 31) q72 rfl ?_
      refine pu ?_
      refine ops_nil ?_
      refine block_normal ?_
      refine then_normal ?_
      refine wpD_region ?_
      iterate 3 refine pu ?_
      refine ops_nil ?_
      refine then_normal ⟨_, lp_next hm, ?_⟩
      exact WkX.of v72 (WkS.perm (WkS.cons rfl (Wk.refl _) (WkS.cons rfl (Wk.refl _) (WkS.cons rfl (Wk.refl _) (WkS.cons rfl (Wk.refl _) (WkS.nil))))) Pf Pf)
     ·replace hm := yes_f hc70 hm
      refine wpD_exit ?_
      refine then_exit ?_
      have e39 := lp_done hm; subst e39; clear hm; have hm := hq39
      refine then_exit ?_
      refine block_hit ?_
      have e38 := yes_eq hm; subst e38
      refine ⟨rfl, ?_⟩
      exact WkX.of z39 (WkS.perm (WkS.cons rfl (Wk.refl _) (WkS.cons rfl (Wk.refl _) (WkS.cons rfl (Wk.refl _) (WkS.nil)))) Pf Pf)
  ·intro s38 hw38; clear hm; have hm := ho38; clear q38 ho38
   refine then_normal ?_
   refine wpD_wkX hw38 (fun z38 => ?_)
   refine wpD_sr ?_
   refine pu ?_
   refine p_lenL htab rfl rfl rfl rfl rfl rfl rfl (by first | exact map_len | rfl) ?_
   refine pu ?_
   refine ops_n2 ?_
   refine pu ?_
   refine p_load (d := eTApiKey x2) 0 htab rfl rfl rfl rfl rfl rfl rfl rfl ?_
   refine p_lit htab rfl rfl rfl rfl rfl rfl rfl rfl rfl rfl rfl rfl rfl rfl ?_
   refine p_eq (i := 36) (d' := .lst 2 (([x2] : List TApiKey).map eTApiKey) .full) rfl (Wk.lst0 (.cons (WkC.refl _) (.nil))) ?_
   obtain ⟨x73, q73, hm⟩ := yes_bind hm
   refine p_appC 0 htab rfl rfl rfl rfl rfl rfl rfl rfl rfl rfl rfl rfl rfl rfl rfl rfl rfl (app_bound q73) (fun v73 => ?_)
   refine p_mapD (i := 37) q73 rfl ?_
   refine pu ?_
   refine ops_nt ?_
   refine wpD_seq ?_
   refine wpD_sr ?_
   refine pu ?_
   refine pu ?_
   refine ops_nt ?_
   obtain ⟨y93, q93, ho93⟩ := yes_bind hm
   refine wpD_mid (Y := Value) (fun z93 => (⟨[(5, .lst 2 (y93.map eTApiKey) (.cur z93))], [], [(2, z93)]⟩ : S)) ?_ ?_
   ·clear hm; have hm := yes_of q93
    refine wpD_block ?_
    obtain ⟨u94, hl94, hq94⟩ := yes_m hm
    refine loop_M (Y := Value) hl94 (fun s94 z94 => (⟨[(0, .lst 2 (a0.map eTApiKey) .no), (3, .ptr b1 0), (5, .lst 2 (s94.1.map eTApiKey) (.cur z94)), (8, .v (.int .i64 s94.2))], [(b1, Blk.cells [.v (.string x2.gName), .v (.int .i64 x2.gNode)] 34)], [(2, z94)]⟩ : S)) ?_ ?_
    ·skip
     exact WkX.of v73 (WkS.perm (WkS.cons rfl (Wk.refl _) (WkS.cons rfl (Wk.refl _) (WkS.cons rfl (Wk.refl _) (WkS.cons rfl (Wk.refl _) (WkS.nil))))) Pf Pf)
    ·intro G94 s94 z94 hm
     refine wpD_seq ?_
     refine wpD_sr ?_
     refine pu ?_
     refine pu ?_
     refine p_lenL htab rfl rfl rfl rfl rfl rfl rfl (by first | exact map_len | rfl) ?_
     refine pu ?_
     refine ops_nt ?_
     refine wpD_cond rfl (fun hc107 => ?_) (fun hc107 => ?_)
     ·replace hm := yes_t hc107 hm
      refine wpD_skip ?_
      refine then_normal ?_
      refine wpD_seq ?_
      refine wpD_block ?_
      refine wpD_seq ?_
      obtain ⟨x108, q108, hm⟩ := yes_bind hm
      refine wpD_draws 5 [] [[],[],[0],[0,2],[]] [0,2,3,4] [[],[],[0,1],[0,1,2],[],[0,1,2,3,4]] (by kernel_rfl) (by kernel_rfl) (by kernel_rfl) (by rfl) (by rfl) (by kernel_rfl) ?_
      iterate 4 apply Exists.intro
      intro bs
      refine zep ?_
      refine zqp ?_
      refine z_e rfl rfl (x_elem htab rfl rfl rfl rfl rfl rfl rfl (idx_nonneg q108) (idx_map q108)) rfl rfl rfl rfl rfl rfl ?_
      refine z_eM rfl rfl (xm_loadEl (d := eTApiKey x108) htab rfl rfl rfl rfl rfl) rfl rfl rfl rfl rfl rfl ?_
      refine z_eM rfl rfl (xm_load (d := eTApiKey x2) 0 htab rfl rfl rfl rfl rfl) rfl rfl rfl rfl rfl rfl ?_
      refine z_nil rfl rfl (fun e he => by simp [isAl] at he) ?_
      refine p_eqS htab rfl rfl rfl rfl rfl eqt34 rfl rfl rfl rfl rfl ?_
      refine ops_nt ?_
      refine wpD_cond rfl (fun hc109 => ?_) (fun hc109 => ?_)
      ·replace hm := yes_t hc109 hm
       refine wpD_region ?_
       iterate 3 refine pu ?_
       obtain ⟨x110, q110, hm⟩ := yes_bind hm
       refine p_elem htab rfl rfl rfl rfl rfl rfl rfl rfl rfl rfl (idx_nonneg q110) (idx_map q110) ?_
       refine p_loadEl (d := eTApiKey x110) htab rfl rfl rfl rfl rfl rfl rfl rfl ?_
       refine p_lit htab rfl rfl rfl rfl rfl rfl rfl rfl rfl rfl rfl rfl rfl rfl ?_
       refine p_eq (i := 56) (d' := .lst 2 (([x110] : List TApiKey).map eTApiKey) .full) rfl (Wk.lst0 (.cons (WkC.refl _) (.nil))) ?_
       obtain ⟨x111, q111, hm⟩ := yes_bind hm
       refine p_appC 0 htab rfl rfl rfl rfl rfl rfl rfl rfl rfl rfl rfl rfl rfl rfl rfl rfl rfl (app_bound q111) (fun v111 => ?_)
       refine p_mapD (i := 57) q111 rfl ?_
       refine pu ?_
       refine ops_nil ?_
       refine block_normal ?_
       refine then_normal ?_
       refine wpD_region ?_
       iterate 3 refine pu ?_
       refine ops_nil ?_
       refine then_normal ⟨_, lp_next hm, ?_⟩
       exact WkX.of v111 (WkS.perm (WkS.cons rfl (Wk.refl _) (WkS.cons rfl (Wk.refl _) (WkS.cons rfl (Wk.refl _) (WkS.cons rfl (Wk.refl _) (WkS.nil))))) Pf Pf)
      ·replace hm := yes_f hc109 hm
       refine wpD_skip ?_
       refine block_normal ?_
       refine then_normal ?_
       refine wpD_region ?_
       iterate 3 refine pu ?_
       refine ops_nil ?_
       refine then_normal ⟨_, lp_next hm, ?_⟩
       exact WkX.of z94 (WkS.perm (WkS.cons rfl (Wk.refl _) (WkS.cons rfl (Wk.refl _) (WkS.cons rfl (Wk.refl _) (WkS.cons rfl (Wk.refl _) (WkS.nil))))) Pf Pf)
     ·replace hm := yes_f hc107 hm
      refine wpD_exit ?_
      refine then_exit ?_
      have e94 := lp_done hm; subst e94; clear hm; have hm := hq94
      refine then_exit ?_
      refine block_hit ?_
      have e93 := yes_eq hm; subst e93
      refine ⟨rfl, ?_⟩
      exact WkX.of z94 (WkS.perm (WkS.cons rfl (Wk.refl _) (WkS.nil)) Pf Pf)
   ·intro s93 hw93; clear hm; have hm := ho93; clear q93 ho93
    refine then_normal ?_
    refine wpD_wkX hw93 (fun z93 => ?_)
    refine wpD_sr ?_
    refine pu ?_
    refine pu ?_
    refine ops_nt ?_
    refine wpD_ret ?_
    have er112 := yes_eq hm; subst er112
    refine rP (t' := [(4, .lst 2 (y93.map eTApiKey) (.cur z93))]) [] [0] 0 (wC wN) (lT lN) ?_
    exact ⟨z93, rfl, rfl, rfl⟩
noncomputable def r29_On (a0 : List TSondageref29Pair) (a1 : TApiKey) : Option (List TApiKey) :=
  (Option.bind (α := List TApiKey) (loopM (fun (s29 : List TApiKey × Int) => (bif (decide (s29.2 < (a0.length : Int))) then ((idx a0 s29.2).bind fun x48 => ((r26_Clean a1).bind fun x49 => (bif (decide (x48.gX.gName = x49.gName) && (x48.gX.gNode == x49.gNode && true)) then ((idx a0 s29.2).bind fun x51 => ((r26_Put s29.1 x51.gY).bind fun x53 => some (.next (x53, (IntKind.i64.wrap (s29.2 + (1 : Int))))))) else some (.next (s29.1, (IntKind.i64.wrap (s29.2 + (1 : Int)))))))) else some (.done s29.1))) (([] : List TApiKey), (0 : Int))) fun y28 => some y28)
set_option maxRecDepth 100000 in
set_option maxHeartbeats 2000000 in
theorem r29_On_ok (a0 : List TSondageref29Pair) (a1 : TApiKey) (r : List TApiKey) (h0 : r29_On a0 a1 = some r) : CallsD Try.prog 15 [.lst 4 (a0.map eTSondageref29Pair) .no, eTApiKey a1] [] [] (fun d h k => ∃ y0, d = .lst 2 (r.map eTApiKey) (.cur y0) ∧ h = [] ∧ k = [(2, y0)]) := by
  have hm := yes_of h0
  unfold r29_On at hm
  clear h0
  refine enterX htab Try.func15 rfl rfl rfl rfl rfl (fun C => ?_)
  refine wpD_sr ?_
  refine p_box rfl rfl rfl rfl rfl rfl rfl (fun b1 => ?_)
  refine pu ?_
  refine ops_n2 ?_
  refine pu ?_
  refine ops_nt ?_
  refine wpD_seq ?_
  refine wpD_sr ?_
  refine pu ?_
  refine ops_nt ?_
  obtain ⟨y28, q28, ho28⟩ := yes_bind hm
  refine wpD_mid (Y := Value) (fun z28 => (⟨[(5, .lst 2 (y28.map eTApiKey) (.cur z28))], [], [(2, z28)]⟩ : S)) ?_ ?_
  ·clear hm; have hm := yes_of q28
   refine wpD_block ?_
   obtain ⟨u29, hl29, hq29⟩ := yes_m hm
   refine loop_M (Y := Value) hl29 (fun s29 z29 => (⟨[(0, .lst 4 (a0.map eTSondageref29Pair) .no), (3, .ptr b1 0), (5, .lst 2 (s29.1.map eTApiKey) (.cur z29)), (6, .v (.int .i64 s29.2))], [(b1, Blk.cells [.v (.string a1.gName), .v (.int .i64 a1.gNode)] 34)], [(2, z29)]⟩ : S)) ?_ ?_
   ·skip
    refine WkX.tokN (i := 5) 2 rfl (fun w46 => ?_)
    exact WkX.of w46 (WkS.perm (WkS.cons rfl (Wk.refl _) (WkS.cons rfl (Wk.refl _) (WkS.cons rfl (Wk.refl _) (WkS.cons rfl (Wk.refl _) (WkS.nil))))) Pf Pf)
   ·intro G29 s29 z29 hm
    refine wpD_seq ?_
    refine wpD_sr ?_
    refine pu ?_
    refine pu ?_
    refine p_lenL htab rfl rfl rfl rfl rfl rfl rfl (by first | exact map_len | rfl) ?_
    refine pu ?_
    refine ops_nt ?_
    refine wpD_cond rfl (fun hc47 => ?_) (fun hc47 => ?_)
    ·replace hm := yes_t hc47 hm
     refine wpD_skip ?_
     refine then_normal ?_
     refine wpD_seq ?_
     refine wpD_block ?_
     refine wpD_seq ?_
     obtain ⟨x48, q48, hm⟩ := yes_bind hm
     obtain ⟨x49, q49, hm⟩ := yes_bind hm
     refine wpD_draws 7 [] [[],[],[0],[0,2],[0,2,3],[],[5]] [0,2,3,4,5,6] [[],[],[0,1],[0,1,2],[0,1,2,3],[],[5],[0,1,2,3,4,5,6]] (by kernel_rfl) (by kernel_rfl) (by kernel_rfl) (by rfl) (by rfl) (by kernel_rfl) ?_
     iterate 6 apply Exists.intro
     intro bs
     refine zep ?_
     refine zqp ?_
     refine z_e rfl rfl (x_elem htab rfl rfl rfl rfl rfl rfl rfl (idx_nonneg q48) (idx_map q48)) rfl rfl rfl rfl rfl rfl ?_
     refine zep ?_
     refine z_eM rfl rfl (xm_loadEl (d := eTApiKey x48.gX) htab rfl rfl rfl rfl rfl) rfl rfl rfl rfl rfl rfl ?_
     refine z_eM rfl rfl (xm_load (d := eTApiKey a1) 0 htab rfl rfl rfl rfl rfl) rfl rfl rfl rfl rfl rfl ?_
     refine z_call rfl rfl (r26_Clean_ok a1 x49 q49) rfl rfl Wl rfl rfl rfl rfl rfl rfl ?_
     refine z_nil rfl rfl (fun e he => by simp [isAl] at he) ?_
     refine p_eqS htab rfl rfl rfl rfl rfl eqt34 rfl rfl rfl rfl rfl ?_
     refine ops_nt ?_
     refine wpD_cond rfl (fun hc50 => ?_) (fun hc50 => ?_)
     ·replace hm := yes_t hc50 hm
      refine wpD_region ?_
      iterate 3 refine pu ?_
      obtain ⟨x51, q51, hm⟩ := yes_bind hm
      refine p_elem htab rfl rfl rfl rfl rfl rfl rfl rfl rfl rfl (idx_nonneg q51) (idx_map q51) ?_
      refine pu ?_
      refine p_loadEl (d := eTApiKey x51.gY) htab rfl rfl rfl rfl rfl rfl rfl rfl ?_
      obtain ⟨x53, q53, hm⟩ := yes_bind hm
      refine p_callG (r26_Put_ok s29.1 x51.gY x53 q53) rfl rfl rfl rfl rfl (WkL.cons (Wk.no) (WkL.cons (Wk.refl _) Wl)) Pf Pf ?_
      rintro _ _ _ ⟨w52, rfl, rfl, rfl⟩
      refine pu ?_
      refine ops_nil ?_
      refine block_normal ?_
      refine then_normal ?_
      refine wpD_region ?_
      iterate 3 refine pu ?_
      refine ops_nil ?_
      refine then_normal ⟨_, lp_next hm, ?_⟩
      exact WkX.of w52 (WkS.perm (WkS.cons rfl (Wk.refl _) (WkS.cons rfl (Wk.refl _) (WkS.cons rfl (Wk.refl _) (WkS.cons rfl (Wk.refl _) (WkS.nil))))) Pf Pf)
     ·replace hm := yes_f hc50 hm
      refine wpD_skip ?_
      refine block_normal ?_
      refine then_normal ?_
      refine wpD_region ?_
      iterate 3 refine pu ?_
      refine ops_nil ?_
      refine then_normal ⟨_, lp_next hm, ?_⟩
      exact WkX.of z29 (WkS.perm (WkS.cons rfl (Wk.refl _) (WkS.cons rfl (Wk.refl _) (WkS.cons rfl (Wk.refl _) (WkS.cons rfl (Wk.refl _) (WkS.nil))))) Pf Pf)
    ·replace hm := yes_f hc47 hm
     refine wpD_exit ?_
     refine then_exit ?_
     have e29 := lp_done hm; subst e29; clear hm; have hm := hq29
     refine then_exit ?_
     refine block_hit ?_
     have e28 := yes_eq hm; subst e28
     refine ⟨rfl, ?_⟩
     exact WkX.of z29 (WkS.perm (WkS.cons rfl (Wk.refl _) (WkS.nil)) Pf Pf)
  ·intro s28 hw28; clear hm; have hm := ho28; clear q28 ho28
   refine then_normal ?_
   refine wpD_wkX hw28 (fun z28 => ?_)
   refine wpD_sr ?_
   refine pu ?_
   refine pu ?_
   refine ops_nt ?_
   refine wpD_ret ?_
   have er54 := yes_eq hm; subst er54
   refine rP (t' := [(4, .lst 2 (y28.map eTApiKey) (.cur z28))]) [] [0] 0 (wC wN) (lT lN) ?_
   exact ⟨z28, rfl, rfl, rfl⟩
noncomputable def r29_Of (a0 : List TSondageref29Pair) (a1 : TApiKey) : Option (List TApiKey) :=
  (Option.bind (α := List TApiKey) (loopM (fun (s29 : List TApiKey × Int) => (bif (decide (s29.2 < (a0.length : Int))) then ((idx a0 s29.2).bind fun x48 => ((r26_Clean a1).bind fun x49 => (bif (decide (x48.gY.gName = x49.gName) && (x48.gY.gNode == x49.gNode && true)) then ((idx a0 s29.2).bind fun x51 => ((r26_Put s29.1 x51.gX).bind fun x53 => some (.next (x53, (IntKind.i64.wrap (s29.2 + (1 : Int))))))) else some (.next (s29.1, (IntKind.i64.wrap (s29.2 + (1 : Int)))))))) else some (.done s29.1))) (([] : List TApiKey), (0 : Int))) fun y28 => some y28)
set_option maxRecDepth 100000 in
set_option maxHeartbeats 2000000 in
theorem r29_Of_ok (a0 : List TSondageref29Pair) (a1 : TApiKey) (r : List TApiKey) (h0 : r29_Of a0 a1 = some r) : CallsD Try.prog 17 [.lst 4 (a0.map eTSondageref29Pair) .no, eTApiKey a1] [] [] (fun d h k => ∃ y0, d = .lst 2 (r.map eTApiKey) (.cur y0) ∧ h = [] ∧ k = [(2, y0)]) := by
  have hm := yes_of h0
  unfold r29_Of at hm
  clear h0
  refine enterX htab Try.func17 rfl rfl rfl rfl rfl (fun C => ?_)
  refine wpD_sr ?_
  refine p_box rfl rfl rfl rfl rfl rfl rfl (fun b1 => ?_)
  refine pu ?_
  refine ops_n2 ?_
  refine pu ?_
  refine ops_nt ?_
  refine wpD_seq ?_
  refine wpD_sr ?_
  refine pu ?_
  refine ops_nt ?_
  obtain ⟨y28, q28, ho28⟩ := yes_bind hm
  refine wpD_mid (Y := Value) (fun z28 => (⟨[(5, .lst 2 (y28.map eTApiKey) (.cur z28))], [], [(2, z28)]⟩ : S)) ?_ ?_
  ·clear hm; have hm := yes_of q28
   refine wpD_block ?_
   obtain ⟨u29, hl29, hq29⟩ := yes_m hm
   refine loop_M (Y := Value) hl29 (fun s29 z29 => (⟨[(0, .lst 4 (a0.map eTSondageref29Pair) .no), (3, .ptr b1 0), (5, .lst 2 (s29.1.map eTApiKey) (.cur z29)), (6, .v (.int .i64 s29.2))], [(b1, Blk.cells [.v (.string a1.gName), .v (.int .i64 a1.gNode)] 34)], [(2, z29)]⟩ : S)) ?_ ?_
   ·skip
    refine WkX.tokN (i := 5) 2 rfl (fun w46 => ?_)
    exact WkX.of w46 (WkS.perm (WkS.cons rfl (Wk.refl _) (WkS.cons rfl (Wk.refl _) (WkS.cons rfl (Wk.refl _) (WkS.cons rfl (Wk.refl _) (WkS.nil))))) Pf Pf)
   ·intro G29 s29 z29 hm
    refine wpD_seq ?_
    refine wpD_sr ?_
    refine pu ?_
    refine pu ?_
    refine p_lenL htab rfl rfl rfl rfl rfl rfl rfl (by first | exact map_len | rfl) ?_
    refine pu ?_
    refine ops_nt ?_
    refine wpD_cond rfl (fun hc47 => ?_) (fun hc47 => ?_)
    ·replace hm := yes_t hc47 hm
     refine wpD_skip ?_
     refine then_normal ?_
     refine wpD_seq ?_
     refine wpD_block ?_
     refine wpD_seq ?_
     obtain ⟨x48, q48, hm⟩ := yes_bind hm
     obtain ⟨x49, q49, hm⟩ := yes_bind hm
     refine wpD_draws 7 [] [[],[],[0],[0,2],[0,2,3],[],[5]] [0,2,3,4,5,6] [[],[],[0,1],[0,1,2],[0,1,2,3],[],[5],[0,1,2,3,4,5,6]] (by kernel_rfl) (by kernel_rfl) (by kernel_rfl) (by rfl) (by rfl) (by kernel_rfl) ?_
     iterate 6 apply Exists.intro
     intro bs
     refine zep ?_
     refine zqp ?_
     refine z_e rfl rfl (x_elem htab rfl rfl rfl rfl rfl rfl rfl (idx_nonneg q48) (idx_map q48)) rfl rfl rfl rfl rfl rfl ?_
     refine zep ?_
     refine z_eM rfl rfl (xm_loadEl (d := eTApiKey x48.gY) htab rfl rfl rfl rfl rfl) rfl rfl rfl rfl rfl rfl ?_
     refine z_eM rfl rfl (xm_load (d := eTApiKey a1) 0 htab rfl rfl rfl rfl rfl) rfl rfl rfl rfl rfl rfl ?_
     refine z_call rfl rfl (r26_Clean_ok a1 x49 q49) rfl rfl Wl rfl rfl rfl rfl rfl rfl ?_
     refine z_nil rfl rfl (fun e he => by simp [isAl] at he) ?_
     refine p_eqS htab rfl rfl rfl rfl rfl eqt34 rfl rfl rfl rfl rfl ?_
     refine ops_nt ?_
     refine wpD_cond rfl (fun hc50 => ?_) (fun hc50 => ?_)
     ·replace hm := yes_t hc50 hm
      refine wpD_region ?_
      iterate 3 refine pu ?_
      obtain ⟨x51, q51, hm⟩ := yes_bind hm
      refine p_elem htab rfl rfl rfl rfl rfl rfl rfl rfl rfl rfl (idx_nonneg q51) (idx_map q51) ?_
      refine pu ?_
      refine p_loadEl (d := eTApiKey x51.gX) htab rfl rfl rfl rfl rfl rfl rfl rfl ?_
      obtain ⟨x53, q53, hm⟩ := yes_bind hm
      refine p_callG (r26_Put_ok s29.1 x51.gX x53 q53) rfl rfl rfl rfl rfl (WkL.cons (Wk.no) (WkL.cons (Wk.refl _) Wl)) Pf Pf ?_
      rintro _ _ _ ⟨w52, rfl, rfl, rfl⟩
      refine pu ?_
      refine ops_nil ?_
      refine block_normal ?_
      refine then_normal ?_
      refine wpD_region ?_
      iterate 3 refine pu ?_
      refine ops_nil ?_
      refine then_normal ⟨_, lp_next hm, ?_⟩
      exact WkX.of w52 (WkS.perm (WkS.cons rfl (Wk.refl _) (WkS.cons rfl (Wk.refl _) (WkS.cons rfl (Wk.refl _) (WkS.cons rfl (Wk.refl _) (WkS.nil))))) Pf Pf)
     ·replace hm := yes_f hc50 hm
      refine wpD_skip ?_
      refine block_normal ?_
      refine then_normal ?_
      refine wpD_region ?_
      iterate 3 refine pu ?_
      refine ops_nil ?_
      refine then_normal ⟨_, lp_next hm, ?_⟩
      exact WkX.of z29 (WkS.perm (WkS.cons rfl (Wk.refl _) (WkS.cons rfl (Wk.refl _) (WkS.cons rfl (Wk.refl _) (WkS.cons rfl (Wk.refl _) (WkS.nil))))) Pf Pf)
    ·replace hm := yes_f hc47 hm
     refine wpD_exit ?_
     refine then_exit ?_
     have e29 := lp_done hm; subst e29; clear hm; have hm := hq29
     refine then_exit ?_
     refine block_hit ?_
     have e28 := yes_eq hm; subst e28
     refine ⟨rfl, ?_⟩
     exact WkX.of z29 (WkS.perm (WkS.cons rfl (Wk.refl _) (WkS.nil)) Pf Pf)
  ·intro s28 hw28; clear hm; have hm := ho28; clear q28 ho28
   refine then_normal ?_
   refine wpD_wkX hw28 (fun z28 => ?_)
   refine wpD_sr ?_
   refine pu ?_
   refine pu ?_
   refine ops_nt ?_
   refine wpD_ret ?_
   have er54 := yes_eq hm; subst er54
   refine rP (t' := [(4, .lst 2 (y28.map eTApiKey) (.cur z28))]) [] [0] 0 (wC wN) (lT lN) ?_
   exact ⟨z28, rfl, rfl, rfl⟩
noncomputable def r23_Keys (a0 : List TApiKey) (a1 : List TApiKey) : Option (Bool) :=
  (bif ((a0.length : Int) != (a1.length : Int)) then some false else (Option.bind (α := (Unit) ⊕ (Bool)) (loopM (fun (s21 : Int) => (bif (decide (s21 < (a0.length : Int))) then ((idx a0 s21).bind fun x33 => ((idx a1 s21).bind fun x34 => (bif (!(decide (x33.gName = x34.gName) && (x33.gNode == x34.gNode && true))) then some (.done (.inr false)) else some (.next (IntKind.i64.wrap (s21 + (1 : Int))))))) else some (.done (.inl ())))) (0 : Int)) (Sum.elim (fun y20 => some true) (fun r => some r))))
set_option maxRecDepth 100000 in
set_option maxHeartbeats 2000000 in
theorem r23_Keys_ok (a0 : List TApiKey) (a1 : List TApiKey) (r : Bool) (h0 : r23_Keys a0 a1 = some r) : CallsD Try.prog 9 [.lst 2 (a0.map eTApiKey) .no, .lst 2 (a1.map eTApiKey) .no] [] [] (fun d h k => d = .v (.bool r) ∧ h = [] ∧ k = []) := by
  have hm := yes_of h0
  unfold r23_Keys at hm
  clear h0
  refine enterX htab Try.func9 rfl rfl rfl rfl rfl (fun C => ?_)
  refine wpD_sr ?_
  refine pu ?_
  refine ops_nt ?_
  refine wpD_seq ?_
  refine wpD_sr ?_
  refine pu ?_
  refine p_lenL htab rfl rfl rfl rfl rfl rfl rfl (by first | exact map_len | rfl) ?_
  refine pu ?_
  refine p_lenL htab rfl rfl rfl rfl rfl rfl rfl (by first | exact map_len | rfl) ?_
  refine pu ?_
  refine ops_nt ?_
  refine wpD_cond rfl (fun hc2 => ?_) (fun hc2 => ?_)
  ·replace hm := yes_t hc2 hm
   refine wpD_sr ?_
   refine pu ?_
   refine ops_nt ?_
   refine wpD_ret ?_
   refine then_ret ?_
   have er3 := yes_eq hm; subst er3
   refine rP (t' := [(4, .v (.bool false))]) [] [] 0 (wC wN) (lT lN) ?_
   exact ⟨rfl, rfl, rfl⟩
  ·replace hm := yes_f hc2 hm
   refine wpD_skip ?_
   refine then_normal ?_
   refine wpD_seq ?_
   refine wpD_sr ?_
   refine pu ?_
   refine ops_nt ?_
   obtain ⟨x20, q20, ho20⟩ := yes_bind hm
   refine wpD_midX (τ := Unit) (Y := Unit) (fun y20 z20 => (⟨[], [], []⟩ : S)) x20 ?_ ?_
   ·clear hm; have hm := yes_of q20
    refine wpD_block ?_
    obtain ⟨u21, hl21, hq21⟩ := yes_m hm
    refine loop_M (Y := Unit) hl21 (fun s21 z21 => (⟨[(0, .lst 2 (a0.map eTApiKey) .no), (1, .lst 2 (a1.map eTApiKey) .no), (5, .v (.int .i64 s21))], [], []⟩ : S)) ?_ ?_
    ·skip
     exact WkX.of () (WkS.perm (WkS.cons rfl (Wk.refl _) (WkS.cons rfl (Wk.refl _) (WkS.cons rfl (Wk.refl _) (WkS.nil)))) Pf Pf)
    ·intro G21 s21 z21 hm
     refine wpD_seq ?_
     refine wpD_sr ?_
     refine pu ?_
     refine pu ?_
     refine p_lenL htab rfl rfl rfl rfl rfl rfl rfl (by first | exact map_len | rfl) ?_
     refine pu ?_
     refine ops_nt ?_
     refine wpD_cond rfl (fun hc32 => ?_) (fun hc32 => ?_)
     ·replace hm := yes_t hc32 hm
      refine wpD_skip ?_
      refine then_normal ?_
      refine wpD_seq ?_
      refine wpD_block ?_
      refine wpD_seq ?_
      obtain ⟨x33, q33, hm⟩ := yes_bind hm
      obtain ⟨x34, q34, hm⟩ := yes_bind hm
      refine wpD_draws 8 [] [[],[],[0],[0,2],[],[],[4],[4,6]] [0,2,3,4,6,7] [[],[],[0,1],[0,1,2],[],[],[4,5],[4,5,6],[0,1,2,3,4,5,6,7]] (by kernel_rfl) (by kernel_rfl) (by kernel_rfl) (by rfl) (by rfl) (by kernel_rfl) ?_
      iterate 6 apply Exists.intro
      intro bs
      refine zep ?_
      refine zqp ?_
      refine z_e rfl rfl (x_elem htab rfl rfl rfl rfl rfl rfl rfl (idx_nonneg q33) (idx_map q33)) rfl rfl rfl rfl rfl rfl ?_
      refine z_eM rfl rfl (xm_loadEl (d := eTApiKey x33) htab rfl rfl rfl rfl rfl) rfl rfl rfl rfl rfl rfl ?_
      refine zep ?_
      refine zqp ?_
      refine z_e rfl rfl (x_elem htab rfl rfl rfl rfl rfl rfl rfl (idx_nonneg q34) (idx_map q34)) rfl rfl rfl rfl rfl rfl ?_
      refine z_eM rfl rfl (xm_loadEl (d := eTApiKey x34) htab rfl rfl rfl rfl rfl) rfl rfl rfl rfl rfl rfl ?_
      refine z_nil rfl rfl (fun e he => by simp [isAl] at he) ?_
      refine p_eqS htab rfl rfl rfl rfl rfl eqt34 rfl rfl rfl rfl rfl ?_
      refine ops_nt ?_
      refine wpD_cond rfl (fun hc35 => ?_) (fun hc35 => ?_)
      ·replace hm := yes_t hc35 hm
       refine wpD_sr ?_
       refine pu ?_
       refine ops_nt ?_
       refine wpD_ret ?_
       refine block_ret ?_
       refine then_ret ?_
       have e21 := lp_done hm; subst e21; clear hm; have hm := hq21
       refine then_ret ?_
       refine block_ret ?_
       have e20 := yes_eq hm; subst e20; refine midX_inr ?_; clear hm; have hm := ho20; simp only [Sum.elim_inr] at hm
       refine then_ret ?_
       have er36 := yes_eq hm; subst er36
       refine rP (t' := [(4, .v (.bool false))]) [] [] 0 (wC wN) (lT lN) ?_
       exact ⟨rfl, rfl, rfl⟩
      ·replace hm := yes_f hc35 hm
       refine wpD_skip ?_
       refine block_normal ?_
       refine then_normal ?_
       refine wpD_region ?_
       iterate 3 refine pu ?_
       refine ops_nil ?_
       refine then_normal ⟨_, lp_next hm, ?_⟩
       exact WkX.of () (WkS.perm (WkS.cons rfl (Wk.refl _) (WkS.cons rfl (Wk.refl _) (WkS.cons rfl (Wk.refl _) (WkS.nil)))) Pf Pf)
     ·replace hm := yes_f hc32 hm
      refine wpD_exit ?_
      refine then_exit ?_
      have e21 := lp_done hm; subst e21; clear hm; have hm := hq21
      refine then_exit ?_
      refine block_hit ?_
      have e20 := yes_eq hm; subst e20
      refine midX_inl ?_
      exact WkX.of () (WkS.perm (WkS.nil) Pf Pf)
   ·intro y20 s20 hx20 hw20; subst hx20; clear hm; have hm := ho20; simp only [Sum.elim_inl] at hm; clear q20 ho20
    refine then_normal ?_
    refine wpD_wkX hw20 (fun z20 => ?_)
    refine wpD_sr ?_
    refine pu ?_
    refine ops_nt ?_
    refine wpD_ret ?_
    have er37 := yes_eq hm; subst er37
    refine rP (t' := [(4, .v (.bool true))]) [] [] 0 (wC wN) (lT lN) ?_
    exact ⟨rfl, rfl, rfl⟩
structure TSondagelaw29Op where
  gKind : Int
  gX : TApiKey
  gY : TApiKey
def eTSondagelaw29Op (x : TSondagelaw29Op) : D := .agg [.v (.int .i64 x.gKind), .v (.string x.gX.gName), .v (.int .i64 x.gX.gNode), .v (.string x.gY.gName), .v (.int .i64 x.gY.gNode)]
def wfTApiKey (x : TApiKey) : Prop := x.gName.size ≤ maxLen ∧ (Lit.int .i64 x.gNode).wf = true
theorem goodTApiKey {n : Nat} {d : D} (g : GoodT tab n 34 d) : ∃ x : TApiKey, d = eTApiKey x ∧ wfTApiKey x := by
  obtain ⟨n', ds, _, rfl, hl, h⟩ := good_struct ti34 rfl g
  match ds, hl with
  | [d0, d1], _ =>
    obtain ⟨x1, rfl, w1⟩ := good_str ti9 rfl (h 0 _ _ rfl rfl)
    obtain ⟨x2, rfl, w2⟩ := good_int ti3 rfl (h 1 _ _ rfl rfl)
    exact ⟨⟨x1, x2⟩, rfl, w1, w2⟩
def wfTSondagelaw29Op (x : TSondagelaw29Op) : Prop := (Lit.int .i64 x.gKind).wf = true ∧ wfTApiKey x.gX ∧ wfTApiKey x.gY
theorem goodTSondagelaw29Op {n : Nat} {d : D} (g : GoodT tab n 48 d) : ∃ x : TSondagelaw29Op, d = eTSondagelaw29Op x ∧ wfTSondagelaw29Op x := by
  obtain ⟨n', ds, _, rfl, hl, h⟩ := good_struct ti48 rfl g
  match ds, hl with
  | [d0, d1, d2], _ =>
    obtain ⟨x1, rfl, w1⟩ := good_int ti3 rfl (h 0 _ _ rfl rfl)
    obtain ⟨x2, rfl, w2⟩ := goodTApiKey (h 1 _ _ rfl rfl)
    obtain ⟨x3, rfl, w3⟩ := goodTApiKey (h 2 _ _ rfl rfl)
    exact ⟨⟨x1, x2, x3⟩, rfl, w1, w2, w3⟩
def wfL22 : List TSondagelaw29Op → Prop := (fun y => (y.length ≤ maxLen ∧ ∀ z ∈ y, wfTSondagelaw29Op z))
theorem goodL22 {n : Nat} {d : D} (g : GoodT tab n 22 d) : ∃ x : List TSondagelaw29Op, d = .lst 5 (x.map eTSondagelaw29Op) .no ∧ wfL22 x := by
  obtain ⟨n1, zs1, _, rfl, hl1, hz1⟩ := good_slice ti22 rfl ti48 (g)
  obtain ⟨x1, rfl, w1⟩ := good_list (f := eTSondagelaw29Op) (K := (fun y => wfTSondagelaw29Op y)) (p := fun x => GoodT tab n1 48 x) (fun x hx => by obtain ⟨x2, rfl, w2⟩ := goodTSondagelaw29Op (hx); exact ⟨x2, rfl, w2⟩) zs1 hz1
  exact ⟨x1, rfl, ⟨by simpa using hl1, w1⟩⟩
end Go.Proofs.Ytpdekcfeecdlbaa.Ab
namespace Go.Proofs.Ytpdekcfeecdlbaa.Ab
open Go Go.RowKit Go.Shelf Go.Proofs Go.Proofs.Ytpdekcfeecdlbaa.Ab.Pq
set_option linter.all false
abbrev KL (H : Hp) (l : List TApiKey) (v : Value) : Prop := Rep H (.lst 2 (l.map eTApiKey) .no) v
abbrev PL (H : Hp) (l : List TSondageref29Pair) (v : Value) : Prop := Rep H (.lst 4 (l.map eTSondageref29Pair) .no) v
theorem rep_no {H : Hp} {k : Nat} {xs : List D} {c : Cap} {v : Value} (h : Rep H (.lst k xs c) v) : Rep H (.lst k xs .no) v := by
  obtain ⟨h1, h2⟩ := h
  refine ⟨?_, by cases v <;> simpa [D.shape] using h2⟩
  simp only [RepC] at h1 ⊢
  obtain ⟨y, g1, _, g3⟩ := h1
  exact ⟨y, g1, trivial, g3⟩
theorem rep_sl {H : Hp} {k : Nat} {xs : List D} {c : Cap} {v : Value} (h : Rep H (.lst k xs c) v) : ∃ a m, v = .slice a xs.length m := by
  obtain ⟨_, h⟩ := rep_lst_inv h
  rcases h with ⟨e, a, m, rfl, _⟩ | ⟨b, off, m, rfl, _, _⟩
  · exact ⟨a, m, by rw [e]; rfl⟩
  · exact ⟨_, m, rfl⟩
theorem rep_slm {α : Type} {f : α → D} {H : Hp} {k : Nat} {xs : List α} {c : Cap} {v : Value} (h : Rep H (.lst k (xs.map f) c) v) : ∃ a m, v = .slice a xs.length m := by
  obtain ⟨a, m, e⟩ := rep_sl h
  exact ⟨a, m, by rw [e, List.length_map]⟩
theorem rep_key (H : Hp) (x : TApiKey) : Rep H (eTApiKey x) (encK x) := rep_va H (us := kc2 x) rfl
theorem core_tell {C : Ctx} {H : Hp} {h : List (Nat × Blk)} {W : World} {r : Nat} {l : List TApiKey} {z : Z3} (c : Core C H ((r, .row 2 (l.map eTApiKey) (SL z)) :: h) [] W) : ∃ H', H.le H' ∧ Core C H' h [] W ∧ KL H' l (SL z) := by
  obtain ⟨H', hle, c'⟩ := row_told c.ag (c.blks _ (List.mem_cons_self ..))
  have hto := rep_no (told_sl (c'.blks _ (List.mem_singleton.2 rfl)))
  have q := Core.call (h1 := [(r, .row 2 (l.map eTApiKey) (SL z))]) (h2 := h) (k1 := []) (k2 := []) c c'
  exact ⟨H', hle, q.drop (List.sublist_cons_self _ _) (List.nil_sublist _), hto⟩
theorem doc_calls {f : FuncId} {ds : List D} {us : Array Value} {kk : Nat} {xs : List D} (c : CallsD Try.prog f ds [] [] (fun d h k => ∃ y0, d = .lst kk xs (.cur y0) ∧ h = [] ∧ k = [(kk, y0)])) {C : Ctx} {H : Hp} {h : List (Nat × Blk)} {W : World} (cW : Core C H h [] W) (hv : RepsV H ds us.toList) :
    Calls Try.prog f us W fun e w' => ∃ H' v, e = .returned v ∧ H.le H' ∧ Core C H' h [] w' ∧ Rep H' (.lst kk xs .no) v := by
  refine (c.2 H W us.toList hv cW.ag (by simp) (by simp) (by simp [claims])).mono fun e w' ⟨v, H', d, h', k', he, hr, hc, y0, e1, e2, e3⟩ => ?_
  subst e1; subst e2; subst e3
  exact ⟨H', v, he, hc.le, (Core.call (h1 := []) (k1 := []) (k2 := []) cW hc).drop (List.Sublist.refl _) (List.nil_sublist _), rep_no hr⟩
theorem val_calls {f : FuncId} {ds : List D} {us : Array Value} {x : Value} (c : CallsD Try.prog f ds [] [] (fun d h k => d = .v x ∧ h = [] ∧ k = [])) {C : Ctx} {H : Hp} {h : List (Nat × Blk)} {W : World} (cW : Core C H h [] W) (hv : RepsV H ds us.toList) :
    Calls Try.prog f us W fun e w' => e = .returned x ∧ Core C H h [] w' :=
  (to_calls c cW.ag hv).mono fun e w' ⟨he, hb⟩ => ⟨he, Core.call (h1 := []) (k1 := []) cW (core_below0 cW.ag hb)⟩
theorem row_callsT {f : FuncId} {us : Array Value} {l : List TApiKey} {C : Ctx} {H : Hp} {h : List (Nat × Blk)} {W : World} (cW : Core C H h [] W) (c : Calls Try.prog f us W fun e w' => ∃ z : Z3, e = .returned (SL z) ∧ Core ⟨H, W, []⟩ H [(0, .row 2 (l.map eTApiKey) (SL z))] [] w') :
    Calls Try.prog f us W fun e w' => ∃ H' v, e = .returned v ∧ H.le H' ∧ Core C H' h [] w' ∧ KL H' l v :=
  c.mono fun e w' ⟨z, he, hc⟩ => by
    obtain ⟨H', hle, c', hk⟩ := core_tell (Core.call (h1 := []) (k1 := []) (k2 := []) cW hc)
    exact ⟨H', SL z, he, hle, c', hk⟩
def oc5 (x : TSondagelaw29Op) : List Value := [.int .i64 x.gKind, .string x.gX.gName, .int .i64 x.gX.gNode, .string x.gY.gName, .int .i64 x.gY.gNode]
theorem eOp_eq (x : TSondagelaw29Op) : eTSondagelaw29Op x = .agg ((oc5 x).map .v) := rfl
theorem op_cells {H : Hp} {W : World} (hA : Ag H W) {l : List TSondagelaw29Op} {c : Cap} {a : Option Addr} {n m : Nat} (h : Rep H (.lst 5 (l.map eTSondagelaw29Op) c) (.slice a n m)) {i : Nat} {x : TSondagelaw29Op} (hx : l[i]? = some x) :
    ∃ b off, a = some ⟨b, off, none⟩ ∧ W.cell? ⟨b, off + i * 5, none⟩ = some (.int .i64 x.gKind) ∧ W.cell? ⟨b, off + i * 5 + 1, none⟩ = some (.string x.gX.gName) ∧ W.cell? ⟨b, off + i * 5 + 2, none⟩ = some (.int .i64 x.gX.gNode) ∧ W.cell? ⟨b, off + i * 5 + 3, none⟩ = some (.string x.gY.gName) ∧ W.cell? ⟨b, off + i * 5 + 4, none⟩ = some (.int .i64 x.gY.gNode) := by
  obtain ⟨_, h⟩ := rep_lst_inv h
  have hi := (List.getElem?_eq_some_iff.1 hx).1
  rcases h with ⟨e, _⟩ | ⟨b, off, m', e, hm, hE⟩
  · rw [List.map_eq_nil_iff] at e; subst e; simp at hx
  · simp only [Value.slice.injEq] at e
    obtain ⟨rfl, -, rfl⟩ := e
    obtain ⟨us, h1, h2, h3, _⟩ := els_get hE (i := i) (x := eTSondagelaw29Op x) (by simp [hx])
    have : us = oc5 x := by
      have q : Reps H ((oc5 x).map .v) us := by rw [eOp_eq] at h2; simpa only [RepC] using h2
      exact reps_v_inv q
    subst this
    exact ⟨b, off, rfl, by simpa using hA _ _ (h3 0 _ rfl), hA _ _ (h3 1 _ rfl), hA _ _ (h3 2 _ rfl), hA _ _ (h3 3 _ rfl), hA _ _ (h3 4 _ rfl)⟩
end Go.Proofs.Ytpdekcfeecdlbaa.Ab
namespace Go.Proofs.Ytpdekcfeecdlbaa.Ab
open Go Go.Proofs.Ytpdekcfeecdlbaa.Ab.Pq
set_option linter.all false
abbrev Pr := TSondageref29Pair
def dP (p q : Pr) : Bool := (decide (p.gX.gName = q.gX.gName) && (p.gX.gNode == q.gX.gNode && true)) && ((decide (p.gY.gName = q.gY.gName) && (p.gY.gNode == q.gY.gNode && true)) && true)
theorem dK_iff {a b : TApiKey} : (decide (a.gName = b.gName) && (a.gNode == b.gNode && true)) = true ↔ a = b := by
  obtain ⟨a0, a1⟩ := a
  obtain ⟨b0, b1⟩ := b
  simp
theorem dK_dec (a b : TApiKey) : (decide (a.gName = b.gName) && (a.gNode == b.gNode && true)) = decide (a = b) := by
  rw [Bool.eq_iff_iff, dK_iff, decide_eq_true_iff]
theorem dP_iff {p q : Pr} : dP p q = true ↔ p = q := by
  obtain ⟨a, b⟩ := p
  obtain ⟨c, d⟩ := q
  unfold dP
  rw [dK_dec, dK_dec]
  simp
theorem rclean_eq (x : TApiKey) : r26_Clean x = some (clK x) := by
  obtain ⟨a, b⟩ := x
  unfold r26_Clean clK
  by_cases h : b < 0
  · rw [decide_eq_true h, cond_true]; congr 2; simp only; omega
  · rw [decide_eq_false h, cond_false]; congr 2; simp only; omega
theorem less_eq (x y : TApiKey) : r26_Less x y = some (ltK x y) := by
  unfold r26_Less ltK
  by_cases h : x.gName = y.gName
  · simp only [h, decide_true, Bool.not_true, cond_false, ltB_irr, Bool.false_or, Bool.true_and]
  · simp only [h, decide_false, Bool.not_false, cond_true, Bool.false_and, Bool.or_false]
theorem loop_tw {β : Type} {f : List β × Int → Option (Step (List β × Int) (List β))} (l : List β) (P : β → Bool)
    (h1 : ∀ p x q, l = p ++ x :: q → P x = true → f (p, (p.length : Int)) = some (.next (p ++ [x], ((p.length + 1 : Nat) : Int))))
    (h2 : ∀ p x q, l = p ++ x :: q → P x = false → f (p, (p.length : Int)) = some (.done p)) (h3 : f (l, (l.length : Int)) = some (.done l)) : loopM f ([], (0 : Int)) = some (l.takeWhile P) := by
  have key : ∀ q p : List β, l = p ++ q → loopM f (p, (p.length : Int)) = some (p ++ q.takeWhile P) := by
    intro q
    induction q with
    | nil => intro p e; rw [List.append_nil] at e; subst e; rw [loopM_done h3]; simp
    | cons x q ih =>
      intro p e
      cases hp : P x with
      | true =>
        rw [loopM_next (h1 p x q e hp)]
        have := ih (p ++ [x]) (by simp [e])
        simp only [List.length_append, List.length_cons, List.length_nil, Nat.zero_add] at this
        rw [this]; simp [List.takeWhile_cons, hp]
      | false => rw [loopM_done (h2 p x q e hp)]; simp [List.takeWhile_cons, hp]
  simpa using key l [] rfl
theorem loop_from {σ τ α β ρ : Type} {f : σ → Option (Step σ τ)} {s0 : σ} {k : τ → Option ρ} {r : Option ρ} {l p0 q0 : List β} (hl : l = p0 ++ q0) (g : List β → α) (st : α → Nat → σ) (fin : α → τ) (h0 : st (g []) p0.length = s0)
    (h1 : ∀ pre x post, q0 = pre ++ x :: post → f (st (g pre) (p0 ++ pre).length) = some (.next (st (g (pre ++ [x])) ((p0 ++ pre).length + 1))))
    (h2 : f (st (g q0) l.length) = some (.done (fin (g q0)))) (hk : k (fin (g q0)) = r) : Option.bind (loopM f s0) k = r := by
  refine loop_list q0 g (fun a n => st a (p0.length + n)) fin (by simpa using h0) (fun pre x post e => ?_) ?_ hk
  · have := h1 pre x post e
    rw [List.length_append, Nat.add_assoc] at this; exact this
  · have := h2
    rw [hl, List.length_append] at this; exact this
def putR (k : TApiKey) (l : List TApiKey) : List TApiKey := (l.takeWhile fun x => ltK x k) ++ [k] ++ (l.drop (l.takeWhile fun x => ltK x k).length).filter fun x => !decide (x = k)
theorem putR_eq (k : TApiKey) : ∀ l, Rise leK l → putR k l = insT ltK k l
  | [], _ => rfl
  | x :: l, h => by
    have hr := List.pairwise_cons.1 h
    have ih := putR_eq k l hr.2
    unfold putR at ih ⊢
    unfold insT
    cases hx : ltK x k with
    | true =>
      have hne : ¬ k = x := fun e => by subst e; rw [ltK_irr] at hx; cases hx
      have hnl : ¬ ltK k x = true := fun e => by have := ltK_tr hx e; rw [ltK_irr] at this; cases this
      rw [if_neg hne, if_neg hnl, ← ih]
      simp [List.takeWhile_cons, hx]
    | false =>
      have gt : ∀ y ∈ l, ltK x y = true := fun y hy => (leK_lt x y).2 (hr.1 y hy)
      have keep : ∀ (z : TApiKey), (∀ y ∈ l, ltK z y = true) → l.filter (fun y => !decide (y = z)) = l := fun z hz => List.filter_eq_self.2 fun y hy => by
        rw [Bool.not_eq_true', decide_eq_false_iff_not]
        intro e; subst e
        have := hz _ hy; rw [ltK_irr] at this; cases this
      by_cases hk : k = x
      · subst hk
        rw [if_pos rfl]
        simp [List.takeWhile_cons, hx, keep k gt]
      · have hkx : ltK k x = true := by
          rcases ltK_tot k x with q | q | q
          · exact q
          · exact absurd q hk
          · rw [hx] at q; cases q
        rw [if_neg hk, if_pos hkx]
        have := keep k (fun y hy => ltK_tr hkx (gt y hy))
        simp [List.takeWhile_cons, hx, List.filter_cons, show ¬ x = k from fun e => hk e.symm, this]
theorem tw_pre (P : TApiKey → Bool) : ∀ l : List TApiKey, l = l.takeWhile P ++ l.drop (l.takeWhile P).length
  | [] => rfl
  | x :: l => by
    have := tw_pre P l
    cases h : P x with
    | true => simp only [List.takeWhile_cons, h, if_true, List.cons_append, List.length_cons, List.drop_succ_cons]; rw [← this]
    | false => simp [List.takeWhile_cons, h]
theorem rput_eq {l : List TApiKey} (hr : Rise leK l) (k : TApiKey) (hb : l.length ≤ 4194303) : r26_Put l k = some (insT ltK (clK k) l) := by
  rw [← putR_eq _ _ hr]
  unfold r26_Put
  rw [rclean_eq, Option.bind_some]
  have hpl : ∀ {p : List TApiKey} {x q}, l = p ++ x :: q → p.length < l.length := fun e => by rw [e]; simp
  refine (congrArg (fun o => Option.bind o _) (loop_tw l (fun x => ltK x (clK k)) ?_ ?_ ?_)).trans ?_
  · intro p x q e hp
    rw [lt_pre e, cond_true, idx_pre2 e rfl, Option.bind_some, less_eq, Option.bind_some, Option.bind_some, hp, cond_true, Option.bind_some, app_len (by omega) (by have := hpl e; simp; omega), Option.bind_some, inc_pre e (by omega)]
  · intro p x q e hp
    rw [lt_pre e, cond_true, idx_pre2 e rfl, Option.bind_some, less_eq, Option.bind_some, Option.bind_some, hp, cond_false]
  · rw [lt_end, cond_false, Option.bind_some, cond_false]
  · rw [Option.bind_some]
    generalize hT : l.takeWhile (fun x => ltK x (clK k)) = T
    have hs : l = T ++ l.drop T.length := by rw [← hT]; exact tw_pre _ l
    have hTl : T.length ≤ l.length := by rw [hs]; simp
    have hd : (l.drop T.length).length ≤ l.length := by simp
    rw [app_len (by omega) (by simp; omega), Option.bind_some]
    refine loop_from hs (fun pre => T ++ [clK k] ++ pre.filter fun x => !decide (x = clK k)) (fun a n => (a, (n : Int))) (fun a => a) (by simp) (fun pre x post e => ?_) ?_ ?_
    · have hl2 : l = (T ++ pre) ++ x :: post := by rw [List.append_assoc, ← e]; exact hs
      have h1 := List.length_filter_le (fun x => !decide (x = clK k)) pre
      have h2 := hpl hl2
      simp only [List.length_append] at h2
      show (bif decide (((T ++ pre).length : Int) < (l.length : Int)) then _ else _) = _
      rw [lt_pre hl2, cond_true, idx_pre2 hl2 rfl, Option.bind_some, inc_pre hl2 (by omega), dK_dec]
      by_cases q : x = clK k
      · rw [decide_eq_true q, Bool.not_true, cond_false]
        simp [List.filter_append, q]
      · rw [decide_eq_false q, Bool.not_false, cond_true, Option.bind_some, app_len (by omega) (by simp; omega), Option.bind_some]
        simp [List.filter_append, q]
    · rw [lt_end, cond_false]
    · unfold putR; rw [hT]
def hasK (l : List TApiKey) (k : TApiKey) : Bool := l.any fun x => decide (clK x = clK k)
theorem hasK_iff {l : List TApiKey} (hl : ∀ x ∈ l, clK x = x) (k : TApiKey) : hasK l k = true ↔ clK k ∈ l := by
  unfold hasK
  rw [List.any_eq_true]
  constructor
  · rintro ⟨x, hx, e⟩
    rw [decide_eq_true_iff, hl x hx] at e
    rw [← e]; exact hx
  · intro h
    exact ⟨_, h, by rw [decide_eq_true_iff, clK_cl]⟩
def addP (ps : List Pr) (x y : TApiKey) : List Pr := (ps.filter fun p => !dP p ⟨x, y⟩) ++ [⟨x, y⟩]
theorem radd_eq (ps : List Pr) (x y : TApiKey) (hb : ps.length ≤ 2097152) : r29_Add ps x y = some (addP ps (clK x) (clK y)) := by
  unfold r29_Add
  rw [rclean_eq, Option.bind_some, rclean_eq, Option.bind_some]
  refine loop_list ps (fun pre => pre.filter fun p => !dP p ⟨clK x, clK y⟩) (fun a n => (a, (n : Int))) (fun a => a) rfl (fun pre p post e => ?_) ?_ ?_
  · have h1 := List.length_filter_le (fun p => !dP p ⟨clK x, clK y⟩) pre
    have h2 : pre.length < ps.length := by rw [e]; simp
    rw [lt_pre e, cond_true, idx_pre2 e rfl, Option.bind_some, inc_pre e (by omega)]
    show (bif (!dP p ⟨clK x, clK y⟩) then _ else _) = _
    cases h : dP p ⟨clK x, clK y⟩
    · rw [Bool.not_false, cond_true, Option.bind_some, app_len (by omega) (by simp; omega), Option.bind_some]
      simp [List.filter_append, h]
    · rw [Bool.not_true, cond_false]
      simp [List.filter_append, h]
  · rw [lt_end, cond_false]
  · have h1 := List.length_filter_le (fun p => !dP p ⟨clK x, clK y⟩) ps
    rw [app_len (by omega) (by simp; omega), Option.bind_some]
    rfl
theorem addP_mem {ps : List Pr} {x y : TApiKey} (p : Pr) : p ∈ addP ps x y ↔ p = ⟨x, y⟩ ∨ p ∈ ps := by
  unfold addP
  rw [List.mem_append, List.mem_filter, List.mem_singleton, Bool.not_eq_true']
  constructor
  · rintro (h | h)
    · exact .inr h.1
    · exact .inl h
  · rintro (h | h)
    · exact .inr h
    · by_cases q : dP p ⟨x, y⟩ = true
      · exact .inr (dP_iff.1 q)
      · exact .inl ⟨h, by simpa using q⟩
theorem addP_len (ps : List Pr) (x y : TApiKey) : (addP ps x y).length ≤ ps.length + 1 := by
  unfold addP
  rw [List.length_append]
  have := List.length_filter_le (fun p => !dP p ⟨x, y⟩) ps
  simp; omega
def dropP (ps : List Pr) (x : TApiKey) : List Pr := ps.filter fun p => !decide (p.gX = x) && !decide (p.gY = x)
theorem rdrop_eq (ps : List Pr) (x : TApiKey) (hb : ps.length ≤ 2097152) : r29_Drop ps x = some (dropP ps (clK x)) := by
  unfold r29_Drop
  refine loop_list ps (fun pre => dropP pre (clK x)) (fun a n => (a, (n : Int))) (fun a => a) rfl (fun pre p post e => ?_) ?_ rfl
  · have h1 : (dropP pre (clK x)).length ≤ pre.length := List.length_filter_le _ _
    have h2 : pre.length < ps.length := by rw [e]; simp
    have hsn : dropP (pre ++ [p]) (clK x) = dropP pre (clK x) ++ (if (!decide (p.gX = clK x) && !decide (p.gY = clK x)) = true then [p] else []) := by
      unfold dropP; rw [List.filter_append]; simp [List.filter_cons]
    rw [lt_pre e, cond_true, idx_pre2 e rfl, Option.bind_some, rclean_eq, Option.bind_some, Option.bind_some, Option.bind_some, inc_pre e (by omega), dK_dec, dK_dec, hsn]
    by_cases q : p.gX = clK x
    · rw [decide_eq_true q, Bool.not_true, cond_false, Option.bind_some, cond_false]; simp
    · rw [decide_eq_false q, Bool.not_false, cond_true, Option.bind_some]
      by_cases q2 : p.gY = clK x
      · rw [decide_eq_true q2, Bool.not_true, cond_false]; simp
      · rw [decide_eq_false q2, Bool.not_false, cond_true, Option.bind_some, app_len (by omega) (by simp; omega), Option.bind_some]; simp
  · rw [lt_end, cond_false]
def onP (ps : List Pr) (x : TApiKey) : List TApiKey := rowK ((ps.filter fun p => decide (p.gX = x)).map (·.gY))
def ofP (ps : List Pr) (y : TApiKey) : List TApiKey := rowK ((ps.filter fun p => decide (p.gY = y)).map (·.gX))
theorem ron_eq (ps : List Pr) (x : TApiKey) (hb : ps.length ≤ 2097152) : r29_On ps x = some (onP ps (clK x)) := by
  unfold r29_On
  refine loop_list ps (fun pre => onP pre (clK x)) (fun a n => (a, (n : Int))) (fun a => a) rfl (fun pre p post e => ?_) ?_ rfl
  · have h1 : (onP pre (clK x)).length ≤ pre.length := Nat.le_trans (rowK_all _).2.2 (by rw [List.length_map]; exact List.length_filter_le _ _)
    have h2 : pre.length < ps.length := by rw [e]; simp
    rw [lt_pre e, cond_true, idx_pre2 e rfl, Option.bind_some, rclean_eq, Option.bind_some, Option.bind_some, inc_pre e (by omega), dK_dec]
    by_cases q : p.gX = clK x
    · rw [decide_eq_true q, cond_true, rput_eq (l := onP pre (clK x)) (rowK_all _).1 p.gY (by omega), Option.bind_some]
      unfold onP
      rw [List.filter_append, List.map_append, ← rowK_snoc]
      simp [q]
    · rw [decide_eq_false q, cond_false]
      unfold onP
      rw [List.filter_append]
      simp [q]
  · rw [lt_end, cond_false]
theorem rof29_eq (ps : List Pr) (x : TApiKey) (hb : ps.length ≤ 2097152) : r29_Of ps x = some (ofP ps (clK x)) := by
  unfold r29_Of
  refine loop_list ps (fun pre => ofP pre (clK x)) (fun a n => (a, (n : Int))) (fun a => a) rfl (fun pre p post e => ?_) ?_ rfl
  · have h1 : (ofP pre (clK x)).length ≤ pre.length := Nat.le_trans (rowK_all _).2.2 (by rw [List.length_map]; exact List.length_filter_le _ _)
    have h2 : pre.length < ps.length := by rw [e]; simp
    rw [lt_pre e, cond_true, idx_pre2 e rfl, Option.bind_some, rclean_eq, Option.bind_some, Option.bind_some, inc_pre e (by omega), dK_dec]
    by_cases q : p.gY = clK x
    · rw [decide_eq_true q, cond_true, rput_eq (l := ofP pre (clK x)) (rowK_all _).1 p.gX (by omega), Option.bind_some]
      unfold ofP
      rw [List.filter_append, List.map_append, ← rowK_snoc]
      simp [q]
    · rw [decide_eq_false q, cond_false]
      unfold ofP
      rw [List.filter_append]
      simp [q]
  · rw [lt_end, cond_false]
theorem keys_same (l : List TApiKey) (hb : l.length ≤ 4611686018427387904) : r23_Keys l l = some true := by
  unfold r23_Keys
  have h0 : ((l.length : Int) != (l.length : Int)) = false := by simp
  rw [h0, cond_false]
  refine (congrArg (fun o => Option.bind o _) (loop_all (l := l) ?_ ?_)).trans rfl
  · intro p x q e
    rw [lt_pre e, cond_true, idx_pre2 e rfl, Option.bind_some, Option.bind_some, inc_pre e hb, dK_iff.2 rfl, Bool.not_true, cond_false]
  · rw [lt_end, cond_false]
end Go.Proofs.Ytpdekcfeecdlbaa.Ab
namespace Go.Proofs.Ytpdekcfeecdlbaa.Ab
open Go Go.Proofs.Ytpdekcfeecdlbaa.Ab.Pq
set_option linter.all false
def AllR (R : TApiKey → TApiKey → Prop) (l out : List TApiKey) : Prop := RowC out ∧ (∀ k ∈ l.map clK, k ∈ out) ∧ (∀ x ∈ out, ∀ y, R x y → y ∈ out) ∧ ∀ S : TApiKey → Prop, (∀ k ∈ l.map clK, S k) → (∀ x, S x → ∀ y, R x y → S y) → ∀ k ∈ out, S k
theorem AllR.unique {R : TApiKey → TApiKey → Prop} {l o1 o2 : List TApiKey} (h1 : AllR R l o1) (h2 : AllR R l o2) : o1 = o2 :=
  rise_unique leK_an h1.1.1 h2.1.1 fun x => ⟨h1.2.2.2 (· ∈ o2) h2.2.1 h2.2.2.1 x, h2.2.2.2 (· ∈ o1) h1.2.1 h1.2.2.1 x⟩
theorem AllR.congr {R R' : TApiKey → TApiKey → Prop} {l o : List TApiKey} (h : AllR R l o) (e : ∀ x y, R x y ↔ R' x y) : AllR R' l o :=
  ⟨h.1, h.2.1, fun x hx y hy => h.2.2.1 x hx y ((e x y).2 hy), fun S s1 s2 => h.2.2.2 S s1 fun x hx y hy => s2 x hx y ((e x y).1 hy)⟩
theorem AllP.toR {m : Tm} {l out : List TApiKey} (h : AllP m l out) : AllR (fun x y => y ∈ mgetD m x []) l out := h
def upR (ps : List Pr) (up : Bool) (x y : TApiKey) : Prop := if up = true then (⟨x, y⟩ : Pr) ∈ ps else (⟨y, x⟩ : Pr) ∈ ps
def fromP (up : Bool) (p : Pr) : TApiKey := bif up then p.gX else p.gY
def toP (up : Bool) (p : Pr) : TApiKey := bif up then p.gY else p.gX
theorem upR_iff {ps : List Pr} {up : Bool} {x y : TApiKey} : upR ps up x y ↔ ∃ p ∈ ps, fromP up p = x ∧ toP up p = y := by
  unfold upR fromP toP
  cases up
  · simp only [Bool.false_eq_true, if_false, cond_false]
    exact ⟨fun h => ⟨_, h, rfl, rfl⟩, fun ⟨p, h, e1, e2⟩ => by subst e1; subst e2; exact h⟩
  · simp only [if_true, cond_true]
    exact ⟨fun h => ⟨_, h, rfl, rfl⟩, fun ⟨p, h, e1, e2⟩ => by subst e1; subst e2; exact h⟩
def stA (up : Bool) (out : List TApiKey) (p : Pr) : List TApiKey := if hasK out (fromP up p) = true then insT ltK (clK (toP up p)) out else out
def rdA (up : Bool) (ps : List Pr) (out : List TApiKey) : List TApiKey := ps.foldl (stA up) out
def allA (up : Bool) (ps : List Pr) : Nat → List TApiKey → List TApiKey
  | 0, out => out
  | n + 1, out => if (rdA up ps out).length = out.length then rdA up ps out else allA up ps n (rdA up ps out)
def CP (ps : List Pr) : Prop := ∀ p ∈ ps, clK p.gX = p.gX ∧ clK p.gY = p.gY
theorem CP.to {ps : List Pr} (h : CP ps) (up : Bool) {p : Pr} (hp : p ∈ ps) : clK (toP up p) = toP up p ∧ clK (fromP up p) = fromP up p := by
  obtain ⟨a, b⟩ := h p hp
  cases up <;> exact ⟨by assumption, by assumption⟩
theorem stA_row {up : Bool} {out : List TApiKey} {p : Pr} (h : RowC out) : RowC (stA up out p) := by
  unfold stA
  split
  · exact rowC_ins h (clK_cl _)
  · exact h
theorem stA_sub {up : Bool} {out : List TApiKey} {p : Pr} : ∀ k ∈ out, k ∈ stA up out p := by
  intro k hk
  unfold stA
  split
  · exact (insT_mem ltK _ _ _).2 (.inr hk)
  · exact hk
theorem stA_new {up : Bool} {out : List TApiKey} {p : Pr} (h : RowC out) (hp : clK (toP up p) = toP up p ∧ clK (fromP up p) = fromP up p) {k : TApiKey} (hk : k ∈ stA up out p) : k ∈ out ∨ (k = toP up p ∧ fromP up p ∈ out) := by
  unfold stA at hk
  split at hk
  · rename_i hh
    rw [hasK_iff h.2, hp.2] at hh
    rcases (insT_mem ltK _ _ _).1 hk with e | e
    · rw [hp.1] at e; exact .inr ⟨e, hh⟩
    · exact .inl e
  · exact .inl hk
theorem stA_got {up : Bool} {out : List TApiKey} {p : Pr} (h : RowC out) (hp : clK (toP up p) = toP up p ∧ clK (fromP up p) = fromP up p) (hf : fromP up p ∈ out) : toP up p ∈ stA up out p := by
  unfold stA
  rw [if_pos ((hasK_iff h.2 _).2 (by rw [hp.2]; exact hf))]
  exact (insT_mem ltK _ _ _).2 (.inl hp.1.symm)
theorem rdA_all {up : Bool} : ∀ {ps : List Pr} {out : List TApiKey}, CP ps → RowC out → RowC (rdA up ps out) ∧ (∀ k ∈ out, k ∈ rdA up ps out) ∧ (∀ p ∈ ps, fromP up p ∈ out → toP up p ∈ rdA up ps out) ∧
    (∀ S : TApiKey → Prop, (∀ k ∈ out, S k) → (∀ p ∈ ps, S (fromP up p) → S (toP up p)) → ∀ k ∈ rdA up ps out, S k) ∧ ∀ k ∈ rdA up ps out, k ∈ out ∨ ∃ p ∈ ps, k = toP up p
  | [], out, _, h => ⟨h, fun k hk => hk, by simp, fun S s _ => s, fun k hk => .inl hk⟩
  | p :: ps, out, hc, h => by
    have hp := hc.to up (List.mem_cons_self ..)
    obtain ⟨i1, i2, i3, i4, i5⟩ := rdA_all (up := up) (ps := ps) (out := stA up out p) (fun q hq => hc q (List.mem_cons_of_mem _ hq)) (stA_row h)
    refine ⟨i1, fun k hk => i2 k (stA_sub k hk), fun q hq hf => ?_, fun S s1 s2 => ?_, fun k hk => ?_⟩
    · rcases List.mem_cons.1 hq with rfl | hq
      · exact i2 _ (stA_got h hp hf)
      · exact i3 q hq (stA_sub _ hf)
    · refine i4 S (fun k hk => ?_) fun q hq => s2 q (List.mem_cons_of_mem _ hq)
      rcases stA_new h hp hk with e | ⟨e, f⟩
      · exact s1 k e
      · subst e; exact s2 p (List.mem_cons_self ..) (s1 _ f)
    · rcases i5 k hk with e | ⟨q, hq, e⟩
      · rcases stA_new h hp e with e | ⟨e, _⟩
        · exact .inl e
        · exact .inr ⟨p, List.mem_cons_self .., e⟩
      · exact .inr ⟨q, List.mem_cons_of_mem _ hq, e⟩
theorem same_of_len {α : Type} [DecidableEq α] {l m : List α} (hl : l.Nodup) (hm : m.Nodup) (hs : ∀ x ∈ l, x ∈ m) (he : m.length ≤ l.length) : ∀ x ∈ m, x ∈ l := by
  intro x hx
  refine Decidable.byContradiction fun hn => ?_
  have := nodup_le (l := x :: l) (U := m) (List.nodup_cons.2 ⟨hn, hl⟩) (fun y hy => by
    rcases List.mem_cons.1 hy with rfl | hy
    · exact hx
    · exact hs y hy)
  simp at this; omega
theorem allA_all {up : Bool} {ps : List Pr} (hc : CP ps) (b : List TApiKey) : ∀ (n : Nat) (out : List TApiKey), RowC out → (∀ k ∈ out, k ∈ b ∨ ∃ p ∈ ps, k = toP up p) → b.length + ps.length ≤ out.length + n →
    RowC (allA up ps n out) ∧ (∀ k ∈ out, k ∈ allA up ps n out) ∧ (∀ p ∈ ps, fromP up p ∈ allA up ps n out → toP up p ∈ allA up ps n out) ∧
    (∀ S : TApiKey → Prop, (∀ k ∈ out, S k) → (∀ p ∈ ps, S (fromP up p) → S (toP up p)) → ∀ k ∈ allA up ps n out, S k)
  | 0, out, h, hb, hn => by
    refine ⟨h, fun k hk => hk, fun p hp _ => ?_, fun S s _ => s⟩
    change toP up p ∈ out
    refine Decidable.byContradiction fun hx => ?_
    have hq : ∀ k ∈ toP up p :: out, k ∈ b ++ ps.map (toP up) := by
      intro k hk
      rcases List.mem_cons.1 hk with rfl | hk
      · exact List.mem_append_right _ (List.mem_map.2 ⟨p, hp, rfl⟩)
      · rcases hb k hk with e | ⟨q, hq, e⟩
        · exact List.mem_append_left _ e
        · exact List.mem_append_right _ (List.mem_map.2 ⟨q, hq, e.symm⟩)
    have := nodup_le (List.nodup_cons.2 ⟨hx, rise_nodup h.1⟩) hq
    simp at this; omega
  | n + 1, out, h, hb, hn => by
    obtain ⟨i1, i2, i3, i4, i5⟩ := rdA_all (up := up) (ps := ps) (out := out) hc h
    unfold allA
    split
    · rename_i he
      have hs := same_of_len (rise_nodup h.1) (rise_nodup i1.1) i2 (by omega)
      exact ⟨i1, i2, fun p hp hf => i3 p hp (hs _ hf), i4⟩
    · rename_i he
      have hlt : out.length < (rdA up ps out).length := by
        have := nodup_le (rise_nodup h.1) i2
        omega
      obtain ⟨j1, j2, j3, j4⟩ := allA_all hc b n (rdA up ps out) i1 (fun k hk => by
        rcases i5 k hk with e | e
        · exact hb k e
        · exact .inr e) (by omega)
      exact ⟨j1, fun k hk => j2 k (i2 k hk), j3, fun S s1 s2 => j4 S (i4 S s1 s2) s2⟩
theorem allA_spec {ps : List Pr} (hc : CP ps) (l : List TApiKey) (up : Bool) : AllR (upR ps up) l (allA up ps ps.length (rowK l)) := by
  have hrow := rowK_all l
  obtain ⟨j1, j2, j3, j4⟩ := allA_all (up := up) hc (rowK l) ps.length (rowK l) (rowC_row l) (fun k hk => .inl hk) (Nat.le_refl _)
  refine ⟨j1, fun k hk => j2 k ((hrow.2.1 k).2 hk), fun x hx y hy => ?_, fun S s1 s2 => j4 S (fun k hk => s1 k ((hrow.2.1 k).1 hk)) fun p hp hf => s2 _ hf _ (upR_iff.2 ⟨p, hp, rfl, rfl⟩)⟩
  obtain ⟨p, hp, rfl, rfl⟩ := upR_iff.1 hy
  exact j3 p hp hx
structure WR (B : Nat) (ps : List Pr) (m1 m2 : Tm) : Prop where
  g1 : GoodM B m1
  g2 : GoodM B m2
  cp : CP ps
  on : ∀ x y, y ∈ mgetD m1 x [] ↔ (⟨x, y⟩ : Pr) ∈ ps
  of : ∀ x y, x ∈ mgetD m2 y [] ↔ (⟨x, y⟩ : Pr) ∈ ps
theorem WR.nil (B : Nat) : WR B [] [] [] := by
  have g : GoodM B [] := ⟨List.nodup_nil, fun k => ⟨⟨List.Pairwise.nil, by simp [mgetD, mget]⟩, Nat.zero_le _⟩⟩
  exact ⟨g, g, by simp [CP], by simp [mgetD, mget], by simp [mgetD, mget]⟩
theorem tieF_get (m : Tm) (x y k : TApiKey) : mgetD (tieF m x y) k [] = if k = x ∧ y ∉ mgetD m x [] then insT ltK y (mgetD m x []) else mgetD m k [] := by
  unfold tieF
  by_cases h : y ∈ mgetD m x []
  · rw [if_pos h, if_neg (fun q => q.2 h)]
  · rw [if_neg h, mgetD_put]
    by_cases q : k = x
    · rw [if_pos q, if_pos ⟨q, h⟩]
    · rw [if_neg q, if_neg (fun e => q e.1)]
theorem tieF_mem (m : Tm) (x y k z : TApiKey) : z ∈ mgetD (tieF m x y) k [] ↔ z ∈ mgetD m k [] ∨ (k = x ∧ z = y) := by
  rw [tieF_get]
  split
  · rename_i h
    obtain ⟨rfl, h⟩ := h
    rw [insT_mem]
    constructor
    · rintro (e | e)
      · exact .inr ⟨rfl, e⟩
      · exact .inl e
    · rintro (e | ⟨_, e⟩)
      · exact .inr e
      · exact .inl e
  · rename_i h
    constructor
    · exact .inl
    · rintro (e | ⟨rfl, rfl⟩)
      · exact e
      · exact Decidable.byContradiction fun q => h ⟨rfl, q⟩
theorem tieF_good {B : Nat} {m : Tm} (h : GoodM B m) {x y : TApiKey} (hy : clK y = y) : GoodM (B + 1) (tieF m x y) := by
  refine ⟨?_, fun k => ?_⟩
  · unfold tieF
    split
    · exact h.1
    · exact (mput_keys _ m x h.1).1
  · rw [tieF_get]
    split
    · exact ⟨rowC_ins (h.2 x).1 hy, by have := insT_len ltK y (mgetD m x []); have := (h.2 x).2; omega⟩
    · exact ⟨(h.2 k).1, Nat.le_succ_of_le (h.2 k).2⟩
theorem GoodM.mono {B B' : Nat} {m : Tm} (h : GoodM B m) (hb : B ≤ B') : GoodM B' m := ⟨h.1, fun k => ⟨(h.2 k).1, Nat.le_trans (h.2 k).2 hb⟩⟩
theorem WR.mono {B B' : Nat} {ps : List Pr} {m1 m2 : Tm} (h : WR B ps m1 m2) (hb : B ≤ B') : WR B' ps m1 m2 := ⟨h.g1.mono hb, h.g2.mono hb, h.cp, h.on, h.of⟩
theorem WR.add {B : Nat} {ps : List Pr} {m1 m2 : Tm} (h : WR B ps m1 m2) {x y : TApiKey} (hx : clK x = x) (hy : clK y = y) : WR (B + 1) (addP ps x y) (tieF m1 x y) (tieF m2 y x) := by
  refine ⟨tieF_good h.g1 hy, tieF_good h.g2 hx, fun p hp => ?_, fun a b => ?_, fun a b => ?_⟩
  · rcases (addP_mem p).1 hp with rfl | hp
    · exact ⟨hx, hy⟩
    · exact h.cp p hp
  · rw [tieF_mem, addP_mem, h.on, TSondageref29Pair.mk.injEq]
    exact Or.comm
  · rw [tieF_mem, addP_mem, h.of, TSondageref29Pair.mk.injEq]
    constructor
    · rintro (e | ⟨e, f⟩)
      · exact .inr e
      · exact .inl ⟨f, e⟩
    · rintro (⟨e, f⟩ | e)
      · exact .inr ⟨f, e⟩
      · exact .inl e
theorem WR.drop {B : Nat} {ps : List Pr} {m1 m2 : Tm} (h : WR B ps m1 m2) {x : TApiKey} (hx : clK x = x) : WR B (dropP ps x) (drop1 m1 m2 x) (drop2 m1 m2 x) := by
  have gq : GoodM B (dropM m1 m2 x) := cutM_good _ _ h.g2
  have hq : ∀ k z, z ∈ mgetD (dropM m1 m2 x) k [] ↔ (⟨z, k⟩ : Pr) ∈ ps ∧ ¬ z = x := by
    intro k z
    unfold dropM
    rw [cutM_mem _ _ _ _ h.g2, h.of, hx, h.on]
    constructor
    · rintro ⟨a, b⟩
      exact ⟨a, fun e => b ⟨by rw [← e]; exact a, e⟩⟩
    · rintro ⟨a, b⟩
      exact ⟨a, fun e => b e.2⟩
  have g1 : GoodM B (cutM m1 (mgetD (dropM m1 m2 x) x []) x) := cutM_good _ _ h.g1
  refine ⟨del_good g1 x, del_good gq x, fun p hp => h.cp p (List.mem_filter.1 hp).1, fun a b => ?_, fun a b => ?_⟩
  · unfold drop1 dropP
    rw [mgetD_del _ _ _ _ g1.1, List.mem_filter]
    split
    · rename_i e; subst e; simp
    · rename_i e
      rw [cutM_mem _ _ _ _ h.g1, h.on, hq, hx]
      constructor
      · rintro ⟨f, g⟩
        refine ⟨f, ?_⟩
        rw [Bool.and_eq_true, Bool.not_eq_true', Bool.not_eq_true', decide_eq_false_iff_not, decide_eq_false_iff_not]
        exact ⟨e, fun r => g ⟨⟨by rw [← r]; exact f, e⟩, r⟩⟩
      · rintro ⟨f, g⟩
        rw [Bool.and_eq_true, Bool.not_eq_true', Bool.not_eq_true', decide_eq_false_iff_not, decide_eq_false_iff_not] at g
        exact ⟨f, fun r => g.2 r.2⟩
  · unfold drop2 dropP
    rw [mgetD_del _ _ _ _ gq.1, List.mem_filter]
    split
    · rename_i e; subst e; simp
    · rename_i e
      rw [hq]
      constructor
      · rintro ⟨f, g⟩
        refine ⟨f, ?_⟩
        rw [Bool.and_eq_true, Bool.not_eq_true', Bool.not_eq_true', decide_eq_false_iff_not, decide_eq_false_iff_not]
        exact ⟨g, e⟩
      · rintro ⟨f, g⟩
        rw [Bool.and_eq_true, Bool.not_eq_true', Bool.not_eq_true', decide_eq_false_iff_not, decide_eq_false_iff_not] at g
        exact ⟨f, g.1⟩
theorem WR.onE {B : Nat} {ps : List Pr} {m1 m2 : Tm} (h : WR B ps m1 m2) (x : TApiKey) : mgetD m1 x [] = onP ps x := by
  refine rise_unique leK_an (h.g1.2 x).1.1 (rowK_all _).1 fun y => ?_
  unfold onP
  rw [h.on, (rowK_all _).2.1]
  constructor
  · intro e
    exact List.mem_map.2 ⟨y, List.mem_map.2 ⟨⟨x, y⟩, List.mem_filter.2 ⟨e, decide_eq_true rfl⟩, rfl⟩, (h.cp _ e).2⟩
  · intro e
    obtain ⟨z, hz, rfl⟩ := List.mem_map.1 e
    obtain ⟨p, hp, rfl⟩ := List.mem_map.1 hz
    obtain ⟨q1, q2⟩ := List.mem_filter.1 hp
    rw [decide_eq_true_iff] at q2
    subst q2
    rw [(h.cp _ q1).2]; exact q1
theorem WR.ofE {B : Nat} {ps : List Pr} {m1 m2 : Tm} (h : WR B ps m1 m2) (x : TApiKey) : mgetD m2 x [] = ofP ps x := by
  refine rise_unique leK_an (h.g2.2 x).1.1 (rowK_all _).1 fun y => ?_
  unfold ofP
  rw [h.of, (rowK_all _).2.1]
  constructor
  · intro e
    exact List.mem_map.2 ⟨y, List.mem_map.2 ⟨⟨y, x⟩, List.mem_filter.2 ⟨e, decide_eq_true rfl⟩, rfl⟩, (h.cp _ e).1⟩
  · intro e
    obtain ⟨z, hz, rfl⟩ := List.mem_map.1 e
    obtain ⟨p, hp, rfl⟩ := List.mem_map.1 hz
    obtain ⟨q1, q2⟩ := List.mem_filter.1 hp
    rw [decide_eq_true_iff] at q2
    subst q2
    rw [(h.cp _ q1).1]; exact q1
theorem flat_pairs : ∀ {m : Tm}, (m.map (·.1)).Nodup → (∀ p ∈ m, p.2.Nodup) → (m.flatMap fun p => p.2.map fun y => (p.1, y)).Nodup
  | [], _, _ => by simp
  | p :: m, hk, hr => by
    simp only [List.map_cons, List.nodup_cons] at hk
    rw [List.flatMap_cons, List.nodup_append]
    refine ⟨?_, flat_pairs hk.2 fun q hq => hr q (List.mem_cons_of_mem _ hq), ?_⟩
    · have := hr p (List.mem_cons_self ..)
      refine List.Pairwise.map _ (fun a b h => ?_) this
      intro e; exact h (Prod.mk.inj e).2
    · intro a ha b hb e
      subst e
      obtain ⟨y, _, rfl⟩ := List.mem_map.1 ha
      obtain ⟨q, hq, h2⟩ := List.mem_flatMap.1 hb
      obtain ⟨z, _, e⟩ := List.mem_map.1 h2
      exact hk.1 (List.mem_map.2 ⟨q, hq, (Prod.mk.inj e).1⟩)
theorem mgetD_at : ∀ {m : Tm}, (m.map (·.1)).Nodup → ∀ p ∈ m, mgetD m p.1 [] = p.2
  | [], _, p, hp => by simp at hp
  | (a, b) :: m, hk, p, hp => by
    simp only [List.map_cons, List.nodup_cons] at hk
    unfold mgetD mget
    rcases List.mem_cons.1 hp with rfl | hp
    · rw [if_pos rfl]; rfl
    · rw [if_neg (fun e => hk.1 (List.mem_map.2 ⟨p, hp, e.symm⟩))]
      exact mgetD_at hk.2 p hp
theorem flat_le {B : Nat} {m : Tm} (g : GoodM B m) (U : List (TApiKey × TApiKey)) (hU : ∀ x y, y ∈ mgetD m x [] → (x, y) ∈ U) : (m.flatMap (·.2)).length ≤ U.length := by
  have h1 := nodup_le (U := U) (flat_pairs g.1 fun p hp => by rw [← mgetD_at g.1 p hp]; exact rise_nodup (g.2 p.1).1.1) (fun q hq => by
    obtain ⟨p, hp, h2⟩ := List.mem_flatMap.1 hq
    obtain ⟨y, hy, rfl⟩ := List.mem_map.1 h2
    exact hU _ _ (by rw [mgetD_at g.1 p hp]; exact hy))
  have h2 : ∀ m : Tm, (m.flatMap fun p => p.2.map fun y => (p.1, y)).length = (m.flatMap (·.2)).length := by
    intro m
    induction m with
    | nil => rfl
    | cons p m ih => simp only [List.flatMap_cons, List.length_append, List.length_map, ih]
  rw [h2] at h1; exact h1
theorem WR.univ1 {B : Nat} {ps : List Pr} {m1 m2 : Tm} (h : WR B ps m1 m2) (l : List TApiKey) : (univ m1 l).length ≤ l.length + ps.length := by
  have := flat_le h.g1 (ps.map fun p => (p.gX, p.gY)) (fun x y hy => List.mem_map.2 ⟨⟨x, y⟩, (h.on x y).1 hy, rfl⟩)
  unfold univ; simp only [List.length_append, List.length_map] at this ⊢; omega
theorem WR.univ2 {B : Nat} {ps : List Pr} {m1 m2 : Tm} (h : WR B ps m1 m2) (l : List TApiKey) : (univ m2 l).length ≤ l.length + ps.length := by
  have := flat_le h.g2 (ps.map fun p => (p.gY, p.gX)) (fun y x hx => List.mem_map.2 ⟨⟨x, y⟩, (h.of x y).1 hx, rfl⟩)
  unfold univ; simp only [List.length_append, List.length_map] at this ⊢; omega
theorem WR.up {B : Nat} {ps : List Pr} {m1 m2 : Tm} (h : WR B ps m1 m2) {l out : List TApiKey} (a : AllP m1 l out) : AllR (upR ps true) l out := AllR.congr a.toR fun x y => by unfold upR; rw [if_pos rfl]; exact h.on x y
theorem WR.down {B : Nat} {ps : List Pr} {m1 m2 : Tm} (h : WR B ps m1 m2) {l out : List TApiKey} (a : AllP m2 l out) : AllR (upR ps false) l out := AllR.congr a.toR fun x y => by unfold upR; rw [if_neg (by simp)]; exact h.of y x
end Go.Proofs.Ytpdekcfeecdlbaa.Ab
namespace Go.Proofs.Ytpdekcfeecdlbaa.Ab
open Go Go.RowKit Go.Shelf Go.Proofs Go.Proofs.Ytpdekcfeecdlbaa.Ab.Pq
set_option linter.all false
theorem web_add {C : Ctx} {H : Hp} {z : YW} {W : World} {B : Nat} {ps : List Pr} (c : Core C H (webH z) [] W) (r : WR B ps (tieL z.e1) (tieL z.e2)) (hB : B < 4398046511104) (x y : TApiKey) :
    Calls Try.prog 19 #[.pointer (some ⟨z.p, 0, none⟩), encK x, encK y] W fun e w' => ∃ z' : YW, e = .returned (.tuple #[]) ∧ z'.p = z.p ∧ Core C H (webH z') [] w' ∧ WR (B + 1) (addP ps (clK x) (clK y)) (tieL z'.e1) (tieL z'.e2) := by
  have q1 := r.g1.2 (clK x)
  have q2 := r.g2.2 (clK y)
  rw [mgetL] at q1 q2
  refine (Add_calls H W c.ag z c.blks c.nd x y q1.1 (Nat.lt_of_le_of_lt q1.2 hB) q2.1 (Nat.lt_of_le_of_lt q2.2 hB)).mono ?_
  rintro e w' ⟨e1, e2, he, hc, h1, h2⟩
  refine ⟨⟨z.p, z.b1, z.b2, z.T, e1, e2⟩, he, rfl, ?_, ?_⟩
  · have := Core.call (h2 := []) (k1 := []) (k2 := []) (by rw [List.append_nil]; exact c) hc
    simpa using this
  · rw [h1, h2]; exact r.add (clK_cl x) (clK_cl y)
theorem web_drop {C : Ctx} {H : Hp} {z : YW} {W : World} {B : Nat} {ps : List Pr} (c : Core C H (webH z) [] W) (r : WR B ps (tieL z.e1) (tieL z.e2)) (hB : B < 4398046511104) (x : TApiKey) :
    Calls Try.prog 20 #[.pointer (some ⟨z.p, 0, none⟩), encK x] W fun e w' => ∃ z' : YW, e = .returned (.tuple #[]) ∧ z'.p = z.p ∧ Core C H (webH z') [] w' ∧ WR B (dropP ps (clK x)) (tieL z'.e1) (tieL z'.e2) := by
  refine (Drop_calls H W c.ag z c.blks c.nd x B hB r.g1 r.g2).mono ?_
  rintro e w' ⟨e1, e2, he, hc, h1, h2⟩
  refine ⟨⟨z.p, z.b1, z.b2, z.T, e1, e2⟩, he, rfl, ?_, ?_⟩
  · have := Core.call (h2 := []) (k1 := []) (k2 := []) (by rw [List.append_nil]; exact c) hc
    simpa using this
  · rw [h1, h2]; exact r.drop (clK_cl x)
theorem web_clear {C : Ctx} {H : Hp} {z : YW} {W : World} (B : Nat) (c : Core C H (webH z) [] W) :
    Calls Try.prog 21 #[.pointer (some ⟨z.p, 0, none⟩)] W fun e w' => ∃ z' : YW, e = .returned (.tuple #[]) ∧ z'.p = z.p ∧ Core C H (webH z') [] w' ∧ WR B [] (tieL z'.e1) (tieL z'.e2) := by
  refine (Clear_calls H W c.ag z c.blks c.nd).mono ?_
  rintro e w' ⟨he, hc⟩
  refine ⟨⟨z.p, z.b1, z.b2, z.T, [], []⟩, he, rfl, ?_, WR.nil B⟩
  have := Core.call (h2 := []) (k1 := []) (k2 := []) (by rw [List.append_nil]; exact c) hc
  simpa using this
theorem web_on {C : Ctx} {H : Hp} {z : YW} {W : World} {B : Nat} {ps : List Pr} (c : Core C H (webH z) [] W) (r : WR B ps (tieL z.e1) (tieL z.e2)) (hB : B < 4398046511104) (x : TApiKey) :
    Calls Try.prog 14 #[.pointer (some ⟨z.p, 0, none⟩), encK x] W fun e w' => ∃ H' v, e = .returned v ∧ H.le H' ∧ Core C H' (webH z) [] w' ∧ KL H' (onP ps (clK x)) v := by
  have q1 := r.g1.2 (clK x)
  have q2 := r.onE (clK x)
  rw [mgetL] at q1 q2
  rw [← q2]
  exact row_callsT c (On_calls H W c.ag z c.blks x (Nat.lt_of_le_of_lt q1.2 hB))
theorem web_below {C : Ctx} {H : Hp} {z : YW} {W : World} {B : Nat} {ps : List Pr} (c : Core C H (webH z) [] W) (r : WR B ps (tieL z.e1) (tieL z.e2)) {l : List TApiKey} {v : Value} (hv : KL H l v) (hl : l.length + ps.length < 4398046511104) :
    Calls Try.prog 10 #[.pointer (some ⟨z.p, 0, none⟩), v] W fun e w' => ∃ H' v' out, e = .returned v' ∧ H.le H' ∧ Core C H' (webH z) [] w' ∧ KL H' out v' ∧ AllR (upR ps false) l out := by
  refine (Below_calls H W c.ag z c.blks l v (slk_told c.ag hv) (fun x => (r.g2.2 x).1) (Nat.lt_of_le_of_lt (r.univ2 l) hl)).mono ?_
  rintro e w' ⟨out, y, rfl, hc, hp⟩
  obtain ⟨H', hle, c', hk⟩ := core_tell (Core.call (h1 := []) (k1 := []) (k2 := []) c hc)
  exact ⟨H', _, out, rfl, hle, c', hk, r.down hp⟩
theorem web_above {C : Ctx} {H : Hp} {z : YW} {W : World} {B : Nat} {ps : List Pr} (c : Core C H (webH z) [] W) (r : WR B ps (tieL z.e1) (tieL z.e2)) {l : List TApiKey} {v : Value} (hv : KL H l v) (hl : l.length + ps.length < 4398046511104) :
    Calls Try.prog 12 #[.pointer (some ⟨z.p, 0, none⟩), v] W fun e w' => ∃ H' v' out, e = .returned v' ∧ H.le H' ∧ Core C H' (webH z) [] w' ∧ KL H' out v' ∧ AllR (upR ps true) l out := by
  refine (Above_calls H W c.ag z c.blks l v (slk_told c.ag hv) (fun x => (r.g1.2 x).1) (Nat.lt_of_le_of_lt (r.univ1 l) hl)).mono ?_
  rintro e w' ⟨out, y, rfl, hc, hp⟩
  obtain ⟨H', hle, c', hk⟩ := core_tell (Core.call (h1 := []) (k1 := []) (k2 := []) c hc)
  exact ⟨H', _, out, rfl, hle, c', hk, r.up hp⟩
theorem doc_add {C : Ctx} {H : Hp} {h : List (Nat × Blk)} {W : World} (c : Core C H h [] W) {ps : List Pr} {v : Value} (hv : PL H ps v) (hl : ps.length ≤ 2097152) (x y : TApiKey) :
    Calls Try.prog 23 #[v, encK x, encK y] W fun e w' => ∃ H' v', e = .returned v' ∧ H.le H' ∧ Core C H' h [] w' ∧ PL H' (addP ps (clK x) (clK y)) v' :=
  doc_calls (r29_Add_ok ps x y _ (radd_eq ps x y hl)) c (by simp only [RepsV]; exact ⟨_, _, rfl, hv, _, _, rfl, rep_key H x, _, _, rfl, rep_key H y, rfl⟩)
theorem doc_drop {C : Ctx} {H : Hp} {h : List (Nat × Blk)} {W : World} (c : Core C H h [] W) {ps : List Pr} {v : Value} (hv : PL H ps v) (hl : ps.length ≤ 2097152) (x : TApiKey) :
    Calls Try.prog 24 #[v, encK x] W fun e w' => ∃ H' v', e = .returned v' ∧ H.le H' ∧ Core C H' h [] w' ∧ PL H' (dropP ps (clK x)) v' :=
  doc_calls (r29_Drop_ok ps x _ (rdrop_eq ps x hl)) c (by simp only [RepsV]; exact ⟨_, _, rfl, hv, _, _, rfl, rep_key H x, rfl⟩)
end Go.Proofs.Ytpdekcfeecdlbaa.Ab
namespace Go.Proofs.Ytpdekcfeecdlbaa.Ab
open Go Go.RowKit Go.Shelf Go.Proofs Go.Proofs.Ytpdekcfeecdlbaa.Ab.Pq
set_option linter.all false
structure PlayAt (C : Ctx) (H : Hp) (p : Nat) (v : Value) (n : Nat) (W : World) : Prop where
  ex : ∃ (H' : Hp) (z : YW) (ps : List Pr), H.le H' ∧ z.p = p ∧ Core C H' (webH z) [] W ∧ PL H' ps v ∧ WR n ps (tieL z.e1) (tieL z.e2) ∧ ps.length ≤ n
theorem pl_nil (H : Hp) : PL H [] (.slice none 0 0) := by
  refine ⟨?_, rfl⟩
  simp only [RepC]
  exact ⟨_, rfl, trivial, .inl ⟨rfl, none, 0, rfl, fun _ => rfl⟩⟩
set_option maxRecDepth 100000 in
set_option maxHeartbeats 8000000 in
theorem play_calls {C : Ctx} {H : Hp} {z : YW} {W0 : World} (c0 : Core C H (webH z) [] W0) (hz1 : z.e1 = []) (hz2 : z.e2 = []) {ops : List TSondagelaw29Op} {v : Value} (hv : Rep H (.lst 5 (ops.map eTSondagelaw29Op) .no) v) (hl : ops.length ≤ 1048576) :
    Calls Try.prog 8 #[.pointer (some ⟨z.p, 0, none⟩), v] W0 fun e w' => ∃ v', e = .returned v' ∧ PlayAt C H z.p v' ops.length w' := by
  have mixed : Try.prog.follows .mixedOrders = true := by kernel_rfl
  obtain ⟨va, vm, rfl⟩ := rep_slm hv
  go_enter Try.func8, Try.ntmps8
  go_wp2_with fail
  go_loopw [5, 6] (fun s5 s6 wr => ∃ i : Nat, s6 = .int .i64 i ∧ i ≤ ops.length ∧ PlayAt C H z.p s5 i wr) (fun _ s6 _ => ops.length - (intOf s6).toNat)
  case atStart => exact ⟨0, rfl, Nat.zero_le _, ⟨H, z, [], Hp.le_refl H, rfl, c0, pl_nil H, by rw [hz1, hz2]; exact WR.nil 0, Nat.le_refl _⟩⟩
  case round =>
    obtain ⟨i, rfl, hi, ⟨H1, z1, ps, hle, hzp, c1, hp, hr, hpl⟩⟩ := hrel
    by_cases hlt : i < ops.length
    · have hkk := List.getElem?_eq_getElem hlt
      obtain ⟨b, off, rfl, k0, k1, k2, k3, k4⟩ := op_cells c1.ag (hv.mono hle) hkk
      generalize ops[i] = x at hkk k0 k1 k2 k3 k4
      have hw1 := wrap_smallK i (by omega)
      by_cases q0 : x.gKind = 0
      · have hadd := web_add (Core.drew c1) hr (by omega) x.gX x.gY
        rw [hzp] at hadd
        simp only [encK] at hadd
        have hq0 : (x.gKind == 0) = true := by rw [q0]; rfl
        go_wp2_with fail
        apply wp_keep (R := fun w' => ∃ z2 : YW, z2.p = z.p ∧ Core C H1 (webH z2) [] w' ∧ WR (i + 1) (addP ps (clK x.gX) (clK x.gY)) (tieL z2.e1) (tieL z2.e2))
        case h =>
          go_region_with_o (
            go_at_call 19
            refine hadd.mono ?_
            rintro e W4 ⟨z2, rfl, g1, g2, g3⟩)
          all_goals exact ⟨rfl, z2, g1, g2, g3⟩
        clear hadd
        rintro W4 ⟨z2, g1, g2, g3⟩
        have hpv := hp
        obtain ⟨ua, um, rfl⟩ := rep_slm hpv
        obtain ⟨_, _, e1, k0, k1, k2, k3, k4⟩ := op_cells g2.ag (hv.mono hle) hkk
        cases e1
        have hdoc := doc_add (Core.drew g2) hp (by omega) x.gX x.gY
        simp only [encK] at hdoc
        go_wp2_with fail
        go_region_with_o (
          go_at_call 23
          refine hdoc.mono ?_
          rintro e W5 ⟨H3, v', rfl, f1, f2, f3⟩)
        all_goals
          clear hdoc
          go_wp2
          exact ⟨⟨i + 1, rfl, hlt, ⟨H3, z2, _, Hp.le_trans hle f1, g1, f2, f3, g3, Nat.le_trans (addP_len _ _ _) (Nat.succ_le_succ hpl)⟩⟩, meas_p hlt⟩
      · have hq0 : (x.gKind == 0) = false := by rw [beq_eq_false_iff_ne]; exact q0
        by_cases q1 : x.gKind = 1
        · have hdrop := web_drop c1 hr (by omega) x.gX
          rw [hzp] at hdrop
          simp only [encK] at hdrop
          have hq1 : (x.gKind == 1) = true := by rw [q1]; rfl
          go_wp2_with fail
          refine hdrop.mono ?_
          rintro e W4 ⟨z2, rfl, g1, g2, g3⟩
          clear hdrop
          have hpv := hp
          obtain ⟨ua, um, rfl⟩ := rep_slm hpv
          obtain ⟨_, _, e1, k0, k1, k2, k3, k4⟩ := op_cells g2.ag (hv.mono hle) hkk
          cases e1
          have hdoc := doc_drop g2 hp (by omega) x.gX
          simp only [encK] at hdoc
          go_wp2_with fail
          refine hdoc.mono ?_
          rintro e W5 ⟨H3, v', rfl, f1, f2, f3⟩
          clear hdoc
          go_wp2
          exact ⟨⟨i + 1, rfl, hlt, ⟨H3, z2, _, Hp.le_trans hle f1, g1, f2, f3, g3.mono (Nat.le_succ _), Nat.le_trans (Nat.le_trans (List.length_filter_le _ _) hpl) (Nat.le_succ _)⟩⟩, meas_p hlt⟩
        · have hq1 : (x.gKind == 1) = false := by rw [beq_eq_false_iff_ne]; exact q1
          by_cases q2 : x.gKind = 2
          · have hclr := web_clear (i + 1) c1
            rw [hzp] at hclr
            have hq2 : (x.gKind == 2) = true := by rw [q2]; rfl
            go_wp2_with fail
            refine hclr.mono ?_
            rintro e W4 ⟨z2, rfl, g1, g2, g3⟩
            clear hclr
            go_wp2
            exact ⟨⟨i + 1, rfl, hlt, ⟨H1, z2, [], hle, g1, g2, pl_nil H1, g3, Nat.zero_le _⟩⟩, meas_p hlt⟩
          · have hq2 : (x.gKind == 2) = false := by rw [beq_eq_false_iff_ne]; exact q2
            go_wp2
            exact ⟨⟨i + 1, rfl, hlt, ⟨H1, z1, ps, hle, hzp, c1, hp, hr.mono (Nat.le_succ _), Nat.le_succ_of_le hpl⟩⟩, meas_p hlt⟩
    · obtain rfl : i = ops.length := Nat.le_antisymm hi (Nat.le_of_not_lt hlt)
      go_wp2
      go_ret
      exact ⟨_, rfl, ⟨H1, z1, ps, hle, hzp, c1, hp, hr, hpl⟩⟩
end Go.Proofs.Ytpdekcfeecdlbaa.Ab
namespace Go.Proofs.Ytpdekcfeecdlbaa.Ab
open Go Go.RowKit Go.Shelf Go.Proofs Go.Proofs.Ytpdekcfeecdlbaa.Ab.Pq
set_option linter.all false
def kA : TApiKey := ⟨ByteArray.mk #[97], 0⟩
def kB : TApiKey := ⟨ByteArray.mk #[98], -1⟩
theorem kA_cl : clK kA = kA := rfl
theorem kB_cl : clK kB = kB := rfl
theorem lives_add : addP [] (clK kB) (clK kA) = [⟨kB, kA⟩] := rfl
theorem lives_cp : CP [⟨kB, kA⟩] := fun p hp => by simp at hp; subst hp; exact ⟨kB_cl, kA_cl⟩
theorem lives_below {out : List TApiKey} (h : AllR (upR [⟨kB, kA⟩] false) [kA] out) : out = [kA, kB] :=
  (h.unique (allA_spec lives_cp [kA] false)).trans (by kernel_rfl)
theorem lives_above {out : List TApiKey} (h : AllR (upR [⟨kB, kA⟩] true) [kA] out) : out = [kA] :=
  (h.unique (allA_spec lives_cp [kA] true)).trans (by kernel_rfl)
theorem lives_on : onP [⟨kB, kA⟩] (clK kB) = [kA] := by kernel_rfl
theorem kl_cells {H : Hp} {W : World} (hA : Ag H W) {l : List TApiKey} {a : Option Addr} {n m : Nat} (h : KL H l (.slice a n m)) {i : Nat} {x : TApiKey} (hx : l[i]? = some x) :
    ∃ b off, a = some ⟨b, off, none⟩ ∧ W.cell? ⟨b, off + i * 2, none⟩ = some (.string x.gName) ∧ W.cell? ⟨b, off + i * 2 + 1, none⟩ = some (.int .i64 x.gNode) := by
  obtain ⟨a', cap, e1, e2⟩ := slk_told hA h
  simp only [Value.slice.injEq] at e1
  obtain ⟨rfl, _, _⟩ := e1
  obtain ⟨b, off, e, _, g3, g4⟩ := e2 i x hx
  exact ⟨b, off, e, g3, g4⟩
theorem tell_key {C : Ctx} {H : Hp} {h : List (Nat × Blk)} {W : World} (c : Core C H h [] W) (x : TApiKey) (T : TypeId) : ∃ H', H.le H' ∧ Core C H' h [] (W.alloc (.cells #[.string x.gName, .int .i64 x.gNode] T)) ∧ Told H' W.heap.size 0 (kc2 x) :=
  ⟨_, c.allocTold (us := kc2 x) (vs := kc2 x) T (fun _ _ e => e)⟩
theorem told_box {H : Hp} {W : World} {b : Nat} {x : TApiKey} (hA : Ag H W) (h : Told H b 0 (kc2 x)) : W.cell? ⟨b, 0, none⟩ = some (.string x.gName) ∧ W.cell? ⟨b, 1, none⟩ = some (.int .i64 x.gNode) :=
  ⟨hA _ _ (h 0 _ rfl), hA _ _ (h 1 _ rfl)⟩
theorem told_one {H : Hp} {b : Nat} {x : TApiKey} (h : Told H b 0 (kc2 x)) : KL H [x] (.slice (some ⟨b, 0, none⟩) 1 1) := by
  refine ⟨?_, rfl⟩
  have hr : Reps H ((kc2 x).map .v) (kc2 x) := reps_v H (kc2 x) rfl
  show RepC H (.lst 2 [eTApiKey x] .no) _
  simp only [RepC, Value.cells]
  refine ⟨_, rfl, trivial, .inr ⟨b, 0, 1, rfl, Nat.le_refl _, ?_⟩⟩
  simp only [Els]
  exact ⟨⟨kc2 x, rfl, by show RepC H (.agg ((kc2 x).map .v)) _; simpa only [RepC] using hr, h, by simp [kc2, one]⟩, trivial⟩
set_option maxRecDepth 100000 in
set_option maxHeartbeats 1000000 in
theorem lives_calls (H : Hp) (w : World) (hA : Ag H w) : Calls Try.prog 13 #[] w fun e w' => e = .returned (.bool true) ∧ Below w.heap.size w w' := by
  have mixed : Try.prog.follows .mixedOrders = true := by kernel_rfl
  have hnew := New_calls H w hA
  go_enter Try.func13, Try.ntmps13
  go_wp2_with fail
  refine hnew.mono ?_
  rintro e W1 ⟨z, rfl, c1, hz1, hz2⟩
  clear hnew
  obtain ⟨H2, l2, c2, t2⟩ := tell_key c1 kA 34
  obtain ⟨H3, l3, c3, t3⟩ := tell_key c2 kB 34
  obtain ⟨W3, hW3⟩ : ∃ W3, W3 = (W1.alloc (.cells #[.string kA.gName, .int .i64 kA.gNode] 34)).alloc (.cells #[.string kB.gName, .int .i64 kB.gNode] 34) := ⟨_, rfl⟩
  rw [← hW3] at c3
  have hs2 : (W1.alloc (.cells #[.string kA.gName, .int .i64 kA.gNode] 34)).heap.size = W1.heap.size + 1 := by simp
  rw [hs2] at t3
  replace t2 := t2.mono l3
  have r1 : WR 0 [] (tieL z.e1) (tieL z.e2) := by rw [hz1, hz2]; exact WR.nil 0
  have hadd := web_add c3 r1 (by omega) kB kA
  rw [lives_add] at hadd
  simp only [encK, kA, kB] at hadd hW3
  go_wp2_with fail
  rw [← hW3]
  refine hadd.mono ?_
  rintro e W4 ⟨z4, rfl, hp4, c4, r4⟩
  clear hadd hW3 hs2 hz1 hz2 c2 l2 c1
  obtain ⟨a0, a1⟩ := told_box c4.ag t2
  obtain ⟨b0, b1⟩ := told_box c4.ag t3
  simp only [kA, kB] at a0 a1 b0 b1
  obtain ⟨H5, l5, c5, t5⟩ := tell_key c4 kA 34
  have hbel := web_below c5 r4 (told_one t5) (by simp only [List.length_cons, List.length_nil]; omega)
  rw [hp4] at hbel
  simp only [kA] at hbel
  go_wp2_with fail
  refine hbel.mono ?_
  rintro e W6 ⟨H6, v6, out, rfl, l6, c6, k6, hall⟩
  have hout := lives_below hall
  subst hout
  clear hbel hall a0 a1 b0 b1
  obtain ⟨va, vm, rfl⟩ := rep_slm k6
  simp only [List.length_cons, List.length_nil] at k6 ⊢
  obtain ⟨vb, vo, rfl, q0, q1⟩ := kl_cells c6.ag k6 (i := 1) (x := kB) rfl
  obtain ⟨a0, a1⟩ := told_box c6.ag (((t2.mono l5).mono l6))
  obtain ⟨b0, b1⟩ := told_box c6.ag (((t3.mono l5).mono l6))
  obtain ⟨H7, l7, c7, t7⟩ := tell_key (Core.drew c6) kA 34
  have habv : Calls Try.prog 12 #[.pointer (some ⟨z4.p, 0, none⟩), .slice (some ⟨W6.heap.size, 0, none⟩) 1 1] (W6.drew.alloc (.cells #[.string kA.gName, .int .i64 kA.gNode] 34)) fun e w' => ∃ H' v' out, e = .returned v' ∧ H7.le H' ∧ Core ⟨H, w, []⟩ H' (webH z4) [] w' ∧ KL H' out v' ∧ AllR (upR [⟨kB, kA⟩] true) [kA] out :=
    web_above c7 r4 (told_one t7) (by simp only [List.length_cons, List.length_nil]; omega)
  have heq : ∀ WW : World, (binOp .eql 34 (.agg #[.string kB.gName, .int .i64 kB.gNode]) (.agg #[.string kB.gName, .int .i64 kB.gNode])).run Try.prog WW = .ok (.bool true) WW := fun WW => by kernel_rfl
  rw [hp4] at habv
  simp only [kA, kB] at q0 q1 a0 a1 b0 b1 habv heq
  go_wp2_with fail
  go_region_with_o (first
    | (go_at_call 12
       refine habv.mono ?_
       rintro e W8 ⟨H8, v8, out8, rfl, l8, c8, k8, hall8⟩
       have hout8 := lives_above hall8
       subst hout8
       obtain ⟨vc, vn, rfl⟩ := rep_slm k8
       simp only [List.length_cons, List.length_nil]
       obtain ⟨b2, b3⟩ := told_box c8.ag ((((t3.mono l5).mono l6).mono l7).mono l8)
       have hon := web_on c8 r4 (by omega) kB
       rw [hp4] at hon
       simp only [encK, kB] at hon b2 b3)
    | (go_at_call 14
       refine hon.mono ?_
       rintro e W9 ⟨H9, v9, rfl, l9, c9, k9⟩
       have k9' : KL H9 (onP [⟨kB, kA⟩] (clK kB)) v9 := k9
       rw [lives_on] at k9'
       obtain ⟨vd, vm9, rfl⟩ := rep_slm k9'
       simp only [List.length_cons, List.length_nil]))
  all_goals
    go_wp2
    go_ret
    exact ⟨rfl, below_core (c9.drop (List.nil_sublist _) (List.Sublist.refl _))⟩
end Go.Proofs.Ytpdekcfeecdlbaa.Ab
namespace Go.Proofs.Ytpdekcfeecdlbaa.Ab
open Go Go.RowKit Go.Shelf Go.Proofs Go.Proofs.Ytpdekcfeecdlbaa.Ab.Pq
set_option linter.all false
theorem KL.mono {H H' : Hp} {l : List TApiKey} {v : Value} (h : H.le H') (k : KL H l v) : KL H' l v := Rep.mono h k
theorem PL.mono {H H' : Hp} {l : List TSondageref29Pair} {v : Value} (k : PL H l v) (h : H.le H') : PL H' l v := Rep.mono h k
theorem doc_keys {C : Ctx} {H : Hp} {h : List (Nat × Blk)} {W : World} (c : Core C H h [] W) {l : List TApiKey} {u v : Value} (hu : KL H l u) (hv : KL H l v) (h1 : l.length ≤ 4611686018427387904) :
    Calls Try.prog 9 #[u, v] W fun e w' => e = .returned (.bool true) ∧ Core C H h [] w' :=
  val_calls (r23_Keys_ok l l true (keys_same l h1)) c (by simp only [RepsV]; exact ⟨_, _, rfl, hu, _, _, rfl, hv, rfl⟩)
theorem AllR.len {ps : List Pr} {up : Bool} (hc : CP ps) {l out : List TApiKey} (h : AllR (upR ps up) l out) : out.length ≤ l.length + ps.length := by
  rw [h.unique (allA_spec hc l up)]
  have := allA_all (up := up) hc (rowK l) ps.length (rowK l) (rowC_row l) (fun k hk => .inl hk) (Nat.le_refl _)
  have h2 := nodup_le (U := l.map clK ++ ps.map (toP up)) (rise_nodup (allA_spec hc l up).1.1) (fun k hk => by
    refine (allA_spec hc l up).2.2.2 (· ∈ l.map clK ++ ps.map (toP up)) (fun k hk => List.mem_append_left _ hk) (fun x _ y hy => ?_) k hk
    obtain ⟨p, hp, _, rfl⟩ := upR_iff.1 hy
    exact List.mem_append_right _ (List.mem_map.2 ⟨p, hp, rfl⟩))
  simpa using h2
end Go.Proofs.Ytpdekcfeecdlbaa.Ab
