/- Texts as bytes: new memory that is marked. Over any program. -/
import Derived.Test.YtpapooaaccmnpaaTr2
namespace Go.Proofs.Ytpapooaaccmnpaa.Ab
open Go
set_option linter.all false
theorem heap_freeze {w : World} {a : Addr} {n k : Nat} : (w.freeze a n).heap[k]? = w.heap[k]? ∨ (a.block = k ∧ ∃ c e f g, w.heap[k]? = some (.cells c e f) ∧ (w.freeze a n).heap[k]? = some (.cells c e g)) := by
  unfold World.freeze
  split
  · exact .inl rfl
  · by_cases hk : a.block = k
    · subst hk
      simp only [Array.getElem?_modify, if_true]
      cases h : w.heap[a.block]? with
      | none => exact .inl rfl
      | some o =>
        cases o <;> first | exact .inl rfl | (rename_i c e f; exact .inr ⟨trivial, c, e, f, _, rfl, rfl⟩)
    · left
      simp [Array.getElem?_modify, hk]
theorem cell_freeze {w : World} {a x : Addr} {n : Nat} : (w.freeze a n).cell? x = w.cell? x := by
  unfold World.cell?
  rcases heap_freeze (w := w) (a := a) (n := n) (k := x.block) with h | ⟨_, c, e, f, g, h1, h2⟩
  · rw [h]
  · rw [h1, h2]
theorem freeze_env (w : World) (a : Addr) (n : Nat) : Env w (w.freeze a n) ∧ (w.freeze a n).heap.size = w.heap.size := by
  unfold World.freeze
  split
  · exact ⟨Env.refl w, rfl⟩
  · exact ⟨⟨rfl, rfl, rfl⟩, by simp⟩
theorem Core.freezeNew {H H' : Hp} {w w' : World} {b off n : Nat} (c : Core ⟨H, w, []⟩ H' [] [] w') (hb : w.heap.size ≤ b) : Core ⟨H, w, []⟩ H' [] [] (w'.freeze ⟨b, off, none⟩ n) := by
  obtain ⟨he, hs⟩ := freeze_env w' ⟨b, off, none⟩ n
  refine ⟨fun a v e => by rw [cell_freeze]; exact c.ag a v e, c.le, c.new, fun k hk hm => ?_, by rw [hs]; exact c.size, by simp, by simp, by simp [claims], by simp [claims], c.env.trans he⟩
  have hk' : k < w.heap.size := hk
  rcases heap_freeze (w := w') (a := ⟨b, off, none⟩) (n := n) (k := k) with h | ⟨h1, _⟩
  · rw [h]; exact c.same k hk hm
  · simp only at h1; omega
theorem run_mark {P : Program} {w : World} {b off : Nat} : ∃ w', (markStringish ⟨b, off, none⟩).run P w = .ok () w' ∧ (w' = w ∨ ∃ o n, w' = w.freeze ⟨b, o, none⟩ n) := by
  unfold markStringish
  have h : (shape b).run P w = .ok (w.shape? b) w := rfl
  rw [run_bind_ok h]
  cases w.shape? b with
  | none => exact ⟨w, rfl, .inl rfl⟩
  | some p => exact ⟨w.freeze ⟨b, p.2, none⟩ 1, rfl, .inr ⟨p.2, 1, rfl⟩⟩
section
variable {P : Program} {C : Ctx} {N : Nat} {ops rest : List Oper} {o : Oper} {t : List (Nat × D)} {h : List (Nat × Blk)} {k : List (Nat × Value)} {Q : Exit → S → Prop} {tab : List (Option TI)}
/-- A text's bytes, in new memory. -/
theorem x_ofStr {T T' e : TypeId} {x : Operand} {s : ByteArray} {i0 i1 ie : TI} (hT : TabOK P tab) (ho : o.op = .convert T T' x) (hx : opD t x = some (.v (.string s))) (hi0 : ti tab T = some i0) (hd0 : i0.d = .str) (hi1 : ti tab T' = some i1) (hd1 : i1.d = .slice e) (hie : ti tab e = some ie) (hde : ie.d = .int .u8) : ExE P o t (.lst 1 (s.data.toList.map byteD) .no) := fun H a w hA kt => by
  have core : Core ⟨H, w, []⟩ H [] [] w := Core.here hA
  obtain ⟨d0, u0, u1⟩ := run_underlying (w := w) (ti_ok hT hi0)
  have e0 := td_str (u1.trans hd0); subst e0
  obtain ⟨d1, u2, u3⟩ := run_underlying (w := w) (ti_ok hT hi1)
  have e1 := td_slice (u3.trans hd1); subst e1
  obtain ⟨d2, u4, u5⟩ := run_underlying (w := w) (ti_ok hT hie)
  have e2 := td_int (u5.trans hde); subst e2
  have hx := rep_v_inv (opD_ok kt hx)
  have hrun : ∀ (v : Value) (w' : World), (Conv.stringToBytes e s).run P w = .ok v w' → (execOp a.eval o).run P w = .ok (.value v) w' := by
    intro v w' hv
    unfold execOp
    rw [ho]
    refine exec_v ?_
    rw [hx]
    unfold convert
    rw [run_bind_ok u0, run_bind_ok u2]
    simp only []
    rw [run_bind_ok u4]
    exact hv
  have hch : ∃ n, s.size ≤ n ∧ (choose (.appendCap s.size 0 e)).run P w = .ok n (wDrew w) := by
    have hforced : (Question.appendCap s.size 0 e).forced = false := rfl
    refine ⟨_, ?_, by simp only [choose, Sem.run, hforced]; rfl⟩
    simp only [Question.cut]; omega
  obtain ⟨n, hn, hc1⟩ := hch
  have core1 : Core ⟨H, w, []⟩ H [] [] (wDrew w) := core.drew
  let us : List Value := s.data.toList.map fun b => Value.int .u8 b.toNat
  let vs : List Value := us ++ (List.replicate (n - s.size) (Value.int .u8 0))
  obtain ⟨hle, core2, told⟩ := core1.allocTold (us := us) (vs := vs) e (fun j u q => by
    have hl := (List.getElem?_eq_some_iff.1 q).1
    rw [List.getElem?_append_left hl]; exact q)
  have hnew : (wDrew w).heap.size = w.heap.size := rfl
  obtain ⟨w3, hm, hw3⟩ := run_mark (P := P) (w := (wDrew w).alloc (.cells vs.toArray e)) (b := w.heap.size) (off := 0)
  have core3 : Core ⟨H, w, []⟩ (tell H (wDrew w).heap.size us) [] [] w3 := by
    rcases hw3 with rfl | ⟨q, m, rfl⟩
    · exact core2
    · exact core2.freezeNew (Nat.le_refl _)
  have hel := els_ofBytes (H := tell H (wDrew w).heap.size us) (b := w.heap.size) s.data.toList 0 told
  refine ⟨.slice (some ⟨w.heap.size, 0, none⟩) s.size n, w3, _, hrun _ _ ?_, core3, ?_⟩
  · unfold Conv.stringToBytes
    rw [run_bind_ok hc1]
    have hvs : (s.data.map fun b => Value.int .u8 b.toNat) ++ Array.replicate (n - s.size) (Value.int .u8 0) = vs.toArray := by
      apply Array.toList_inj.1
      simp [vs, us]
    simp only [hvs]
    have hr : (newRow e vs.toArray).run P (wDrew w) = .ok (⟨w.heap.size, 0, none⟩ : Addr) ((wDrew w).alloc (.cells vs.toArray e)) := rfl
    rw [run_bind_ok hr, run_bind_ok hm]; rfl
  · refine rep_cell ?_ rfl rfl
    simp only [RepC, CapOK]
    have hsz : s.data.toList.length = s.size := Array.length_toList
    by_cases h0 : s.size = 0
    · refine ⟨_, rfl, trivial, .inl ⟨?_, some ⟨w.heap.size, 0, none⟩, n, by rw [h0], fun q => by cases q⟩⟩
      have : s.data.toList.length = 0 := hsz.trans h0
      rw [List.length_eq_zero_iff] at this
      rw [this]; rfl
    · exact ⟨_, rfl, trivial, .inr ⟨w.heap.size, 0, n, by rw [List.length_map, hsz], by rw [List.length_map, hsz]; exact hn, hel⟩⟩
/-- A literal of bytes, marked as a text's. -/
theorem p_litB {i1 i2 n kk : Nat} {o2 : Oper} {T e : TypeId} {ps : Array (Nat × Operand)} {i0 ie : TI} {r : List D} (hT : TabOK P tab) (ho : o.op = .buildSlice T n ps) (hw : wantD ops t o = some true) (hd : o.dst = some i1) (hi : Nat.blt i1 N = true)
    (ho2 : o2.op = .convert T T (.tmp i1)) (hw2 : wantD ops ((i1, .lst kk (chunkD ie.agg kk n r) .no) :: t) o2 = some true) (hd2 : o2.dst = some i2) (hi2 : Nat.blt i2 N = true)
    (hi0 : ti tab T = some i0) (hd0 : i0.d = .slice e) (hie : ti tab e = some ie) (hde : ie.d = .int .u8) (hks : ie.size = kk) (hz : ie.zero.all one = true) (hzl : Nat.beq ie.zero.length kk = true) (hpos : Nat.ble 1 (n * kk) = true) (hmax : Nat.ble (n * kk) 16777216 = true) (hag : (ie.agg || Nat.beq kk 1) = true)
    (er : buildD tab ((List.range n).map fun j => (e, j * kk)) t ps.toList (List.replicate (n * kk) .any) = some r)
    (g : opsD P C N ops rest ⟨(i2, .lst kk (chunkD ie.agg kk n r) .no) :: (i1, .lst kk (chunkD ie.agg kk n r) .no) :: t, h, k⟩ Q) : opsD P C N ops (o :: o2 :: rest) ⟨t, h, k⟩ Q := by
  rintro a w ⟨H, c, kt, hN, hdf⟩
  obtain ⟨w1, H1, hr1, c1, rep1⟩ := x_litS hT ho hi0 hd0 hie hks hz hzl hpos hmax hag er H a w c.ag kt
  have rep1' : Rep H1 (.lst kk (chunkD ie.agg kk n r) .no) (.slice (some ⟨w.heap.size, 0, none⟩) n n) := Wk.no H1 _ rep1
  obtain ⟨w2, hm, hw2'⟩ := run_mark (P := P) (w := w1) (b := w.heap.size) (off := 0)
  have c2 : Core ⟨H, w, []⟩ H1 [] [] w2 := by
    rcases hw2' with rfl | ⟨q, m, rfl⟩
    · exact c1
    · exact c1.freezeNew (Nat.le_refl _)
  have c3 : Core C H1 h k w2 := by
    have := Core.call (h1 := []) (k1 := []) (h2 := h) (k2 := k) (by simpa using c) c2
    simpa using this
  have kt1 : TOK H1 ((i1, .lst kk (chunkD ie.agg kk n r) .no) :: t) (a.put (some i1) (.slice (some ⟨w.heap.size, 0, none⟩) n n)) := TOK.put (kt.mono c1.le) (by rw [hN]; simpa using hi) rep1'
  have hsz1 : (a.put (some i1) (.slice (some ⟨w.heap.size, 0, none⟩) n n)).tmps.size = N := by simp only [Act.put, Array.size_setIfInBounds]; exact hN
  unfold wpList
  rw [wantD_ok kt hw, if_pos rfl]
  refine .inl ?_
  unfold Oper.wp
  rw [hr1, Oper.upon_value, hd]
  unfold wpList
  rw [wantD_ok kt1 hw2, if_pos rfl]
  refine .inl ?_
  unfold Oper.wp
  have hev : (a.put (some i1) (Value.slice (some ⟨w.heap.size, 0, none⟩) n n)).eval (.tmp i1) = .slice (some ⟨w.heap.size, 0, none⟩) n n := by
    simp only [Act.eval, Act.put]
    rw [Array.getD_eq_getD_getElem?, Array.getElem?_setIfInBounds_self_of_lt (by rw [hN]; simpa using hi)]
    rfl
  have hr2 : (execOp (a.put (some i1) (Value.slice (some ⟨w.heap.size, 0, none⟩) n n)).eval o2).run P w1 = .ok (.value (.slice (some ⟨w.heap.size, 0, none⟩) n n)) w2 := by
    unfold execOp
    rw [ho2]
    refine exec_v ?_
    rw [hev]
    obtain ⟨d0, u0, u1⟩ := run_underlying (w := w1) (ti_ok hT hi0)
    have e0 := td_slice (u1.trans hd0); subst e0
    obtain ⟨d1, u2, u3⟩ := run_underlying (w := w1) (ti_ok hT hie)
    have e1 := td_int (u3.trans hde); subst e1
    unfold convert
    rw [run_bind_ok u0, run_bind_ok u0]
    simp only []
    rw [run_bind_ok u2]
    simp only [beq_self_eq_true]
    rw [run_bind_ok hm]; rfl
  rw [hr2, Oper.upon_value, hd2]
  refine g _ _ ⟨H1, c3, TOK.put kt1 (by rw [hsz1]; simpa using hi2) rep1', ?_, hdf⟩
  simp only [Act.put, Array.size_setIfInBounds]; exact hN
theorem p_ofStr {i : Nat} {T T' e : TypeId} {x : Operand} {s : ByteArray} {i0 i1 ie : TI} (hT : TabOK P tab) (ho : o.op = .convert T T' x) (hw : wantD ops t o = some true) (hd : o.dst = some i) (hi : Nat.blt i N = true) (hx : opD t x = some (.v (.string s))) (hi0 : ti tab T = some i0) (hd0 : i0.d = .str) (hi1 : ti tab T' = some i1) (hd1 : i1.d = .slice e) (hie : ti tab e = some ie) (hde : ie.d = .int .u8)
    (g : opsD P C N ops rest ⟨(i, .lst 1 (s.data.toList.map byteD) .no) :: t, h, k⟩ Q) : opsD P C N ops (o :: rest) ⟨t, h, k⟩ Q := p_e (x_ofStr hT ho hx hi0 hd0 hi1 hd1 hie hde) hw hd hi g
end
end Go.Proofs.Ytpapooaaccmnpaa.Ab
