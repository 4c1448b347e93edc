/- An abstract machine, part 11: append. Over any program. -/
import Derived.Test.YtpapooaaccmnpaaAb10
namespace Go.Proofs.Ytpapooaaccmnpaa.Ab
open Go
set_option linter.all false

theorem els_flat {H : Hp} {k b : Nat} : ∀ {xs : List D} {off : Nat}, Els H k b off xs → ∃ us : List Value, us.length = xs.length * k ∧ Told H b off us ∧ (∀ u ∈ us, one u = true) ∧ ∀ H' b' off', H.le H' → Told H' b' off' us → Els H' k b' off' xs
  | [], off, _ => ⟨[], by simp, fun j u e => by simp at e, by simp, fun _ _ _ _ _ => by simp [Els]⟩
  | x :: xs, off, h => by
    simp only [Els] at h
    obtain ⟨⟨us, h1, h2, h3, h4⟩, h5⟩ := h
    obtain ⟨vs, g1, g2, g3, g4⟩ := els_flat h5
    refine ⟨us ++ vs, by simp [h1, g1, Nat.add_mul]; omega, fun j u e => ?_, fun u hu => ?_, fun H' b' off' hle ht => ?_⟩
    · rw [List.getElem?_append] at e
      split at e
      · exact h3 j u e
      · have := g2 _ _ e
        rw [show off + k + (j - us.length) = off + j by omega] at this
        exact this
    · rcases List.mem_append.1 hu with x | x
      · exact h4 u x
      · exact g3 u x
    · simp only [Els]
      refine ⟨⟨us, h1, RepC.mono hle x us h2, fun j u e => ht j u (by rw [List.getElem?_append_left (List.getElem?_eq_some_iff.1 e).1]; exact e), h4⟩, g4 H' b' (off' + k) hle fun j u e => ?_⟩
      have := ht (us.length + j) u (by rw [List.getElem?_append_right (by omega)]; simpa using e)
      rw [show off' + (us.length + j) = off' + k + j by omega] at this
      exact this

theorem next_le {need cap : Nat} (h : cap < need) : Builtin.nextslicecap need cap ≤ 2 * need := by
  unfold Builtin.nextslicecap
  split
  · omega
  · split
    · omega
    · have key : ∀ r c, c ≤ 2 * need → 256 ≤ c → Builtin.growBy need r c ≤ 2 * need := by
        intro r
        induction r with
        | zero => intro c hc _; simpa [Builtin.growBy] using hc
        | succ r ih =>
          intro c hc h2
          unfold Builtin.growBy
          split
          · exact hc
          · exact ih _ (by omega) (by omega)
      exact key 4 cap (by omega) (by omega)
theorem askRoom_run {P : Program} {w : World} {n : Nat} : (askRoom n).run P w = .ok () w := by unfold askRoom; split <;> rfl

def wDrew (w : World) : World := { w with drawn := w.drawn + 1 }
theorem Core.drew {C : Ctx} {H : Hp} {h : List (Nat × Blk)} {k : List (Nat × Value)} {w : World} (c : Core C H h k w) : Core C H h k (wDrew w) :=
  ⟨fun a v e => c.ag a v e, c.le, c.new, c.same, c.size, fun p hp => by
    have := c.blks p hp
    obtain ⟨b, bl⟩ := p
    cases bl <;> exact this, fun p hp => by
    have := c.toks p hp
    obtain ⟨b, y⟩ := p
    exact this, c.nd, c.own, c.env⟩

theorem first_slice {P : Program} {w : World} {H : Hp} (hA : Ag H w) {kk : Nat} {xs : List D} {c : Cap} {v : Value} (hr : Rep H (.lst kk xs c) v) :
    ∃ us : List Value, us.length = xs.length * kk ∧ (∀ u ∈ us, one u = true) ∧ (Builtin.firstCells kk xs.length v).run P w = .ok us.toArray w ∧ ∀ H' b' off', H.le H' → Told H' b' off' us → Els H' kk b' off' xs := by
  obtain ⟨_, h⟩ := rep_lst_inv hr
  rcases h with ⟨rfl, a, m, rfl, _⟩ | ⟨b, off, m, rfl, hm, hE⟩
  · refine ⟨[], by simp, by simp, ?_, fun _ _ _ _ _ => by simp [Els]⟩
    cases a with
    | none => rfl
    | some a => simp only [Builtin.firstCells, List.length_nil, Nat.zero_mul]; rfl
  · obtain ⟨us, h1, h2, h3, h4⟩ := els_flat hE
    refine ⟨us, h1, h3, ?_, h4⟩
    have := run_loadCells (P := P) (xs.length * kk) (h2.row hA) (by omega)
    rw [← h1, List.take_length] at this
    simp only [Builtin.firstCells]
    rw [← h1]; exact this

/-- A slice with what is behind it: what append comes to. -/
theorem app_run {P : Program} {tab : List (Option TI)} (hT : TabOK P tab) {C : Ctx} {H : Hp} {h : List (Nat × Blk)} {k1 k2 : List (Nat × Value)} {w : World} {kk bb : Nat} {T T' e e' : TypeId} {ty : TypeId} {i0 i1 ie : TI} {xs ys : List D} {c c' : Cap} {v1 v2 : Value}
    (core : Core C H h (k1 ++ k2) w) (hk1 : (k1 = [] ∧ c = .full) ∨ (k1 = [(kk, v1)] ∧ c = .cur v1)) (hx : Rep H (.lst kk xs c) v1) (hy : Rep H (.lst kk ys c') v2)
    (hi0 : ti tab T = some i0) (hd0 : i0.d = .slice e) (hi1 : ti tab T' = some i1) (hd1 : i1.d = .slice e') (hie : ti tab e = some ie) (hks : ie.size = kk) (hbb : ie.bytes = bb) (hz : ie.zero.length = kk) (hb1 : 1 ≤ bb) (hbound : (xs.length + ys.length) * bb ≤ 140737488355328) :
    ∃ v w' H', (Builtin.append_ #[T, T'] ty #[v1, v2]).run P w = .ok v w' ∧ H.le H' ∧ Core C H' h ((kk, v) :: k2) w' ∧ Rep H' (.lst kk (xs ++ ys) (.cur v)) v := by
  subst hks; subst hbb
  have hTe := ti_ok hT hie
  obtain ⟨d0, u0, u1⟩ := run_underlying (w := w) (ti_ok hT hi0)
  have e0 := td_slice (u1.trans hd0); subst e0
  obtain ⟨d1, u2, u3⟩ := run_underlying (w := w) (ti_ok hT hi1)
  have e1 := td_slice (u3.trans hd1); subst e1
  obtain ⟨tif, z, t1, t2, t3, t4, t5⟩ := run_typeInfo (w := w) hTe
  obtain ⟨us1, f1, f2, f3, f4⟩ := first_slice (P := P) core.ag hx
  obtain ⟨us2, g1, g2, g3, g4⟩ := first_slice (P := P) core.ag hy
  obtain ⟨a2, m2, ey⟩ := rep_slice_len hy
  have hlen2 : (Builtin.lenOf v2).run P w = .ok ys.length w := by rw [ey]; rfl
  obtain ⟨hc, hxr⟩ := rep_lst_inv hx
  have hneed : xs.length + ys.length ≤ 140737488355328 := Nat.le_trans (Nat.le_mul_of_pos_right _ hb1) hbound
  -- the run, as far as the room
  have start : ∀ base cap, v1 = .slice base xs.length cap → (Builtin.append_ #[T, T'] ty #[v1, v2]).run P w =
      (if xs.length + ys.length ≤ cap then (do
          let new ← Builtin.firstCells ie.size ys.length v2
          if let some a := base then storeCells (a.add (xs.length * ie.size)) new.toList
          pure (.slice base (xs.length + ys.length) cap) : Sem Value)
       else (do
          if ((xs.length + ys.length : Nat) : Int) > IntKind.i64.max ∧ ((false = true) ∨ (← Go.typeInfo e).bytes = 0) then runtimePanic (.error "growslice: len out of range")
          if Builtin.nextslicecap (xs.length + ys.length) cap * (← Go.typeInfo e).bytes > 2 ^ 48 then (if false then runtimePanic (.error "growslice: len out of range") else do
            if !(← Builtin.mayShare ie.size xs.length ys.length base v2) then mark .noRoom
            unsupported (.resourceLimit "append: a slice or a string whose bytes no memory bears"))
          let newCap ← choose (.appendCap (xs.length + ys.length) cap e)
          askRoom (newCap * (← Go.typeInfo e).bytes)
          let old ← Builtin.firstCells ie.size xs.length v1
          let new ← Builtin.firstCells ie.size ys.length v2
          let rest := Builtin.zeroCells (← Go.zeroValue e).cells (newCap - (xs.length + ys.length))
          pure (.slice (some (← newRow e (old ++ new ++ rest))) (xs.length + ys.length) newCap) : Sem Value)).run P w := by
    intro base cap hv
    subst hv
    unfold Builtin.append_
    simp only [List.getElem?_toArray, List.getElem?_cons_zero, List.getElem?_cons_succ]
    rw [run_bind_ok u0]
    simp only []
    rw [run_bind_ok (run_sizeOf hTe)]
    rw [run_bind_ok u2]
    simp only []
    rw [run_bind_ok (a := false) (w' := w) rfl]
    simp only [Bool.false_eq_true, if_false]
    rw [run_bind_ok hlen2]
    simp only [Bool.not_false, if_true]
    rfl
  by_cases hA : ∃ base cap, v1 = .slice base xs.length cap ∧ xs.length + ys.length ≤ cap
  · obtain ⟨base, cap, hv, hle⟩ := hA
    rw [start base cap hv, if_pos hle]
    rw [run_bind_ok g3]
    by_cases hm : ys = []
    · -- nothing to write
      subst hm
      have hu2 : us2 = [] := List.eq_nil_of_length_eq_zero (by simpa using g1)
      subst hu2
      refine ⟨v1, w, H, ?_, Hp.le_refl H, ?_, ?_⟩
      · rw [hv]
        cases base with
        | none => rfl
        | some a => simp only [storeCells]; rfl
      · rcases hk1 with ⟨rfl, rfl⟩ | ⟨rfl, rfl⟩
        · -- full: no claim
          have hcl : tokClaim (ie.size, v1) = [] := by
            rw [hv] at hc ⊢
            simp only [CapOK] at hc
            subst hc
            cases base <;> simp [tokClaim]
          have ht : TokOK H w (ie.size, v1) := by
            intro a n m ev hlt
            rw [hv] at hc ev
            simp only [CapOK] at hc
            simp only [Value.slice.injEq] at ev
            obtain ⟨_, rfl, rfl⟩ := ev
            omega
          refine ⟨core.ag, core.le, core.new, core.same, core.size, core.blks, ?_, ?_, ?_, core.env⟩
          · intro p hp
            rcases List.mem_cons.1 hp with rfl | hp
            · exact ht
            · exact core.toks p hp
          · have : claims h ((ie.size, v1) :: k2) = claims h k2 := by simp [claims, blkClaim, hcl]
            rw [this]; exact core.nd
          · have : claims h ((ie.size, v1) :: k2) = claims h k2 := by simp [claims, blkClaim, hcl]
            rw [this]; exact core.own
        · exact core
      · refine rep_cell ?_ (by rw [hv]; rfl) rfl
        simp only [RepC, CapOK, List.append_nil]
        exact ⟨v1, rfl, rfl, hxr⟩
    · -- it is written behind
      have hpos : 0 < ys.length := List.length_pos_iff.2 hm
      rcases hk1 with ⟨rfl, rfl⟩ | ⟨rfl, rfl⟩
      · rw [hv] at hc; simp only [CapOK] at hc; omega
      obtain ⟨b, off, hbase, hE⟩ : ∃ b off, base = some ⟨b, off, none⟩ ∧ Els H ie.size b off xs := by
        rcases hxr with ⟨hnil, a, m, hs, hn0⟩ | ⟨b, off, m, hs, hmle, hE⟩
        · rw [hv] at hs
          simp only [Value.slice.injEq] at hs
          obtain ⟨rfl, h1, rfl⟩ := hs
          cases base with
          | none => have := hn0 rfl; omega
          | some a =>
            obtain ⟨cs, TT, _, hspot, _⟩ := core.toks (ie.size, v1) (by simp) a xs.length cap hv (by omega)
            obtain ⟨ab, ao, as⟩ := a
            simp only at hspot; subst hspot
            exact ⟨ab, ao, rfl, by rw [hnil]; simp [Els]⟩
        · rw [hv] at hs
          simp only [Value.slice.injEq] at hs
          exact ⟨b, off, hs.1, hE⟩
      subst hbase
      obtain ⟨cs, TT, h1, _, h3, h4⟩ := core.toks (ie.size, v1) (by simp) ⟨b, off, none⟩ xs.length cap hv (by omega)
      simp only at h1 h3 h4
      have hsz : off + xs.length * ie.size + us2.length ≤ cs.toList.length := by
        rw [g1]
        have : (xs.length + ys.length) * ie.size ≤ cap * ie.size := Nat.mul_le_mul_right _ hle
        rw [Nat.add_mul] at this
        simp only [Array.length_toList]; omega
      have hsz2 : off + xs.length * ie.size + us2.length ≤ cs.size := by rw [← Array.length_toList]; exact hsz
      obtain ⟨w', s1, s2, s3, s4, s5⟩ := run_storeCells (P := P) (b := b) (off := off + xs.length * ie.size) (T := TT) us2 0 w cs.toList (by simpa using h1) (by omega) g2
      simp only [Nat.add_zero] at s5
      let H' : Hp := fun a => if a.block = b ∧ a.spot = none ∧ off + xs.length * ie.size ≤ a.off ∧ a.off < off + xs.length * ie.size + us2.length then us2[a.off - (off + xs.length * ie.size)]? else H a
      have hle' : H.le H' := fun a v0 ea => by
        show (if a.block = b ∧ a.spot = none ∧ off + xs.length * ie.size ≤ a.off ∧ a.off < off + xs.length * ie.size + us2.length then us2[a.off - (off + xs.length * ie.size)]? else H a) = some v0
        rw [if_neg]
        · exact ea
        · rintro ⟨q1, q2, q3, q4⟩
          obtain ⟨ab, ao, as⟩ := a
          simp only at q1 q2 q3 q4
          subst q1; subst q2
          rw [h4 ao q3] at ea; cases ea
      have hnew : ∀ j u, us2[j]? = some u → H' ⟨b, off + xs.length * ie.size + j, none⟩ = some u := fun j u ej => by
        have hj := (List.getElem?_eq_some_iff.1 ej).1
        show (if b = b ∧ (none : Option Nat) = none ∧ off + xs.length * ie.size ≤ off + xs.length * ie.size + j ∧ off + xs.length * ie.size + j < off + xs.length * ie.size + us2.length then us2[off + xs.length * ie.size + j - (off + xs.length * ie.size)]? else H _) = some u
        rw [if_pos ⟨rfl, rfl, by omega, by omega⟩, Nat.add_sub_cancel_left]; exact ej
      have hclaim : claims [] [(ie.size, v1)] = [b] := by
        rw [hv]; simp only [claims, tokClaim, List.map_nil, List.flatMap_cons, List.flatMap_nil, List.nil_append, List.append_nil]
        rw [if_pos (by omega)]
      have local1 : Core ⟨H, w, claims [] [(ie.size, v1)]⟩ H' [] [(ie.size, .slice (some ⟨b, off, none⟩) (xs.length + ys.length) cap)] w' := by
        rw [hclaim]
        refine ⟨fun a v0 ea => ?_, hle', fun a v0 ea => ?_, fun i _ hm => s4 i (by simpa using hm), by show w.heap.size ≤ w'.heap.size; omega, by simp, ?_, ?_, ?_, s2⟩
        · by_cases q : a.block = b ∧ a.spot = none ∧ off + xs.length * ie.size ≤ a.off ∧ a.off < off + xs.length * ie.size + us2.length
          · have ea' : us2[a.off - (off + xs.length * ie.size)]? = some v0 := by
              have : H' a = us2[a.off - (off + xs.length * ie.size)]? := if_pos q
              rw [this] at ea; exact ea
            obtain ⟨q1, q2, q3, q4⟩ := q
            simp only [World.cell?, q1, s5, q2, Option.isSome_none, Bool.false_eq_true, if_false, List.getElem?_toArray]
            rw [List.getElem?_append_right (by simp; omega), List.getElem?_append_left (by simp; omega)]
            rw [show a.off - (cs.toList.take (off + xs.length * ie.size)).length = a.off - (off + xs.length * ie.size) by simp; omega]
            exact ea'
          · have ea' : H a = some v0 := by
              have : H' a = H a := if_neg q
              rw [this] at ea; exact ea
            have hcell := core.ag a v0 ea'
            by_cases qb : a.block = b
            · obtain ⟨ab, ao, as⟩ := a
              simp only at qb; subst qb
              cases as with
              | some sp => simp [World.cell?, h1] at hcell
              | none =>
                have hlt : ao < off + xs.length * ie.size := by
                  rcases Nat.lt_or_ge ao (off + xs.length * ie.size) with x | x
                  · exact x
                  · rw [h4 ao x] at ea'; cases ea'
                simp only [World.cell?, h1, s5, Option.isSome_none, Bool.false_eq_true, if_false, List.getElem?_toArray] at hcell ⊢
                rw [List.getElem?_append_left (by simp; omega), List.getElem?_take, if_pos hlt]
                simpa using hcell
            · simp only [World.cell?] at hcell ⊢
              rw [s4 _ qb]; exact hcell
        · by_cases q : a.block = b ∧ a.spot = none ∧ off + xs.length * ie.size ≤ a.off ∧ a.off < off + xs.length * ie.size + us2.length
          · exact .inr (.inr (by simp [q.1]))
          · have : H' a = H a := if_neg q
            rw [this] at ea; exact .inl ea
        · intro p hp
          simp only [List.mem_singleton] at hp; subst hp
          intro a n m ev hlt
          simp only [Value.slice.injEq, Option.some.injEq] at ev
          obtain ⟨rfl, rfl, rfl⟩ := ev
          refine ⟨_, TT, s5, rfl, ?_, fun o ho => ?_⟩
          · simp only [List.size_toArray, List.length_append, List.length_take, List.length_drop, Array.length_toList] at hsz ⊢
            omega
          · simp only at ho ⊢
            have : H' ⟨b, o, none⟩ = H ⟨b, o, none⟩ := if_neg (by rintro ⟨_, _, q3, q4⟩; simp only at q3 q4; rw [g1] at q4; rw [Nat.add_mul] at ho; omega)
            rw [this]
            exact h4 o (by rw [Nat.add_mul] at ho; omega)
        · simp only [claims, tokClaim, List.map_nil, List.flatMap_cons, List.flatMap_nil, List.nil_append, List.append_nil]
          split <;> simp
        · intro x hx'
          simp only [claims, tokClaim, List.map_nil, List.flatMap_cons, List.flatMap_nil, List.nil_append, List.append_nil] at hx'
          split at hx'
          · exact .inl (by simpa using hx')
          · cases hx'
      have := Core.call (h1 := []) (k1 := [(ie.size, v1)]) (h2 := h) (k2 := k2) (by simpa using core) local1
      refine ⟨.slice (some ⟨b, off, none⟩) (xs.length + ys.length) cap, w', H', ?_, hle', by simpa using this, ?_⟩
      · simp only [addr_add]
        rw [run_bind_ok s1]; rfl
      · refine rep_cell ?_ rfl rfl
        simp only [RepC, CapOK]
        refine ⟨_, rfl, rfl, .inr ⟨b, off, cap, by simp, by simpa using hle, ?_⟩⟩
        exact els_append (Els.mono hle' _ _ _ _ hE) (g4 H' b _ hle' hnew)
  · -- a new row
    have hv : ∃ base cap, v1 = .slice base xs.length cap := rep_slice_len hx
    obtain ⟨base, cap, hv⟩ := hv
    have hgt : ¬ xs.length + ys.length ≤ cap := fun x => hA ⟨base, cap, hv, x⟩
    rw [start base cap hv, if_neg hgt]
    have hti : (Go.typeInfo e).run P w = .ok tif w := t1
    have hbytes : tif.bytes = ie.bytes := t3
    have hno1 : ¬ (((xs.length + ys.length : Nat) : Int) > IntKind.i64.max ∧ ((false = true) ∨ tif.bytes = 0)) := by
      rintro ⟨_, q | q⟩
      · cases q
      · omega
    have hno2 : ¬ (Builtin.nextslicecap (xs.length + ys.length) cap * tif.bytes > 2 ^ 48) := by
      have h5 := next_le (Nat.lt_of_not_le hgt)
      have h6 : Builtin.nextslicecap (xs.length + ys.length) cap * ie.bytes ≤ 2 * (xs.length + ys.length) * ie.bytes := Nat.mul_le_mul_right _ h5
      rw [Nat.mul_assoc] at h6
      rw [hbytes]
      omega
    have hforced : ∀ need, (Question.appendCap need cap e).forced = false := fun _ => rfl
    obtain ⟨newCap, hcap, hchoose⟩ : ∃ newCap, xs.length + ys.length ≤ newCap ∧ (choose (.appendCap (xs.length + ys.length) cap e)).run P w = .ok newCap (wDrew w) := by
      refine ⟨_, ?_, by simp only [choose, Sem.run, hforced]; rfl⟩
      simp only [Question.cut]; omega
    have hzv : ∃ z, (Go.zeroValue e).run P (wDrew w) = .ok z (wDrew w) ∧ z.cells.toList = ie.zero := run_zeroValue hTe
    obtain ⟨zz, hz1, hz2⟩ := hzv
    have hti2 : ∃ tif2, (Go.typeInfo e).run P (wDrew w) = .ok tif2 (wDrew w) := by
      obtain ⟨tif2, _, q, _⟩ := run_typeInfo (w := wDrew w) hTe
      exact ⟨tif2, q⟩
    obtain ⟨tif2, hti2⟩ := hti2
    have core2 := core.drew
    obtain ⟨us1', f1', f2', f3', f4'⟩ := first_slice (P := P) core2.ag hx
    obtain ⟨us2', g1', g2', g3', g4'⟩ := first_slice (P := P) core2.ag hy
    let restA := Builtin.zeroCells zz.cells (newCap - (xs.length + ys.length))
    have hrest : restA.size = (newCap - (xs.length + ys.length)) * ie.size := by
      show (Builtin.zeroCells zz.cells _).size = _
      unfold Builtin.zeroCells
      simp only [Array.size_map, Array.size_range]
      have : zz.cells.size = ie.size := by rw [← Array.length_toList, hz2, hz]
      rw [this]
    have hrun : ((do
          if ((xs.length + ys.length : Nat) : Int) > IntKind.i64.max ∧ ((false = true) ∨ (← Go.typeInfo e).bytes = 0) then runtimePanic (.error "growslice: len out of range")
          if Builtin.nextslicecap (xs.length + ys.length) cap * (← Go.typeInfo e).bytes > 2 ^ 48 then (if false then runtimePanic (.error "growslice: len out of range") else do
            if !(← Builtin.mayShare ie.size xs.length ys.length base v2) then mark .noRoom
            unsupported (.resourceLimit "append: a slice or a string whose bytes no memory bears"))
          let newCap ← choose (.appendCap (xs.length + ys.length) cap e)
          askRoom (newCap * (← Go.typeInfo e).bytes)
          let old ← Builtin.firstCells ie.size xs.length v1
          let new ← Builtin.firstCells ie.size ys.length v2
          let rest := Builtin.zeroCells (← Go.zeroValue e).cells (newCap - (xs.length + ys.length))
          pure (.slice (some (← newRow e (old ++ new ++ rest))) (xs.length + ys.length) newCap) : Sem Value)).run P w =
        .ok (.slice (some ⟨w.heap.size, 0, none⟩) (xs.length + ys.length) newCap) ((wDrew w).alloc (.cells (us1'.toArray ++ us2'.toArray ++ restA) e)) := by
      rw [run_bind_ok hti]
      rw [if_neg hno1]
      rw [run_bind_ok hti]
      rw [if_neg hno2]
      rw [run_bind_ok hchoose, run_bind_ok hti2, run_bind_ok askRoom_run, run_bind_ok f3', run_bind_ok g3', run_bind_ok hz1]
      rfl
    rw [hrun]
    have hus1 : us1'.length = xs.length * ie.size := f1'
    have hus2 : us2'.length = ys.length * ie.size := g1'
    have earr : us1'.toArray ++ us2'.toArray ++ restA = ((us1' ++ us2') ++ restA.toList).toArray := by simp
    rw [earr]
    have hsizew : (wDrew w).heap.size = w.heap.size := rfl
    obtain ⟨hle', core3, told⟩ := Core.allocTold (Core.here core2.ag) (us := us1' ++ us2') (vs := (us1' ++ us2') ++ restA.toList) e (fun j u ej => by rw [List.getElem?_append_left (List.getElem?_eq_some_iff.1 ej).1]; exact ej)
    rw [hsizew] at hle' core3 told
    have hcells : ((wDrew w).alloc (.cells ((us1' ++ us2') ++ restA.toList).toArray e)).heap[w.heap.size]? = some (.cells ((us1' ++ us2') ++ restA.toList).toArray e (0, 0)) := by
      rw [heap_alloc, hsizew, if_pos rfl]
    have local1 : Core ⟨H, wDrew w, []⟩ (tell H w.heap.size (us1' ++ us2')) [] [(ie.size, .slice (some ⟨w.heap.size, 0, none⟩) (xs.length + ys.length) newCap)] ((wDrew w).alloc (.cells ((us1' ++ us2') ++ restA.toList).toArray e)) := by
      refine ⟨core3.ag, core3.le, core3.new, core3.same, core3.size, by simp, ?_, ?_, ?_, core3.env⟩
      · intro p hp
        simp only [List.mem_singleton] at hp; subst hp
        intro a n m ev hlt
        simp only [Value.slice.injEq, Option.some.injEq] at ev
        obtain ⟨rfl, rfl, rfl⟩ := ev
        refine ⟨_, e, hcells, rfl, ?_, fun o ho => ?_⟩
        · simp only [List.size_toArray, List.length_append, Array.length_toList, hrest, hus1, hus2, Nat.zero_add]
          rw [← Nat.add_mul, ← Nat.add_mul]
          exact Nat.mul_le_mul_right _ (by omega)
        · simp only [Nat.zero_add] at ho
          show tell H w.heap.size (us1' ++ us2') ⟨w.heap.size, o, none⟩ = none
          unfold tell
          rw [if_pos ⟨rfl, rfl⟩]
          rw [List.getElem?_eq_none]
          simp only [List.length_append, hus1, hus2, ← Nat.add_mul]
          exact ho
      · simp only [claims, tokClaim, List.map_nil, List.flatMap_cons, List.flatMap_nil, List.nil_append, List.append_nil]
        split <;> simp
      · intro x hx'
        simp only [claims, tokClaim, List.map_nil, List.flatMap_cons, List.flatMap_nil, List.nil_append, List.append_nil] at hx'
        split at hx'
        · simp at hx'; subst hx'; exact .inr (Nat.le_refl _)
        · cases hx'
    have coreD := core2.drop (h' := h) (k' := k2) (List.Sublist.refl _) (by
      rcases hk1 with ⟨rfl, _⟩ | ⟨rfl, _⟩
      · exact List.Sublist.refl _
      · exact List.sublist_append_right _ _)
    have := Core.call (h1 := []) (k1 := []) (h2 := h) (k2 := k2) (by simpa using coreD) local1
    refine ⟨_, _, _, rfl, hle', by simpa using this, ?_⟩
    refine rep_cell ?_ rfl rfl
    simp only [RepC, CapOK]
    refine ⟨_, rfl, rfl, .inr ⟨w.heap.size, 0, newCap, by simp, by simpa using hcap, ?_⟩⟩
    refine els_append (f4' _ _ _ hle' fun j u ej => ?_) (g4' _ _ _ hle' fun j u ej => ?_)
    · exact told j u (by rw [List.getElem?_append_left (List.getElem?_eq_some_iff.1 ej).1]; exact ej)
    · have := told (us1'.length + j) u (by rw [List.getElem?_append_right (by omega)]; simpa using ej)
      rw [show 0 + xs.length * ie.size + j = 0 + (us1'.length + j) by omega]
      exact this
end Go.Proofs.Ytpapooaaccmnpaa.Ab
