/- Rows: slices whose memory is one's own. Over any program. -/
import Derived.Test.YtpapooaaccmnpaaTr6
namespace Go.Proofs.Ytpapooaaccmnpaa.Ab
open Go
set_option linter.all false
/-- A slice value, told by where it lies, its length, its room. -/
abbrev SL (z : Option Addr × Nat × Nat) : Value := .slice z.1 z.2.1 z.2.2
abbrev Z3 := Option Addr × Nat × Nat
theorem flat_els {H H' : Hp} {k b : Nat} : ∀ {xs : List D} {us : List Value} {off : Nat}, H.le H' → FlatR H k xs us → Told H' b off us → Els H' k b off xs
  | [], us, off, _, _, _ => by simp [Els]
  | x :: xs, us, off, hle, h, ht => by
    obtain ⟨u1, u2, rfl, hl, ⟨h1, h2⟩, h3⟩ := h
    simp only [Els]
    refine ⟨⟨u1, hl, RepC.mono hle x u1 h1, fun j u e => ht j u (by rw [List.getElem?_append_left (List.getElem?_eq_some_iff.1 e).1]; exact e), h2⟩, flat_els hle h3 fun j u e => ?_⟩
    have := ht (k + j) u (by rw [List.getElem?_append_right (by omega)]; rw [hl]; simpa using e)
    rw [show off + k + j = off + (k + j) by omega]; exact this
theorem flat_len {H : Hp} {k : Nat} : ∀ {xs : List D} {us : List Value}, FlatR H k xs us → us.length = xs.length * k
  | [], us, h => by
    have : us = [] := h
    subst this; simp
  | x :: xs, us, h => by
    obtain ⟨u1, u2, rfl, hl, _, h3⟩ := h
    simp [hl, flat_len h3, Nat.add_mul]; omega
theorem flat_one {H : Hp} {k : Nat} : ∀ {xs : List D} {us : List Value}, FlatR H k xs us → ∀ u ∈ us, one u = true
  | [], us, h, u, hu => by
    have : us = [] := h
    subst this; cases hu
  | x :: xs, us, h, u, hu => by
    obtain ⟨u1, u2, rfl, hl, ⟨_, h2⟩, h3⟩ := h
    rcases List.mem_append.1 hu with x | x
    · exact h2 u x
    · exact flat_one h3 u x
theorem flat_append {H : Hp} {k : Nat} : ∀ {xs ys : List D} {us vs : List Value}, FlatR H k xs us → FlatR H k ys vs → FlatR H k (xs ++ ys) (us ++ vs)
  | [], ys, us, vs, h, g => by
    have : us = [] := h
    subst this; simpa using g
  | x :: xs, ys, us, vs, h, g => by
    obtain ⟨u1, u2, rfl, hl, h1, h3⟩ := h
    exact ⟨u1, u2 ++ vs, by simp, hl, h1, flat_append h3 g⟩
/-- What is told is a row's content as well. -/
theorem els_flatR {H : Hp} {k b : Nat} : ∀ {xs : List D} {off : Nat}, Els H k b off xs → ∃ us : List Value, us.length = xs.length * k ∧ Told H b off us ∧ FlatR H k xs us
  | [], off, _ => ⟨[], by simp, fun j u e => by simp at e, rfl⟩
  | x :: xs, off, h => by
    simp only [Els] at h
    obtain ⟨⟨us, h1, h2, h3, h4⟩, h5⟩ := h
    obtain ⟨vs, g1, g2, g3⟩ := els_flatR h5
    refine ⟨us ++ vs, by simp [h1, g1, Nat.add_mul]; omega, fun j u e => ?_, us, vs, rfl, h1, ⟨h2, h4⟩, g3⟩
    rw [List.getElem?_append] at e
    split at e
    · exact h3 j u e
    · have := g2 _ _ e
      rw [show off + k + (j - us.length) = off + j by omega] at this
      exact this
theorem told_sl {H : Hp} {k : Nat} {xs : List D} {y : Value} (h : RepC H (.lst k xs (.cur y)) [y]) : Rep H (.lst k xs (.cur y)) y := by
  have h0 := h
  simp only [RepC] at h
  obtain ⟨z, e, _, h⟩ := h
  simp at e
  subst e
  have h1 : one y = true := by
    rcases h with ⟨_, a, m, rfl, _⟩ | ⟨b, off, m, rfl, _⟩ <;> rfl
  exact rep_cell h0 h1 rfl
section
variable {C : Ctx} {t : List (Nat × D)} {h : List (Nat × Blk)} {k : List (Nat × Value)}
/-- A row is told from now on; its room stays one's own. -/
theorem row_told {H : Hp} {w : World} {r kk : Nat} {xs : List D} {y : Value} (hA : Ag H w) (hb : BlkOK H w (r, .row kk xs y)) :
    ∃ H', H.le H' ∧ Core ⟨H, w, claims [(r, .row kk xs y)] []⟩ H' [(r, .told kk xs y)] [(kk, y)] w := by
  rcases hb with ⟨a, rfl, rfl⟩ | ⟨b, m, us, rest, T, rfl, h0, hm, h1, h2, h3, h4⟩
  · refine ⟨H, Hp.le_refl H, hA, Hp.le_refl H, fun _ _ x => .inl x, fun _ _ _ => rfl, Nat.le_refl _, ?_, ?_, ?_, ?_, Env.refl w⟩
    · intro p hp
      simp only [List.mem_singleton] at hp; subst hp
      show RepC H _ _
      simp only [RepC, CapOK]
      exact ⟨_, rfl, by trivial, .inl ⟨by trivial, a, 0, rfl, fun _ => rfl⟩⟩
    · intro p hp
      simp only [List.mem_singleton] at hp; subst hp
      intro a n m e hlt
      simp only [Value.slice.injEq] at e
      omega
    · cases a <;> simp [claims, blkClaim, tokClaim]
    · cases a <;> simp [claims, blkClaim, tokClaim]
  · have hl := flat_len h2
    let H' : Hp := tell H b us
    have hle : H.le H' := fun a v e => by
      show (if a.block = b ∧ a.spot = none then us[a.off]? else H a) = some v
      rw [if_neg]
      · exact e
      · rintro ⟨q1, q2⟩
        obtain ⟨ab, ao, as⟩ := a
        simp only at q1 q2; subst q1; subst q2
        rw [h4 ao] at e; cases e
    have htold : Told H' b 0 us := fun j u e => by
      show (if b = b ∧ (none : Option Nat) = none then us[0 + j]? else H _) = some u
      rw [if_pos ⟨rfl, rfl⟩, Nat.zero_add]; exact e
    have hcl : claims [(r, Blk.row kk xs (.slice (some ⟨b, 0, none⟩) xs.length m))] [] = [b] := by simp [claims, blkClaim, sliceClaim, hm]
    refine ⟨H', hle, ?_⟩
    rw [hcl]
    refine ⟨fun a v e => ?_, hle, fun a v e => ?_, fun _ _ _ => rfl, Nat.le_refl _, ?_, ?_, ?_, ?_, Env.refl w⟩
    · by_cases q : a.block = b ∧ a.spot = none
      · have : H' a = us[a.off]? := if_pos q
        rw [this] at e
        obtain ⟨ab, ao, as⟩ := a
        simp only at q e
        obtain ⟨rfl, rfl⟩ := q
        simp only [World.cell?, h1, Option.isSome_none, Bool.false_eq_true, if_false, List.getElem?_toArray]
        rw [List.getElem?_append_left (List.getElem?_eq_some_iff.1 e).1]; exact e
      · have : H' a = H a := if_neg q
        rw [this] at e; exact hA a v e
    · by_cases q : a.block = b ∧ a.spot = none
      · exact .inr (.inr (by simp [q.1]))
      · have : H' a = H a := if_neg q
        rw [this] at e; exact .inl e
    · intro p hp
      simp only [List.mem_singleton] at hp; subst hp
      show RepC H' _ _
      simp only [RepC, CapOK]
      exact ⟨_, rfl, by trivial, .inr ⟨b, 0, m, rfl, h0, flat_els hle h2 htold⟩⟩
    · intro p hp
      simp only [List.mem_singleton] at hp; subst hp
      intro a n m' e hlt
      simp only [Value.slice.injEq, Option.some.injEq] at e
      obtain ⟨rfl, rfl, rfl⟩ := e
      refine ⟨_, T, h1, rfl, by simpa using h3, fun o ho => ?_⟩
      show (if b = b ∧ (none : Option Nat) = none then us[o]? else H _) = none
      rw [if_pos ⟨rfl, rfl⟩, List.getElem?_eq_none]
      simp only at ho; omega
    · simp only [claims, blkClaim, tokClaim, List.flatMap_cons, List.flatMap_nil, List.append_nil, List.nil_append]
      split <;> simp
    · intro x hx
      simp only [claims, blkClaim, tokClaim, List.flatMap_cons, List.flatMap_nil, List.append_nil, List.nil_append] at hx
      split at hx
      · exact .inl (by simpa using hx)
      · cases hx
theorem WkS.frz {h' : List (Nat × Blk)} {r kk : Nat} {xs : List D} {y : Value} (j : Nat) (hj : h[j]? = some (r, .row kk xs y)) (e : h.set j (r, .told kk xs y) = h') : WkS C ⟨t, h, k⟩ ⟨t, h', (kk, y) :: k⟩ := fun H a w c kt => by
  subst e
  have hb := c.blks _ (List.mem_of_getElem? hj)
  obtain ⟨H', hle, c'⟩ := row_told c.ag hb
  have c1 : Core C H ([(r, .row kk xs y)] ++ h.eraseIdx j) ([] ++ k) w := c.perm (perm_at hj) (List.Perm.refl _)
  exact ⟨H', hle, (Core.call c1 c').perm (perm_set hj) (List.Perm.refl _), kt.mono hle⟩
/-- A slot that holds what is told now. -/
theorem WkS.tld {r kk : Nat} {xs : List D} {y : Value} (i j : Nat) (hx : look t i = some (.v y)) (hj : h[j]? = some (r, .told kk xs y)) : WkS C ⟨t, h, k⟩ ⟨(i, .lst kk xs (.cur y)) :: t, h, k⟩ := fun H a w c kt => by
  have hb := told_sl (c.blks _ (List.mem_of_getElem? hj))
  obtain ⟨v, h1, h2⟩ := kt i _ hx
  rw [rep_v_inv h2] at h1
  exact ⟨H, Hp.le_refl H, c, look_put kt h1 hb⟩
theorem WkS.tldC {b off r kk : Nat} {ds : List D} {T : TypeId} {xs : List D} {y : Value} {h' : List (Nat × Blk)} (jb j : Nat) (hb : h[jb]? = some (b, .cells ds T)) (hd : ds[off]? = some (.v y)) (hj : h[j]? = some (r, .told kk xs y)) (e : h.set jb (b, .cells (ds.set off (.lst kk xs (.cur y))) T) = h') : WkS C ⟨t, h, k⟩ ⟨t, h', k⟩ := fun H a w c kt => by
  subst e
  have ht : RepC H (.lst kk xs (.cur y)) [y] := c.blks _ (List.mem_of_getElem? hj)
  have hts := told_sl ht
  obtain ⟨us, h1, h2, h3⟩ := c.blks _ (List.mem_of_getElem? hb)
  obtain ⟨u, e1, e2, e3, e4⟩ := reps_get h2 hd
  have hu : u = y := by simp only [RepC] at e2; simpa using e2
  subst hu
  have hcl : claims (h.set jb (b, Blk.cells (ds.set off (.lst kk xs (.cur u))) T)) k = claims h k := claims_set hb rfl
  refine ⟨H, Hp.le_refl H, ⟨c.ag, c.le, c.new, c.same, c.size, ?_, c.toks, by rw [hcl]; exact c.nd, by rw [hcl]; exact c.own, c.env⟩, kt⟩
  intro p hp
  rcases List.mem_or_eq_of_mem_set hp with hp | hp
  · exact c.blks p hp
  · subst hp
    exact ⟨us, h1, reps_set off h2 e1 ⟨ht, rfl⟩, h3⟩
theorem WkS.drop {h' : List (Nat × Blk)} (j : Nat) (e : h.eraseIdx j = h') : WkS C ⟨t, h, k⟩ ⟨t, h', k⟩ := fun H a w c kt => by
  subst e
  exact ⟨H, Hp.le_refl H, c.drop (List.eraseIdx_sublist _ _) (List.Sublist.refl _), kt⟩
/-- A slice without elements and room: a row of none. -/
theorem row_nil {H : Hp} {w : World} {k0 kk : Nat} {v : Value} (c : Core C H h k w) (hr : Rep H (.lst k0 [] .full) v) : ∃ z : Z3, v = SL z ∧ Core C H ((0, .row kk [] (SL z)) :: h) k w := by
  obtain ⟨hc, hx⟩ := rep_lst_inv hr
  have : ∃ a, v = .slice a 0 0 := by
    rcases hx with ⟨_, a, m, rfl, _⟩ | ⟨b, off, m, rfl, hm, _⟩
    · simp only [CapOK] at hc; subst hc; exact ⟨a, rfl⟩
    · simp only [CapOK, List.length_nil] at hc; subst hc; exact ⟨_, rfl⟩
  obtain ⟨a, rfl⟩ := this
  refine ⟨(a, 0, 0), rfl, c.ag, c.le, c.new, c.same, c.size, ?_, c.toks, ?_, ?_, c.env⟩
  · intro p hp
    rcases List.mem_cons.1 hp with rfl | hp
    · exact .inl ⟨a, rfl, rfl⟩
    · exact c.blks p hp
  · have : claims ((0, Blk.row kk [] (SL (a, 0, 0))) :: h) k = claims h k := by cases a <;> simp [claims, blkClaim, sliceClaim]
    rw [this]; exact c.nd
  · have : claims ((0, Blk.row kk [] (SL (a, 0, 0))) :: h) k = claims h k := by cases a <;> simp [claims, blkClaim, sliceClaim]
    rw [this]; exact c.own
theorem WkX.rowN {Y : Type} {S1 : Y → S} {i k0 : Nat} (kk : Nat) (hx : look t i = some (.lst k0 [] .full)) (g : ∀ z : Z3, WkX C ⟨(i, .v (SL z)) :: t, (0, .row kk [] (SL z)) :: h, k⟩ S1) : WkX C ⟨t, h, k⟩ S1 := fun H a w c kt => by
  obtain ⟨v, h1, h2⟩ := kt i _ hx
  obtain ⟨z, rfl, c'⟩ := row_nil (kk := kk) c h2
  exact g z H a w c' (look_put kt h1 (rep_v rfl))
theorem row_nilC {H : Hp} {w : World} {b off k0 : Nat} {ds : List D} {T : TypeId} (kk j : Nat) (hb : h[j]? = some (b, .cells ds T)) (hd : ds[off]? = some (.lst k0 [] .full)) (c : Core C H h k w) : ∃ z : Z3, Core C H ((0, .row kk [] (SL z)) :: h.set j (b, .cells (ds.set off (.v (SL z))) T)) k w := by
  obtain ⟨us, h1, h2, h3⟩ := c.blks _ (List.mem_of_getElem? hb)
  obtain ⟨u, e1, e2, e3, e4⟩ := reps_get h2 hd
  obtain ⟨z, rfl, c'⟩ := row_nil (kk := kk) c (rep_cell e2 e3 e4)
  have hcl : claims ((0, .row kk [] (SL z)) :: h.set j (b, Blk.cells (ds.set off (.v (SL z))) T)) k = claims ((0, .row kk [] (SL z)) :: h) k := by
    have := claims_set (h := h) (k := k) (y := (b, Blk.cells (ds.set off (.v (SL z))) T)) hb rfl
    simp only [claims, List.flatMap_cons] at this ⊢
    rw [List.append_assoc, this, List.append_assoc]
  refine ⟨z, c'.ag, c'.le, c'.new, c'.same, c'.size, ?_, c'.toks, by rw [hcl]; exact c'.nd, by rw [hcl]; exact c'.own, c'.env⟩
  intro p hp
  rcases List.mem_cons.1 hp with rfl | hp
  · exact c'.blks _ (by simp)
  · rcases List.mem_or_eq_of_mem_set hp with hp | hp
    · exact c.blks p hp
    · subst hp
      exact ⟨us, h1, reps_set off h2 e1 ⟨by simp [RepC], rfl⟩, h3⟩
theorem WkX.rowC {Y : Type} {S1 : Y → S} {b off k0 : Nat} {ds : List D} {T : TypeId} (kk j : Nat) (hb : h[j]? = some (b, .cells ds T)) (hd : ds[off]? = some (.lst k0 [] .full)) (g : ∀ z : Z3, WkX C ⟨t, (0, .row kk [] (SL z)) :: h.set j (b, .cells (ds.set off (.v (SL z))) T), k⟩ S1) : WkX C ⟨t, h, k⟩ S1 := fun H a w c kt => by
  obtain ⟨z, c'⟩ := row_nilC kk j hb hd c
  exact g z H a w c' kt
end
section
variable {P : Program} {C : Ctx} {N : Nat} {ops rest : List Oper} {o : Oper} {t : List (Nat × D)} {h : List (Nat × Blk)} {k : List (Nat × Value)} {Q : Exit → S → Prop} {tab : List (Option TI)}
theorem o_rowN {i k0 : Nat} (kk : Nat) (hx : look t i = some (.lst k0 [] .full)) (g : ∀ z : Z3, opsD P C N ops rest ⟨(i, .v (SL z)) :: t, (0, .row kk [] (SL z)) :: h, k⟩ Q) : opsD P C N ops rest ⟨t, h, k⟩ Q := fun a w ⟨H, c, kt, hn, hd⟩ => by
  obtain ⟨v, h1, h2⟩ := kt i _ hx
  obtain ⟨z, rfl, c'⟩ := row_nil (kk := kk) c h2
  exact g z a w ⟨H, c', look_put kt h1 (rep_v rfl), hn, hd⟩
theorem o_rowC {b off k0 : Nat} {ds : List D} {T : TypeId} (kk j : Nat) (hb : h[j]? = some (b, .cells ds T)) (hd : ds[off]? = some (.lst k0 [] .full)) (g : ∀ z : Z3, opsD P C N ops rest ⟨t, (0, .row kk [] (SL z)) :: h.set j (b, .cells (ds.set off (.v (SL z))) T), k⟩ Q) : opsD P C N ops rest ⟨t, h, k⟩ Q := fun a w ⟨H, c, kt, hn, hd'⟩ => by
  obtain ⟨z, c'⟩ := row_nilC kk j hb hd c
  exact g z a w ⟨H, c', kt, hn, hd'⟩
theorem retX.rowN {rs : List ResultVar} {R : D → List (Nat × Blk) → List (Nat × Value) → Prop} {x : Exit} {i k0 : Nat} (kk : Nat) (hx : look t i = some (.lst k0 [] .full)) (g : ∀ z : Z3, retX C tab rs R x ⟨(i, .v (SL z)) :: t, (0, .row kk [] (SL z)) :: h, k⟩) : retX C tab rs R x ⟨t, h, k⟩ := fun H a w c kt => by
  obtain ⟨v, h1, h2⟩ := kt i _ hx
  obtain ⟨z, rfl, c'⟩ := row_nil (kk := kk) c h2
  exact g z H a w c' (look_put kt h1 (rep_v rfl))
theorem retX.rowC {rs : List ResultVar} {R : D → List (Nat × Blk) → List (Nat × Value) → Prop} {x : Exit} {b off k0 : Nat} {ds : List D} {T : TypeId} (kk j : Nat) (hb : h[j]? = some (b, .cells ds T)) (hd : ds[off]? = some (.lst k0 [] .full)) (g : ∀ z : Z3, retX C tab rs R x ⟨t, (0, .row kk [] (SL z)) :: h.set j (b, .cells (ds.set off (.v (SL z))) T), k⟩) : retX C tab rs R x ⟨t, h, k⟩ := fun H a w c kt => by
  obtain ⟨z, c'⟩ := row_nilC kk j hb hd c
  exact g z H a w c' kt
/-- A row's length is its slice's. -/
theorem row_len {H : Hp} {w : World} {r kk : Nat} {xs : List D} {y : Value} (h : BlkOK H w (r, .row kk xs y)) : ∃ a m, y = .slice a xs.length m := by
  rcases h with ⟨a, rfl, rfl⟩ | ⟨b, m, us, rest, T, rfl, _⟩
  · exact ⟨a, 0, rfl⟩
  · exact ⟨_, m, rfl⟩
theorem p_lenR {i r kk : Nat} {T e : TypeId} {x : Operand} {xs : List D} {z : Z3} {ti0 : TI} (j : Nat) (hT : TabOK P tab) (ho : o.op = .call ⟨.builtin .len, [x].toArray, #[T]⟩) (hw : wantD ops t o = some true) (hd : o.dst = some i) (hi : Nat.blt i N = true)
    (hx : opD t x = some (.v (SL z))) (hj : h[j]? = some (r, .row kk xs (SL z))) (hti : ti tab T = some ti0) (hs : ti0.d = .slice e) {n : Nat} (hn : xs.length = n) (g : opsD P C N ops rest ⟨(i, .v (.int .i64 n)) :: t, h, k⟩ Q) : opsD P C N ops (o :: rest) ⟨t, h, k⟩ Q :=
  ops_val (s := ⟨t, h, k⟩) hw hd hi fun H a w core kt => by
    obtain ⟨ad, m, hy⟩ := row_len (core.blks _ (List.mem_of_getElem? hj))
    refine ⟨.int .i64 n, w, H, .v (.int .i64 n), h, k, exec_builtin (s := Builtin.len_) ho (fun _ _ => rfl) ?_, Hp.le_refl H, core, rep_v rfl, g⟩
    have e := rep_v_inv (opD_ok kt hx)
    simp only [List.map_cons, List.map_nil, e, hy, hn]
    exact run_len_slice (ti_ok hT hti) hs
end
end Go.Proofs.Ytpapooaaccmnpaa.Ab
