/- An abstract machine, part 4: regions in the order of the text: the steps that look at no memory, loads, stores, new variables, calls. Over any program. -/
import Derived.Test.YtpapooaaccmnpaaAb3
namespace Go.Proofs.Ytpapooaaccmnpaa.Ab
open Go
set_option linter.all false

/-- A frame's state: its slots, its blocks, the slices whose room is its own. -/
structure S where
  t : List (Nat × D)
  h : List (Nat × Blk)
  k : List (Nat × Value)
def Rel (C : Ctx) (N : Nat) (s : S) (a : Act) (w : World) : Prop := ∃ H, Core C H s.h s.k w ∧ TOK H s.t a ∧ a.tmps.size = N ∧ a.defers = []
def QD (C : Ctx) (N : Nat) (Q : Exit → S → Prop) : Exit → Act → World → Prop := fun x a w => ∃ s, Rel C N s a w ∧ Q x s
def wpD (P : Program) (C : Ctx) (N : Nat) (c : Code) (s : S) (Q : Exit → S → Prop) : Prop := ∀ a w, Rel C N s a w → c.wp P (QD C N Q) a w
def opsD (P : Program) (C : Ctx) (N : Nat) (ops : List Oper) (l : List Oper) (s : S) (Q : Exit → S → Prop) : Prop := ∀ a w, Rel C N s a w → wpList P ops.toArray (QD C N Q) l a w

/-- Is an operation wanted? -/
def wantD (ops : List Oper) (t : List (Nat × D)) (o : Oper) : Option Bool :=
  match o.guard with
  | none => some true
  | some (j, want) => match ops[j]? with
    | some p => match p.dst with
      | some i => match look t i with
        | some (.v (.bool b)) => some (bif b then want else !want)
        | some (.v (.tuple _)) => some false
        | _ => none
      | none => none
    | none => none
theorem wantD_ok {ops : List Oper} {H : Hp} {t : List (Nat × D)} {o : Oper} {a : Act} {b : Bool} (k : TOK H t a) (e : wantD ops t o = some b) : Region.wanted o (yielded ops.toArray a.tmps) = b := by
  unfold wantD at e
  unfold Region.wanted
  split at e
  · rename_i hg; rw [hg]; simp at e; subst e; rfl
  · rename_i j want hg
    rw [hg]
    split at e
    · rename_i p hp
      split at e
      · rename_i i hi
        split at e
        · rename_i b0 hl
          obtain ⟨v, h1, h2⟩ := k i _ hl
          have := rep_v_inv h2
          subst this
          simp only [Option.some.injEq] at e
          subst e
          simp only [yielded, List.getElem?_toArray, hp, Option.bind_some, hi, h1]
          cases b0 <;> cases want <;> rfl
        · rename_i vs hl
          obtain ⟨v, h1, h2⟩ := k i _ hl
          have := rep_v_inv h2
          subst this
          simp only [Option.some.injEq] at e
          subst e
          simp only [yielded, List.getElem?_toArray, hp, Option.bind_some, hi, h1]
          cases want <;> rfl
        · cases e
      · cases e
    · cases e

section
variable {P : Program} {C : Ctx} {N : Nat} {ops rest : List Oper} {o : Oper} {s : S} {Q : Exit → S → Prop} {tab : List (Option TI)}

theorem ops_nil (h : Q .normal s) : opsD P C N ops [] s Q := fun _ _ r => ⟨s, r, h⟩

/-- An operation that is wanted. -/
theorem ops_val {i : Nat} (hw : wantD ops s.t o = some true) (hd : o.dst = some i) (hi : Nat.blt i N = true)
    (h : ∀ H a w, Core C H s.h s.k w → TOK H s.t a → ∃ v w' H' d h' k', (execOp a.eval o).run P w = .ok (.value v) w' ∧ H.le H' ∧ Core C H' h' k' w' ∧ Rep H' d v ∧ opsD P C N ops rest ⟨(i, d) :: s.t, h', k'⟩ Q) :
    opsD P C N ops (o :: rest) s Q := by
  rintro a w ⟨H, c, k, hN, hdf⟩
  unfold wpList
  rw [wantD_ok k hw, if_pos rfl]
  obtain ⟨v, w', H', d, h', k', hr, hle, c', hv, hrest⟩ := h H a w c k
  refine .inl ?_
  unfold Oper.wp
  rw [hr, Oper.upon_value, hd]
  refine hrest _ _ ⟨H', c', TOK.put (k.mono hle) (by rw [hN]; simpa using hi) hv, ?_, ?_⟩
  · simp only [Act.put, Array.size_setIfInBounds]; exact hN
  · exact hdf
theorem ops_unit (hw : wantD ops s.t o = some true) (hd : o.dst = none)
    (h : ∀ H a w, Core C H s.h s.k w → TOK H s.t a → ∃ w' H' h' k', (execOp a.eval o).run P w = .ok .skip w' ∧ H.le H' ∧ Core C H' h' k' w' ∧ opsD P C N ops rest ⟨s.t, h', k'⟩ Q) :
    opsD P C N ops (o :: rest) s Q := by
  rintro a w ⟨H, c, k, hN, hdf⟩
  unfold wpList
  rw [wantD_ok k hw, if_pos rfl]
  obtain ⟨w', H', h', k', hr, hle, c', hrest⟩ := h H a w c k
  refine .inl ?_
  unfold Oper.wp
  rw [hr, Oper.upon_skip, hd]
  exact hrest _ _ ⟨H', c', k.mono hle, hN, hdf⟩
theorem ops_skip {i : Nat} (hw : wantD ops s.t o = some false) (hd : o.dst = some i) (hi : Nat.blt i N = true) (h : opsD P C N ops rest ⟨(i, .v (.tuple #[])) :: s.t, s.h, s.k⟩ Q) : opsD P C N ops (o :: rest) s Q := by
  rintro a w ⟨H, c, k, hN, hdf⟩
  unfold wpList
  rw [wantD_ok k hw, if_neg (by simp), hd]
  refine h _ _ ⟨H, c, TOK.put k (by rw [hN]; simpa using hi) ⟨by simp [RepC, undef, Value.cells], rfl⟩, ?_, hdf⟩
  simp only [Act.put, Array.size_setIfInBounds]; exact hN
theorem ops_skip0 (hw : wantD ops s.t o = some false) (hd : o.dst = none) (h : opsD P C N ops rest s Q) : opsD P C N ops (o :: rest) s Q := by
  rintro a w ⟨H, c, k, hN, hdf⟩
  unfold wpList
  rw [wantD_ok k hw, if_neg (by simp), hd]
  exact h _ _ ⟨H, c, k, hN, hdf⟩

/-- It looks at no memory. -/
theorem ops_pure {i : Nat} {d : D} (ht : TabOK P tab) (hw : wantD ops s.t o = some true) (hd : o.dst = some i) (hi : Nat.blt i N = true) (e : evP tab s.t o.op = some d)
    (h : opsD P C N ops rest ⟨(i, d) :: s.t, s.h, s.k⟩ Q) : opsD P C N ops (o :: rest) s Q :=
  ops_val hw hd hi fun H a w c k => by
    obtain ⟨v, h1, h2⟩ := evP_ok ht (w := w) k e
    exact ⟨v, w, H, d, s.h, s.k, h1, Hp.le_refl H, c, h2, h⟩
/-- It looks at no memory; told by hand. -/
theorem ops_run {i : Nat} {d : D} (hw : wantD ops s.t o = some true) (hd : o.dst = some i) (hi : Nat.blt i N = true) (e : ∀ H a w, TOK H s.t a → ∃ v, (execOp a.eval o).run P w = .ok (.value v) w ∧ Rep H d v)
    (h : opsD P C N ops rest ⟨(i, d) :: s.t, s.h, s.k⟩ Q) : opsD P C N ops (o :: rest) s Q :=
  ops_val hw hd hi fun H a w c k => by
    obtain ⟨v, h1, h2⟩ := e H a w k
    exact ⟨v, w, H, d, s.h, s.k, h1, Hp.le_refl H, c, h2, h⟩
/-- The state, told otherwise. -/
theorem ops_wk {s' : S} (hs : ∀ H a w, Core C H s.h s.k w → TOK H s.t a → ∃ H', H.le H' ∧ Core C H' s'.h s'.k w ∧ TOK H' s'.t a) (h : opsD P C N ops rest s' Q) : opsD P C N ops rest s Q := by
  rintro a w ⟨H, c, k, hN, hdf⟩
  obtain ⟨H', hle, c', k'⟩ := hs H a w c k
  exact h a w ⟨H', c', k', hN, hdf⟩
end

/-! ### Rows of cells in memory -/
def RowAt (w : World) (b off : Nat) (us : List Value) : Prop := ∀ j u, us[j]? = some u → w.cell? ⟨b, off + j, none⟩ = some u
theorem Told.row {H : Hp} {w : World} (h : Ag H w) {b off : Nat} {us : List Value} (k : Told H b off us) : RowAt w b off us := fun j u e => h _ _ (k j u e)
theorem row_block {w : World} {b : Nat} {us : List Value} {T : TypeId} (h : w.heap[b]? = some (.cells us.toArray T (0, 0))) : RowAt w b 0 us := fun j u e => by
  simp only [World.cell?, h, Nat.zero_add]; simpa using e
theorem RowAt.drop {w : World} {b off : Nat} {us : List Value} (h : RowAt w b off us) (n : Nat) : RowAt w b (off + n) (us.drop n) := fun j u e => by
  rw [List.getElem?_drop] at e
  have := h _ _ e
  rwa [← Nat.add_assoc] at this

theorem run_loadCellsFrom {P : Program} {w : World} {b off : Nat} : ∀ (n i : Nat) {us : List Value} (acc : Array Value), RowAt w b (off + i) us → n ≤ us.length →
    (loadCellsFrom ⟨b, off, none⟩ i n acc).run P w = .ok (acc ++ (us.take n).toArray) w
  | 0, i, us, acc, _, _ => by simp [loadCellsFrom] <;> rfl
  | n + 1, i, [], acc, _, h => by simp at h
  | n + 1, i, u :: us, acc, hr, h => by
    unfold loadCellsFrom
    have h0 : w.cell? ((⟨b, off, none⟩ : Addr).add i) = some u := by rw [addr_add]; simpa using hr 0 u (by simp)
    have hl : (load ((⟨b, off, none⟩ : Addr).add i)).run P w = .ok u w := by simp only [load, Sem.run, h0]
    rw [run_bind_ok hl]
    have := run_loadCellsFrom (P := P) n (i + 1) (us := us) (acc.push u) (by have := hr.drop 1; simpa [Nat.add_assoc] using this) (by simpa using h)
    rw [this]
    simp [List.take_succ_cons]
theorem run_loadCells {P : Program} {w : World} {b off : Nat} {us : List Value} (n : Nat) (hr : RowAt w b off us) (h : n ≤ us.length) : (loadCells ⟨b, off, none⟩ n).run P w = .ok (us.take n).toArray w := by
  unfold loadCells
  rw [run_loadCellsFrom n 0 #[] (by simpa using hr) h]; simp
theorem run_loadAt {P : Program} {w : World} {T : TypeId} {i : TI} {H : Hp} {ds : List D} {us : List Value} {b off n : Nat} {d : D} (hi : tiOf P T = some i) (hr : RowAt w b off us) (h : Reps H ds us) (e : partD i ds n = some d) :
    ∃ v, (Instr.loadAt T (.pointer (some ⟨b, off + n, none⟩))).run P w = .ok v w ∧ Rep H d v := by
  unfold Instr.loadAt
  rw [run_bind_ok (a := (⟨b, off + n, none⟩ : Addr)) rfl]
  unfold loadVar
  rw [run_bind_ok (run_isAgg hi)]
  unfold partD at e
  cases hg : i.agg with
  | true =>
    rw [hg] at e
    simp only [cond_true] at e
    cases hb : Nat.ble (n + i.size) ds.length with
    | false => rw [hb] at e; cases e
    | true =>
      rw [hb] at e
      simp only [cond_true, Option.some.injEq] at e
      subst e
      have hlen := reps_length h
      have hle := Nat.le_of_ble_eq_true hb
      refine ⟨.agg ((us.drop n).take i.size).toArray, ?_, rep_agg (reps_take _ (reps_drop _ h))⟩
      simp only [if_true]
      rw [run_bind_ok (run_sizeOf hi), run_bind_ok (run_loadCells i.size (hr.drop n) (by simp; omega))]
      first | done | rfl
  | false =>
    rw [hg] at e
    simp only [cond_false] at e
    obtain ⟨u, h1, h2, h3, h4⟩ := reps_get h e
    refine ⟨u, ?_, rep_cell h2 h3 h4⟩
    have := hr n u h1
    simp only [Bool.false_eq_true, if_false, load, Sem.run, this]

def dcells : D → List D
  | .agg l => l
  | .any => []
  | d => [d]
theorem repC_cells {H : Hp} {d : D} {us : List Value} (hd : dcells d ≠ []) (h : RepC H d us) (h1 : ∀ u ∈ us, one u = true) : Reps H (dcells d) us := by
  cases d with
  | any => exact absurd rfl hd
  | agg l => simpa [dcells, RepC] using h
  | v x => simp only [RepC] at h; subst h; simp only [dcells, Reps]; exact ⟨x, [], rfl, ⟨by simp [RepC], h1 x (by simp), rfl⟩, rfl⟩
  | lst k xs c =>
    have h0 := h
    simp only [RepC] at h
    obtain ⟨y, e, _⟩ := h
    subst e
    simp only [dcells, Reps]; exact ⟨y, [], rfl, ⟨h0, h1 y (by simp), rfl⟩, rfl⟩
  | el d =>
    have h0 := h
    simp only [RepC] at h
    obtain ⟨b, off, vs, e, _⟩ := h
    subst e
    simp only [dcells, Reps]; exact ⟨_, [], rfl, ⟨h0, h1 _ (by simp), rfl⟩, rfl⟩
  | ptr b o =>
    have h0 := h
    simp only [RepC] at h
    subst h
    simp only [dcells, Reps]; exact ⟨_, [], rfl, ⟨h0, h1 _ (by simp), rfl⟩, rfl⟩
  | fn f as cs =>
    have h0 := h
    simp only [RepC] at h
    obtain ⟨vs, ws, e, _⟩ := h
    subst e
    simp only [dcells, Reps]; exact ⟨_, [], rfl, ⟨h0, h1 _ (by simp), rfl⟩, rfl⟩
  | tup l =>
    simp only [RepC] at h
    obtain ⟨vs, e, _⟩ := h
    subst e
    have := h1 _ (List.mem_singleton.2 rfl)
    cases this

section
variable {P : Program} {C : Ctx} {N : Nat} {ops rest : List Oper} {o : Oper} {s : S} {Q : Exit → S → Prop} {tab : List (Option TI)}

/-- A load out of a block of one's own (the j-th). -/
theorem ops_load {i b off : Nat} {T T' : TypeId} {x : Operand} {ds : List D} {ti0 : TI} {d : D} (j : Nat) (ht : TabOK P tab) (ho : o.op = .load T x) (hw : wantD ops s.t o = some true) (hd : o.dst = some i) (hi : Nat.blt i N = true)
    (hx : opD s.t x = some (.ptr b off)) (hb : s.h[j]? = some (b, .cells ds T')) (hT : ti tab T = some ti0) (e : partD ti0 ds off = some d)
    (h : opsD P C N ops rest ⟨(i, d) :: s.t, s.h, s.k⟩ Q) : opsD P C N ops (o :: rest) s Q :=
  ops_val hw hd hi fun H a w c k => by
    obtain ⟨us, h1, h2, h3⟩ := c.blks _ (List.mem_of_getElem? hb)
    obtain ⟨v, h4, h5⟩ := run_loadAt (P := P) (T := T) (n := off) (ti_ok ht hT) (row_block h1) h2 e
    refine ⟨v, w, H, d, s.h, s.k, ?_, Hp.le_refl H, c, h5, h⟩
    unfold execOp
    rw [ho]
    refine exec_v ?_
    rw [rep_ptr_inv (opD_ok k hx)]
    rwa [Nat.zero_add] at h4
/-- A load of an element that is told. -/
theorem ops_loadEl {i : Nat} {T : TypeId} {x : Operand} {d0 d : D} {ti0 : TI} (ht : TabOK P tab) (ho : o.op = .load T x) (hw : wantD ops s.t o = some true) (hd : o.dst = some i) (hi : Nat.blt i N = true)
    (hx : opD s.t x = some (.el d0)) (hT : ti tab T = some ti0) (e : partD ti0 (dcells d0) 0 = some d) (hne : dcells d0 ≠ [])
    (h : opsD P C N ops rest ⟨(i, d) :: s.t, s.h, s.k⟩ Q) : opsD P C N ops (o :: rest) s Q :=
  ops_val hw hd hi fun H a w c k => by
    obtain ⟨b, off, vs, h1, h2, h3, h4⟩ := rep_el_inv (opD_ok k hx)
    obtain ⟨v, h5, h6⟩ := run_loadAt (P := P) (T := T) (n := 0) (ti_ok ht hT) (h3.row c.ag) (repC_cells hne h2 h4) e
    refine ⟨v, w, H, d, s.h, s.k, ?_, Hp.le_refl H, c, h6, h⟩
    unfold execOp
    rw [ho]
    exact exec_v (by rw [h1]; exact h5)
end

/-! ### New blocks -/
theorem Core.here {H : Hp} {w : World} (h : Ag H w) : Core ⟨H, w, []⟩ H [] [] w :=
  ⟨h, Hp.le_refl H, fun _ _ x => .inl x, fun _ _ _ => rfl, Nat.le_refl _, (by simp), (by simp), (by simp [claims, blkClaim]), (by simp [claims, blkClaim]), Env.refl w⟩
theorem heap_alloc (w : World) (o : Obj) (k : Nat) : (w.alloc o).heap[k]? = if k = w.heap.size then some o else w.heap[k]? := by
  show (w.heap.push o)[k]? = _
  rw [Array.getElem?_push]
theorem size_alloc (w : World) (o : Obj) : (w.alloc o).heap.size = w.heap.size + 1 := by show (w.heap.push o).size = _; simp
theorem cell_alloc {w : World} {a : Addr} {v : Value} (o : Obj) (h : w.cell? a = some v) : (w.alloc o).cell? a = some v := by
  have hl := cell_lt h
  unfold World.cell? at h ⊢
  rw [heap_alloc, if_neg (by omega)]; exact h
/-- A new block. -/
theorem Core.alloc {C : Ctx} {H : Hp} {h : List (Nat × Blk)} {k : List (Nat × Value)} {w : World} (c : Core C H h k w) {ds : List D} {us : List Value} (T : TypeId) (hr : Reps H ds us) :
    Core C H (h ++ [(w.heap.size, .cells ds T)]) k (w.alloc (.cells us.toArray T)) := by
  have c0 : Core ⟨H, w, []⟩ H [(w.heap.size, .cells ds T)] [] (w.alloc (.cells us.toArray T)) := by
    refine ⟨fun a v e => cell_alloc _ (c.ag a v e), Hp.le_refl H, fun _ _ x => .inl x, fun b hb _ => ?_, ?_, ?_, by simp, ?_, ?_, ⟨rfl, rfl, rfl⟩⟩
    · rw [heap_alloc, if_neg (by exact Nat.ne_of_lt hb)]
    · rw [size_alloc]; exact Nat.le_succ _
    · intro p hp
      simp only [List.mem_singleton] at hp; subst hp
      refine ⟨us, by rw [heap_alloc, if_pos rfl], hr, fun o => ?_⟩
      cases e : H ⟨w.heap.size, o, none⟩ with
      | none => rfl
      | some v => exact absurd (c.ag.lt e) (Nat.lt_irrefl _)
    · simp [claims, blkClaim]
    · intro b hb
      simp [claims, blkClaim] at hb; subst hb
      exact .inr (Nat.le_refl _)
  have := Core.call (h1 := []) (k1 := []) (h2 := h) (k2 := k) c c0
  exact this.perm (by simpa using (List.perm_append_singleton _ _).symm) (List.Perm.refl _)
/-- A new row that is told at once. -/
def tell (H : Hp) (b : Nat) (us : List Value) : Hp := fun a => if a.block = b ∧ a.spot = none then us[a.off]? else H a
theorem Core.allocTold {C : Ctx} {H : Hp} {h : List (Nat × Blk)} {k : List (Nat × Value)} {w : World} (c : Core C H h k w) {us vs : List Value} (T : TypeId) (hp : ∀ (j : Nat) (u : Value), us[j]? = some u → vs[j]? = some u) :
    H.le (tell H w.heap.size us) ∧ Core C (tell H w.heap.size us) h k (w.alloc (.cells vs.toArray T)) ∧ Told (tell H w.heap.size us) w.heap.size 0 us := by
  have hle : H.le (tell H w.heap.size us) := fun a v e => by
    have := c.ag.lt e
    unfold tell
    rw [if_neg (by rintro ⟨h1, _⟩; omega)]; exact e
  have c0 : Core ⟨H, w, []⟩ (tell H w.heap.size us) [] [] (w.alloc (.cells vs.toArray T)) := by
    refine ⟨fun a v e => ?_, hle, fun a v e => ?_, fun b hb _ => ?_, ?_, by simp, by simp, by simp [claims, blkClaim], by simp [claims, blkClaim], ⟨rfl, rfl, rfl⟩⟩
    · unfold tell at e
      split at e
      · rename_i hb
        obtain ⟨ab, ao, as⟩ := a
        simp only at hb e
        obtain ⟨rfl, rfl⟩ := hb
        have := hp _ _ e
        show (match (w.alloc (.cells vs.toArray T)).heap[w.heap.size]? with | some (.cells c _ _) => if (none : Option Nat).isSome then none else c[ao]? | _ => none) = some v
        rw [heap_alloc, if_pos rfl]
        simpa using this
      · exact cell_alloc _ (c.ag a v e)
    · unfold tell at e
      split at e
      · rename_i hb; exact .inr (.inl (by rw [hb.1]; exact Nat.le_refl _))
      · exact .inl e
    · rw [heap_alloc, if_neg (by exact Nat.ne_of_lt hb)]
    · rw [size_alloc]; exact Nat.le_succ _
  refine ⟨hle, by simpa using Core.call (h1 := []) (k1 := []) (h2 := h) (k2 := k) c c0, fun j u e => ?_⟩
  simp [tell, e]

section
variable {P : Program} {C : Ctx} {N : Nat} {ops rest : List Oper} {o : Oper} {s : S} {Q : Exit → S → Prop} {tab : List (Option TI)}

theorem run_newVar {w : World} {T : TypeId} {v : Value} : (newVar T v).run P w = .ok (⟨w.heap.size, 0, none⟩ : Addr) (w.alloc (.cells v.cells T)) := rfl
/-- A zero cell. -/
def dOf : Value → D
  | .slice none 0 0 => .lst 1 [] .full
  | x => .v x
theorem dOf_ok (H : Hp) (z : Value) : RepC H (dOf z) [z] ∧ (dOf z).flat = true := by
  unfold dOf
  split
  · exact ⟨by simp only [RepC, CapOK]; exact ⟨_, rfl, by trivial, .inl ⟨by trivial, none, 0, rfl, fun _ => rfl⟩⟩, rfl⟩
  · exact ⟨by simp [RepC], rfl⟩
/-- A new variable. -/
theorem ops_alloc {i : Nat} {T : TypeId} {ti0 : TI} (ht : TabOK P tab) (ho : o.op = .alloc T) (hw : wantD ops s.t o = some true) (hd : o.dst = some i) (hi : Nat.blt i N = true) (hT : ti tab T = some ti0) (hz : ti0.zero.all one = true)
    (h : ∀ b, opsD P C N ops rest ⟨(i, .ptr b 0) :: s.t, s.h ++ [(b, .cells (ti0.zero.map dOf) T)], s.k⟩ Q) : opsD P C N ops (o :: rest) s Q := by
  refine ops_val hw hd hi fun H a w c k => ?_
  obtain ⟨z, h1, h2⟩ := run_zeroValue (w := w) (ti_ok ht hT)
  have hr : Reps H (ti0.zero.map dOf) z.cells.toList := by
    rw [h2]
    rw [List.all_eq_true] at hz
    revert hz
    generalize ti0.zero = l
    intro hz
    induction l with
    | nil => simp [Reps]
    | cons u l ih =>
      simp only [List.map_cons, Reps]
      refine ⟨u, l, rfl, ⟨(dOf_ok H u).1, hz u (by simp), (dOf_ok H u).2⟩, ih (fun x hx => hz x (by simp [hx]))⟩
  refine ⟨.pointer (some ⟨w.heap.size, 0, none⟩), _, H, .ptr w.heap.size 0, _, s.k, ?_, Hp.le_refl H, c.alloc T hr, rep_cell (by simp [RepC]) rfl rfl, h w.heap.size⟩
  unfold execOp
  rw [ho]
  refine exec_v ?_
  unfold Instr.alloc
  rw [run_bind_ok h1]
  simp only []
  rw [run_bind_ok run_newVar]
  simp
  first | done | rfl
end
end Go.Proofs.Ytpapooaaccmnpaa.Ab
