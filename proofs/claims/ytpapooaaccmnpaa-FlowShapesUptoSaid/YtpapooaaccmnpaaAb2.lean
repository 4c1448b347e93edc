/- An abstract machine, part 2: the frame, and what operations come to that look at no memory. Over any program. -/
import Derived.Test.YtpapooaaccmnpaaAb1
namespace Go.Proofs.Ytpapooaaccmnpaa.Ab
open Go
set_option linter.all false

theorem oneCell_cells {u : Value} (h : one u = true) : u.cells.toList = [u] := by cases u <;> simp_all [one, Value.cells]
theorem rep_cell {H : Hp} {d : D} {u : Value} (h : RepC H d [u]) (h1 : one u = true) (h2 : d.flat = true) : Rep H d u := by
  refine ⟨by rw [oneCell_cells h1]; exact h, ?_⟩
  cases d <;> cases u <;> simp_all [D.shape, D.flat, one]
theorem rep_agg {H : Hp} {l : List D} {us : List Value} (h : Reps H l us) : Rep H (.agg l) (.agg us.toArray) := ⟨by simp only [Value.cells, RepC]; exact h, rfl⟩
theorem rep_agg_inv {H : Hp} {l : List D} {y : Value} (h : Rep H (.agg l) y) : ∃ us, y = .agg us.toArray ∧ Reps H l us := by
  obtain ⟨h1, h2⟩ := h
  cases y <;> simp [D.shape] at h2
  rename_i cs
  exact ⟨cs.toList, by simp, by simpa [RepC, Value.cells] using h1⟩
theorem rep_v_inv {H : Hp} {x y : Value} (h : Rep H (.v x) y) : y = x := by
  obtain ⟨h1, h2⟩ := h
  cases y <;> simp [D.shape] at h2 <;> simp [RepC, Value.cells] at h1 <;> simp [h1]
theorem rep_v {H : Hp} {x : Value} (h : one x = true) : Rep H (.v x) x := rep_cell (by simp [RepC]) h rfl

theorem reps_length {H : Hp} : ∀ {l : List D} {us : List Value}, Reps H l us → us.length = l.length
  | [], us, h => by simp only [Reps] at h; subst h; rfl
  | d :: l, us, h => by
    simp only [Reps] at h
    obtain ⟨u, us', rfl, _, h2⟩ := h
    simp [reps_length h2]
theorem reps_get {H : Hp} : ∀ {l : List D} {us : List Value}, Reps H l us → ∀ {i : Nat} {d : D}, l[i]? = some d → ∃ u, us[i]? = some u ∧ RepC H d [u] ∧ one u = true ∧ d.flat = true
  | [], us, h, i, d, e => by simp at e
  | d0 :: l, us, h, i, d, e => by
    simp only [Reps] at h
    obtain ⟨u, us', rfl, h1, h2⟩ := h
    cases i with
    | zero => simp at e; subst e; exact ⟨u, by simp, h1⟩
    | succ i => simp at e; simpa using reps_get h2 e
theorem reps_drop {H : Hp} : ∀ (n : Nat) {l : List D} {us : List Value}, Reps H l us → Reps H (l.drop n) (us.drop n)
  | 0, _, _, h => by simpa using h
  | n + 1, [], us, h => by simp only [Reps] at h; subst h; simp [Reps]
  | n + 1, d :: l, us, h => by
    simp only [Reps] at h
    obtain ⟨u, us', rfl, _, h2⟩ := h
    simpa using reps_drop n h2
theorem reps_take {H : Hp} : ∀ (n : Nat) {l : List D} {us : List Value}, Reps H l us → Reps H (l.take n) (us.take n)
  | 0, _, _, h => by simp [Reps]
  | n + 1, [], us, h => by simp only [Reps] at h; subst h; simp [Reps]
  | n + 1, d :: l, us, h => by
    simp only [Reps] at h
    obtain ⟨u, us', rfl, h1, h2⟩ := h
    simp only [List.take_succ_cons, Reps]
    exact ⟨u, _, rfl, h1, reps_take n h2⟩
theorem reps_append {H : Hp} : ∀ {l m : List D} {us vs : List Value}, Reps H l us → Reps H m vs → Reps H (l ++ m) (us ++ vs)
  | [], m, us, vs, h, k => by simp only [Reps] at h; subst h; simpa using k
  | d :: l, m, us, vs, h, k => by
    simp only [Reps] at h
    obtain ⟨u, us', rfl, h1, h2⟩ := h
    simp only [List.cons_append, Reps]
    exact ⟨u, _, rfl, h1, reps_append h2 k⟩
theorem reps_one {H : Hp} : ∀ {l : List D} {us : List Value}, Reps H l us → ∀ u ∈ us, one u = true
  | [], us, h, u, hu => by simp only [Reps] at h; subst h; cases hu
  | d :: l, us, h, u, hu => by
    simp only [Reps] at h
    obtain ⟨u', us', rfl, h1, h2⟩ := h
    rcases List.mem_cons.1 hu with rfl | h3
    · exact h1.2.1
    · exact reps_one h2 u h3
theorem reps_vals {H : Hp} : ∀ (l : List Value), (∀ u ∈ l, one u = true) → Reps H (l.map .v) l
  | [], _ => by simp [Reps]
  | u :: l, h => by
    simp only [List.map_cons, Reps]
    exact ⟨u, l, rfl, ⟨by simp [RepC], h u (by simp), rfl⟩, reps_vals l fun x hx => h x (by simp [hx])⟩

/-! ### Types -/
/-- A type's make, without names. -/
inductive TD where
  | bool | str | other
  | int (k : IntKind)
  | slice (e : Nat)
  | ptr (e : Nat)
  | array (n e : Nat)
  | map (k e : Nat)
  | struct (fs : List (Nat × Nat))
def tdOf : TypeDesc → TD
  | .bool => .bool
  | .string => .str
  | .int k => .int k
  | .slice e => .slice e
  | .pointer e => .ptr e
  | .array n e => .array n e
  | .map k e => .map k e
  | .struct fs => .struct (fs.toList.map fun f => (f.type, f.offset))
  | _ => .other
structure TI where
  d : TD
  size : Nat
  bytes : Nat
  zero : List Value
def tiOf (P : Program) (t : TypeId) : Option TI :=
  match P.info? t, P.underlying t with
  | some i, some d => match i.zero with
    | some z => some ⟨tdOf d, i.size, i.bytes, z.cells.toList⟩
    | none => none
  | _, _ => none
/-- The table tells the program's types. -/
def TabOK (P : Program) (tab : List (Option TI)) : Prop := ∀ t i, tab[t]? = some (some i) → tiOf P t = some i
def fillT (P : Program) : Nat → List (Option TI) → List (Option TI)
  | _, [] => []
  | t, none :: l => none :: fillT P (t + 1) l
  | t, some _ :: l => tiOf P t :: fillT P (t + 1) l
theorem fillT_get {P : Program} : ∀ (l : List (Option TI)) (j t : Nat) (i : TI), (fillT P j l)[t]? = some (some i) → tiOf P (j + t) = some i
  | [], j, t, i, h => by simp [fillT] at h
  | none :: l, j, 0, i, h => by simp [fillT] at h
  | none :: l, j, t + 1, i, h => by
    simp only [fillT, List.getElem?_cons_succ] at h
    have := fillT_get l (j + 1) t i h
    rwa [show j + (t + 1) = j + 1 + t by omega]
  | some _ :: l, j, 0, i, h => by simpa [fillT] using h
  | some _ :: l, j, t + 1, i, h => by
    simp only [fillT, List.getElem?_cons_succ] at h
    have := fillT_get l (j + 1) t i h
    rwa [show j + (t + 1) = j + 1 + t by omega]
theorem tab_ok {P : Program} {tab : List (Option TI)} (h : fillT P 0 tab = tab) : TabOK P tab := by
  intro t i e
  rw [← h] at e
  have := fillT_get tab 0 t i e
  rwa [Nat.zero_add] at this
theorem tiOf_inv {P : Program} {t : TypeId} {i : TI} (h : tiOf P t = some i) : ∃ ti z d, P.info? t = some ti ∧ P.underlying t = some d ∧ tdOf d = i.d ∧ ti.size = i.size ∧ ti.bytes = i.bytes ∧ ti.zero = some z ∧ z.cells.toList = i.zero := by
  unfold tiOf at h
  split at h
  · rename_i ti d h1 h2
    split at h
    · rename_i z hz
      simp only [Option.some.injEq] at h
      subst h
      exact ⟨ti, z, d, h1, h2, rfl, rfl, rfl, hz, rfl⟩
    · cases h
  · cases h
def TI.agg (i : TI) : Bool :=
  match i.d with
  | .struct _ => true
  | .array _ _ => true
  | _ => false
def ti (tab : List (Option TI)) (t : TypeId) : Option TI := (tab[t]?).join
theorem ti_ok {P : Program} {tab : List (Option TI)} (h : TabOK P tab) {t : TypeId} {i : TI} (e : ti tab t = some i) : tiOf P t = some i := by
  unfold ti at e
  cases h0 : tab[t]? with
  | none => rw [h0] at e; cases e
  | some o => rw [h0] at e; simp at e; subst e; exact h t i h0

section
variable {P : Program} {w : World} {t : TypeId} {i : TI}
theorem run_pure {α : Type} (x : α) : (Pure.pure x : Sem α).run P w = .ok x w := rfl
theorem run_spure {α : Type} (x : α) : (Sem.pure x : Sem α).run P w = .ok x w := rfl
theorem run_bind {α β : Type} (x : Sem α) (f : α → Sem β) : (x >>= f).run P w = match x.run P w with | .ok a w' => (f a).run P w' | .halt h w' => .halt h w' := by
  show (x.bind f).run P w = _
  induction x generalizing w with
  | pure a => rfl
  | load m a k ih => simp only [Sem.bind, Sem.run]; (repeat' split) <;> simp_all
  | store m a v k ih => cases v <;> simp only [Sem.bind, Sem.run] <;> (try (repeat' split)) <;> simp_all
  | new o k ih => simp only [Sem.bind, Sem.run]; exact ih _
  | shape r k ih => simp only [Sem.bind, Sem.run]; exact ih _
  | freeze a n k ih => simp only [Sem.bind, Sem.run]; exact ih
  | frozen a k ih => simp only [Sem.bind, Sem.run]; exact ih _
  | getObj r k ih => simp only [Sem.bind, Sem.run]; split <;> simp_all
  | setObj r o k ih => simp only [Sem.bind, Sem.run]; split <;> simp_all
  | choose q k ih => simp only [Sem.bind, Sem.run]; split <;> simp_all
  | sys c k ih => simp only [Sem.bind, Sem.run]; exact ih _
  | program k ih => simp only [Sem.bind, Sem.run]; exact ih _
  | mark m k ih => simp only [Sem.bind, Sem.run]; exact ih
  | halt h => rfl
theorem run_bind_ok {α β : Type} {x : Sem α} {f : α → Sem β} {a : α} {w' : World} (h : x.run P w = .ok a w') : (x >>= f).run P w = (f a).run P w' := by rw [run_bind, h]
theorem run_underlying (h : tiOf P t = some i) : ∃ d, (Go.underlying t).run P w = .ok d w ∧ tdOf d = i.d := by
  obtain ⟨ti, z, d, h1, h2, h3, _⟩ := tiOf_inv h
  refine ⟨d, ?_, h3⟩
  unfold Go.underlying Go.program
  rw [run_bind_ok (a := P) rfl, h2]; rfl
theorem run_typeInfo (h : tiOf P t = some i) : ∃ ti z, (Go.typeInfo t).run P w = .ok ti w ∧ ti.size = i.size ∧ ti.bytes = i.bytes ∧ ti.zero = some z ∧ z.cells.toList = i.zero := by
  obtain ⟨ti, z, d, h1, h2, _, h3, h4, h5, h6⟩ := tiOf_inv h
  refine ⟨ti, z, ?_, h3, h4, h5, h6⟩
  unfold Go.typeInfo Go.program
  rw [run_bind_ok (a := P) rfl, h1]; rfl
theorem run_sizeOf (h : tiOf P t = some i) : (Go.sizeOf t).run P w = .ok i.size w := by
  obtain ⟨ti, z, h1, h2, _⟩ := run_typeInfo (w := w) h
  unfold Go.sizeOf
  rw [run_bind_ok h1, h2]; rfl
theorem run_zeroValue (h : tiOf P t = some i) : ∃ z, (Go.zeroValue t).run P w = .ok z w ∧ z.cells.toList = i.zero := by
  obtain ⟨ti, z, h1, h2, h3, h4, h5⟩ := run_typeInfo (w := w) h
  refine ⟨z, ?_, h5⟩
  unfold Go.zeroValue
  rw [run_bind_ok h1, h4]; rfl
theorem run_isAgg (h : tiOf P t = some i) : (Go.isAgg t).run P w = .ok i.agg w := by
  obtain ⟨d, h1, h2⟩ := run_underlying (w := w) h
  unfold Go.isAgg
  rw [run_bind_ok h1]
  unfold TI.agg
  rw [← h2]
  cases d <;> first | rfl | trivial
end

/-- A part of cells. -/
def partD (i : TI) (ds : List D) (off : Nat) : Option D :=
  bif i.agg then (bif Nat.ble (off + i.size) ds.length then some (.agg ((ds.drop off).take i.size)) else none) else ds[off]?
theorem run_part {P : Program} {w : World} {t : TypeId} {i : TI} {H : Hp} {ds : List D} {us : List Value} {off : Nat} {d : D} (hi : tiOf P t = some i) (h : Reps H ds us) (e : partD i ds off = some d) :
    ∃ v, (Go.part t us.toArray off).run P w = .ok v w ∧ Rep H d v := by
  unfold Go.part
  rw [run_bind_ok (run_isAgg hi)]
  unfold partD at e
  cases hg : i.agg with
  | true =>
    rw [hg] at e
    simp only [cond_true] at e
    cases hb : Nat.ble (off + i.size) ds.length with
    | false => rw [hb] at e; cases e
    | true =>
      rw [hb] at e
      simp only [cond_true, Option.some.injEq] at e
      subst e
      refine ⟨.agg ((us.drop off).take i.size).toArray, ?_, rep_agg (reps_take _ (reps_drop _ h))⟩
      simp only [if_true]
      rw [run_bind_ok (run_sizeOf hi)]
      show Result.ok (Value.agg (us.toArray.extract off (off + i.size))) w = _
      rw [List.extract_toArray, List.extract_eq_take_drop]
      simp
  | false =>
    rw [hg] at e
    simp only [cond_false] at e
    obtain ⟨u, h1, h2, h3, h4⟩ := reps_get h e
    refine ⟨u, ?_, rep_cell h2 h3 h4⟩
    simp [h1]
    first | rfl | done

/-! ### The frame -/
def look : List (Nat × D) → Nat → Option D
  | [], _ => none
  | (j, d) :: t, i => bif Nat.beq j i then some d else look t i
def TOK (H : Hp) (t : List (Nat × D)) (a : Act) : Prop := ∀ i d, look t i = some d → ∃ v, a.tmps[i]? = some v ∧ Rep H d v
theorem TOK.mono {H H' : Hp} (h : H.le H') {t : List (Nat × D)} {a : Act} (k : TOK H t a) : TOK H' t a := fun i d e => let ⟨v, h1, h2⟩ := k i d e; ⟨v, h1, h2.mono h⟩
theorem TOK.put {H : Hp} {t : List (Nat × D)} {a : Act} (k : TOK H t a) {i : Nat} {d : D} {v : Value} (hi : i < a.tmps.size) (hv : Rep H d v) : TOK H ((i, d) :: t) (a.put (some i) v) := by
  intro j d' e
  simp only [look] at e
  simp only [Act.put]
  cases hb : Nat.beq i j with
  | true =>
    rw [hb] at e; simp at e; subst e
    have := Nat.eq_of_beq_eq_true hb; subst this
    exact ⟨v, by simp [hi], hv⟩
  | false =>
    rw [hb] at e; simp at e
    have : i ≠ j := Nat.ne_of_beq_eq_false hb
    obtain ⟨u, h1, h2⟩ := k j d' e
    exact ⟨u, by rw [Array.getElem?_setIfInBounds_ne this]; exact h1, h2⟩

def ofVal : Value → D
  | .agg cs => .agg (cs.toList.map .v)
  | .slice none 0 0 => .lst 1 [] .full
  | x => .v x
def valOK : Value → Bool
  | .agg cs => cs.toList.all one
  | .tuple _ => false
  | _ => true
def opD (t : List (Nat × D)) : Operand → Option D
  | .tmp i => look t i
  | .const v => bif valOK v then some (ofVal v) else none
  | .func f => some (.fn (.func f) [] [])
  | .global g => some (.v (.pointer (some ⟨g, 0, none⟩)))
theorem rep_ofVal {H : Hp} {v : Value} (h : valOK v = true) : Rep H (ofVal v) v := by
  unfold ofVal
  split
  · rename_i cs
    have := reps_vals (H := H) cs.toList (by simp only [valOK, List.all_eq_true] at h; exact h)
    exact ⟨by simp only [Value.cells, RepC]; exact this, rfl⟩
  · exact rep_cell (by simp only [RepC, CapOK]; exact ⟨_, rfl, by trivial, .inl ⟨by trivial, none, 0, rfl, fun _ => rfl⟩⟩) rfl rfl
  · rename_i h1 h2
    exact rep_v (by cases v <;> simp_all [valOK, one])
theorem opD_ok {H : Hp} {t : List (Nat × D)} {a : Act} (k : TOK H t a) {x : Operand} {d : D} (e : opD t x = some d) : Rep H d (a.eval x) := by
  cases x with
  | tmp i =>
    obtain ⟨v, h1, h2⟩ := k i d e
    simp only [Act.eval]
    rw [Array.getD_eq_getD_getElem?, h1]; exact h2
  | const v =>
    simp only [opD] at e
    cases hb : valOK v with
    | false => rw [hb] at e; cases e
    | true => rw [hb] at e; simp at e; subst e; exact rep_ofVal hb
  | func f =>
    simp only [opD, Option.some.injEq] at e; subst e
    exact rep_cell (by simp only [RepC]; exact ⟨[], [], rfl, by simp [RepsV], by simp [RepsV]⟩) rfl rfl
  | global g =>
    simp only [opD, Option.some.injEq] at e; subst e
    exact rep_v rfl
theorem rep_ptr_inv {H : Hp} {b o : Nat} {y : Value} (h : Rep H (.ptr b o) y) : y = .pointer (some ⟨b, o, none⟩) := by
  obtain ⟨h1, h2⟩ := h
  cases y <;> simp [D.shape] at h2 <;> simp [RepC, Value.cells] at h1 <;> simp [h1]
theorem rep_el_inv {H : Hp} {d : D} {y : Value} (h : Rep H (.el d) y) : ∃ b off vs, y = .pointer (some ⟨b, off, none⟩) ∧ RepC H d vs ∧ Told H b off vs ∧ ∀ u ∈ vs, one u = true := by
  obtain ⟨h1, h2⟩ := h
  cases y <;> simp [D.shape] at h2 <;> simp [RepC, Value.cells] at h1 <;> simp [h1]
theorem rep_tup_inv {H : Hp} {l : List D} {y : Value} (h : Rep H (.tup l) y) : ∃ vs, y = .tuple vs.toArray ∧ RepsV H l vs := by
  obtain ⟨h1, h2⟩ := h
  cases y <;> simp [D.shape] at h2 <;> simp [RepC, Value.cells] at h1 <;> simp [h1]
theorem rep_lst_inv {H : Hp} {k : Nat} {xs : List D} {c : Cap} {y : Value} (h : Rep H (.lst k xs c) y) : CapOK c y ∧ ((xs = [] ∧ ∃ a m, y = .slice a 0 m ∧ (a = none → m = 0)) ∨ ∃ b off m, y = .slice (some ⟨b, off, none⟩) xs.length m ∧ xs.length ≤ m ∧ Els H k b off xs) := by
  obtain ⟨h1, h2⟩ := h
  cases y <;> simp [D.shape] at h2 <;> (simp only [RepC, Value.cells] at h1; obtain ⟨y, e, h⟩ := h1; simp at e; subst e; exact h)
theorem repsV_get {H : Hp} : ∀ {l : List D} {us : List Value}, RepsV H l us → ∀ {i : Nat} {d : D}, l[i]? = some d → ∃ u, us[i]? = some u ∧ Rep H d u
  | [], us, h, i, d, e => by simp at e
  | d0 :: l, us, h, i, d, e => by
    simp only [RepsV] at h
    obtain ⟨u, us', rfl, h1, h2⟩ := h
    cases i with
    | zero => simp at e; subst e; exact ⟨u, by simp, h1⟩
    | succ i => simp at e; simpa using repsV_get h2 e
end Go.Proofs.Ytpapooaaccmnpaa.Ab
