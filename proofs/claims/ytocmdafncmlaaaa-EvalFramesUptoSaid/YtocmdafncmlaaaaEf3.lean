/- The texts that evalFramesUpto_holds leans on, part 3. -/
import Derived.Test.YtocmdafncmlaaaaEf2
namespace Go.Proofs.Ytocmdafncmlaaaa.Ab
open Go
set_option linter.all false
def fieldsOK (tab : List (Option TI)) (ts : List Nat) : Nat → List (Nat × Nat) → Option Nat
  | off, [] => some off
  | off, (ty, o) :: fs => match ti tab ty with
    | some i => bif Nat.beq o off && ts.contains ty then fieldsOK tab ts (off + i.size) fs else none
    | none => none
def typeOK (tab : List (Option TI)) (ts : List Nat) (t : Nat) : Bool :=
  match ti tab t with
  | some i => match i.d with
    | .bool => Nat.beq i.size 1
    | .int _ => Nat.beq i.size 1
    | .str => Nat.beq i.size 1
    | .slice e => ts.contains e && Nat.beq i.size 1 && (match ti tab e with | some ie => Nat.ble 1 ie.size | none => false)
    | .struct fs => match fieldsOK tab ts 0 fs with
      | some n => Nat.beq n i.size
      | none => false
    | .array n e => ts.contains e && (match ti tab e with | some ie => Nat.beq i.size (n * ie.size) | none => false)
    | _ => false
  | none => false
def closedT (tab : List (Option TI)) (ts : List Nat) : Bool := ts.all (typeOK tab ts)
def GoodT (tab : List (Option TI)) : Nat → Nat → D → Prop
  | 0, _, _ => False
  | n + 1, t, d => ∃ i, ti tab t = some i ∧ match i.d with
    | .bool => ∃ b, d = .v (.bool b)
    | .int k => ∃ m, d = .v (.int k m) ∧ (Lit.int k m).wf = true
    | .str => ∃ s : ByteArray, d = .v (.string s) ∧ s.size ≤ maxLen
    | .slice e => ∃ ie xs, ti tab e = some ie ∧ d = .lst ie.size xs .no ∧ xs.length ≤ maxLen ∧ ∀ x ∈ xs, GoodT tab n e x
    | .struct fs => ∃ ds : List D, d = .agg (ds.flatMap dcells) ∧ ds.length = fs.length ∧ ∀ (j : Nat) (f : Nat × Nat) (d0 : D), fs[j]? = some f → ds[j]? = some d0 → GoodT tab n f.1 d0
    | .array m e => ∃ ds : List D, d = .agg (ds.flatMap dcells) ∧ ds.length = m ∧ ∀ x ∈ ds, GoodT tab n e x
    | _ => False
section
variable {H : Type} {enc : TypeId × Value → H} {P : Program} {w : World} {base : Nat} {spare : Nat → Bool} {held : Bool} {tab : List (Option TI)} {ts : List Nat}
theorem cellsOf_ti (hT : TabOK P tab) {t : TypeId} {i : TI} (h : ti tab t = some i) : P.cellsOf t = i.size := by
  obtain ⟨tf, z, dd, h1, _, _, h2, _⟩ := tiOf_inv (ti_ok hT h)
  simp [Program.cellsOf, h1, h2]
def allOf (w : World) : Hp := fun a => w.cell? a
theorem ag_all (w : World) : Ag (allOf w) w := fun _ _ h => h
end
end Go.Proofs.Ytocmdafncmlaaaa.Ab
namespace Go.Proofs.Ytocmdafncmlaaaa.Ab
open Go
set_option linter.all false
section
variable {P : Program} {tab : List (Option TI)} {n t : Nat} {i : TI} {d : D}
theorem good_int {k : IntKind} (hi : ti tab t = some i) (hd : i.d = .int k) (g : GoodT tab n t d) : ∃ m, d = .v (.int k m) ∧ (Lit.int k m).wf = true := by
  cases n with
  | zero => simp [GoodT] at g
  | succ n =>
    unfold GoodT at g
    obtain ⟨i', h1, h2⟩ := g
    rw [hi] at h1; cases h1
    rw [hd] at h2; exact h2
theorem good_bool (hi : ti tab t = some i) (hd : i.d = .bool) (g : GoodT tab n t d) : ∃ b, d = .v (.bool b) := by
  cases n with
  | zero => simp [GoodT] at g
  | succ n =>
    unfold GoodT at g
    obtain ⟨i', h1, h2⟩ := g
    rw [hi] at h1; cases h1
    rw [hd] at h2; exact h2
theorem good_str (hi : ti tab t = some i) (hd : i.d = .str) (g : GoodT tab n t d) : ∃ s : ByteArray, d = .v (.string s) ∧ s.size ≤ maxLen := by
  cases n with
  | zero => simp [GoodT] at g
  | succ n =>
    unfold GoodT at g
    obtain ⟨i', h1, h2⟩ := g
    rw [hi] at h1; cases h1
    rw [hd] at h2; exact h2
theorem good_slice {e : Nat} {ie : TI} (hi : ti tab t = some i) (hd : i.d = .slice e) (he : ti tab e = some ie) (g : GoodT tab n t d) : ∃ (n' : Nat) (xs : List D), n = n' + 1 ∧ d = .lst ie.size xs .no ∧ xs.length ≤ maxLen ∧ ∀ x ∈ xs, GoodT tab n' e x := by
  cases n with
  | zero => simp [GoodT] at g
  | succ n =>
    unfold GoodT at g
    obtain ⟨i', h1, h2⟩ := g
    rw [hi] at h1; cases h1
    rw [hd] at h2
    obtain ⟨ie', xs, h3, h4, h5, h6⟩ := h2
    rw [he] at h3; cases h3
    exact ⟨n, xs, rfl, h4, h5, h6⟩
theorem good_struct {fs : List (Nat × Nat)} (hi : ti tab t = some i) (hd : i.d = .struct fs) (g : GoodT tab n t d) : ∃ (n' : Nat) (ds : List D), n = n' + 1 ∧ d = .agg (ds.flatMap dcells) ∧ ds.length = fs.length ∧ ∀ (j : Nat) (f : Nat × Nat) (d0 : D), fs[j]? = some f → ds[j]? = some d0 → GoodT tab n' f.1 d0 := by
  cases n with
  | zero => simp [GoodT] at g
  | succ n =>
    unfold GoodT at g
    obtain ⟨i', h1, h2⟩ := g
    rw [hi] at h1; cases h1
    rw [hd] at h2
    obtain ⟨ds, h4, h5, h6⟩ := h2
    exact ⟨n, ds, rfl, h4, h5, h6⟩
theorem good_list {α : Type} {f : α → D} {K : α → Prop} {p : D → Prop} (h : ∀ x, p x → ∃ y, x = f y ∧ K y) : ∀ (xs : List D), (∀ x ∈ xs, p x) → ∃ ys : List α, xs = ys.map f ∧ ∀ y ∈ ys, K y
  | [], _ => ⟨[], rfl, by simp⟩
  | x :: xs, hx => by
    obtain ⟨y, rfl, hy⟩ := h x (hx x (by simp))
    obtain ⟨ys, rfl, hys⟩ := good_list h xs fun z hz => hx z (by simp [hz])
    refine ⟨y :: ys, rfl, fun z hz => ?_⟩
    rcases List.mem_cons.1 hz with rfl | hz
    · exact hy
    · exact hys z hz
theorem shape_of {w : World} {r : Reach} {base : Nat} {v : Value} (hT : TabOK P tab) (hv : Value.okWide P w r base t v) (g : GoodT tab n t d) : d.shape v = true := by
  cases n with
  | zero => simp [GoodT] at g
  | succ n =>
    unfold GoodT at g
    obtain ⟨i, hi, g⟩ := g
    obtain ⟨tf, z, dd, h1, h2, h3, _⟩ := tiOf_inv (ti_ok hT hi)
    unfold Value.okWide at hv
    rw [h2] at hv
    split at g
    · rename_i hd
      have := td_bool (h3.trans hd); subst this
      obtain ⟨b, rfl⟩ := g
      cases v <;> first | rfl | (simp [Cell.okWide, Cell.ok, h2] at hv)
    · rename_i k hd
      have := td_int (h3.trans hd); subst this
      obtain ⟨b, rfl, _⟩ := g
      cases v <;> first | rfl | (simp [Cell.okWide, Cell.ok, h2] at hv)
    · rename_i hd
      have := td_str (h3.trans hd); subst this
      obtain ⟨b, rfl, _⟩ := g
      cases v <;> first | rfl | (simp [Cell.okWide, Cell.ok, h2] at hv)
    · rename_i e hd
      have := td_slice (h3.trans hd); subst this
      obtain ⟨ie, xs, _, rfl, _⟩ := g
      cases v <;> first | rfl | (simp [Cell.okWide, Cell.ok, h2] at hv)
    · rename_i fs hd
      obtain ⟨gs, rfl, _⟩ := td_struct (h3.trans hd)
      obtain ⟨ds, rfl, _⟩ := g
      simp only at hv
      obtain ⟨cs, rfl, _⟩ := hv
      rfl
    · rename_i m e hd
      have := td_array (h3.trans hd); subst this
      obtain ⟨ds, rfl, _⟩ := g
      simp only at hv
      obtain ⟨cs, rfl, _⟩ := hv
      rfl
    · exact g.elim
end
end Go.Proofs.Ytocmdafncmlaaaa.Ab
namespace Go.Proofs.Ytocmdafncmlaaaa
open Go.ChangeShapes Go.WideShapes Go.ChangeAt Go.RowKit Go.Joins
set_option linter.all false
theorem own : ownKnob Try.prog.godebug = none := by kernel_rfl
theorem laidOut' : laidOutB Try.prog = true := by kernel_rfl
theorem args_back {H : Type} {enc : TypeId × Value → H} {P : Program} {W : World} (hl : laidOutB P = true) : ∀ {ts : List TypeId} {vs : List Value} {ds : List (DataW H)} {ps : List MemPlace},
    (ts.all fun t => P.readableRec t && decide (t < P.types.size)) = true → DataW.TrodAll enc P W 0 (fun _ => true) true ts vs ds ps → (∀ x ∈ ps, x.block < W.heap.size) → ∀ W', Below W.heap.size W W' →
    ∀ sp : Nat → Bool, (∀ x ∈ ps, sp x.block = true) → DataW.TrodAll enc P W' 0 sp true ts vs ds ps
  | [], vs, ds, ps, _, h, _, W', hb, sp, hsp => by
    obtain ⟨rfl, rfl, rfl⟩ := trodAll_nil h
    exact trodAll_mk0
  | t :: ts, vs, ds, ps, hr, h, hlt, W', hb, sp, hsp => by
    obtain ⟨v, vs', d, ds', p, q, rfl, rfl, rfl, h0, h1⟩ := trodAll_cons h
    simp only [List.all_cons, Bool.and_eq_true, decide_eq_true_eq] at hr
    exact trodAll_cons_mk (WideElems.Trod_stays hl hr.1.1 hr.1.2 h0 (fun x hx => hb.same (hlt x (by simp [hx]))) (fun x hx => hsp x (by simp [hx])))
      (args_back hl hr.2 h1 (fun x hx => hlt x (by simp [hx])) W' hb sp (fun x hx => hsp x (by simp [hx])))
end Go.Proofs.Ytocmdafncmlaaaa
namespace Go.Proofs.Ytocmdafncmlaaaa.Ab
open Go
set_option linter.all false
mutual
def bulk {H : Type} : DataW H → Nat
  | .lit (.string bytes) => bytes.length + 1
  | .lit _ => 1
  | .nil => 1
  | .ptr d => bulk d + 1
  | .slice elems spare => bulkAll elems + bulkAll spare + 1
  | .agg parts => bulkAll parts + 1
  | .iface _ d => bulk d + 1
  | .map _ => 1
  | .held _ => 1
def bulkAll {H : Type} : List (DataW H) → Nat
  | [] => 0
  | d :: r => bulk d + bulkAll r
end
def wtv : Value → Nat
  | .string s => s.size + 1
  | _ => 1
mutual
def wt : D → Nat
  | .any => 0
  | .v x => wtv x
  | .agg l => wts l
  | .lst _ xs _ => wts xs + 1
  | .el _ => 0
  | .ptr _ _ => 0
  | .fn _ _ _ => 0
  | .tup _ => 0
def wts : List D → Nat
  | [] => 0
  | d :: l => wt d + wts l
end
theorem wts_append : ∀ (l m : List D), wts (l ++ m) = wts l + wts m
  | [], m => by simp [wts]
  | d :: l, m => by simp only [List.cons_append, wts, wts_append l m]; omega
theorem wts_cells (d : D) : wts (dcells d) = wt d := by
  cases d <;> simp [dcells, wts, wt]
section
variable {H : Type} {enc : TypeId × Value → H} {P : Program} {w : World} {base : Nat} {spare : Nat → Bool} {held : Bool} {tab : List (Option TI)} {ts : List Nat}
def RdW (tab : List (Option TI)) (w : World) (n t : Nat) (cs : List Value) (d : D) (m : Nat) : Prop :=
  wt d ≤ m ∧ ∃ i, ti tab t = some i ∧ RepC (allOf w) d cs ∧ Reps (allOf w) (dcells d) cs ∧ cs.length = i.size ∧ (dcells d).length = i.size ∧ GoodT tab n t d
theorem rdw_fields (hT : TabOK P tab) {n : Nat} {cs : List Value} (ih : ∀ t cs x, ts.contains t = true → DataW.trod enc P w base spare held n t cs = some x → ∃ d, RdW tab w n t cs d (bulk x.1)) :
    ∀ (gs : List Field) (ys : List (DataW H × List MemPlace)) (off total : Nat), fieldsOK tab ts off (gs.map fun f => (f.type, f.offset)) = some total → total ≤ cs.length → gs.length = ys.length → (∀ (j : Nat) f y, gs[j]? = some f → ys[j]? = some y → DataW.trod enc P w base spare held n f.type ((cs.drop f.offset).take (P.cellsOf f.type)) = some y) →
      off ≤ total ∧ ∃ ds : List D, wts (ds.flatMap dcells) ≤ bulkAll (ys.map (·.1)) ∧ ds.length = gs.length ∧ Reps (allOf w) (ds.flatMap dcells) ((cs.drop off).take (total - off)) ∧ (ds.flatMap dcells).length = total - off ∧ ∀ (j : Nat) (f : Nat × Nat) (d0 : D), (gs.map fun f => (f.type, f.offset))[j]? = some f → ds[j]? = some d0 → GoodT tab n f.1 d0
  | [], ys, off, total, h, _, _, _ => by
    simp [fieldsOK] at h; subst h
    exact ⟨Nat.le_refl _, [], by simp [wts], rfl, by simp [Reps], by simp, fun j f d0 e => by simp at e⟩
  | g :: gs, [], off, total, h, hl, hlen, hy => by simp at hlen
  | g :: gs, y :: ys, off, total, h, hl, hlen, hy => by
    simp only [List.map_cons, fieldsOK] at h
    split at h
    · rename_i i hi
      cases hb : (Nat.beq g.offset off && ts.contains g.type) with
      | false => rw [hb] at h; cases h
      | true =>
        rw [hb] at h
        simp only [cond_true] at h
        simp only [Bool.and_eq_true] at hb
        have ho := Nat.eq_of_beq_eq_true hb.1
        have hy0 := hy 0 g y rfl rfl
        obtain ⟨d, hw, i', hi', h1, h2, h3, h4, h5⟩ := ih _ _ y hb.2 hy0
        rw [hi] at hi'; cases hi'
        obtain ⟨hle, ds, ew, e1, e2, e3, e4⟩ := rdw_fields hT ih gs ys (off + i.size) total h hl (by simpa using hlen) fun j f y' hf hy' => hy (j + 1) f y' (by simpa using hf) (by simpa using hy')
        rw [cellsOf_ti hT hi, ho] at h2
        refine ⟨by omega, d :: ds, by simp only [List.flatMap_cons, wts_append, wts_cells, List.map_cons, bulkAll]; omega, by simp [e1], ?_, by simp [h4, e3]; omega, ?_⟩
        · simp only [List.flatMap_cons]
          have := reps_append h2 e2
          have e : (cs.drop off).take i.size ++ (cs.drop (off + i.size)).take (total - (off + i.size)) = (cs.drop off).take (total - off) := by
            rw [show total - off = i.size + (total - (off + i.size)) by omega, List.take_add, List.drop_drop]
          rwa [e] at this
        · intro j f d0 hf hd
          cases j with
          | zero => simp at hf hd; subst hf; subst hd; exact h5
          | succ j => exact e4 j f d0 (by simpa using hf) (by simpa using hd)
    · cases h
theorem rdw_elems {n e sz b off : Nat} {ie : TI} (hie : ti tab e = some ie) (hsz : ie.size = sz) (he : ts.contains e = true) (ih : ∀ t cs x, ts.contains t = true → DataW.trod enc P w base spare held n t cs = some x → ∃ d, RdW tab w n t cs d (bulk x.1)) :
    ∀ (ys : List (DataW H × List MemPlace)) (i0 : Nat), (∀ (j : Nat) y, ys[j]? = some y → ∃ cs, w.cells? base ((⟨b, off, none⟩ : Addr).add ((i0 + j) * sz)) sz = some cs ∧ DataW.trod enc P w base spare held n e cs = some y) →
      ∃ xs : List D, wts xs ≤ bulkAll (ys.map (·.1)) ∧ xs.length = ys.length ∧ Els (allOf w) sz b (off + i0 * sz) xs ∧ ∀ x ∈ xs, GoodT tab n e x
  | [], i0, _ => ⟨[], by simp [wts], rfl, by simp [Els], by simp⟩
  | y :: ys, i0, h => by
    obtain ⟨cs, h1, h2⟩ := h 0 y rfl
    rw [Nat.add_zero] at h1
    obtain ⟨d, hw, i', hi', g1, g2, g3, g4, g5⟩ := ih e cs y he h2
    rw [hie] at hi'; cases hi'
    obtain ⟨xs, fw, f1, f2, f3⟩ := rdw_elems hie hsz he ih ys (i0 + 1) fun j y' hj => by
      have := h (j + 1) y' (by simpa using hj)
      rwa [show i0 + (j + 1) = i0 + 1 + j by omega] at this
    refine ⟨d :: xs, by simp only [wts, List.map_cons, bulkAll]; omega, by simp [f1], ?_, ?_⟩
    · simp only [Els]
      refine ⟨⟨cs, by rw [g3, hsz], g1, fun j u hj => ?_, reps_one g2⟩, ?_⟩
      · obtain ⟨_, hlen, hc⟩ := World.cells?_some h1
        have hjl : j < sz := by rw [← hlen]; exact (List.getElem?_eq_some_iff.1 hj).1
        have := hc j hjl
        rw [addr_add, addr_add] at this
        show w.cell? _ = _
        rw [this]; exact hj
      · rw [show off + i0 * sz + sz = off + (i0 + 1) * sz by rw [Nat.add_mul]; omega]; exact f2
    · intro x hx
      rcases List.mem_cons.1 hx with rfl | hx
      · exact g5
      · exact f3 x hx
theorem rdw_arr {n e sz : Nat} {ie : TI} {cs : List Value} (hie : ti tab e = some ie) (hsz : ie.size = sz) (he : ts.contains e = true) (ih : ∀ t cs x, ts.contains t = true → DataW.trod enc P w base spare held n t cs = some x → ∃ d, RdW tab w n t cs d (bulk x.1)) :
    ∀ (ys : List (DataW H × List MemPlace)) (i0 : Nat), (∀ (j : Nat) y, ys[j]? = some y → DataW.trod enc P w base spare held n e ((cs.drop ((i0 + j) * sz)).take sz) = some y) →
      ∃ ds : List D, wts (ds.flatMap dcells) ≤ bulkAll (ys.map (·.1)) ∧ ds.length = ys.length ∧ Reps (allOf w) (ds.flatMap dcells) ((cs.drop (i0 * sz)).take (ys.length * sz)) ∧ (ds.flatMap dcells).length = ys.length * sz ∧ ∀ x ∈ ds, GoodT tab n e x
  | [], i0, _ => ⟨[], by simp [wts], rfl, by simp [Reps], by simp, by simp⟩
  | y :: ys, i0, h => by
    have h2 := h 0 y rfl
    rw [Nat.add_zero] at h2
    obtain ⟨d, hw, i', hi', g1, g2, g3, g4, g5⟩ := ih e _ y he h2
    rw [hie] at hi'; cases hi'
    obtain ⟨ds, fw, f1, f2, f3, f4⟩ := rdw_arr hie hsz he ih ys (i0 + 1) fun j y' hj => by
      have := h (j + 1) y' (by simpa using hj)
      rwa [show i0 + (j + 1) = i0 + 1 + j by omega] at this
    refine ⟨d :: ds, by simp only [List.flatMap_cons, wts_append, wts_cells, List.map_cons, bulkAll]; omega, by simp [f1], ?_, ?_, ?_⟩
    · simp only [List.flatMap_cons]
      have := reps_append g2 f2
      have e2 : (cs.drop (i0 * sz)).take sz ++ (cs.drop ((i0 + 1) * sz)).take (ys.length * sz) = (cs.drop (i0 * sz)).take ((ys.length + 1) * sz) := by
        rw [show (ys.length + 1) * sz = sz + ys.length * sz by rw [Nat.add_mul]; omega, List.take_add, List.drop_drop, show i0 * sz + sz = (i0 + 1) * sz by rw [Nat.add_mul]; omega]
      rwa [e2] at this
    · simp only [List.flatMap_cons, List.length_append, f3, g4, hsz]
      show sz + ys.length * sz = (ys.length + 1) * sz
      rw [Nat.add_mul]; omega
    · intro x hx
      rcases List.mem_cons.1 hx with rfl | hx
      · exact g5
      · exact f4 x hx
theorem rdw (hT : TabOK P tab) (hc : closedT tab ts = true) : ∀ (n : Nat) (t : TypeId) (cs : List Value) (x : DataW H × List MemPlace), ts.contains t = true → DataW.trod enc P w base spare held n t cs = some x → ∃ d, RdW tab w n t cs d (bulk x.1) := by
  intro n
  induction n with
  | zero => intro t cs x _ h; simp [DataW.trod] at h
  | succ n ih =>
    intro t cs x ht h
    have hok : typeOK tab ts t = true := by
      unfold closedT at hc
      rw [List.all_eq_true] at hc
      exact hc t (by simpa using ht)
    unfold typeOK at hok
    split at hok
    · rename_i i hi
      obtain ⟨tf, z, dd, h1, h2, h3, h4, _⟩ := tiOf_inv (ti_ok hT hi)
      split at hok
      · rename_i hd
        have hs := Nat.eq_of_beq_eq_true hok
        obtain ⟨b, rfl, rfl⟩ := DataW.trod_bool (by rw [h2, td_bool (h3.trans hd)]) h
        refine ⟨.v (.bool b), by simp [wt, wtv, bulk], i, hi, by simp [RepC], ?_, by simp [hs], by simp [dcells, hs], ?_⟩
        · simp only [dcells, Reps]; exact ⟨_, _, rfl, ⟨by simp [RepC], rfl, rfl⟩, rfl⟩
        · unfold GoodT; exact ⟨i, hi, by rw [hd]; exact ⟨b, rfl⟩⟩
      · rename_i k hd
        have hs := Nat.eq_of_beq_eq_true hok
        obtain ⟨m, rfl, rfl, hwf⟩ := DataW.trod_int (by rw [h2, td_int (h3.trans hd)]) h
        refine ⟨.v (.int k m), by simp [wt, wtv, bulk], i, hi, by simp [RepC], ?_, by simp [hs], by simp [dcells, hs], ?_⟩
        · simp only [dcells, Reps]; exact ⟨_, _, rfl, ⟨by simp [RepC], rfl, rfl⟩, rfl⟩
        · unfold GoodT; exact ⟨i, hi, by rw [hd]; exact ⟨m, rfl, hwf⟩⟩
      · rename_i hd
        have hs := Nat.eq_of_beq_eq_true hok
        obtain ⟨s, rfl, rfl, hwf⟩ := DataW.trod_string (by rw [h2, td_str (h3.trans hd)]) h
        refine ⟨.v (.string s), by simp [wt, wtv, bulk], i, hi, by simp [RepC], ?_, by simp [hs], by simp [dcells, hs], ?_⟩
        · simp only [dcells, Reps]; exact ⟨_, _, rfl, ⟨by simp [RepC], rfl, rfl⟩, rfl⟩
        · unfold GoodT; exact ⟨i, hi, by rw [hd]; exact ⟨s, rfl, hwf⟩⟩
      · rename_i e hd
        simp only [Bool.and_eq_true] at hok
        obtain ⟨⟨he, hs⟩, hsz⟩ := hok
        have hs := Nat.eq_of_beq_eq_true hs
        split at hsz
        · rename_i ie hie
          have hsz := Nat.le_of_ble_eq_true hsz
          rcases DataW.trod_slice (by rw [h2, td_slice (h3.trans hd)]) h with ⟨rfl, rfl⟩ | ⟨a, len, cap, elems, rest, n', hf, rfl, rfl, hb, hlc, hcm, hel, hcells, _, _⟩
          · have hr : RepC (allOf w) (.lst ie.size [] .no) [.slice none 0 0] := by
              simp only [RepC, CapOK]; exact ⟨_, rfl, trivial, .inl ⟨by trivial, none, 0, rfl, fun _ => rfl⟩⟩
            refine ⟨.lst ie.size [] .no, by simp [wt, wts, bulk], i, hi, hr, ?_, by simp [hs], by simp [dcells, hs], ?_⟩
            · simp only [dcells, Reps]; exact ⟨_, _, rfl, ⟨hr, rfl, rfl⟩, rfl⟩
            · unfold GoodT; exact ⟨i, hi, by rw [hd]; exact ⟨ie, [], hie, rfl, by simp, by simp⟩⟩
          · have : n' = n := by omega
            subst this
            rw [cellsOf_ti hT hie] at hcells
            rcases Nat.eq_zero_or_pos len with hz | hpos
            · subst hz
              have hr : RepC (allOf w) (.lst ie.size [] .no) [.slice (some a) 0 cap] := by
                simp only [RepC, CapOK]; exact ⟨_, rfl, trivial, .inl ⟨by trivial, some a, cap, rfl, fun q => by cases q⟩⟩
              refine ⟨.lst ie.size [] .no, by simp [wt, wts, bulk], i, hi, hr, ?_, by simp [hs], by simp [dcells, hs], ?_⟩
              · simp only [dcells, Reps]; exact ⟨_, _, rfl, ⟨hr, rfl, rfl⟩, rfl⟩
              · unfold GoodT; exact ⟨i, hi, by rw [hd]; exact ⟨ie, [], hie, rfl, by simp, by simp⟩⟩
            · have hsome : ∀ j, j < len → ∃ cs y, w.cells? base (a.add (j * ie.size)) ie.size = some cs ∧ DataW.trod enc P w base spare held n' e cs = some y := by
                intro j hj
                have hj2 := hcells j hj
                rw [List.getElem?_eq_getElem (by omega)] at hj2
                rw [Option.bind_eq_some_iff] at hj2
                obtain ⟨cs, q1, q2⟩ := hj2
                exact ⟨cs, _, q1, q2⟩
              have hspot : a.spot = none := by
                obtain ⟨cs, y, q1, _⟩ := hsome 0 hpos
                obtain ⟨_, hlen, hcc⟩ := World.cells?_some q1
                have q2 := hcc 0 (by omega)
                rw [List.getElem?_eq_getElem (by omega)] at q2
                have q3 : (a.add (0 * ie.size)).add 0 = a := by simp [Addr.add]
                rw [q3] at q2
                cases hsp : a.spot with
                | none => rfl
                | some s =>
                  unfold World.cell? at q2
                  split at q2
                  · simp [hsp] at q2
                  · cases q2
              obtain ⟨b, off, sp⟩ := a
              simp only at hspot; subst hspot
              have hel2 : elems.length = len := hel
              obtain ⟨xs, fw, f1, f2, f3⟩ := rdw_elems (spare := spare) (held := held) (enc := enc) (P := P) (base := base) (b := b) (off := off) hie rfl he ih elems 0 fun j y hj => by
                have hjl := (List.getElem?_eq_some_iff.1 hj).1
                have hj2 := hcells j (by omega)
                rw [hj, Option.bind_eq_some_iff] at hj2
                obtain ⟨cs, q1, q2⟩ := hj2
                rw [Nat.zero_add]
                exact ⟨cs, q1, q2⟩
              rw [hel2] at f1
              have hr : RepC (allOf w) (.lst ie.size xs .no) [.slice (some ⟨b, off, none⟩) len cap] := by
                simp only [RepC, CapOK]
                refine ⟨_, rfl, trivial, .inr ⟨b, off, cap, by rw [f1], by rw [f1]; exact hlc, by simpa using f2⟩⟩
              refine ⟨.lst ie.size xs .no, by simp only [wt, bulk]; omega, i, hi, hr, ?_, by simp [hs], by simp [dcells, hs], ?_⟩
              · simp only [dcells, Reps]; exact ⟨_, _, rfl, ⟨hr, rfl, rfl⟩, rfl⟩
              · unfold GoodT; exact ⟨i, hi, by rw [hd]; exact ⟨ie, xs, hie, rfl, by rw [f1]; omega, f3⟩⟩
        · cases hsz
      · rename_i fs hd
        split at hok
        · rename_i tot hfo
          have hs := Nat.eq_of_beq_eq_true hok
          obtain ⟨gs, e1, e2⟩ := td_struct (h3.trans hd)
          obtain ⟨xs, n', hf, rfl, hl, hxl, hx⟩ := DataW.trod_struct (by rw [h2, e1]) h
          have : n' = n := by omega
          subst this
          rw [cellsOf_ti hT hi] at hl
          obtain ⟨_, ds, fw, f1, f2, f3, f4⟩ := rdw_fields hT (cs := cs) ih gs.toList xs 0 tot (by rw [e2]; exact hfo) (by omega) (by rw [hxl]; simp) fun j f y hj hy => by
            have hj' : gs[j]? = some f := by simpa using hj
            rw [hx j f hj', hy]
          simp only [List.drop_zero, Nat.sub_zero] at f2 f3
          rw [List.take_of_length_le (by omega)] at f2
          refine ⟨.agg (ds.flatMap dcells), by simp only [wt, bulk]; omega, i, hi, by simp only [RepC]; exact f2, f2, hl, by simp only [dcells]; omega, ?_⟩
          unfold GoodT
          exact ⟨i, hi, by rw [hd]; exact ⟨ds, rfl, by rw [f1, ← e2]; simp, fun j f d0 q1 q2 => f4 j f d0 (by rw [e2]; exact q1) q2⟩⟩
        · cases hok
      · rename_i m e hd
        simp only [Bool.and_eq_true] at hok
        obtain ⟨he, hsz⟩ := hok
        split at hsz
        · rename_i ie hie
          have hsz := Nat.eq_of_beq_eq_true hsz
          obtain ⟨xs, n', hf, rfl, hl, hxl, hx⟩ := DataW.trod_array (by rw [h2, td_array (h3.trans hd)]) h
          have : n' = n := by omega
          subst this
          rw [cellsOf_ti hT hi] at hl
          rw [cellsOf_ti hT hie] at hx
          obtain ⟨ds, fw, f1, f2, f3, f4⟩ := rdw_arr (cs := cs) hie rfl he ih xs 0 fun j y hj => by
            have hjl := (List.getElem?_eq_some_iff.1 hj).1
            rw [Nat.zero_add, hx j (by omega), hj]
          rw [hxl] at f1 f2 f3
          simp only [Nat.zero_mul, List.drop_zero] at f2
          rw [List.take_of_length_le (by omega)] at f2
          refine ⟨.agg (ds.flatMap dcells), by simp only [wt, bulk]; omega, i, hi, by simp only [RepC]; exact f2, f2, hl, by simp only [dcells]; omega, ?_⟩
          unfold GoodT
          exact ⟨i, hi, by rw [hd]; exact ⟨ds, rfl, f1, f4⟩⟩
        · cases hsz
      · cases hok
    · cases hok
theorem rdw_arg {v : Value} {x : DataW H} {ps : List MemPlace} {r : Reach} {b0 t : Nat} (hT : TabOK P tab) (ts : List Nat) (hc : closedT tab ts = true) (ht : ts.contains t = true)
    (hv : Value.okWide P w r b0 t v) (h : DataW.Trod enc P w base spare held t v x ps) : ∃ n d, GoodT tab n t d ∧ Rep (allOf w) d v ∧ wt d ≤ bulk x := by
  obtain ⟨n, hn⟩ := h
  obtain ⟨d, hw, i, h1, h2, h3, h4, h5, h6⟩ := rdw hT hc n t _ _ ht hn
  exact ⟨n, d, h6, ⟨h2, shape_of hT hv h6⟩, hw⟩
end
end Go.Proofs.Ytocmdafncmlaaaa.Ab
namespace Go.Proofs.Ytocmdafncmlaaaa.Ab
open Go
set_option linter.all false
section
variable {α β : Type} [DecidableEq α]
def mget : List (α × β) → α → Option β
  | [], _ => none
  | (a, b) :: l, k => if a = k then some b else mget l k
def mput : List (α × β) → α → β → List (α × β)
  | [], k, v => [(k, v)]
  | (a, b) :: l, k, v => if a = k then (k, v) :: l else (a, b) :: mput l k v
def mgetD (l : List (α × β)) (k : α) (z : β) : β := (mget l k).getD z
def ffind : List α → α → List MapEntry → Nat → Option (Nat × Value)
  | a :: ks, k, e :: me, i => if a = k then some (i, e.val) else ffind ks k me (i + 1)
  | _, _, _, _ => none
end
structure KeyOK (P : Program) (kt : TypeId) {α : Type} [DecidableEq α] (f : α → Value) : Prop where
  find : ∀ (w : World) (k : α) (me : List MapEntry) (ks : List α), me.map (·.key) = ks.map f → (Instr.findKey kt (f k) me).run P w = .ok (ffind ks k me 0) w
  check : ∀ (w : World) (e : Bool) (k : α), (Instr.checkKey e 10000 kt (f k)).run P w = .ok () w
  stays : ∀ (w : World) (k : α), (Instr.keyThatStays (f k) (f k)).run P w = .ok (f k) w
theorem str_key {P : Program} {kt : TypeId} (h : P.underlying kt = some .string) : KeyOK P kt (fun s : ByteArray => Value.string s) where
  find w k me ks e := by
    refine MapKept.run_findKey h ?_
    have : ∀ (ks : List ByteArray) (me : List MapEntry) (i : Nat), me.map (·.key) = ks.map (fun s => Value.string s) → Instr.findNow .string (.string k) me i = some (ffind ks k me i) := by
      intro ks
      induction ks with
      | nil => intro me i e; simp at e; subst e; rfl
      | cons a ks ih =>
        intro me i e
        cases me with
        | nil => cases e
        | cons m me =>
          simp only [List.map_cons, List.cons.injEq] at e
          have hb : (k == a) = decide (a = k) := by
            by_cases q : a = k
            · subst q; rw [decide_eq_true rfl]; exact (MapKept.bytes_beq _ _).2 rfl
            · rw [decide_eq_false q]
              cases hq : k == a with
              | false => rfl
              | true => exact absurd ((MapKept.bytes_beq _ _).1 hq).symm q
          unfold Instr.findNow ffind
          rw [e.1]
          simp only [Instr.sameNow, hb]
          by_cases q : a = k
          · rw [decide_eq_true q, if_pos q]
          · rw [decide_eq_false q, if_neg q]; exact ih me (i + 1) e.2
    exact this ks me 0 e
  check w e k := by
    have := MapKept.run_checkKey (w := w) h (k := .string k) (by simp [MapKept.IsKey]) e 9999
    exact this
  stays w k := MapKept.run_keyThatStays (d := .string) (by simp [MapKept.IsKey])
section
variable {α β : Type} [DecidableEq α] {f : α → Value} {e : β → D} {H : Hp}
theorem mapR_keys : ∀ {l : List (α × β)} {me : List MapEntry}, MapR H (l.map fun p => (f p.1, e p.2)) me → me.map (·.key) = (l.map (·.1)).map f
  | [], me, h => by simp [MapR] at h; subst h; rfl
  | p :: l, me, h => by
    simp only [List.map_cons, MapR] at h
    obtain ⟨m, me', rfl, h1, _, h2⟩ := h
    simp only [List.map_cons, h1, mapR_keys h2]
theorem mapR_find (k : α) : ∀ {l : List (α × β)} {me : List MapEntry} (i : Nat), MapR H (l.map fun p => (f p.1, e p.2)) me →
    (mget l k = none ∧ ffind (l.map (·.1)) k me i = none ∧ ∀ (v : β) (y : Value) (b : Nat), Rep H (e v) y → MapR H ((mput l k v).map fun p => (f p.1, e p.2)) (me ++ [⟨f k, y, b⟩])) ∨
    ∃ j b m, mget l k = some b ∧ ffind (l.map (·.1)) k me i = some (i + j, m.val) ∧ Rep H (e b) m.val ∧ me[j]? = some m ∧ m.key = f k ∧ ∀ (v : β) (y : Value), Rep H (e v) y → MapR H ((mput l k v).map fun p => (f p.1, e p.2)) (me.modify j fun x => { x with key := f k, val := y })
  | [], me, i, h => by
    simp [MapR] at h; subst h
    refine .inl ⟨rfl, rfl, fun v y b hy => ?_⟩
    simp only [mput, List.map_cons, List.map_nil, MapR, List.nil_append]
    exact ⟨_, _, rfl, rfl, hy, rfl⟩
  | p :: l, me, i, h => by
    simp only [List.map_cons, MapR] at h
    obtain ⟨m, me', rfl, h1, h2, h3⟩ := h
    by_cases q : p.1 = k
    · refine .inr ⟨0, p.2, m, by unfold mget; rw [if_pos q], by simp only [List.map_cons, ffind]; rw [if_pos q]; rfl, h2, rfl, by rw [h1, q], fun v y hy => ?_⟩
      simp only [mput, if_pos q, List.map_cons, MapR, List.modify_zero_cons]
      exact ⟨_, _, rfl, rfl, hy, h3⟩
    · rcases mapR_find k (i + 1) h3 with ⟨g1, g2, g3⟩ | ⟨j, b, m', g1, g2, g3, g4, g5, g6⟩
      · refine .inl ⟨by unfold mget; rw [if_neg q]; exact g1, by simp only [List.map_cons, ffind]; rw [if_neg q]; exact g2, fun v y b hy => ?_⟩
        simp only [mput, if_neg q, List.map_cons, MapR, List.cons_append]
        exact ⟨_, _, rfl, h1, h2, g3 v y b hy⟩
      · refine .inr ⟨j + 1, b, m', by unfold mget; rw [if_neg q]; exact g1, by simp only [List.map_cons, ffind]; rw [if_neg q, g2]; congr 2; omega, g3, by simpa using g4, g5, fun v y hy => ?_⟩
        simp only [mput, if_neg q, List.map_cons, MapR, List.modify_succ_cons]
        exact ⟨_, _, rfl, h1, h2, g6 v y hy⟩
end
theorem Core.allocMap {C : Ctx} {H : Hp} {h : List (Nat × Blk)} {k : List (Nat × Value)} {w : World} (c : Core C H h k w) :
    Core C H ((w.heap.size, .mp []) :: h) k (w.alloc (.map #[] 0)) := by
  have c0 : Core ⟨H, w, []⟩ H [(w.heap.size, .mp [])] [] (w.alloc (.map #[] 0)) := by
    refine ⟨fun a v e => cell_alloc _ (c.ag a v e), Hp.le_refl H, fun _ _ x => .inl x, fun b hb _ => ?_, ?_, ?_, by simp, ?_, ?_, ⟨rfl, rfl, rfl, Nat.le_refl _⟩⟩
    · rw [heap_alloc, if_neg (by exact Nat.ne_of_lt hb)]
    · rw [size_alloc]; exact Nat.le_succ _
    · intro p hp
      simp only [List.mem_singleton] at hp; subst hp
      refine ⟨#[], 0, by rw [heap_alloc, if_pos rfl], rfl, fun o => ?_⟩
      cases e : H ⟨w.heap.size, o, none⟩ with
      | none => rfl
      | some v => exact absurd (c.ag.lt e) (Nat.lt_irrefl _)
    · simp [claims, blkClaim]
    · intro b hb
      simp [claims, blkClaim] at hb; subst hb
      exact .inr (Nat.le_refl _)
  exact Core.call (h1 := []) (k1 := []) (h2 := h) (k2 := k) c c0
theorem Core.setMap {C : Ctx} {H : Hp} {h : List (Nat × Blk)} {k : List (Nat × Value)} {w : World} (c : Core C H h k w) {j b : Nat} {es es' : List (Value × D)} {me : Array MapEntry} {ck : Nat} (hj : h[j]? = some (b, .mp es))
    (hr : MapR H es' me.toList) : Core C H (h.set j (b, .mp es')) k { w with heap := w.heap.setIfInBounds b (.map me ck) } := by
  have hlt : j < h.length := (List.getElem?_eq_some_iff.1 hj).1
  have p1 : h.Perm ([(b, .mp es)] ++ h.eraseIdx j) := perm_at hj
  have c1 := c.perm p1 (List.Perm.refl k)
  obtain ⟨me0, ck0, h1, h2, h3⟩ := c.blks _ (List.mem_of_getElem? hj)
  have hs := MapKept.heap_set (w := w) (o' := .map me ck) h1
  have c2 : Core ⟨H, w, claims [(b, Blk.mp es)] []⟩ H [(b, .mp es')] [] { w with heap := w.heap.setIfInBounds b (.map me ck) } := by
    refine ⟨fun a v e => ?_, Hp.le_refl H, fun _ _ x => .inl x, fun i _ hm => hs.2 i (by simpa [claims, blkClaim] using hm), by simp, ?_, by simp, by simp [claims, blkClaim], ?_, ⟨rfl, rfl, rfl, Nat.le_refl _⟩⟩
    · have hne : a.block ≠ b := fun e2 => by
        obtain ⟨ab, ao, sp0⟩ := a
        simp only at e2; subst e2
        have hc := c.ag _ _ e
        cases sp0 with
        | none => rw [h3] at e; cases e
        | some s => simp [World.cell?, h1] at hc
      have := c.ag a v e
      simp only [World.cell?] at this ⊢
      rw [hs.2 _ hne]; exact this
    · intro p hp
      simp only [List.mem_singleton] at hp; subst hp
      exact ⟨me, ck, hs.1, hr, h3⟩
    · intro x hx
      exact .inl (by simpa [claims, blkClaim] using hx)
  have c3 := Core.call (h1 := [(b, .mp es)]) (k1 := []) (h2 := h.eraseIdx j) (k2 := k) (by simpa using c1) c2
  refine c3.perm ?_ (by simp)
  have p2 : (h.set j (b, Blk.mp es'))[j]? = some (b, Blk.mp es') := by rw [List.getElem?_set_self hlt]
  have p3 := perm_at p2
  rw [List.eraseIdx_set_eq] at p3
  exact p3.symm
section
variable {P : Program} {C : Ctx} {N : Nat} {ops rest : List Oper} {o : Oper} {t : List (Nat × D)} {h : List (Nat × Blk)} {k : List (Nat × Value)} {Q : Exit → S → Prop} {tab : List (Option TI)}
theorem p_makeMap {i : Nat} {T : TypeId} (ho : o.op = .makeMap T none) (hw : wantD ops t o = some true) (hd : o.dst = some i) (hi : Nat.blt i N = true)
    (g : ∀ b : Nat, opsD P C N ops rest ⟨(i, .v (.map (some b))) :: t, (b, .mp []) :: h, k⟩ Q) : opsD P C N ops (o :: rest) ⟨t, h, k⟩ Q :=
  ops_val (s := ⟨t, h, k⟩) hw hd hi fun H a w c kt => by
    refine ⟨.map (some w.heap.size), _, H, .v (.map (some w.heap.size)), _, k, ?_, Hp.le_refl H, c.allocMap, rep_v rfl, g w.heap.size⟩
    unfold execOp
    rw [ho]
    refine exec_v ?_
    rfl
theorem run_zv {w : World} {t : TypeId} {z : Value} (h : (P.info? t).bind (·.zero) = some z) : (Go.zeroValue t).run P w = .ok z w := by
  cases hi : P.info? t with
  | none => rw [hi] at h; cases h
  | some i =>
    rw [hi] at h
    have ht : (Go.typeInfo t).run P w = .ok i w := by
      unfold Go.typeInfo Go.program
      rw [run_bind_ok (a := P) rfl, hi]; rfl
    unfold Go.zeroValue
    rw [run_bind_ok ht]
    simp only [Option.bind_some] at h
    rw [h]; rfl
section
variable {α β : Type} [DecidableEq α] {f : α → Value} {e : β → D}
theorem p_lookup {i b kt et : Nat} {T : TypeId} {x ix : Operand} {l : List (α × β)} {es : List (Value × D)} {kk : α} {dk dr : D} {z : β} {zv : Value} {ti0 : TI} (j : Nat) (hT : TabOK P tab) (ho : o.op = .lookup T x ix false) (hw : wantD ops t o = some true) (hd : o.dst = some i) (hi : Nat.blt i N = true)
    (hx : opD t x = some (.v (.map (some b)))) (hj : h[j]? = some (b, .mp es)) (hes : es = l.map fun p => (f p.1, e p.2)) (hix : opD t ix = some dk) (hti : ti tab T = some ti0) (hs : ti0.d = .map kt et) (K : KeyOK P kt f) (hk : ∀ H v, Rep H dk v → v = f kk)
    (hz : (P.info? et).bind (·.zero) = some zv) (hzr : ∀ H, Rep H (e z) zv) (hr : dr = e (mgetD l kk z))
    (g : opsD P C N ops rest ⟨(i, dr) :: t, h, k⟩ Q) : opsD P C N ops (o :: rest) ⟨t, h, k⟩ Q :=
  ops_val (s := ⟨t, h, k⟩) hw hd hi fun H a w core kt' => by
    subst hes; subst hr
    obtain ⟨dd, h1, h2⟩ := run_underlying (w := w) (ti_ok hT hti)
    have := td_map (h2.trans hs); subst this
    obtain ⟨me, ck, g1, g2, g3⟩ := core.blks _ (List.mem_of_getElem? hj)
    have hkv := hk H _ (opD_ok kt' hix)
    have hfk := K.find w kk me.toList (l.map (·.1)) (mapR_keys g2)
    have key : ∃ v, (Instr.lookup T (a.eval x) (a.eval ix) false).run P w = .ok v w ∧ Rep H (e (mgetD l kk z)) v := by
      rw [hkv, rep_v_inv (opD_ok kt' hx)]
      unfold Instr.lookup mgetD
      rcases mapR_find kk 0 g2 with ⟨q1, q2, _⟩ | ⟨j', b', m, q1, q2, q3, _⟩
      · refine ⟨zv, ?_, by rw [q1]; exact hzr H⟩
        rw [q2] at hfk
        simp only [run_bind, h1, Result.andThen, MapKept.run_getObj_map g1, run_pure, K.check, hfk, run_zv hz]
        simp
      · refine ⟨m.val, ?_, by rw [q1]; exact q3⟩
        rw [q2] at hfk
        simp only [run_bind, h1, Result.andThen, MapKept.run_getObj_map g1, run_pure, K.check, hfk]
        simp
    obtain ⟨v, e1, e2⟩ := key
    refine ⟨v, w, H, _, h, k, ?_, Hp.le_refl H, core, e2, g⟩
    unfold execOp
    rw [ho]
    exact exec_v e1
theorem p_mapUpdate {b kt et : Nat} {T : TypeId} {x ix y : Operand} {l : List (α × β)} {es : List (Value × D)} {h' : List (Nat × Blk)} {kk : α} {vv : β} {dk dv : D} {ti0 : TI} (j : Nat) (hT : TabOK P tab) (ho : o.op = .mapUpdate T x ix y) (hw : wantD ops t o = some true) (hd : o.dst = none)
    (hx : opD t x = some (.v (.map (some b)))) (hj : h[j]? = some (b, .mp es)) (hes : es = l.map fun p => (f p.1, e p.2)) (hix : opD t ix = some dk) (hy : opD t y = some dv) (hti : ti tab T = some ti0) (hs : ti0.d = .map kt et) (K : KeyOK P kt f) (hk : ∀ H v, Rep H dk v → v = f kk) (hv : Wk dv (e vv))
    (he : h.set j (b, .mp ((mput l kk vv).map fun p => (f p.1, e p.2))) = h')
    (g : opsD P C N ops rest ⟨t, h', k⟩ Q) : opsD P C N ops (o :: rest) ⟨t, h, k⟩ Q :=
  ops_unit (s := ⟨t, h, k⟩) hw hd fun H a w core kt' => by
    subst hes; subst he
    obtain ⟨dd, h1, h2⟩ := run_underlying (w := w) (ti_ok hT hti)
    have := td_map (h2.trans hs); subst this
    obtain ⟨me, ck, g1, g2, g3⟩ := core.blks _ (List.mem_of_getElem? hj)
    have hkv := hk H _ (opD_ok kt' hix)
    have hfk := K.find w kk me.toList (l.map (·.1)) (mapR_keys g2)
    have hyv : Rep H (e vv) (a.eval y) := hv H _ (opD_ok kt' hy)
    have key : ∃ me' ck', (Instr.mapUpdate T (a.eval x) (a.eval ix) (a.eval y)).run P w = .ok () { w with heap := w.heap.setIfInBounds b (.map me' ck') } ∧ MapR H ((mput l kk vv).map fun p => (f p.1, e p.2)) me'.toList := by
      rw [hkv, rep_v_inv (opD_ok kt' hx)]
      unfold Instr.mapUpdate
      rcases mapR_find kk 0 g2 with ⟨q1, q2, q3⟩ | ⟨j', b', m, q1, q2, q3, q4, q5, q6⟩
      · refine ⟨me.push ⟨f kk, a.eval y, ck⟩, ck + 1, ?_, by rw [Array.toList_push]; exact q3 vv _ ck hyv⟩
        rw [q2] at hfk
        simp only [run_bind, h1, Result.andThen, MapKept.run_getObj_map g1, run_pure, K.check, hfk, MapKept.run_setObj_map _ g1]
      · refine ⟨me.modify j' fun x => { x with key := f kk, val := a.eval y }, ck, ?_, by rw [Array.toList_modify]; exact q6 vv _ hyv⟩
        rw [q2] at hfk
        have hm : me[j']? = some m := by rw [← Array.getElem?_toList]; exact q4
        rw [Nat.zero_add] at hfk
        simp only [run_bind, h1, Result.andThen, MapKept.run_getObj_map g1, run_pure, K.check, hfk, hm, Option.map_some, Option.getD_some, q5, K.stays, MapKept.run_setObj_map _ g1]
    obtain ⟨me', ck', e1, e2⟩ := key
    refine ⟨_, H, _, k, ?_, Hp.le_refl H, core.setMap (ck := ck') hj e2, g⟩
    unfold execOp
    rw [ho]
    show ((Instr.mapUpdate T (a.eval x) (a.eval ix) (a.eval y)) >>= fun _ => pure Next.skip).run P w = _
    rw [run_bind_ok e1]; rfl
end
end
end Go.Proofs.Ytocmdafncmlaaaa.Ab
namespace Go.Proofs.Ytocmdafncmlaaaa.Ab
open Go
set_option linter.all false
theorem reps_v (H : Hp) : ∀ us : List Value, us.all one = true → Reps H (us.map .v) us
  | [], _ => rfl
  | u :: us, h => by
    simp only [List.all_cons, Bool.and_eq_true] at h
    simp only [List.map_cons, Reps]
    exact ⟨u, us, rfl, ⟨by simp [RepC], h.1, rfl⟩, reps_v H us h.2⟩
theorem reps_v_inv {H : Hp} : ∀ {us vs : List Value}, Reps H (us.map .v) vs → vs = us
  | [], vs, h => h
  | u :: us, vs, h => by
    simp only [List.map_cons, Reps] at h
    obtain ⟨v, vs', rfl, ⟨h1, _⟩, h2⟩ := h
    simp only [RepC, List.cons.injEq, and_true] at h1
    rw [h1, reps_v_inv h2]
theorem rep_va (H : Hp) {us : List Value} (h : us.all one = true) : Rep H (.agg (us.map .v)) (.agg us.toArray) :=
  ⟨by simpa [RepC, Value.cells] using reps_v H us h, rfl⟩
theorem rep_va_inv {H : Hp} {us : List Value} {v : Value} (h : Rep H (.agg (us.map .v)) v) : v = .agg us.toArray := by
  obtain ⟨vs, rfl, h2⟩ := rep_agg_inv h
  rw [reps_v_inv h2]
def keyF (tab : List (Option TI)) (us : List Value) (g : Nat × Nat) : Bool :=
  match ti tab g.1, us[g.2]? with
  | some i, some x => match i.d, x with
    | .int k, .int k' _ => keq k k'
    | .bool, .bool _ => true
    | .str, .string _ => true
    | _, _ => false
  | _, _ => false
theorem keyF_ok {P : Program} {w : World} {tab : List (Option TI)} (hT : TabOK P tab) {us : List Value} (h1 : us.all one = true) {g : Nat × Nat} (h : keyF tab us g = true) (e : Bool) (n : Nat) :
    ∃ v, (Go.part g.1 us.toArray g.2).run P w = .ok v w ∧ (Instr.checkKey e (n + 1) g.1 v).run P w = .ok () w := by
  unfold keyF at h
  split at h
  · rename_i i x hi hx
    have hag : i.agg = false := by
      unfold TI.agg
      split at h <;> first | (rename_i hd; rw [hd]) | cases h
    obtain ⟨v, p1, q1⟩ := run_part (P := P) (w := w) (H := fun _ => none) (ti_ok hT hi) (reps_v _ us h1) (d := .v x) (off := g.2) (by simp [partD, hag, hx])
    have e1 := rep_v_inv q1; subst e1
    refine ⟨v, p1, ?_⟩
    obtain ⟨ti', z, dd, h3, h4, h5, _⟩ := tiOf_inv (ti_ok hT hi)
    split at h
    · rename_i k k' a hd
      have := keq_eq h; subst this
      exact MapKept.run_checkKey (by rw [h4, td_int (h5.trans hd)]) (k := .int k a) (by simp [MapKept.IsKey]) e n
    · rename_i a hd
      exact MapKept.run_checkKey (by rw [h4, td_bool (h5.trans hd)]) (k := .bool a) (by simp [MapKept.IsKey]) e n
    · rename_i a hd
      exact MapKept.run_checkKey (by rw [h4, td_str (h5.trans hd)]) (k := .string a) (by simp [MapKept.IsKey]) e n
    · cases h
  · cases h
theorem check_struct {P : Program} {w : World} {tab : List (Option TI)} (hT : TabOK P tab) {kt : TypeId} {ti0 : TI} {fs : List (Nat × Nat)} (hti : ti tab kt = some ti0) (hfs : ti0.d = .struct fs) {us : List Value} (h1 : us.all one = true)
    (hk : fs.all (keyF tab us) = true) (e : Bool) (n : Nat) : (Instr.checkKey e (n + 2) kt (.agg us.toArray)).run P w = .ok () w := by
  obtain ⟨dd, g1, g2⟩ := run_underlying (w := w) (ti_ok hT hti)
  obtain ⟨gs, rfl, h8⟩ := td_struct (g2.trans hfs)
  rw [show n + 2 = (n + 1) + 1 from rfl, Instr.checkKey]
  simp only [Sem.run_bind, g1, Result.andThen_ok]
  rw [← Array.forIn_toList]
  generalize gs.toList = L at h8
  clear g1 g2 hfs hti
  induction L generalizing fs with
  | nil => simp
  | cons f L ih =>
    subst h8
    simp only [List.map_cons, List.all_cons, Bool.and_eq_true] at hk
    obtain ⟨v, p1, p2⟩ := keyF_ok (w := w) hT h1 hk.1 e n
    simp only at p1 p2
    by_cases hn : f.name = "_"
    · simp only [List.forIn_cons, Sem.run_bind, hn, ne_eq, not_true_eq_false, if_false, Result.andThen_ok, Sem.run_pure]
      exact ih hk.2 rfl
    · simp only [List.forIn_cons, Sem.run_bind, hn, ne_eq, not_false_eq_true, if_true, Result.andThen_ok, p1, p2, Sem.run_pure]
      exact ih hk.2 rfl
theorem stays_struct {P : Program} {w : World} {us : List Value} (h : us.all (fun x => match x with | .int _ _ => true | .bool _ => true | .string _ => true | _ => false) = true) :
    (Instr.keyThatStays (.agg us.toArray) (.agg us.toArray)).run P w = .ok (.agg us.toArray) w := by
  have hb : Instr.sameBits 10000 (.agg us.toArray) (.agg us.toArray) = true := by
    show Instr.sameBits (9999 + 1) _ _ = true
    simp only [Instr.sameBits, beq_self_eq_true, Bool.true_and, List.all_eq_true]
    intro p hp
    have : p.1 = p.2 ∧ p.1 ∈ us := by
      clear h
      generalize us = l at hp
      induction l with
      | nil => simp at hp
      | cons a l ih =>
        simp only [List.zip_cons_cons, List.mem_cons] at hp
        rcases hp with rfl | hp
        · simp
        · obtain ⟨e1, e2⟩ := ih hp
          exact ⟨e1, by simp [e2]⟩
    obtain ⟨e1, e2⟩ := this
    have hx := List.all_eq_true.1 h _ e2
    rw [← e1]
    cases hq : p.1 <;> rw [hq] at hx <;> simp at hx
    · exact MapKept.sameBits_self (d := .bool) (by simp [MapKept.IsKey]) _
    · exact MapKept.sameBits_self (d := .int _) (by simp [MapKept.IsKey]; rfl) _
    · exact MapKept.sameBits_self (d := .string) (by simp [MapKept.IsKey]) _
  unfold Instr.keyThatStays
  rw [hb]; rfl
theorem find_asking {P : Program} {w : World} {kt : TypeId} {α : Type} [DecidableEq α] {f : α → Value} (k : α) (heq : ∀ a, (Op.equal kt (f k) (f a)).run P w = .ok (decide (a = k)) w) :
    ∀ (ks : List α) (me : List MapEntry) (i : Nat), me.map (·.key) = ks.map f → (Instr.findAsking kt (f k) me i).run P w = .ok (ffind ks k me i) w
  | [], me, i, e => by simp at e; subst e; rfl
  | a :: ks, [], i, e => by cases e
  | a :: ks, m :: me, i, e => by
    simp only [List.map_cons, List.cons.injEq] at e
    unfold Instr.findAsking ffind
    rw [e.1, run_bind_ok (heq a)]
    by_cases q : a = k
    · rw [decide_eq_true q, if_pos q]; rfl
    · rw [decide_eq_false q, if_neg q]
      exact find_asking k heq ks me (i + 1) e.2
theorem struct_key {P : Program} {tab : List (Option TI)} {kt : TypeId} {α : Type} [DecidableEq α] {g : α → List Value} {ti0 : TI} {fs : List (Nat × Nat)} (hT : TabOK P tab) (hE : EqT P kt) (hti : ti tab kt = some ti0) (hfs : ti0.d = .struct fs)
    (h1 : ∀ a, (g a).all (fun x => match x with | .int _ _ => true | .bool _ => true | .string _ => true | _ => false) = true) (h2 : ∀ a, fs.all (keyF tab (g a)) = true)
    (h3 : ∀ a b, eqL tab fs ((g a).map .v) ((g b).map .v) = some (decide (b = a))) : KeyOK P kt (fun a => .agg (g a).toArray) := by
  have ho : ∀ a, (g a).all one = true := fun a => by
    have := h1 a
    rw [List.all_eq_true] at this ⊢
    intro x hx
    have := this x hx
    cases x <;> simp at this <;> rfl
  refine ⟨fun w k me ks e => ?_, fun w e k => check_struct hT hti hfs (ho k) (h2 k) e 9998, fun w k => stays_struct (h1 k)⟩
  obtain ⟨ti', z, dd', h5, h6, h7, _⟩ := tiOf_inv (ti_ok hT hti)
  obtain ⟨gs, rfl, h8⟩ := td_struct (h7.trans hfs)
  have hf : P.fieldsOf kt = gs := by unfold Program.fieldsOf; rw [h6]
  rw [run_findKey_eq w (by rw [h6])]
  refine find_asking k (fun a => ?_) ks me 0 e
  show (Op.equalIn (9999 + 1) kt _ _).run P w = _
  rw [run_equalIn_struct w 9999 kt _ _ (by rw [h6, hf]) hE.stood]
  have hn := hE.names
  rw [hf] at hn ⊢
  exact eqL_ok (H := fun _ => none) hT (reps_v _ _ (ho k)) (reps_v _ _ (ho a)) 9998 gs.toList fs _ h8 hn (h3 k a)
section
variable {P : Program} {C : Ctx} {o : Oper} {t : List (Nat × D)} {h : List (Nat × Blk)} {k : List (Nat × Value)} {tab : List (Option TI)} {α β : Type} [DecidableEq α] {f : α → Value} {e : β → D}
theorem xm_lookup {b kt et : Nat} {T : TypeId} {x ix : Operand} {l : List (α × β)} {es : List (Value × D)} {kk : α} {dk dr : D} {z : β} {zv : Value} {ti0 : TI} (j : Nat) (hT : TabOK P tab) (ho : o.op = .lookup T x ix false)
    (hx : opD t x = some (.v (.map (some b)))) (hj : h[j]? = some (b, .mp es)) (hes : es = l.map fun p => (f p.1, e p.2)) (hix : opD t ix = some dk) (hti : ti tab T = some ti0) (hs : ti0.d = .map kt et) (K : KeyOK P kt f) (hk : ∀ H v, Rep H dk v → v = f kk)
    (hz : (P.info? et).bind (·.zero) = some zv) (hzr : ∀ H, Rep H (e z) zv) (hr : dr = e (mgetD l kk z)) : ExM P C h k o t dr := fun hh H a w core kt' => by
  subst hes; subst hr
  obtain ⟨dd, h1, h2⟩ := run_underlying (w := w) (ti_ok hT hti)
  have := td_map (h2.trans hs); subst this
  obtain ⟨me, ck, g1, g2, g3⟩ := core.blks _ (List.mem_append_left _ (List.mem_of_getElem? hj))
  have hkv := hk H _ (opD_ok kt' hix)
  have hfk := K.find w kk me.toList (l.map (·.1)) (mapR_keys g2)
  have key : ∃ v, (Instr.lookup T (a.eval x) (a.eval ix) false).run P w = .ok v w ∧ Rep H (e (mgetD l kk z)) v := by
    rw [hkv, rep_v_inv (opD_ok kt' hx)]
    unfold Instr.lookup mgetD
    rcases mapR_find kk 0 g2 with ⟨q1, q2, _⟩ | ⟨j', b', m, q1, q2, q3, _⟩
    · refine ⟨zv, ?_, by rw [q1]; exact hzr H⟩
      rw [q2] at hfk
      simp only [run_bind, h1, Result.andThen, MapKept.run_getObj_map g1, run_pure, K.check, hfk, run_zv hz]
      simp
    · refine ⟨m.val, ?_, by rw [q1]; exact q3⟩
      rw [q2] at hfk
      simp only [run_bind, h1, Result.andThen, MapKept.run_getObj_map g1, run_pure, K.check, hfk]
      simp
  obtain ⟨v, e1, e2⟩ := key
  refine ⟨v, ?_, e2⟩
  unfold execOp
  rw [ho]
  exact exec_v e1
end
end Go.Proofs.Ytocmdafncmlaaaa.Ab
namespace Go.Proofs.Ytocmdafncmlaaaa.Ab
open Go
set_option linter.all false
def eqD (tab : List (Option TI)) (ts : List Nat) : Nat → Nat → D → D → Option Bool
  | 0, _, _, _ => none
  | n + 1, t, x, y => match ti tab t with
    | none => none
    | some i => match i.d, x, y with
      | .struct fs, .agg ds, .agg es => bif ts.contains t then fs.foldr (fun f acc => match ti tab f.1 with
          | none => none
          | some j => match partD j ds f.2, partD j es f.2 with
            | some p, some q => match eqD tab ts n f.1 p q, acc with
              | some b, some r => some (b && r)
              | _, _ => none
            | _, _ => none) (some true) else none
      | .array m e, .agg ds, .agg es => bif ts.contains t then (match ti tab e with
          | none => none
          | some j => (List.range m).foldr (fun k acc => match partD j ds (k * j.size), partD j es (k * j.size) with
            | some p, some q => match eqD tab ts n e p q, acc with
              | some b, some r => some (b && r)
              | _, _ => none
            | _, _ => none) (some true)) else none
      | _, .v a, .v b => eqV i.d a b
      | _, _, _ => none
section
variable {P : Program} {C : Ctx} {N : Nat} {ops rest : List Oper} {o : Oper} {t : List (Nat × D)} {h : List (Nat × Blk)} {k : List (Nat × Value)} {Q : Exit → S → Prop} {tab : List (Option TI)}
theorem eqD_ok (hT : TabOK P tab) {ts : List Nat} (hE : ∀ t ∈ ts, EqT P t) {H : Hp} {w : World} (d : Nat) : ∀ (n t : Nat) (x y : D) (u v : Value) (b : Bool), eqD tab ts n t x y = some b → Rep H x u → Rep H y v → (Op.equalIn (d + n) t u v).run P w = .ok b w
  | 0, _, _, _, _, _, _, e, _, _ => by simp [eqD] at e
  | n + 1, t, x, y, u, v, b, e, hu, hv => by
    simp only [eqD] at e
    split at e
    · cases e
    · rename_i i hi
      obtain ⟨ti', z, dd, h5, h6, h7, _⟩ := tiOf_inv (ti_ok hT hi)
      split at e
      · rename_i fs ds es hd
        cases hc : ts.contains t with
        | false => rw [hc] at e; cases e
        | true =>
          rw [hc] at e
          simp only [cond_true] at e
          have hEt := hE t (by simpa using hc)
          obtain ⟨us, rfl, h2⟩ := rep_agg_inv hu
          obtain ⟨vs, rfl, h4⟩ := rep_agg_inv hv
          obtain ⟨gs, rfl, h8⟩ := td_struct (h7.trans hd)
          have hf : P.fieldsOf t = gs := by unfold Program.fieldsOf; rw [h6]
          show (Op.equalIn ((d + n) + 1) t _ _).run P w = _
          rw [run_equalIn_struct w (d + n) t _ _ (by rw [h6, hf]) hEt.stood]
          have hn := hEt.names
          rw [hf] at hn ⊢
          generalize gs.toList = L at h8 hn
          subst h8
          clear h6 h7 hd hi hf
          induction L generalizing b with
          | nil => simp at e; subst e; rfl
          | cons g L ih =>
            simp only [List.all_cons, Bool.and_eq_true, bne_iff_ne] at hn
            simp only [List.map_cons, List.foldr_cons] at e
            split at e
            · cases e
            · rename_i j hj
              split at e
              · rename_i p q hp hq
                split at e
                · rename_i b0 r0 hb hr
                  simp only [Option.some.injEq] at e
                  have ih' := ih r0 hn.2 hr
                  obtain ⟨v1, p1, q1⟩ := run_part (P := P) (w := w) (ti_ok hT hj) h2 hp
                  obtain ⟨v2, p2, q2⟩ := run_part (P := P) (w := w) (ti_ok hT hj) h4 hq
                  unfold Op.eqFields
                  rw [if_pos hn.1, run_bind_ok p1, run_bind_ok p2, run_bind_ok (eqD_ok hT hE d n _ _ _ _ _ _ hb q1 q2)]
                  cases b0 with
                  | false => simp at e; subst e; rfl
                  | true => simp at e; subst e; simpa using ih'
                · cases e
              · cases e
      · rename_i m e' ds es hd
        cases hc : ts.contains t with
        | false => rw [hc] at e; cases e
        | true =>
          rw [hc] at e
          simp only [cond_true] at e
          split at e
          · cases e
          · rename_i j hj
            obtain ⟨us, rfl, h2⟩ := rep_agg_inv hu
            obtain ⟨vs, rfl, h4⟩ := rep_agg_inv hv
            have hdd := td_array (h7.trans hd); subst hdd
            obtain ⟨ie, _, _, h8, _, _, h9, _⟩ := tiOf_inv (ti_ok hT hj)
            have hce : P.cellsOf e' = j.size := by unfold Program.cellsOf; rw [h8]; exact h9
            show (Op.equalIn ((d + n) + 1) t _ _).run P w = _
            rw [run_equalIn_array w (d + n) _ _ h6 h8, hce]
            generalize List.range m = L at e
            clear h6 h7 hd hi
            induction L generalizing b with
            | nil => simp at e; subst e; rfl
            | cons g L ih =>
              simp only [List.foldr_cons] at e
              split at e
              · rename_i p q hp hq
                split at e
                · rename_i b0 r0 hb hr
                  simp only [Option.some.injEq] at e
                  have ih' := ih r0 hr
                  obtain ⟨v1, p1, q1⟩ := run_part (P := P) (w := w) (ti_ok hT hj) h2 hp
                  obtain ⟨v2, p2, q2⟩ := run_part (P := P) (w := w) (ti_ok hT hj) h4 hq
                  unfold Op.eqItems
                  rw [run_bind_ok p1, run_bind_ok p2, run_bind_ok (eqD_ok hT hE d n _ _ _ _ _ _ hb q1 q2)]
                  cases b0 with
                  | false => simp at e; subst e; rfl
                  | true => simp at e; subst e; simpa using ih'
                · cases e
              · cases e
      · rename_i a c hne1 hne2
        have := rep_v_inv hu; subst this
        have := rep_v_inv hv; subst this
        exact eqV_ok (ti_ok hT hi) (d + n) e
      · cases e
theorem x_eqC {op : BinOp} {neg : Bool} {xt yt : TypeId} {x y : Operand} {ds es : D} {b : Bool} (ts : List Nat) (hT : TabOK P tab) (ho : o.op = .binOp op xt x y yt)
    (hop : isNeq op = some neg) (hE : ∀ t ∈ ts, EqT P t) (hg : P.eqGuardType P.depth xt = false) (hx : opD t x = some ds) (hy : opD t y = some es) (ha : (match ds, es with | .agg _, .agg _ => true | _, _ => false) = true) (e : eqD tab ts 8 xt ds es = some b) : ∀ H a w, TOK H t a → ∃ v, (execOp a.eval o).run P w = .ok (.value v) w ∧ Rep H (.v (.bool (bif neg then !b else b))) v :=
  fun H a w kt => by
    refine ⟨.bool (bif neg then !b else b), ?_, rep_v rfl⟩
    have hu := opD_ok kt hx
    have hv := opD_ok kt hy
    cases ds <;> cases es <;> simp only [Bool.false_eq_true] at ha
    have hq := eqD_ok (w := w) hT hE 9992 8 xt _ _ _ _ b e hu hv
    obtain ⟨us, h1, h2⟩ := rep_agg_inv hu
    obtain ⟨vs, h3, h4⟩ := rep_agg_inv hv
    unfold execOp
    rw [ho]
    refine exec_v ?_
    rw [h1, h3] at hq ⊢
    rw [run_bind_ok (run_eqGuard_agg w op xt x y _ _ hg)]
    have hq' : (Op.equalIn 10000 xt (.agg us.toArray) (.agg vs.toArray)).run P w = .ok b w := hq
    cases op <;> simp [isNeq] at hop <;> subst hop
    · rw [run_eql_struct, hq']; rfl
    · rw [run_neq_struct, hq']; rfl
theorem p_eqC {i : Nat} {op : BinOp} {neg : Bool} {xt yt : TypeId} {x y : Operand} {ds es : D} {b : Bool} (ts : List Nat) (hT : TabOK P tab) (ho : o.op = .binOp op xt x y yt) (hw : wantD ops t o = some true) (hd : o.dst = some i) (hi : Nat.blt i N = true)
    (hop : isNeq op = some neg) (hE : ∀ t ∈ ts, EqT P t) (hg : P.eqGuardType P.depth xt = false) (hx : opD t x = some ds) (hy : opD t y = some es) (ha : (match ds, es with | .agg _, .agg _ => true | _, _ => false) = true) (e : eqD tab ts 8 xt ds es = some b)
    (g : opsD P C N ops rest ⟨(i, .v (.bool (bif neg then !b else b))) :: t, h, k⟩ Q) : opsD P C N ops (o :: rest) ⟨t, h, k⟩ Q :=
  ops_run (s := ⟨t, h, k⟩) hw hd hi (x_eqC ts hT ho hop hE hg hx hy ha e) g
end
def nilB : D → D → Option Bool
  | .ptr _ _, .v (.pointer none) => some false
  | .v (.pointer none), .ptr _ _ => some false
  | .el _, .v (.pointer none) => some false
  | .v (.pointer none), .el _ => some false
  | .v (.pointer none), .v (.pointer none) => some true
  | _, _ => none
section
variable {P : Program} {C : Ctx} {N : Nat} {ops rest : List Oper} {o : Oper} {t : List (Nat × D)} {h : List (Nat × Blk)} {k : List (Nat × Value)} {Q : Exit → S → Prop} {tab : List (Option TI)}
theorem x_eqP {op : BinOp} {neg : Bool} {xt yt : TypeId} {x y : Operand} {ti0 : TI} {el : Nat} {dx dy : D} {b : Bool} (hT : TabOK P tab) (ho : o.op = .binOp op xt x y yt)
    (hop : isNeq op = some neg) (hx : opD t x = some dx) (hy : opD t y = some dy) (hti : ti tab xt = some ti0) (hs : ti0.d = .ptr el) (e : nilB dx dy = some b) : ∀ H a w, TOK H t a → ∃ v, (execOp a.eval o).run P w = .ok (.value v) w ∧ Rep H (.v (.bool (bif neg then !b else b))) v :=
  fun H a w kt => by
    refine ⟨.bool (bif neg then !b else b), ?_, rep_v rfl⟩
    have hu := opD_ok kt hx
    have hv := opD_ok kt hy
    obtain ⟨dd, h3, h4⟩ := run_underlying (w := w) (ti_ok hT hti)
    have := td_ptr (h4.trans hs); subst this
    have key : ∃ p q : Option Addr, a.eval x = .pointer p ∧ a.eval y = .pointer q ∧ ((p = none ∧ b = q.isNone) ∨ (q = none ∧ b = p.isNone)) := by
      unfold nilB at e
      split at e
      · obtain ⟨h1, h2⟩ := hu
        have := rep_v_inv hv
        simp only [RepC] at h1
        cases hq : a.eval x <;> rw [hq] at h1 h2 <;> simp [D.shape, Value.cells] at h1 h2
        subst h1
        simp only [Option.some.injEq] at e; subst e
        exact ⟨_, _, rfl, this, .inr ⟨rfl, rfl⟩⟩
      · obtain ⟨h1, h2⟩ := hv
        have := rep_v_inv hu
        simp only [RepC] at h1
        cases hq : a.eval y <;> rw [hq] at h1 h2 <;> simp [D.shape, Value.cells] at h1 h2
        subst h1
        simp only [Option.some.injEq] at e; subst e
        exact ⟨_, _, this, rfl, .inl ⟨rfl, rfl⟩⟩
      · obtain ⟨h1, h2⟩ := hu
        have := rep_v_inv hv
        simp only [RepC] at h1
        obtain ⟨_, _, _, h1, _⟩ := h1
        cases hq : a.eval x <;> rw [hq] at h1 h2 <;> simp [D.shape, Value.cells] at h1 h2
        subst h1
        simp only [Option.some.injEq] at e; subst e
        exact ⟨_, _, rfl, this, .inr ⟨rfl, rfl⟩⟩
      · obtain ⟨h1, h2⟩ := hv
        have := rep_v_inv hu
        simp only [RepC] at h1
        obtain ⟨_, _, _, h1, _⟩ := h1
        cases hq : a.eval y <;> rw [hq] at h1 h2 <;> simp [D.shape, Value.cells] at h1 h2
        subst h1
        simp only [Option.some.injEq] at e; subst e
        exact ⟨_, _, this, rfl, .inl ⟨rfl, rfl⟩⟩
      · have h1 := rep_v_inv hu
        have h2 := rep_v_inv hv
        simp only [Option.some.injEq] at e; subst e
        exact ⟨_, _, h1, h2, .inl ⟨rfl, rfl⟩⟩
      · cases e
    obtain ⟨p, q, e1, e2, e3⟩ := key
    have hq : (Op.equal xt (.pointer p) (.pointer q)).run P w = .ok b w := by
      show (Op.equalIn (9999 + 1) xt _ _).run P w = _
      rw [Op.equalIn, run_bind_ok h3]
      rcases e3 with ⟨rfl, rfl⟩ | ⟨rfl, rfl⟩
      · rfl
      · cases p <;> rfl
    unfold execOp
    rw [ho]
    refine exec_v ?_
    rw [e1, e2]
    have hg : (eqGuard op xt x y (.pointer p) (.pointer q)).run P w = .ok () w := by
      cases op <;> simp [eqGuard]
    rw [run_bind_ok hg]
    cases op <;> simp [isNeq] at hop <;> subst hop
    · show (do pure (Value.bool (← Op.equal xt _ _)) : Sem Value).run P w = _
      rw [run_bind_ok hq]; rfl
    · show (do pure (Value.bool (!(← Op.equal xt _ _))) : Sem Value).run P w = _
      rw [run_bind_ok hq]; rfl
theorem p_eqP {i : Nat} {op : BinOp} {neg : Bool} {xt yt : TypeId} {x y : Operand} {ti0 : TI} {el : Nat} {dx dy : D} {b : Bool} (hT : TabOK P tab) (ho : o.op = .binOp op xt x y yt) (hw : wantD ops t o = some true) (hd : o.dst = some i) (hi : Nat.blt i N = true)
    (hop : isNeq op = some neg) (hx : opD t x = some dx) (hy : opD t y = some dy) (hti : ti tab xt = some ti0) (hs : ti0.d = .ptr el) (e : nilB dx dy = some b)
    (g : opsD P C N ops rest ⟨(i, .v (.bool (bif neg then !b else b))) :: t, h, k⟩ Q) : opsD P C N ops (o :: rest) ⟨t, h, k⟩ Q :=
  ops_run (s := ⟨t, h, k⟩) hw hd hi (x_eqP hT ho hop hx hy hti hs e) g
end
end Go.Proofs.Ytocmdafncmlaaaa.Ab
namespace Go.Proofs.Ytocmdafncmlaaaa.Ab
open Go
set_option linter.all false
def tab : List (Option TI) := [none,
  some ⟨.other, 1, 8, [.nilFunc]⟩,
  some ⟨.int .i64, 1, 8, [.int .i64 0]⟩,
  some ⟨.int .i64, 1, 8, [.int .i64 0]⟩,
  some ⟨.bool, 1, 1, [.bool false]⟩,
  some ⟨.int .u8, 1, 1, [.int .u8 0]⟩,
  some ⟨.int .u8, 1, 1, [.int .u8 0]⟩,
  some ⟨.struct [(2, 0), (3, 1), (4, 2), (6, 3)], 4, 24, [.int .i64 0, .int .i64 0, .bool false, .int .u8 0]⟩,
  some ⟨.struct [(2, 0), (3, 1), (4, 2), (6, 3)], 4, 24, [.int .i64 0, .int .i64 0, .bool false, .int .u8 0]⟩,
  some ⟨.str, 1, 16, [.string ByteArray.empty]⟩,
  some ⟨.str, 1, 16, [.string ByteArray.empty]⟩,
  some ⟨.str, 1, 16, [.string ByteArray.empty]⟩,
  some ⟨.int .u64, 1, 8, [.int .u64 0]⟩,
  some ⟨.struct [(9, 0), (12, 1)], 2, 24, [.string ByteArray.empty, .int .u64 0]⟩,
  some ⟨.struct [(9, 0), (12, 1)], 2, 24, [.string ByteArray.empty, .int .u64 0]⟩,
  some ⟨.ptr 130, 1, 8, [.pointer none]⟩,
  some ⟨.ptr 133, 1, 8, [.pointer none]⟩,
  some ⟨.ptr 143, 1, 8, [.pointer none]⟩,
  some ⟨.struct [(17, 0)], 1, 8, [.pointer none]⟩,
  some ⟨.struct [(17, 0)], 1, 8, [.pointer none]⟩,
  none,
  some ⟨.int .i32, 1, 4, [.int .i32 0]⟩,
  some ⟨.slice 67, 1, 24, [.slice none 0 0]⟩,
  some ⟨.slice 78, 1, 24, [.slice none 0 0]⟩,
  some ⟨.struct [(9, 0), (22, 1), (22, 2), (23, 3), (3, 4)], 5, 96, [.string ByteArray.empty, .slice none 0 0, .slice none 0 0, .slice none 0 0, .int .i64 0]⟩,
  some ⟨.struct [(9, 0), (22, 1), (22, 2), (23, 3), (3, 4)], 5, 96, [.string ByteArray.empty, .slice none 0 0, .slice none 0 0, .slice none 0 0, .int .i64 0]⟩,
  some ⟨.slice 45, 1, 24, [.slice none 0 0]⟩,
  some ⟨.slice 47, 1, 24, [.slice none 0 0]⟩,
  some ⟨.struct [(25, 0), (26, 5), (27, 6), (9, 7)], 8, 160, [.string ByteArray.empty, .slice none 0 0, .slice none 0 0, .slice none 0 0, .int .i64 0, .slice none 0 0, .slice none 0 0, .string ByteArray.empty]⟩,
  some ⟨.struct [(25, 0), (26, 5), (27, 6), (9, 7)], 8, 160, [.string ByteArray.empty, .slice none 0 0, .slice none 0 0, .slice none 0 0, .int .i64 0, .slice none 0 0, .slice none 0 0, .string ByteArray.empty]⟩,
  some ⟨.other, 1, 8, [.nilFunc]⟩,
  some ⟨.slice 94, 1, 24, [.slice none 0 0]⟩,
  some ⟨.struct [(9, 0), (3, 1), (31, 2), (22, 3), (3, 4)], 5, 80, [.string ByteArray.empty, .int .i64 0, .slice none 0 0, .slice none 0 0, .int .i64 0]⟩,
  some ⟨.struct [(9, 0), (3, 1), (31, 2), (22, 3), (3, 4)], 5, 80, [.string ByteArray.empty, .int .i64 0, .slice none 0 0, .slice none 0 0, .int .i64 0]⟩,
  some ⟨.slice 3, 1, 24, [.slice none 0 0]⟩,
  none,
  some ⟨.other, 1, 8, [.nilFunc]⟩,
  some ⟨.ptr 81, 1, 8, [.pointer none]⟩,
  some ⟨.other, 1, 8, [.nilFunc]⟩,
  some ⟨.ptr 52, 1, 8, [.pointer none]⟩,
  some ⟨.other, 1, 8, [.nilFunc]⟩,
  some ⟨.other, 1, 8, [.nilFunc]⟩,
  some ⟨.struct [(9, 0), (3, 1)], 2, 24, [.string ByteArray.empty, .int .i64 0]⟩,
  some ⟨.struct [(9, 0), (3, 1)], 2, 24, [.string ByteArray.empty, .int .i64 0]⟩,
  some ⟨.struct [(4, 0), (3, 1), (43, 2)], 4, 40, [.bool false, .int .i64 0, .string ByteArray.empty, .int .i64 0]⟩,
  some ⟨.struct [(4, 0), (3, 1), (43, 2)], 4, 40, [.bool false, .int .i64 0, .string ByteArray.empty, .int .i64 0]⟩,
  some ⟨.struct [(43, 0), (45, 2)], 6, 64, [.string ByteArray.empty, .int .i64 0, .bool false, .int .i64 0, .string ByteArray.empty, .int .i64 0]⟩,
  some ⟨.struct [(43, 0), (45, 2)], 6, 64, [.string ByteArray.empty, .int .i64 0, .bool false, .int .i64 0, .string ByteArray.empty, .int .i64 0]⟩,
  none,
  some ⟨.other, 1, 8, [.nilFunc]⟩,
  some ⟨.other, 1, 8, [.nilFunc]⟩,
  some ⟨.struct [(22, 0), (26, 1)], 2, 48, [.slice none 0 0, .slice none 0 0]⟩,
  some ⟨.struct [(22, 0), (26, 1)], 2, 48, [.slice none 0 0, .slice none 0 0]⟩,
  some ⟨.other, 1, 8, [.nilFunc]⟩,
  some ⟨.other, 1, 8, [.nilFunc]⟩,
  some ⟨.other, 1, 8, [.nilFunc]⟩,
  some ⟨.ptr 87, 1, 8, [.pointer none]⟩,
  some ⟨.other, 1, 8, [.nilFunc]⟩,
  some ⟨.struct [(9, 0), (4, 1), (3, 2), (3, 3)], 4, 40, [.string ByteArray.empty, .bool false, .int .i64 0, .int .i64 0]⟩,
  some ⟨.struct [(9, 0), (4, 1), (3, 2), (3, 3)], 4, 40, [.string ByteArray.empty, .bool false, .int .i64 0, .int .i64 0]⟩,
  some ⟨.slice 59, 1, 24, [.slice none 0 0]⟩,
  some ⟨.slice 25, 1, 24, [.slice none 0 0]⟩,
  some ⟨.struct [(60, 0), (61, 1)], 2, 48, [.slice none 0 0, .slice none 0 0]⟩,
  some ⟨.struct [(60, 0), (61, 1)], 2, 48, [.slice none 0 0, .slice none 0 0]⟩,
  some ⟨.int .i64, 1, 8, [.int .i64 0]⟩,
  some ⟨.other, 1, 8, [.nilFunc]⟩,
  some ⟨.struct [(9, 0), (4, 1)], 2, 24, [.string ByteArray.empty, .bool false]⟩,
  some ⟨.struct [(9, 0), (4, 1)], 2, 24, [.string ByteArray.empty, .bool false]⟩,
  none,
  some ⟨.other, 1, 8, [.nilFunc]⟩,
  some ⟨.slice 72, 1, 24, [.slice none 0 0]⟩,
  some ⟨.struct [(3, 0), (3, 1), (9, 2), (70, 3), (3, 4)], 5, 64, [.int .i64 0, .int .i64 0, .string ByteArray.empty, .slice none 0 0, .int .i64 0]⟩,
  some ⟨.struct [(3, 0), (3, 1), (9, 2), (70, 3), (3, 4)], 5, 64, [.int .i64 0, .int .i64 0, .string ByteArray.empty, .slice none 0 0, .int .i64 0]⟩,
  some ⟨.struct [(3, 0), (3, 1), (31, 2), (34, 3)], 4, 64, [.int .i64 0, .int .i64 0, .slice none 0 0, .slice none 0 0]⟩,
  some ⟨.struct [(3, 0), (3, 1), (31, 2), (34, 3)], 4, 64, [.int .i64 0, .int .i64 0, .slice none 0 0, .slice none 0 0]⟩,
  some ⟨.other, 1, 8, [.nilFunc]⟩,
  some ⟨.other, 1, 8, [.nilFunc]⟩,
  some ⟨.struct [(3, 0), (9, 1), (9, 2), (70, 3), (23, 4), (23, 5), (3, 6)], 7, 120, [.int .i64 0, .string ByteArray.empty, .string ByteArray.empty, .slice none 0 0, .slice none 0 0, .slice none 0 0, .int .i64 0]⟩,
  some ⟨.struct [(3, 0), (9, 1), (9, 2), (70, 3), (23, 4), (23, 5), (3, 6)], 7, 120, [.int .i64 0, .string ByteArray.empty, .string ByteArray.empty, .slice none 0 0, .slice none 0 0, .slice none 0 0, .int .i64 0]⟩,
  some ⟨.other, 1, 8, [.nilFunc]⟩,
  some ⟨.struct [(22, 0), (26, 1)], 2, 48, [.slice none 0 0, .slice none 0 0]⟩,
  some ⟨.struct [(22, 0), (26, 1)], 2, 48, [.slice none 0 0, .slice none 0 0]⟩,
  some ⟨.other, 1, 8, [.nilFunc]⟩,
  some ⟨.map 9 3, 1, 8, [.map none]⟩,
  some ⟨.map 43 45, 1, 8, [.map none]⟩,
  some ⟨.slice 43, 1, 24, [.slice none 0 0]⟩,
  some ⟨.struct [(83, 0), (84, 1), (85, 2)], 3, 40, [.map none, .map none, .slice none 0 0]⟩,
  some ⟨.struct [(83, 0), (84, 1), (85, 2)], 3, 40, [.map none, .map none, .slice none 0 0]⟩,
  some ⟨.other, 1, 8, [.nilFunc]⟩,
  some ⟨.struct [(56, 0), (37, 1)], 2, 16, [.pointer none, .pointer none]⟩,
  some ⟨.struct [(56, 0), (37, 1)], 2, 16, [.pointer none, .pointer none]⟩,
  some ⟨.other, 1, 8, [.nilFunc]⟩,
  some ⟨.other, 1, 8, [.nilFunc]⟩,
  some ⟨.struct [(3, 0), (3, 1), (3, 2), (9, 3), (9, 4), (70, 5)], 6, 80, [.int .i64 0, .int .i64 0, .int .i64 0, .string ByteArray.empty, .string ByteArray.empty, .slice none 0 0]⟩,
  some ⟨.struct [(3, 0), (3, 1), (3, 2), (9, 3), (9, 4), (70, 5)], 6, 80, [.int .i64 0, .int .i64 0, .int .i64 0, .string ByteArray.empty, .string ByteArray.empty, .slice none 0 0]⟩,
  some ⟨.other, 1, 8, [.nilFunc]⟩,
  some ⟨.other, 1, 8, [.nilFunc]⟩,
  none,
  some ⟨.other, 1, 8, [.nilFunc]⟩,
  some ⟨.other, 1, 8, [.nilFunc]⟩,
  some ⟨.array 2 45, 8, 80, [.bool false, .int .i64 0, .string ByteArray.empty, .int .i64 0, .bool false, .int .i64 0, .string ByteArray.empty, .int .i64 0]⟩,
  some ⟨.other, 1, 8, [.nilFunc]⟩,
  some ⟨.other, 1, 8, [.nilFunc]⟩,
  some ⟨.other, 1, 8, [.nilFunc]⟩,
  some ⟨.other, 1, 8, [.nilFunc]⟩,
  some ⟨.other, 1, 8, [.nilFunc]⟩,
  none,
  some ⟨.other, 1, 8, [.nilFunc]⟩,
  some ⟨.other, 1, 8, [.nilFunc]⟩,
  some ⟨.other, 1, 8, [.nilFunc]⟩,
  some ⟨.other, 1, 8, [.nilFunc]⟩,
  some ⟨.int .u64, 1, 8, [.int .u64 0]⟩,
  some ⟨.struct [(2, 0), (111, 1)], 2, 16, [.int .i64 0, .int .u64 0]⟩,
  some ⟨.struct [(2, 0), (111, 1)], 2, 16, [.int .i64 0, .int .u64 0]⟩,
  some ⟨.other, 1, 8, [.nilFunc]⟩,
  some ⟨.other, 1, 8, [.nilFunc]⟩,
  some ⟨.other, 1, 8, [.nilFunc]⟩,
  none,
  some ⟨.other, 1, 8, [.nilFunc]⟩,
  none,
  some ⟨.other, 1, 8, [.nilFunc]⟩,
  some ⟨.other, 1, 8, [.nilFunc]⟩,
  some ⟨.int .u64, 1, 8, [.int .u64 0]⟩,
  some ⟨.other, 1, 8, [.nilFunc]⟩,
  none,
  some ⟨.other, 1, 8, [.nilFunc]⟩,
  some ⟨.other, 1, 8, [.nilFunc]⟩,
  some ⟨.other, 1, 8, [.nilFunc]⟩,
  some ⟨.other, 1, 8, [.nilFunc]⟩,
  some ⟨.struct [(17, 0), (17, 1), (17, 2), (9, 3)], 4, 40, [.pointer none, .pointer none, .pointer none, .string ByteArray.empty]⟩,
  some ⟨.struct [(17, 0), (17, 1), (17, 2), (9, 3)], 4, 40, [.pointer none, .pointer none, .pointer none, .string ByteArray.empty]⟩,
  some ⟨.array 0 16, 0, 0, []⟩,
  some ⟨.struct [(131, 0)], 0, 0, []⟩,
  some ⟨.struct [(131, 0)], 0, 0, []⟩,
  some ⟨.other, 1, 8, [.nilFunc]⟩,
  some ⟨.int .u32, 1, 4, [.int .u32 0]⟩,
  some ⟨.int .u8, 1, 1, [.int .u8 0]⟩,
  some ⟨.int .u8, 1, 1, [.int .u8 0]⟩,
  some ⟨.other, 1, 8, [.nilFunc]⟩,
  some ⟨.ptr 5, 1, 8, [.pointer none]⟩,
  some ⟨.int .i32, 1, 4, [.int .i32 0]⟩,
  some ⟨.int .i32, 1, 4, [.int .i32 0]⟩,
  some ⟨.struct [(12, 0), (12, 1), (135, 2), (136, 3), (5, 4), (5, 5), (137, 6), (138, 7), (139, 8), (140, 9), (141, 10)], 11, 48, [.int .u64 0, .int .u64 0, .int .u32 0, .int .u8 0, .int .u8 0, .int .u8 0, .int .u8 0, .nilFunc, .pointer none, .int .i32 0, .int .i32 0]⟩,
  some ⟨.struct [(12, 0), (12, 1), (135, 2), (136, 3), (5, 4), (5, 5), (137, 6), (138, 7), (139, 8), (140, 9), (141, 10)], 11, 48, [.int .u64 0, .int .u64 0, .int .u32 0, .int .u8 0, .int .u8 0, .int .u8 0, .int .u8 0, .nilFunc, .pointer none, .int .i32 0, .int .i32 0]⟩,
  some ⟨.other, 1, 8, [.nilFunc]⟩,
  none,
  some ⟨.slice 147, 1, 24, [.slice none 0 0]⟩,
  some ⟨.struct [(43, 0), (45, 2)], 6, 64, [.string ByteArray.empty, .int .i64 0, .bool false, .int .i64 0, .string ByteArray.empty, .int .i64 0]⟩]
theorem htab : TabOK Try.prog tab := tab_ok (P := Try.prog) (by kernel_rfl)
abbrev eqn45 : List Nat := [45, 43]
theorem eqs45 : ∀ t ∈ eqn45, EqT Try.prog t := by
  intro t h
  simp only [eqn45, List.mem_cons, List.not_mem_nil, or_false] at h
  rcases h with rfl | rfl <;> exact ⟨by kernel_rfl, by kernel_rfl, by kernel_rfl⟩
theorem eqg45 : Program.eqGuardType Try.prog (Program.depth Try.prog) 45 = false := by kernel_rfl
theorem ti3 : ti tab 3 = some ⟨.int .i64, 1, 8, [.int .i64 0]⟩ := rfl
theorem ti4 : ti tab 4 = some ⟨.bool, 1, 1, [.bool false]⟩ := rfl
theorem ti9 : ti tab 9 = some ⟨.str, 1, 16, [.string ByteArray.empty]⟩ := rfl
theorem ti22 : ti tab 22 = some ⟨.slice 67, 1, 24, [.slice none 0 0]⟩ := rfl
theorem ti23 : ti tab 23 = some ⟨.slice 78, 1, 24, [.slice none 0 0]⟩ := rfl
theorem ti25 : ti tab 25 = some ⟨.struct [(9, 0), (22, 1), (22, 2), (23, 3), (3, 4)], 5, 96, [.string ByteArray.empty, .slice none 0 0, .slice none 0 0, .slice none 0 0, .int .i64 0]⟩ := rfl
theorem ti26 : ti tab 26 = some ⟨.slice 45, 1, 24, [.slice none 0 0]⟩ := rfl
theorem ti27 : ti tab 27 = some ⟨.slice 47, 1, 24, [.slice none 0 0]⟩ := rfl
theorem ti29 : ti tab 29 = some ⟨.struct [(25, 0), (26, 5), (27, 6), (9, 7)], 8, 160, [.string ByteArray.empty, .slice none 0 0, .slice none 0 0, .slice none 0 0, .int .i64 0, .slice none 0 0, .slice none 0 0, .string ByteArray.empty]⟩ := rfl
theorem ti43 : ti tab 43 = some ⟨.struct [(9, 0), (3, 1)], 2, 24, [.string ByteArray.empty, .int .i64 0]⟩ := rfl
theorem ti45 : ti tab 45 = some ⟨.struct [(4, 0), (3, 1), (43, 2)], 4, 40, [.bool false, .int .i64 0, .string ByteArray.empty, .int .i64 0]⟩ := rfl
theorem ti47 : ti tab 47 = some ⟨.struct [(43, 0), (45, 2)], 6, 64, [.string ByteArray.empty, .int .i64 0, .bool false, .int .i64 0, .string ByteArray.empty, .int .i64 0]⟩ := rfl
theorem ti67 : ti tab 67 = some ⟨.struct [(9, 0), (4, 1)], 2, 24, [.string ByteArray.empty, .bool false]⟩ := rfl
theorem ti70 : ti tab 70 = some ⟨.slice 72, 1, 24, [.slice none 0 0]⟩ := rfl
theorem ti72 : ti tab 72 = some ⟨.struct [(3, 0), (3, 1), (9, 2), (70, 3), (3, 4)], 5, 64, [.int .i64 0, .int .i64 0, .string ByteArray.empty, .slice none 0 0, .int .i64 0]⟩ := rfl
theorem ti78 : ti tab 78 = some ⟨.struct [(3, 0), (9, 1), (9, 2), (70, 3), (23, 4), (23, 5), (3, 6)], 7, 120, [.int .i64 0, .string ByteArray.empty, .string ByteArray.empty, .slice none 0 0, .slice none 0 0, .slice none 0 0, .int .i64 0]⟩ := rfl
end Go.Proofs.Ytocmdafncmlaaaa.Ab
namespace Go.Proofs.Ytocmdafncmlaaaa.Ab
open Go
set_option linter.all false
section
variable {P : Program} {C : Ctx} {N : Nat} {ops rest : List Oper} {o : Oper} {t : List (Nat × D)} {h : List (Nat × Blk)} {k : List (Nat × Value)} {Q : Exit → S → Prop}
theorem wpD_sr {id : Nat} {ops : List Oper} {y : Code} {s : S} (g : opsD P C N ops ops s (thenD (fun s' => wpD P C N y s' Q) Q)) : wpD P C N (.seq (.region id ops.toArray false) y) s Q := wpD_seq (wpD_region g)
theorem ops_nt {next : S → Prop} {s : S} (g : next s) : opsD P C N ops [] s (thenD next Q) := ops_nil (then_normal g)
theorem ops_n2 {id : Nat} {ops2 : List Oper} {y : Code} {s : S} {Q' : Exit → S → Prop} (g : opsD P C N ops2 ops2 s (thenD (fun s' => wpD P C N y s' Q) Q)) : opsD P C N ops [] s (thenD (fun s' => wpD P C N (.seq (.region id ops2.toArray false) y) s' Q) Q') := ops_nt (wpD_sr g)
theorem pu {i : Nat} {d : D} (g : opsD Try.prog C N ops rest ⟨(i, d) :: t, h, k⟩ Q) (hw : wantD ops t o = some true := by rfl) (hd : o.dst = some i := by rfl) (hi : Nat.blt i N = true := by rfl) (e : evP tab t o.op = some d := by rfl) : opsD Try.prog C N ops (o :: rest) ⟨t, h, k⟩ Q := p_pure htab hw hd hi e g
theorem p_st0 {hr : List (Nat × Blk)} {b off : Nat} {T T' : TypeId} {x y : Operand} {ds ds' : List D} {ti0 : TI} {d : D} (ho : o.op = .store T x y) (hw : wantD ops t o = some true) (hd : o.dst = none) (hx : opD t x = some (.ptr b off)) (hT : ti tab T = some ti0) (hy : opD t y = some d) (hs : stor d = true) (hsz : Nat.beq (dcells d).length ti0.size = true) (hle : Nat.ble (off + ti0.size) ds.length = true) (e : lay ds off (dcells d) = ds') (g : opsD Try.prog C N ops rest ⟨t, (b, .cells ds' T') :: hr, k⟩ Q) : opsD Try.prog C N ops (o :: rest) ⟨t, (b, .cells ds T') :: hr, k⟩ Q := p_store 0 htab ho hw hd hx rfl hT hy hs hsz hle e rfl g
theorem p_st1 {a0 : Nat × Blk} {hr : List (Nat × Blk)} {b off : Nat} {T T' : TypeId} {x y : Operand} {ds ds' : List D} {ti0 : TI} {d : D} (ho : o.op = .store T x y) (hw : wantD ops t o = some true) (hd : o.dst = none) (hx : opD t x = some (.ptr b off)) (hT : ti tab T = some ti0) (hy : opD t y = some d) (hs : stor d = true) (hsz : Nat.beq (dcells d).length ti0.size = true) (hle : Nat.ble (off + ti0.size) ds.length = true) (e : lay ds off (dcells d) = ds') (g : opsD Try.prog C N ops rest ⟨t, a0 :: (b, .cells ds' T') :: hr, k⟩ Q) : opsD Try.prog C N ops (o :: rest) ⟨t, a0 :: (b, .cells ds T') :: hr, k⟩ Q := p_store 1 htab ho hw hd hx rfl hT hy hs hsz hle e rfl g
theorem p_st2 {a0 a1 : Nat × Blk} {hr : List (Nat × Blk)} {b off : Nat} {T T' : TypeId} {x y : Operand} {ds ds' : List D} {ti0 : TI} {d : D} (ho : o.op = .store T x y) (hw : wantD ops t o = some true) (hd : o.dst = none) (hx : opD t x = some (.ptr b off)) (hT : ti tab T = some ti0) (hy : opD t y = some d) (hs : stor d = true) (hsz : Nat.beq (dcells d).length ti0.size = true) (hle : Nat.ble (off + ti0.size) ds.length = true) (e : lay ds off (dcells d) = ds') (g : opsD Try.prog C N ops rest ⟨t, a0 :: a1 :: (b, .cells ds' T') :: hr, k⟩ Q) : opsD Try.prog C N ops (o :: rest) ⟨t, a0 :: a1 :: (b, .cells ds T') :: hr, k⟩ Q := p_store 2 htab ho hw hd hx rfl hT hy hs hsz hle e rfl g
theorem WkS.bl2 {a0 a1 : Nat × Blk} {hr : List (Nat × Blk)} {b : Nat} {ds ds' : List D} {T : TypeId} (hw : WkR ds ds') : WkS C ⟨t, a0 :: a1 :: (b, .cells ds T) :: hr, k⟩ ⟨t, a0 :: a1 :: (b, .cells ds' T) :: hr, k⟩ := WkS.blk 2 rfl hw rfl
theorem p_st3 {a0 a1 a2 : Nat × Blk} {hr : List (Nat × Blk)} {b off : Nat} {T T' : TypeId} {x y : Operand} {ds ds' : List D} {ti0 : TI} {d : D} (ho : o.op = .store T x y) (hw : wantD ops t o = some true) (hd : o.dst = none) (hx : opD t x = some (.ptr b off)) (hT : ti tab T = some ti0) (hy : opD t y = some d) (hs : stor d = true) (hsz : Nat.beq (dcells d).length ti0.size = true) (hle : Nat.ble (off + ti0.size) ds.length = true) (e : lay ds off (dcells d) = ds') (g : opsD Try.prog C N ops rest ⟨t, a0 :: a1 :: a2 :: (b, .cells ds' T') :: hr, k⟩ Q) : opsD Try.prog C N ops (o :: rest) ⟨t, a0 :: a1 :: a2 :: (b, .cells ds T') :: hr, k⟩ Q := p_store 3 htab ho hw hd hx rfl hT hy hs hsz hle e rfl g
theorem p_st4 {a0 a1 a2 a3 : Nat × Blk} {hr : List (Nat × Blk)} {b off : Nat} {T T' : TypeId} {x y : Operand} {ds ds' : List D} {ti0 : TI} {d : D} (ho : o.op = .store T x y) (hw : wantD ops t o = some true) (hd : o.dst = none) (hx : opD t x = some (.ptr b off)) (hT : ti tab T = some ti0) (hy : opD t y = some d) (hs : stor d = true) (hsz : Nat.beq (dcells d).length ti0.size = true) (hle : Nat.ble (off + ti0.size) ds.length = true) (e : lay ds off (dcells d) = ds') (g : opsD Try.prog C N ops rest ⟨t, a0 :: a1 :: a2 :: a3 :: (b, .cells ds' T') :: hr, k⟩ Q) : opsD Try.prog C N ops (o :: rest) ⟨t, a0 :: a1 :: a2 :: a3 :: (b, .cells ds T') :: hr, k⟩ Q := p_store 4 htab ho hw hd hx rfl hT hy hs hsz hle e rfl g
theorem p_st5 {a0 a1 a2 a3 a4 : Nat × Blk} {hr : List (Nat × Blk)} {b off : Nat} {T T' : TypeId} {x y : Operand} {ds ds' : List D} {ti0 : TI} {d : D} (ho : o.op = .store T x y) (hw : wantD ops t o = some true) (hd : o.dst = none) (hx : opD t x = some (.ptr b off)) (hT : ti tab T = some ti0) (hy : opD t y = some d) (hs : stor d = true) (hsz : Nat.beq (dcells d).length ti0.size = true) (hle : Nat.ble (off + ti0.size) ds.length = true) (e : lay ds off (dcells d) = ds') (g : opsD Try.prog C N ops rest ⟨t, a0 :: a1 :: a2 :: a3 :: a4 :: (b, .cells ds' T') :: hr, k⟩ Q) : opsD Try.prog C N ops (o :: rest) ⟨t, a0 :: a1 :: a2 :: a3 :: a4 :: (b, .cells ds T') :: hr, k⟩ Q := p_store 5 htab ho hw hd hx rfl hT hy hs hsz hle e rfl g
theorem p_st6 {a0 a1 a2 a3 a4 a5 : Nat × Blk} {hr : List (Nat × Blk)} {b off : Nat} {T T' : TypeId} {x y : Operand} {ds ds' : List D} {ti0 : TI} {d : D} (ho : o.op = .store T x y) (hw : wantD ops t o = some true) (hd : o.dst = none) (hx : opD t x = some (.ptr b off)) (hT : ti tab T = some ti0) (hy : opD t y = some d) (hs : stor d = true) (hsz : Nat.beq (dcells d).length ti0.size = true) (hle : Nat.ble (off + ti0.size) ds.length = true) (e : lay ds off (dcells d) = ds') (g : opsD Try.prog C N ops rest ⟨t, a0 :: a1 :: a2 :: a3 :: a4 :: a5 :: (b, .cells ds' T') :: hr, k⟩ Q) : opsD Try.prog C N ops (o :: rest) ⟨t, a0 :: a1 :: a2 :: a3 :: a4 :: a5 :: (b, .cells ds T') :: hr, k⟩ Q := p_store 6 htab ho hw hd hx rfl hT hy hs hsz hle e rfl g
theorem p_st7 {a0 a1 a2 a3 a4 a5 a6 : Nat × Blk} {hr : List (Nat × Blk)} {b off : Nat} {T T' : TypeId} {x y : Operand} {ds ds' : List D} {ti0 : TI} {d : D} (ho : o.op = .store T x y) (hw : wantD ops t o = some true) (hd : o.dst = none) (hx : opD t x = some (.ptr b off)) (hT : ti tab T = some ti0) (hy : opD t y = some d) (hs : stor d = true) (hsz : Nat.beq (dcells d).length ti0.size = true) (hle : Nat.ble (off + ti0.size) ds.length = true) (e : lay ds off (dcells d) = ds') (g : opsD Try.prog C N ops rest ⟨t, a0 :: a1 :: a2 :: a3 :: a4 :: a5 :: a6 :: (b, .cells ds' T') :: hr, k⟩ Q) : opsD Try.prog C N ops (o :: rest) ⟨t, a0 :: a1 :: a2 :: a3 :: a4 :: a5 :: a6 :: (b, .cells ds T') :: hr, k⟩ Q := p_store 7 htab ho hw hd hx rfl hT hy hs hsz hle e rfl g
theorem p_st8 {a0 a1 a2 a3 a4 a5 a6 a7 : Nat × Blk} {hr : List (Nat × Blk)} {b off : Nat} {T T' : TypeId} {x y : Operand} {ds ds' : List D} {ti0 : TI} {d : D} (ho : o.op = .store T x y) (hw : wantD ops t o = some true) (hd : o.dst = none) (hx : opD t x = some (.ptr b off)) (hT : ti tab T = some ti0) (hy : opD t y = some d) (hs : stor d = true) (hsz : Nat.beq (dcells d).length ti0.size = true) (hle : Nat.ble (off + ti0.size) ds.length = true) (e : lay ds off (dcells d) = ds') (g : opsD Try.prog C N ops rest ⟨t, a0 :: a1 :: a2 :: a3 :: a4 :: a5 :: a6 :: a7 :: (b, .cells ds' T') :: hr, k⟩ Q) : opsD Try.prog C N ops (o :: rest) ⟨t, a0 :: a1 :: a2 :: a3 :: a4 :: a5 :: a6 :: a7 :: (b, .cells ds T') :: hr, k⟩ Q := p_store 8 htab ho hw hd hx rfl hT hy hs hsz hle e rfl g
theorem p_st9 {a0 a1 a2 a3 a4 a5 a6 a7 a8 : Nat × Blk} {hr : List (Nat × Blk)} {b off : Nat} {T T' : TypeId} {x y : Operand} {ds ds' : List D} {ti0 : TI} {d : D} (ho : o.op = .store T x y) (hw : wantD ops t o = some true) (hd : o.dst = none) (hx : opD t x = some (.ptr b off)) (hT : ti tab T = some ti0) (hy : opD t y = some d) (hs : stor d = true) (hsz : Nat.beq (dcells d).length ti0.size = true) (hle : Nat.ble (off + ti0.size) ds.length = true) (e : lay ds off (dcells d) = ds') (g : opsD Try.prog C N ops rest ⟨t, a0 :: a1 :: a2 :: a3 :: a4 :: a5 :: a6 :: a7 :: a8 :: (b, .cells ds' T') :: hr, k⟩ Q) : opsD Try.prog C N ops (o :: rest) ⟨t, a0 :: a1 :: a2 :: a3 :: a4 :: a5 :: a6 :: a7 :: a8 :: (b, .cells ds T') :: hr, k⟩ Q := p_store 9 htab ho hw hd hx rfl hT hy hs hsz hle e rfl g
end
section
variable {P : Program} {C : Ctx} {N : Nat} {l : List Oper} {m : Nat} {De : Nat → D} {al : AL} {pre : List (List Nat)} {ev : List Nat} {h : List (Nat × Blk)} {k : List (Nat × Value)} {Q : Exit → S → Prop} {bs : Nat → Nat} {i : Nat} {o : Oper} {rest : List Oper} {te : TE}
theorem zqp {j : Nat} {x : Value} {p : List Nat} {t : List (Nat × D)} (g : Zw Try.prog C N l m De al pre ev h k Q bs (i + 1) rest ((j, .v x, none) :: te)) (hp : pre.getD i [] = p := by rfl) (ht : vis p te = t := by rfl) (hx : evP tab t o.op = some (.v x) := by rfl) (hw : wantD l (vis [] te) o = some true := by rfl) (hd : o.dst = some j := by rfl) (hi : Nat.blt j N = true := by rfl) (hne : ev.contains i = false := by rfl) (hone : one x = true := by rfl) (hpe : p.all ev.contains = true := by rfl) : Zw Try.prog C N l m De al pre ev h k Q bs i (o :: rest) te :=
  z_q hp ht (ex_pure htab hx) hw hd hi hne hone hpe g
theorem zep {j : Nat} {p : List Nat} {t : List (Nat × D)} {d : D} (g : Zw Try.prog C N l m De al pre ev h k Q bs (i + 1) rest ((j, d, some i) :: te)) (hp : pre.getD i [] = p := by rfl) (ht : vis p te = t := by rfl) (hx : evP tab t o.op = some d := by rfl) (hw : wantD l (vis [] te) o = some true := by rfl) (hd : o.dst = some j := by rfl) (hi : Nat.blt j N = true := by rfl) (he : ev.contains i = true := by rfl) (hna : isAl al i = false := by rfl) (hDe : De i = d := by rfl) : Zw Try.prog C N l m De al pre ev h k Q bs i (o :: rest) te :=
  z_e hp ht (ex_pure htab hx) hw hd hi he hna hDe g
end
def pickE {α : Type} : List Nat → List α → List α
  | [], _ => []
  | j :: js, l => match l[j]? with
    | some x => x :: pickE js (l.eraseIdx j)
    | none => []
def restE {α : Type} : List Nat → List α → List α
  | [], l => l
  | j :: js, l => match l[j]? with
    | some _ => restE js (l.eraseIdx j)
    | none => l
theorem pickE_perm {α : Type} : ∀ (js : List Nat) (l : List α), l.Perm (pickE js l ++ restE js l)
  | [], l => List.Perm.refl _
  | j :: js, l => by
    unfold pickE restE
    cases h : l[j]? with
    | none => exact List.Perm.refl _
    | some x => exact (perm_at h).trans ((pickE_perm js (l.eraseIdx j)).cons x)
section
variable {P : Program} {C : Ctx} {N : Nat} {ops rest : List Oper} {o : Oper} {t : List (Nat × D)} {h : List (Nat × Blk)} {k : List (Nat × Value)} {Q : Exit → S → Prop}
theorem rP {rs : List ResultVar} {R : D → List (Nat × Blk) → List (Nat × Value) → Prop} {x : Exit} {t' : List (Nat × D)} {ds : List D} (js ks : List Nat) (n : Nat) (e : ∀ i d, look t' i = some d → ∃ d0, look t i = some d0 ∧ Wk d0 d) (hr : resL tab ⟨t', pickE js h, pickE ks k⟩ rs ds) (g : R (wrapD ds) ((pickE js h).take n) (pickE ks k)) (hx : x = .ret ∨ x = .normal := by first | exact .inl rfl | exact .inr rfl) : retX C tab rs R x ⟨t, h, k⟩ :=
  retX.of (s' := ⟨t', pickE js h, pickE ks k⟩) (WkS.perm e (pickE_perm js h) (pickE_perm ks k)) (retD_mk hx hr (List.take_sublist n _) (List.Sublist.refl _) g)
theorem wC {t t' : List (Nat × D)} {j : Nat} {d0 : D} (g : ∀ i d, look t' i = some d → ∃ d1, look t i = some d1 ∧ Wk d1 d) (h0 : look t j = some d0 := by rfl) : ∀ i d, look ((j, d0) :: t') i = some d → ∃ d1, look t i = some d1 ∧ Wk d1 d := WkS.cons h0 (Wk.refl _) g
theorem wN {t : List (Nat × D)} : ∀ i d, look [] i = some d → ∃ d0, look t i = some d0 ∧ Wk d0 d := WkS.nil
theorem lN {s : S} : resL tab s [] [] := rfl
theorem lT {s : S} {i : Nat} {rs : List ResultVar} {d : D} {ds : List D} (h2 : resL tab s rs ds) (h1 : look s.t i = some d := by rfl) : resL tab s (.tmp i :: rs) (d :: ds) := resL_cons (resOne_tmp h1) h2
theorem lC {s : S} {a b off : Nat} {T T' : TypeId} {ds : List D} {i : TI} {d : D} {rs : List ResultVar} {ds' : List D} (j : Nat) (hr : resL tab s rs ds') (h1 : look s.t a = some (.ptr b off) := by rfl) (h2 : s.h[j]? = some (b, Blk.cells ds T') := by rfl) (h3 : ti tab T = some i := by rfl) (h4 : partD i ds off = some d := by rfl) : resL tab s (.cell a T :: rs) (d :: ds') := resL_cons (resOne_cell j h1 h2 h3 h4) hr
theorem rC {d : D} {ds ds' : List D} (g : WkR ds ds') : WkR (d :: ds) (d :: ds') := WkR.cons (WkC.refl _) rfl g
theorem rO {ds ds' : List D} {kk : Nat} {xs : List D} {c : Cap} (g : WkR ds ds') : WkR (.lst kk xs c :: ds) (.lst kk xs .no :: ds') := WkR.cons WkC.no rfl g
theorem Pf {α : Type} {l : List α} : l.Perm l := List.Perm.refl l
theorem Wl {ds : List D} : WkL ds ds := WkL.refl ds
theorem pL {i b off : Nat} {T T' : TypeId} {x : Operand} {ds : List D} {ti0 : TI} {d : D} (j : Nat) (g : opsD Try.prog C N ops rest ⟨(i, d) :: t, h, k⟩ Q) (ho : o.op = .load T x := by rfl) (hw : wantD ops t o = some true := by rfl) (hd : o.dst = some i := by rfl) (hi : Nat.blt i N = true := by rfl) (hx : opD t x = some (.ptr b off) := by rfl) (hb : h[j]? = some (b, .cells ds T') := by rfl) (hT : ti tab T = some ti0 := by rfl) (e : partD ti0 ds off = some d := by rfl) : opsD Try.prog C N ops (o :: rest) ⟨t, h, k⟩ Q := p_load j htab ho hw hd hi hx hb hT e g
theorem pG {f : FuncId} {args : List Operand} {ts : Array TypeId} {i : Nat} {ds ds' : List D} {h1 h2 : List (Nat × Blk)} {k1 k2 : List (Nat × Value)} {R : D → List (Nat × Blk) → List (Nat × Value) → Prop} (hc : CallsD Try.prog f ds' h1 k1 R) (hwk : WkL ds ds') (hh : h.Perm (h1 ++ h2)) (hk : k.Perm (k1 ++ k2)) (g : ∀ d h' k', R d h' k' → opsD Try.prog C N ops rest ⟨(i, d) :: t, h' ++ h2, k' ++ k2⟩ Q) (ho : o.op = .call ⟨.value (.func f), args.toArray, ts⟩ := by rfl) (hw : wantD ops t o = some true := by rfl) (hd : o.dst = some i := by rfl) (hi : Nat.blt i N = true := by rfl) (ha : someMap args (opD t) = some ds := by rfl) : opsD Try.prog C N ops (o :: rest) ⟨t, h, k⟩ Q := p_callG hc ho hw hd hi ha hwk hh hk g
theorem pK {i : Nat} (g : opsD Try.prog C N ops rest ⟨(i, .v (.tuple #[])) :: t, h, k⟩ Q) (hw : wantD ops t o = some false := by rfl) (hd : o.dst = some i := by rfl) (hi : Nat.blt i N = true := by rfl) : opsD Try.prog C N ops (o :: rest) ⟨t, h, k⟩ Q := p_skip hw hd hi g
theorem pS0 {hr : List (Nat × Blk)} {b off : Nat} {T T' : TypeId} {x y : Operand} {ds ds' : List D} {ti0 : TI} {d : D} (g : opsD Try.prog C N ops rest ⟨t, (b, .cells ds' T') :: hr, k⟩ Q) (ho : o.op = .store T x y := by rfl) (hw : wantD ops t o = some true := by rfl) (hd : o.dst = none := by rfl) (hx : opD t x = some (.ptr b off) := by rfl) (hT : ti tab T = some ti0 := by rfl) (hy : opD t y = some d := by rfl) (hs : stor d = true := by rfl) (hsz : Nat.beq (dcells d).length ti0.size = true := by rfl) (hle : Nat.ble (off + ti0.size) ds.length = true := by rfl) (e : lay ds off (dcells d) = ds' := by rfl) : opsD Try.prog C N ops (o :: rest) ⟨t, (b, .cells ds T') :: hr, k⟩ Q := p_st0 ho hw hd hx hT hy hs hsz hle e g
theorem pS1 {a0 : Nat × Blk} {hr : List (Nat × Blk)} {b off : Nat} {T T' : TypeId} {x y : Operand} {ds ds' : List D} {ti0 : TI} {d : D} (g : opsD Try.prog C N ops rest ⟨t, a0 :: (b, .cells ds' T') :: hr, k⟩ Q) (ho : o.op = .store T x y := by rfl) (hw : wantD ops t o = some true := by rfl) (hd : o.dst = none := by rfl) (hx : opD t x = some (.ptr b off) := by rfl) (hT : ti tab T = some ti0 := by rfl) (hy : opD t y = some d := by rfl) (hs : stor d = true := by rfl) (hsz : Nat.beq (dcells d).length ti0.size = true := by rfl) (hle : Nat.ble (off + ti0.size) ds.length = true := by rfl) (e : lay ds off (dcells d) = ds' := by rfl) : opsD Try.prog C N ops (o :: rest) ⟨t, a0 :: (b, .cells ds T') :: hr, k⟩ Q := p_st1 ho hw hd hx hT hy hs hsz hle e g
theorem pS2 {a0 a1 : Nat × Blk} {hr : List (Nat × Blk)} {b off : Nat} {T T' : TypeId} {x y : Operand} {ds ds' : List D} {ti0 : TI} {d : D} (g : opsD Try.prog C N ops rest ⟨t, a0 :: a1 :: (b, .cells ds' T') :: hr, k⟩ Q) (ho : o.op = .store T x y := by rfl) (hw : wantD ops t o = some true := by rfl) (hd : o.dst = none := by rfl) (hx : opD t x = some (.ptr b off) := by rfl) (hT : ti tab T = some ti0 := by rfl) (hy : opD t y = some d := by rfl) (hs : stor d = true := by rfl) (hsz : Nat.beq (dcells d).length ti0.size = true := by rfl) (hle : Nat.ble (off + ti0.size) ds.length = true := by rfl) (e : lay ds off (dcells d) = ds' := by rfl) : opsD Try.prog C N ops (o :: rest) ⟨t, a0 :: a1 :: (b, .cells ds T') :: hr, k⟩ Q := p_st2 ho hw hd hx hT hy hs hsz hle e g
theorem pS3 {a0 a1 a2 : Nat × Blk} {hr : List (Nat × Blk)} {b off : Nat} {T T' : TypeId} {x y : Operand} {ds ds' : List D} {ti0 : TI} {d : D} (g : opsD Try.prog C N ops rest ⟨t, a0 :: a1 :: a2 :: (b, .cells ds' T') :: hr, k⟩ Q) (ho : o.op = .store T x y := by rfl) (hw : wantD ops t o = some true := by rfl) (hd : o.dst = none := by rfl) (hx : opD t x = some (.ptr b off) := by rfl) (hT : ti tab T = some ti0 := by rfl) (hy : opD t y = some d := by rfl) (hs : stor d = true := by rfl) (hsz : Nat.beq (dcells d).length ti0.size = true := by rfl) (hle : Nat.ble (off + ti0.size) ds.length = true := by rfl) (e : lay ds off (dcells d) = ds' := by rfl) : opsD Try.prog C N ops (o :: rest) ⟨t, a0 :: a1 :: a2 :: (b, .cells ds T') :: hr, k⟩ Q := p_st3 ho hw hd hx hT hy hs hsz hle e g
theorem pS4 {a0 a1 a2 a3 : Nat × Blk} {hr : List (Nat × Blk)} {b off : Nat} {T T' : TypeId} {x y : Operand} {ds ds' : List D} {ti0 : TI} {d : D} (g : opsD Try.prog C N ops rest ⟨t, a0 :: a1 :: a2 :: a3 :: (b, .cells ds' T') :: hr, k⟩ Q) (ho : o.op = .store T x y := by rfl) (hw : wantD ops t o = some true := by rfl) (hd : o.dst = none := by rfl) (hx : opD t x = some (.ptr b off) := by rfl) (hT : ti tab T = some ti0 := by rfl) (hy : opD t y = some d := by rfl) (hs : stor d = true := by rfl) (hsz : Nat.beq (dcells d).length ti0.size = true := by rfl) (hle : Nat.ble (off + ti0.size) ds.length = true := by rfl) (e : lay ds off (dcells d) = ds' := by rfl) : opsD Try.prog C N ops (o :: rest) ⟨t, a0 :: a1 :: a2 :: a3 :: (b, .cells ds T') :: hr, k⟩ Q := p_st4 ho hw hd hx hT hy hs hsz hle e g
theorem pS5 {a0 a1 a2 a3 a4 : Nat × Blk} {hr : List (Nat × Blk)} {b off : Nat} {T T' : TypeId} {x y : Operand} {ds ds' : List D} {ti0 : TI} {d : D} (g : opsD Try.prog C N ops rest ⟨t, a0 :: a1 :: a2 :: a3 :: a4 :: (b, .cells ds' T') :: hr, k⟩ Q) (ho : o.op = .store T x y := by rfl) (hw : wantD ops t o = some true := by rfl) (hd : o.dst = none := by rfl) (hx : opD t x = some (.ptr b off) := by rfl) (hT : ti tab T = some ti0 := by rfl) (hy : opD t y = some d := by rfl) (hs : stor d = true := by rfl) (hsz : Nat.beq (dcells d).length ti0.size = true := by rfl) (hle : Nat.ble (off + ti0.size) ds.length = true := by rfl) (e : lay ds off (dcells d) = ds' := by rfl) : opsD Try.prog C N ops (o :: rest) ⟨t, a0 :: a1 :: a2 :: a3 :: a4 :: (b, .cells ds T') :: hr, k⟩ Q := p_st5 ho hw hd hx hT hy hs hsz hle e g
theorem pS6 {a0 a1 a2 a3 a4 a5 : Nat × Blk} {hr : List (Nat × Blk)} {b off : Nat} {T T' : TypeId} {x y : Operand} {ds ds' : List D} {ti0 : TI} {d : D} (g : opsD Try.prog C N ops rest ⟨t, a0 :: a1 :: a2 :: a3 :: a4 :: a5 :: (b, .cells ds' T') :: hr, k⟩ Q) (ho : o.op = .store T x y := by rfl) (hw : wantD ops t o = some true := by rfl) (hd : o.dst = none := by rfl) (hx : opD t x = some (.ptr b off) := by rfl) (hT : ti tab T = some ti0 := by rfl) (hy : opD t y = some d := by rfl) (hs : stor d = true := by rfl) (hsz : Nat.beq (dcells d).length ti0.size = true := by rfl) (hle : Nat.ble (off + ti0.size) ds.length = true := by rfl) (e : lay ds off (dcells d) = ds' := by rfl) : opsD Try.prog C N ops (o :: rest) ⟨t, a0 :: a1 :: a2 :: a3 :: a4 :: a5 :: (b, .cells ds T') :: hr, k⟩ Q := p_st6 ho hw hd hx hT hy hs hsz hle e g
theorem pS7 {a0 a1 a2 a3 a4 a5 a6 : Nat × Blk} {hr : List (Nat × Blk)} {b off : Nat} {T T' : TypeId} {x y : Operand} {ds ds' : List D} {ti0 : TI} {d : D} (g : opsD Try.prog C N ops rest ⟨t, a0 :: a1 :: a2 :: a3 :: a4 :: a5 :: a6 :: (b, .cells ds' T') :: hr, k⟩ Q) (ho : o.op = .store T x y := by rfl) (hw : wantD ops t o = some true := by rfl) (hd : o.dst = none := by rfl) (hx : opD t x = some (.ptr b off) := by rfl) (hT : ti tab T = some ti0 := by rfl) (hy : opD t y = some d := by rfl) (hs : stor d = true := by rfl) (hsz : Nat.beq (dcells d).length ti0.size = true := by rfl) (hle : Nat.ble (off + ti0.size) ds.length = true := by rfl) (e : lay ds off (dcells d) = ds' := by rfl) : opsD Try.prog C N ops (o :: rest) ⟨t, a0 :: a1 :: a2 :: a3 :: a4 :: a5 :: a6 :: (b, .cells ds T') :: hr, k⟩ Q := p_st7 ho hw hd hx hT hy hs hsz hle e g
theorem pS8 {a0 a1 a2 a3 a4 a5 a6 a7 : Nat × Blk} {hr : List (Nat × Blk)} {b off : Nat} {T T' : TypeId} {x y : Operand} {ds ds' : List D} {ti0 : TI} {d : D} (g : opsD Try.prog C N ops rest ⟨t, a0 :: a1 :: a2 :: a3 :: a4 :: a5 :: a6 :: a7 :: (b, .cells ds' T') :: hr, k⟩ Q) (ho : o.op = .store T x y := by rfl) (hw : wantD ops t o = some true := by rfl) (hd : o.dst = none := by rfl) (hx : opD t x = some (.ptr b off) := by rfl) (hT : ti tab T = some ti0 := by rfl) (hy : opD t y = some d := by rfl) (hs : stor d = true := by rfl) (hsz : Nat.beq (dcells d).length ti0.size = true := by rfl) (hle : Nat.ble (off + ti0.size) ds.length = true := by rfl) (e : lay ds off (dcells d) = ds' := by rfl) : opsD Try.prog C N ops (o :: rest) ⟨t, a0 :: a1 :: a2 :: a3 :: a4 :: a5 :: a6 :: a7 :: (b, .cells ds T') :: hr, k⟩ Q := p_st8 ho hw hd hx hT hy hs hsz hle e g
theorem pS9 {a0 a1 a2 a3 a4 a5 a6 a7 a8 : Nat × Blk} {hr : List (Nat × Blk)} {b off : Nat} {T T' : TypeId} {x y : Operand} {ds ds' : List D} {ti0 : TI} {d : D} (g : opsD Try.prog C N ops rest ⟨t, a0 :: a1 :: a2 :: a3 :: a4 :: a5 :: a6 :: a7 :: a8 :: (b, .cells ds' T') :: hr, k⟩ Q) (ho : o.op = .store T x y := by rfl) (hw : wantD ops t o = some true := by rfl) (hd : o.dst = none := by rfl) (hx : opD t x = some (.ptr b off) := by rfl) (hT : ti tab T = some ti0 := by rfl) (hy : opD t y = some d := by rfl) (hs : stor d = true := by rfl) (hsz : Nat.beq (dcells d).length ti0.size = true := by rfl) (hle : Nat.ble (off + ti0.size) ds.length = true := by rfl) (e : lay ds off (dcells d) = ds' := by rfl) : opsD Try.prog C N ops (o :: rest) ⟨t, a0 :: a1 :: a2 :: a3 :: a4 :: a5 :: a6 :: a7 :: a8 :: (b, .cells ds T') :: hr, k⟩ Q := p_st9 ho hw hd hx hT hy hs hsz hle e g
end
section
variable {P : Program} {C : Ctx} {N : Nat} {l : List Oper} {m : Nat} {De : Nat → D} {al : AL} {pre : List (List Nat)} {ev : List Nat} {h : List (Nat × Blk)} {k : List (Nat × Value)} {Q : Exit → S → Prop} {bs : Nat → Nat} {i : Nat} {o : Oper} {rest : List Oper} {te : TE}
theorem zK {j : Nat} (g : Zw Try.prog C N l m De al pre ev h k Q bs (i + 1) rest ((j, .v (.tuple #[]), none) :: te)) (hw : wantD l (vis [] te) o = some false := by rfl) (hd : o.dst = some j := by rfl) (hi : Nat.blt j N = true := by rfl) (hne : ev.contains i = false := by rfl) : Zw Try.prog C N l m De al pre ev h k Q bs i (o :: rest) te := z_skip hw hd hi hne g
end
end Go.Proofs.Ytocmdafncmlaaaa.Ab
namespace Go.Proofs.Ytocmdafncmlaaaa.Ab
open Go
set_option linter.all false
def putG {α : Type} (j : Int) (k : Nat) (v g : α) : α := bif j == (k : Int) then v else g
theorem lay_two {F L : Int → List D} {j : Int} (h0 : 0 ≤ j) (h1 : j < ((2 : Nat) : Int)) (e0 : L 0 = F 0) (e1 : L 1 = F 1) : L j = F j := by
  rcases (show j = 0 ∨ j = 1 by omega) with rfl | rfl
  · exact e0
  · exact e1
theorem ble_atM {n m M : Nat} {j : Int} {p : Nat} (h0 : 0 ≤ j) (h1 : j < (n : Int)) (h : p + n * m ≤ M) : Nat.ble (p + j.toNat * m + m) M = true := by
  rw [Nat.ble_eq]
  have : (j.toNat + 1) * m ≤ n * m := Nat.mul_le_mul_right m (by omega)
  rw [Nat.add_mul, Nat.one_mul] at this
  omega
def toZ : Value → Z3
  | .slice a n m => (a, n, m)
  | _ => (none, 0, 0)
section
variable {P : Program} {C : Ctx} {N : Nat} {l : List Oper} {m : Nat} {De : Nat → D} {al : AL} {pre : List (List Nat)} {ev : List Nat} {h : List (Nat × Blk)} {k : List (Nat × Value)} {Q : Exit → S → Prop} {tab : List (Option TI)} {bs : Nat → Nat} {y : Value} {i : Nat} {o : Oper} {rest : List Oper} {te : TE} {t : List (Nat × D)}
theorem zh_appR {r kk bb jd : Nat} {T T' e e' : TypeId} {x yy : Operand} {xs ys zs : List D} {c' : Cap} {z : Z3} {i0 i1 ie : TI} {p : List Nat} {hF : Value → List (Nat × Blk)} (j : Nat) (hT : TabOK P tab) (hp : pre.getD i [] = p) (ht : vis p te = t) (ho : o.op = .call ⟨.builtin .append, [x, yy].toArray, #[T, T']⟩) (hw : wantD l (vis [] te) o = some true) (hd : o.dst = some jd) (hi : Nat.blt jd N = true) (he : ev.contains i = true) (hna : isAl al i = false)
    (hx : opD t x = some (.v (SL z))) (hj : h[j]? = some (r, .row kk xs (SL z))) (hy : opD t yy = some (.lst kk ys c'))
    (hi0 : ti tab T = some i0) (hd0 : i0.d = .slice e) (hi1 : ti tab T' = some i1) (hd1 : i1.d = .slice e') (hie : ti tab e = some ie) (hks : ie.size = kk) (hbb : ie.bytes = bb) (hz : ie.zero.length = kk) (hb1 : Nat.ble 1 bb = true) (hbound : (xs.length + ys.length) * bb ≤ 140737488355328) (em : xs ++ ys = zs)
    (e2 : (fun y => h.set j (0, .row kk zs (SL (toZ y)))) = hF)
    (g : Zh P C N l m De al pre ev ⟨i, hF, fun _ => k, fun y => .v (SL (toZ y))⟩ h k Q bs y (i + 1) rest ((jd, .v (SL (toZ y)), some i) :: te)) :
    Zh P C N l m De al pre ev ⟨i, hF, fun _ => k, fun y => .v (SL (toZ y))⟩ h k Q bs y i (o :: rest) te := by
  subst em; subst e2
  refine zh_heavy hp ht rfl ?_ hw he hna (.inl ⟨jd, hd, hi, rfl⟩) g
  intro hh H a w core kt
  have hjl : j < h.length := (List.getElem?_eq_some_iff.1 hj).1
  have hb2 : (h ++ hh)[j]? = some (r, .row kk xs (SL z)) := by rw [List.getElem?_append_left hjl]; exact hj
  have hry := opD_ok kt hy
  obtain ⟨a2, m2, ey⟩ := rep_slice_len hry
  have c1 : Core C H ([(r, .row kk xs (SL z))] ++ (h ++ hh).eraseIdx j) ([] ++ k) w := core.perm (perm_at hb2) (List.Perm.refl _)
  have hbl := core.blks _ (List.mem_of_getElem? hb2)
  obtain ⟨z', w', h1, h2⟩ := app_runR (P := P) (ty := o.type) (v1 := SL z) (v2 := a.eval yy) hT core.ag hbl (fun b hb => c1.lt b (by
    have := (claims_append [(r, Blk.row kk xs (SL z))] ((h ++ hh).eraseIdx j) [] k).mem_iff (a := b)
    exact this.2 (List.mem_append_left _ hb))) (by rw [ey]; rfl) (fun w2 hw2 => first_told (fun a' v e' => by
      have := core.ag a' v e'
      have hlt := core.ag.lt e'
      unfold World.cell? at this ⊢
      rw [hw2 _ hlt]; exact this) hry) hi0 hd0 hi1 hd1 hie hks hbb hz (Nat.le_of_ble_eq_true hb1) hbound
  have c2 := (Core.call c1 h2).perm (perm_set hb2) (List.Perm.refl _)
  have e := rep_v_inv (opD_ok kt hx)
  rw [List.set_append_left _ _ hjl] at c2
  exact gives_ok (r := SL z') (exec_builtin (s := Builtin.append_) ho (fun _ _ => rfl) (by simpa [e] using h1)) ⟨H, Hp.le_refl H, c2, rep_v rfl⟩
theorem zh_app0R {k0 kk bb jd : Nat} {T T' e e' : TypeId} {x yy : Operand} {ys zs : List D} {c' : Cap} {i0 i1 ie : TI} {p : List Nat} {hF : Value → List (Nat × Blk)} (hT : TabOK P tab) (hp : pre.getD i [] = p) (ht : vis p te = t) (ho : o.op = .call ⟨.builtin .append, [x, yy].toArray, #[T, T']⟩) (hw : wantD l (vis [] te) o = some true) (hd : o.dst = some jd) (hi : Nat.blt jd N = true) (he : ev.contains i = true) (hna : isAl al i = false)
    (hx : opD t x = some (.lst k0 [] .full)) (hy : opD t yy = some (.lst kk ys c'))
    (hi0 : ti tab T = some i0) (hd0 : i0.d = .slice e) (hi1 : ti tab T' = some i1) (hd1 : i1.d = .slice e') (hie : ti tab e = some ie) (hks : ie.size = kk) (hbb : ie.bytes = bb) (hz : ie.zero.length = kk) (hb1 : Nat.ble 1 bb = true) (hbound : ys.length * bb ≤ 140737488355328) (em : ys = zs)
    (e2 : (fun y => (0, Blk.row kk zs (SL (toZ y))) :: h) = hF)
    (g : Zh P C N l m De al pre ev ⟨i, hF, fun _ => k, fun y => .v (SL (toZ y))⟩ h k Q bs y (i + 1) rest ((jd, .v (SL (toZ y)), some i) :: te)) :
    Zh P C N l m De al pre ev ⟨i, hF, fun _ => k, fun y => .v (SL (toZ y))⟩ h k Q bs y i (o :: rest) te := by
  subst em; subst e2
  refine zh_heavy hp ht rfl ?_ hw he hna (.inl ⟨jd, hd, hi, rfl⟩) g
  intro hh H a w core kt
  have hry := opD_ok kt hy
  obtain ⟨a2, m2, ey⟩ := rep_slice_len hry
  obtain ⟨z, ez, c1⟩ := row_nil (kk := kk) core (opD_ok kt hx)
  have hbl := c1.blks _ (List.mem_cons_self ..)
  obtain ⟨z', w', h1, h2⟩ := app_runR (P := P) (ty := o.type) (v1 := SL z) (v2 := a.eval yy) (xs := []) (ys := ys) hT c1.ag hbl (fun b hb => c1.lt b (by
    have := (claims_append [(0, Blk.row kk [] (SL z))] (h ++ hh) [] k).mem_iff (a := b)
    exact this.2 (List.mem_append_left _ hb))) (by rw [ey]; rfl) (fun w2 hw2 => first_told (fun a' v e' => by
      have := core.ag a' v e'
      have hlt := core.ag.lt e'
      unfold World.cell? at this ⊢
      rw [hw2 _ hlt]; exact this) hry) hi0 hd0 hi1 hd1 hie hks hbb hz (Nat.le_of_ble_eq_true hb1) (by simpa using hbound)
  have c2 := Core.call (h1 := [(0, .row kk [] (SL z))]) (k1 := []) (h2 := h ++ hh) (k2 := k) c1 h2
  exact gives_ok (r := SL z') (exec_builtin (s := Builtin.append_) ho (fun _ _ => rfl) (by simpa [ez] using h1)) ⟨H, Hp.le_refl H, c2, rep_v rfl⟩
end
end Go.Proofs.Ytocmdafncmlaaaa.Ab
namespace Go.Proofs.Ytocmdafncmlaaaa
open Go Go.RowKit
set_option linter.all false
abbrev Hp := Addr → Option Value
def Hp.le (H H' : Hp) : Prop := ∀ a v, H a = some v → H' a = some v
theorem Hp.le_refl (H : Hp) : H.le H := fun _ _ h => h
theorem Hp.le_trans {H H' H'' : Hp} (h : H.le H') (k : H'.le H'') : H.le H'' := fun a v x => k a v (h a v x)
def Ag (H : Hp) (w : World) : Prop := ∀ a v, H a = some v → w.cell? a = some v
theorem cell_lt {w : World} {a : Addr} {v : Value} (h : w.cell? a = some v) : a.block < w.heap.size := by
  unfold World.cell? at h
  rcases Nat.lt_or_ge a.block w.heap.size with hl | hl
  · exact hl
  · rw [Array.getElem?_eq_none hl] at h; cases h
theorem Ag.lt {H : Hp} {w : World} (h : Ag H w) {a : Addr} {v : Value} (ha : H a = some v) : a.block < w.heap.size := cell_lt (h a v ha)
theorem Ag.below {H : Hp} {w w' : World} (h : Ag H w) (hb : Below w.heap.size w w') : Ag H w' := fun a v ha => by rw [hb.cell (p := a) (h.lt ha)]; exact h a v ha
theorem Ag.drew {H : Hp} {w : World} (h : Ag H w) : Ag H w.drew := h
theorem Ag.alloc {H : Hp} {w : World} (h : Ag H w) (o : Obj) : Ag H (w.alloc o) := h.below ((Below.refl _ _).alloc (Nat.le_refl _) o)
structure Grow (H : Hp) (w : World) (H' : Hp) (w' : World) : Prop where
  le : H.le H'
  new : ∀ a v, H' a = some v → H a = some v ∨ w.heap.size ≤ a.block
  ag : Ag H' w'
  below : Below w.heap.size w w'
theorem Grow.refl {H : Hp} {w : World} (h : Ag H w) : Grow H w H w := ⟨Hp.le_refl H, fun _ _ h => .inl h, h, Below.refl _ _⟩
theorem Grow.trans {H H1 H2 : Hp} {w w1 w2 : World} (h : Grow H w H1 w1) (k : Grow H1 w1 H2 w2) : Grow H w H2 w2 :=
  ⟨Hp.le_trans h.le k.le, fun a v x => by
    rcases k.new a v x with y | y
    · exact h.new a v y
    · exact .inr (Nat.le_trans h.below.size y), k.ag, h.below.trans (k.below.mono h.below.size)⟩
theorem Grow.drew {H H' : Hp} {w w' : World} (h : Grow H w H' w') : Grow H w H' w'.drew := ⟨h.le, h.new, h.ag, h.below.drew⟩
theorem Grow.cell {H H' : Hp} {w w' : World} (h : Grow H w H' w') : (∀ b o, b < w.heap.size → w'.cell? ⟨b, o, none⟩ = w.cell? ⟨b, o, none⟩) ∧ (∀ b o, b < w.heap.size → w'.frozen? ⟨b, o, none⟩ = w.frozen? ⟨b, o, none⟩) :=
  ⟨fun b o hb => h.below.cell (p := ⟨b, o, none⟩) hb, fun b o hb => h.below.frozen (p := ⟨b, o, none⟩) hb⟩
theorem below_then {a b c : World} (h : Below a.heap.size a b) (k : Below b.heap.size b c) : Below a.heap.size a c := h.trans (k.mono h.size)
def E : Hp := fun _ => none
theorem agE (w : World) : Ag E w := fun _ _ h => by cases h
theorem hp_alloc (w : World) (o : Obj) (k : Nat) : (w.alloc o).heap[k]? = if k = w.heap.size then some o else w.heap[k]? := by
  show (w.heap.push o)[k]? = _
  rw [Array.getElem?_push]
def setO (off : Nat) (v : Value) : Obj → Obj
  | .cells c e fr => .cells (c.setIfInBounds off v) e fr
  | o => o
theorem hp_setCell (w : World) (b o : Nat) (v : Value) (k : Nat) : (w.setCell ⟨b, o, none⟩ v).heap[k]? = if b = k then (w.heap[k]?).map (setO o v) else w.heap[k]? := by
  simp only [World.setCell, Array.getElem?_modify]
  by_cases h : b = k
  · rw [if_pos h, if_pos h]
    cases w.heap[k]? with
    | none => rfl
    | some x => cases x <;> rfl
  · rw [if_neg h, if_neg h]
structure Blk (H : Hp) (w : World) (n : Nat) (b : Nat) (c : Array Value) (T : TypeId) : Prop where
  ge : n ≤ b
  at_ : w.heap[b]? = some (.cells c T (0, 0))
  out : ∀ o, H ⟨b, o, none⟩ = none
theorem Blk.lt {H : Hp} {w : World} {n b : Nat} {c : Array Value} {T : TypeId} (h : Blk H w n b c T) : b < w.heap.size := (Array.getElem?_eq_some_iff.1 h.at_).1
theorem Blk.new {H : Hp} {w : World} (hA : Ag H w) {n : Nat} (hn : n ≤ w.heap.size) (c : Array Value) (T : TypeId) : Blk H (w.alloc (.cells c T)) n w.heap.size c T :=
  ⟨hn, by show (w.heap.push _)[w.heap.size]? = _; simp, fun o => by
    cases e : H ⟨w.heap.size, o, none⟩ with
    | none => rfl
    | some v => exact absurd (hA.lt e) (Nat.lt_irrefl _)⟩
theorem Blk.mk_new {H : Hp} {w : World} (hA : Ag H w) {n b : Nat} (hb : b = w.heap.size) (hn : n ≤ b) {c : Array Value} {T : TypeId} : Blk H (w.alloc (.cells c T)) n b c T := by subst hb; exact Blk.new hA hn c T
theorem Blk.alloc {H : Hp} {w : World} {n b : Nat} {c : Array Value} {T : TypeId} (h : Blk H w n b c T) (o : Obj) : Blk H (w.alloc o) n b c T :=
  ⟨h.ge, by rw [hp_alloc, if_neg (by have := h.lt; omega)]; exact h.at_, h.out⟩
theorem Blk.drew {H : Hp} {w : World} {n b : Nat} {c : Array Value} {T : TypeId} (h : Blk H w n b c T) : Blk H w.drew n b c T := ⟨h.ge, h.at_, h.out⟩
theorem Blk.drewN {H : Hp} {w : World} {n b : Nat} {c : Array Value} {T : TypeId} (h : Blk H w n b c T) (k : Nat) : Blk H (w.drewN k) n b c T := ⟨h.ge, h.at_, h.out⟩
theorem Blk.set {H : Hp} {w : World} {n b : Nat} {c : Array Value} {T : TypeId} (h : Blk H w n b c T) (o : Nat) (v : Value) : Blk H (w.setCell ⟨b, o, none⟩ v) n b (c.setIfInBounds o v) T :=
  ⟨h.ge, by rw [hp_setCell, if_pos rfl, h.at_]; rfl, h.out⟩
theorem Blk.far {H : Hp} {w : World} {n b : Nat} {c : Array Value} {T : TypeId} (h : Blk H w n b c T) {b' : Nat} (hb : b' ≠ b) (o : Nat) (v : Value) : Blk H (w.setCell ⟨b', o, none⟩ v) n b c T :=
  ⟨h.ge, by rw [hp_setCell, if_neg hb]; exact h.at_, h.out⟩
theorem Blk.far' {H : Hp} {w : World} {n b : Nat} {c : Array Value} {T : TypeId} {b' o : Nat} {v : Value} (hb : b' ≠ b) (h : Blk H w n b c T) : Blk H (w.setCell ⟨b', o, none⟩ v) n b c T := h.far hb o v
theorem below_set {B : Nat} {a w : World} {p : Addr} {u : Value} (hp : B ≤ p.block) (h : Below B a w) : Below B a (w.setCell p u) := h.setCell hp u
theorem below_alloc {B : Nat} {a w : World} {o : Obj} (hB : B ≤ w.heap.size) (h : Below B a w) : Below B a (w.alloc o) := h.alloc hB o
theorem Blk.cast {H : Hp} {w : World} {n b : Nat} {c c' : Array Value} {T : TypeId} (h : Blk H w n b c T) (e : c = c') : Blk H w n b c' T := e ▸ h
theorem Blk.below {H : Hp} {w w' : World} {n b : Nat} {c : Array Value} {T : TypeId} (h : Blk H w n b c T) (hb : Below w.heap.size w w') : Blk H w' n b c T :=
  ⟨h.ge, by rw [hb.block b h.lt]; exact h.at_, h.out⟩
theorem Blk.cell {H : Hp} {w : World} {n b : Nat} {c : Array Value} {T : TypeId} (h : Blk H w n b c T) (o : Nat) : w.cell? ⟨b, o, none⟩ = c[o]? := by
  simp [World.cell?, h.at_]
theorem Blk.frozen {H : Hp} {w : World} {n b : Nat} {c : Array Value} {T : TypeId} (h : Blk H w n b c T) (o : Nat) : w.frozen? ⟨b, o, none⟩ = false := by
  simp [World.frozen?, h.at_]
structure St where
  r : Hp → World → Value → Prop
  st : ∀ H w H' w', Grow H w H' w' → ∀ v, r H w v → r H' w' v
def St.hp (p : Hp → Value → Prop) (hp : ∀ H H', Hp.le H H' → ∀ v, p H v → p H' v) : St := ⟨fun H _ v => p H v, fun H _ H' _ hg v h => hp H H' hg.le v h⟩
section
variable {P : Program} {ops : Array Oper} {Q : Exit → Act → World → Prop} {H0 : Hp} {w0 : World} {R : Nat → St} {pre : List (List Nat)} {ev al : List Nat} {l2 : List Oper} {vals : Nat → Value} {i : Nat} {o : Oper} {rest : List Oper} {a : Act}
end
end Go.Proofs.Ytocmdafncmlaaaa
namespace Go.Proofs.Ytocmdafncmlaaaa
open Go Go.RowKit
set_option linter.all false
def V (h l : Int) : Int := h * 18446744073709551616 + l
def hiW (n : Int) : Int := wrap64 (n / 18446744073709551616)
def loW (n : Int) : Int := n % 18446744073709551616
def Ok2 (h l : Int) : Prop := -9223372036854775808 ≤ h ∧ h < 9223372036854775808 ∧ 0 ≤ l ∧ l < 18446744073709551616
def I64 (n : Int) : Prop := -9223372036854775808 ≤ n ∧ n < 9223372036854775808
theorem wrap64_def (n : Int) : wrap64 n = (n + 9223372036854775808) % 18446744073709551616 - 9223372036854775808 := by unfold wrap64; omega
theorem wrap64_id {n : Int} (h : I64 n) : wrap64 n = n := by unfold I64 at h; rw [wrap64_def]; omega
theorem hiW_V {h l : Int} (k : Ok2 h l) : hiW (V h l) = h := by
  unfold Ok2 at k; unfold hiW V
  have e : (h * 18446744073709551616 + l) / 18446744073709551616 = h := by omega
  rw [e, wrap64_id ⟨k.1, k.2.1⟩]
theorem loW_V {h l : Int} (k : Ok2 h l) : loW (V h l) = l := by unfold Ok2 at k; unfold loW V; omega
def dv (a b c d : Int) : Int := ((d * 65536 + c) * 65536 + b) * 65536 + a
end Go.Proofs.Ytocmdafncmlaaaa
namespace Go.Proofs.Ytocmdafncmlaaaa
open Go.RowKit
theorem ret_int {k : IntKind} {a b : Int} (h : a = b) : Ending.returned (.int k a) = .returned (.int k b) := by rw [h]
end Go.Proofs.Ytocmdafncmlaaaa
namespace Go.Proofs.Ytocmdafncmlaaaa
open Go.RowKit Go.Shelf
theorem add64 (x y c : Int) (hx : 0 ≤ x) (hy : 0 ≤ y) (hc0 : 0 ≤ c) (hc : c ≤ 1) (hx1 : x < 18446744073709551616) (hy1 : y < 18446744073709551616) (w : World) : (callFunc 52 #[.int .u64 x, .int .u64 y, .int .u64 c]).run Try.prog w =
    .ok (.value (.tuple #[.int .u64 ((x + y + c) % 18446744073709551616), .int .u64 ((x + y + c) / 18446744073709551616)])) w := by
  obtain ⟨x, rfl⟩ := Int.eq_ofNat_of_zero_le hx
  obtain ⟨y, rfl⟩ := Int.eq_ofNat_of_zero_le hy
  obtain ⟨c, rfl⟩ := Int.eq_ofNat_of_zero_le hc0
  rw [run_callFunc_extern Try.func52 (by kernel_rfl) (by kernel_rfl) (by kernel_rfl) (e := add64Entry) (by kernel_rfl), run_add64 x y c (by omega) (by omega) (by omega) (by omega)]
  simp only [Result.andThen]
theorem sub64 (x y b : Int) (hx : 0 ≤ x) (hy : 0 ≤ y) (hy' : y < 18446744073709551616) (hb0 : 0 ≤ b) (hb : b ≤ 1) (w : World) : (callFunc 51 #[.int .u64 x, .int .u64 y, .int .u64 b]).run Try.prog w =
    .ok (.value (.tuple #[.int .u64 ((x - y - b) % 18446744073709551616), .int .u64 (if x < y + b then 1 else 0)])) w := by
  obtain ⟨x, rfl⟩ := Int.eq_ofNat_of_zero_le hx
  obtain ⟨y, rfl⟩ := Int.eq_ofNat_of_zero_le hy
  obtain ⟨b, rfl⟩ := Int.eq_ofNat_of_zero_le hb0
  have e1 : (((x + 18446744073709551616 - y - b) % 18446744073709551616 : Nat) : Int) = ((x : Int) - y - b) % 18446744073709551616 := by omega
  have e2 : ((if x < y + b then 1 else 0 : Nat) : Int) = if (x : Int) < y + b then 1 else 0 := by split <;> split <;> omega
  rw [← e1, ← e2]
  rw [run_callFunc_extern Try.func51 (by kernel_rfl) (by kernel_rfl) (by kernel_rfl) (e := sub64Entry) (by kernel_rfl), run_sub64 x y b (by omega)]
  rfl
def bor (x y b : Int) : Int := if x < y + b then 1 else 0
theorem bor_range (x y b : Int) : 0 ≤ bor x y b ∧ bor x y b ≤ 1 := by unfold bor; split <;> omega
theorem sub64b (x y b : Int) (hx : 0 ≤ x) (hy : 0 ≤ y) (hy' : y < 18446744073709551616) (hb0 : 0 ≤ b) (hb : b ≤ 1) (w : World) : (callFunc 51 #[.int .u64 x, .int .u64 y, .int .u64 b]).run Try.prog w =
    .ok (.value (.tuple #[.int .u64 ((x - y - b) % 18446744073709551616), .int .u64 (bor x y b)])) w := sub64 x y b hx hy hy' hb0 hb w
theorem wadd_any (h l h' l' : Int) (w : World) (k : Ok2 h l) (k' : Ok2 h' l') :
    Calls Try.prog 49 #[.agg #[.int .i64 h, .int .u64 l], .agg #[.int .i64 h', .int .u64 l']] w fun e w' => e = .returned (.agg #[.int .i64 (hiW (V h l + V h' l')), .int .u64 (loW (V h l + V h' l'))]) ∧ Below w.heap.size w w' := by
  obtain ⟨u, hu⟩ : ∃ u, IntKind.u64.wrap h = u := ⟨_, rfl⟩
  obtain ⟨u', hu'⟩ : ∃ u', IntKind.u64.wrap h' = u' := ⟨_, rfl⟩
  have bu := hu; have bu' := hu'; rw [IntKind.wrap_u64] at bu bu'
  have b1 : 0 ≤ u ∧ u < 18446744073709551616 := by omega
  have b2 : 0 ≤ u' ∧ u' < 18446744073709551616 := by omega
  obtain ⟨b1, b1'⟩ := b1; obtain ⟨b2, b2'⟩ := b2
  have k1 := k; have k1' := k'; unfold Ok2 at k1 k1'
  obtain ⟨-, -, l0, l1⟩ := k1; obtain ⟨-, -, m0, m1⟩ := k1'
  have e1 : wrap64 ((u + u' + (l + l') / 18446744073709551616) % 18446744073709551616) = hiW (V h l + V h' l') := by unfold hiW V; rw [wrap64_def, wrap64_def]; omega
  have e2 : (l + l') % 18446744073709551616 = loW (V h l + V h' l') := by unfold loW V; omega
  have q0 : 0 ≤ (l + l') / 18446744073709551616 := by omega
  have q1 : (l + l') / 18446744073709551616 ≤ 1 := by omega
  have A1 := fun w => add64 l l' 0 l0 m0 (by omega) (by omega) l1 m1 w
  simp only [Int.add_zero] at A1
  have A2 := fun w => add64 u u' _ b1 b2 q0 q1 b1' b2' w
  have E1 := Lib.hid e1; have E2 := Lib.hid e2
  clear e1 e2 bu bu' k k'
  go_enter Try.func49, Try.ntmps49
  go_wp2_with (first | simp only [A1] | simp only [A2])
  simp [bodyPost, results, Try.results49, go_sem]
  refine ⟨⟨E1.out, E2.out⟩, ?_⟩
  (repeat (first | with_reducible exact Below.refl _ _ | with_reducible assumption | (with_reducible refine below_set ?_ ?_; focus ((try dsimp only); first | with_reducible assumption | omega)) | (with_reducible refine below_alloc ?_ ?_; focus (first | omega | (simp; done) | (simp; omega))) | with_reducible refine below_drewN ?_ _ | with_reducible refine Below.drew ?_))
theorem wsub_any (h l h' l' : Int) (w : World) (k : Ok2 h l) (k' : Ok2 h' l') :
    Calls Try.prog 48 #[.agg #[.int .i64 h, .int .u64 l], .agg #[.int .i64 h', .int .u64 l']] w fun e w' => e = .returned (.agg #[.int .i64 (hiW (V h l - V h' l')), .int .u64 (loW (V h l - V h' l'))]) ∧ Below w.heap.size w w' := by
  obtain ⟨u, hu⟩ : ∃ u, IntKind.u64.wrap h = u := ⟨_, rfl⟩
  obtain ⟨u', hu'⟩ : ∃ u', IntKind.u64.wrap h' = u' := ⟨_, rfl⟩
  have bu := hu; have bu' := hu'; rw [IntKind.wrap_u64] at bu bu'
  have b1 : 0 ≤ u ∧ u < 18446744073709551616 := by omega
  have b2 : 0 ≤ u' ∧ u' < 18446744073709551616 := by omega
  obtain ⟨b1, b1'⟩ := b1; obtain ⟨b2, b2'⟩ := b2
  have k1 := k; have k1' := k'; unfold Ok2 at k1 k1'
  obtain ⟨-, -, l0, l1⟩ := k1; obtain ⟨-, -, m0, m1⟩ := k1'
  have e1 : wrap64 ((u - u' - bor l l' 0) % 18446744073709551616) = hiW (V h l - V h' l') := by unfold hiW V bor; rw [wrap64_def, wrap64_def]; split <;> omega
  have e2 : (l - l') % 18446744073709551616 = loW (V h l - V h' l') := by unfold loW V; omega
  obtain ⟨q0, q1⟩ := bor_range l l' 0
  have A1 := fun w => sub64b l l' 0 l0 m0 m1 (by omega) (by omega) w
  have A2 := fun w => sub64b u u' _ b1 b2 b2' q0 q1 w
  simp only [Int.sub_zero] at A1
  have E1 := Lib.hid e1; have E2 := Lib.hid e2
  clear e1 e2 bu bu' k k'
  go_enter Try.func48, Try.ntmps48
  go_wp2_with (first | simp only [A1] | simp only [A2])
  simp [bodyPost, results, Try.results48, go_sem]
  refine ⟨⟨E1.out, E2.out⟩, ?_⟩
  (repeat (first | with_reducible exact Below.refl _ _ | with_reducible assumption | (with_reducible refine below_set ?_ ?_; focus ((try dsimp only); first | with_reducible assumption | omega)) | (with_reducible refine below_alloc ?_ ?_; focus (first | omega | (simp; done) | (simp; omega))) | with_reducible refine below_drewN ?_ _ | with_reducible refine Below.drew ?_))
theorem wneg_any (h l : Int) (w : World) (k : Ok2 h l) :
    Calls Try.prog 42 #[.agg #[.int .i64 h, .int .u64 l]] w fun e w' => e = .returned (.agg #[.int .i64 (hiW (-(V h l))), .int .u64 (loW (-(V h l)))]) ∧ Below w.heap.size w w' := by
  have e1 : hiW (V 0 0 - V h l) = hiW (-(V h l)) := by unfold V; congr 1; omega
  have e2 : loW (V 0 0 - V h l) = loW (-(V h l)) := by unfold V; congr 1; omega
  have E1 := Lib.hid e1; have E2 := Lib.hid e2; clear e1 e2
  go_enter Try.func42, Try.ntmps42
  go_wp2_with fail
  refine (wsub_any _ _ _ _ _ (by unfold Ok2; omega) k).mono ?_
  rintro e w3 ⟨rfl, hb⟩
  rw [E1.out, E2.out]
  have m2 := Blk.below (H := E) (n := w.heap.size) (b := w.heap.size + 1) (c := #[.int .i64 0, .int .u64 0]) (T := 113) (by (apply Blk.cast; (repeat (first | with_reducible assumption | (with_reducible apply Blk.mk_new; (focus (first | exact agE _ | assumption)); (focus (first | rfl | (simp; done))); (focus omega)) | with_reducible apply Blk.alloc | with_reducible apply Blk.drewN | with_reducible apply Blk.drew | with_reducible apply Blk.set | (with_reducible apply Blk.far'; focus (first | with_reducible assumption | (apply Ne.symm; with_reducible assumption) | omega)))); (try (first | (simp; done) | rfl)))) hb
  have hb2 := below_then (a := w) (by (repeat (first | with_reducible exact Below.refl _ _ | with_reducible assumption | (with_reducible refine below_set ?_ ?_; focus ((try dsimp only); first | with_reducible assumption | omega)) | (with_reducible refine below_alloc ?_ ?_; focus (first | omega | (simp; done) | (simp; omega))) | with_reducible refine below_drewN ?_ _ | with_reducible refine Below.drew ?_))) hb
  clear hb
  have c6 := m2.cell; have z6 := m2.frozen
  go_wp2
  simp [bodyPost, results, Try.results42, go_sem, c6]
  (repeat (first | with_reducible exact Below.refl _ _ | with_reducible assumption | (with_reducible refine below_set ?_ ?_; focus ((try dsimp only); first | with_reducible assumption | omega)) | (with_reducible refine below_alloc ?_ ?_; focus (first | omega | (simp; done) | (simp; omega))) | with_reducible refine below_drewN ?_ _ | with_reducible refine Below.drew ?_))
theorem wof_any (n : Int) (w : World) (k : I64 n) :
    Calls Try.prog 43 #[.int .i64 n] w fun e w' => e = .returned (.agg #[.int .i64 (hiW (n)), .int .u64 (loW (n))]) ∧ Below w.heap.size w w' := by
  have k' := k
  unfold I64 at k
  obtain ⟨k1, k2⟩ := k
  have e2 : IntKind.u64.wrap n = loW n := by rw [IntKind.wrap_u64]; unfold loW; omega
  go_enter Try.func43, Try.ntmps43
  go_wp2
  simp [bodyPost, results, Try.results43, go_sem]
  exact ⟨by unfold hiW; rw [wrap64_def]; omega, by (repeat (first | with_reducible exact Below.refl _ _ | with_reducible assumption | (with_reducible refine below_set ?_ ?_; focus ((try dsimp only); first | with_reducible assumption | omega)) | (with_reducible refine below_alloc ?_ ?_; focus (first | omega | (simp; done) | (simp; omega))) | with_reducible refine below_drewN ?_ _ | with_reducible refine Below.drew ?_))⟩
theorem wlow_any (h l : Int) (w : World) (_k : Ok2 h l) :
    Calls Try.prog 41 #[.agg #[.int .i64 h, .int .u64 l]] w fun e w' => e = .returned (.int .i64 (wrap64 l)) ∧ Below w.heap.size w w' := by
  go_enter Try.func41, Try.ntmps41
  go_wp2
  go_ret
  exact ⟨rfl, by (repeat (first | with_reducible exact Below.refl _ _ | with_reducible assumption | (with_reducible refine below_set ?_ ?_; focus ((try dsimp only); first | with_reducible assumption | omega)) | (with_reducible refine below_alloc ?_ ?_; focus (first | omega | (simp; done) | (simp; omega))) | with_reducible refine below_drewN ?_ _ | with_reducible refine Below.drew ?_))⟩
theorem wsize_any (n : Int) (w : World) (k : I64 n) :
    Calls Try.prog 54 #[.int .i64 n] w fun e w' => e = .returned (.int .u64 (n.natAbs : Int)) ∧ Below w.heap.size w w' := by
  unfold I64 at k
  obtain ⟨k1, k2⟩ := k
  by_cases hn : n < 0
  · go_enter Try.func54, Try.ntmps54
    go_wp2
    go_ret
    exact ⟨ret_int (by rw [IntKind.wrap_u64, IntKind.wrap_u64]; omega), by (repeat (first | with_reducible exact Below.refl _ _ | with_reducible assumption | (with_reducible refine below_set ?_ ?_; focus ((try dsimp only); first | with_reducible assumption | omega)) | (with_reducible refine below_alloc ?_ ?_; focus (first | omega | (simp; done) | (simp; omega))) | with_reducible refine below_drewN ?_ _ | with_reducible refine Below.drew ?_))⟩
  · have hc : IntKind.u64.wrap n = n := by rw [IntKind.wrap_u64]; omega
    go_enter Try.func54, Try.ntmps54
    go_wp2
    go_ret
    exact ⟨ret_int (by omega), by (repeat (first | with_reducible exact Below.refl _ _ | with_reducible assumption | (with_reducible refine below_set ?_ ?_; focus ((try dsimp only); first | with_reducible assumption | omega)) | (with_reducible refine below_alloc ?_ ?_; focus (first | omega | (simp; done) | (simp; omega))) | with_reducible refine below_drewN ?_ _ | with_reducible refine Below.drew ?_))⟩
end Go.Proofs.Ytocmdafncmlaaaa
namespace Go.Proofs.Ytocmdafncmlaaaa
open Go.RowKit Go.Shelf
def mhi (a b : Int) : Int := ((a.natAbs * b.natAbs / 18446744073709551616 : Nat) : Int)
def mlo (a b : Int) : Int := ((a.natAbs * b.natAbs % 18446744073709551616 : Nat) : Int)
theorem mul64 (a b : Int) (w : World) (ka : I64 a) (kb : I64 b) : Calls Try.prog 53 #[.int .u64 (a.natAbs : Int), .int .u64 (b.natAbs : Int)] w fun e w' => e = .returned (.tuple #[.int .u64 (mhi a b), .int .u64 (mlo a b)]) ∧ w = w' := by
  unfold I64 at ka kb
  exact (Try.bits_Mul64 a.natAbs b.natAbs (by omega) (by omega) w).mono fun e w' ⟨he, hw⟩ => ⟨he, hw.symm⟩
theorem natAbs_le {a : Int} (k : I64 a) : a.natAbs ≤ 9223372036854775808 := by unfold I64 at k; omega
theorem mfacts (a b : Int) (ka : I64 a) (kb : I64 b) : Ok2 (mhi a b) (mlo a b) ∧ V (mhi a b) (mlo a b) = ((a.natAbs * b.natAbs : Nat) : Int) := by
  have h1 : a.natAbs * b.natAbs ≤ 9223372036854775808 * 9223372036854775808 := Nat.mul_le_mul (natAbs_le ka) (natAbs_le kb)
  unfold mhi mlo Ok2 V
  generalize a.natAbs * b.natAbs = p at *
  omega
theorem mul_same {a b : Int} (h : a < 0 ↔ b < 0) : ((a.natAbs * b.natAbs : Nat) : Int) = a * b := by
  rw [← Int.natAbs_mul]
  have : 0 ≤ a * b := by
    by_cases ha : a < 0
    · exact Int.mul_nonneg_of_nonpos_of_nonpos (by omega) (by have := h.1 ha; omega)
    · exact Int.mul_nonneg (by omega) (by rcases Int.lt_or_le b 0 with hb | hb; exact absurd (h.2 hb) ha; exact hb)
  omega
theorem mul_diff {a b : Int} (h : ¬ (a < 0 ↔ b < 0)) : ((a.natAbs * b.natAbs : Nat) : Int) = -(a * b) := by
  rw [← Int.natAbs_mul]
  have : a * b ≤ 0 := by
    by_cases ha : a < 0
    · exact Int.mul_nonpos_of_nonpos_of_nonneg (by omega) (by rcases Int.lt_or_le b 0 with hb | hb; exact absurd ⟨fun _ => hb, fun _ => ha⟩ h; exact hb)
    · exact Int.mul_nonpos_of_nonneg_of_nonpos (by omega) (by rcases Int.lt_or_le b 0 with hb | hb; omega; exact absurd ⟨fun x => absurd x ha, fun x => by omega⟩ h)
  omega
set_option maxRecDepth 100000 in
theorem wmul_any (a b : Int) (w : World) (ka : I64 a) (kb : I64 b) :
    Calls Try.prog 50 #[.int .i64 a, .int .i64 b] w fun e w' => e = .returned (.agg #[.int .i64 (hiW (a * b)), .int .u64 (loW (a * b))]) ∧ Below w.heap.size w w' := by
  obtain ⟨kp, hp⟩ := mfacts a b ka kb
  have hh : wrap64 (mhi a b) = mhi a b := wrap64_id ⟨kp.1, kp.2.1⟩
  by_cases hs : (!(decide (a < 0) == decide (b < 0))) = true
  · have hne : ¬ (a < 0 ↔ b < 0) := by
      intro h
      have h2 : decide (a < 0) = decide (b < 0) := decide_eq_decide.2 h
      rw [h2] at hs; simp at hs
    have hp2 : -V (mhi a b) (mlo a b) = a * b := by rw [hp, mul_diff hne]; omega
    have HP := Lib.hid hp2; have KP := Lib.hid kp; have KA := Lib.hid ka; have KB := Lib.hid kb
    clear hp hp2 kp hne ka kb
    go_enter Try.func50, Try.ntmps50
    go_wp2_with fail
    refine (wsize_any a _ KA.out).mono ?_
    rintro e w2 ⟨rfl, hb⟩
    have m2 := Blk.below (H := E) (n := w.heap.size) (b := w.heap.size) (c := #[.int .i64 0, .int .u64 0]) (T := 113) (by (apply Blk.cast; (repeat (first | with_reducible assumption | (with_reducible apply Blk.mk_new; (focus (first | exact agE _ | assumption)); (focus (first | rfl | (simp; done))); (focus omega)) | with_reducible apply Blk.alloc | with_reducible apply Blk.drewN | with_reducible apply Blk.drew | with_reducible apply Blk.set | (with_reducible apply Blk.far'; focus (first | with_reducible assumption | (apply Ne.symm; with_reducible assumption) | omega)))); (try (first | (simp; done) | rfl)))) hb
    have hb2 := below_then (a := w) (by (repeat (first | with_reducible exact Below.refl _ _ | with_reducible assumption | (with_reducible refine below_set ?_ ?_; focus ((try dsimp only); first | with_reducible assumption | omega)) | (with_reducible refine below_alloc ?_ ?_; focus (first | omega | (simp; done) | (simp; omega))) | with_reducible refine below_drewN ?_ _ | with_reducible refine Below.drew ?_))) hb
    clear hb
    go_wp2_with fail
    refine (wsize_any b _ KB.out).mono ?_
    rintro e w3 ⟨rfl, hb⟩
    have m3 := m2.below hb
    have hb3 := below_then hb2 hb
    clear hb m2 hb2
    go_wp2_with fail
    refine (mul64 a b _ KA.out KB.out).mono ?_
    rintro e w4 ⟨rfl, rfl⟩
    have lm := m3.lt
    go_wp2_with fail
    refine (wneg_any _ _ _ KP.out).mono ?_
    rintro e w4 ⟨rfl, hb⟩
    have m4 := Blk.below (H := E) (n := w.heap.size) (b := w.heap.size) (c := #[.int .i64 0, .int .u64 0]) (T := 113) (by (apply Blk.cast; (repeat (first | with_reducible assumption | (with_reducible apply Blk.mk_new; (focus (first | exact agE _ | assumption)); (focus (first | rfl | (simp; done))); (focus omega)) | with_reducible apply Blk.alloc | with_reducible apply Blk.drewN | with_reducible apply Blk.drew | with_reducible apply Blk.set | (with_reducible apply Blk.far'; focus (first | with_reducible assumption | (apply Ne.symm; with_reducible assumption) | omega)))); (try (first | (simp; done) | rfl)))) hb
    have hb4 := below_then (a := w) (by (repeat (first | with_reducible exact Below.refl _ _ | with_reducible assumption | (with_reducible refine below_set ?_ ?_; focus ((try dsimp only); first | with_reducible assumption | omega)) | (with_reducible refine below_alloc ?_ ?_; focus (first | omega | (simp; done) | (simp; omega))) | with_reducible refine below_drewN ?_ _ | with_reducible refine Below.drew ?_))) hb
    rw [HP.out]
    clear hb m3 hb3
    have c6 := m4.cell; have z6 := m4.frozen
    go_wp2
    simp [bodyPost, results, Try.results50, go_sem, c6]
    (repeat (first | with_reducible exact Below.refl _ _ | with_reducible assumption | (with_reducible refine below_set ?_ ?_; focus ((try dsimp only); first | with_reducible assumption | omega)) | (with_reducible refine below_alloc ?_ ?_; focus (first | omega | (simp; done) | (simp; omega))) | with_reducible refine below_drewN ?_ _ | with_reducible refine Below.drew ?_))
  · have hs : (!(decide (a < 0) == decide (b < 0))) = false := by simpa using hs
    have hne : (a < 0 ↔ b < 0) := by
      have : (decide (a < 0)) = decide (b < 0) := by simpa using hs
      exact decide_eq_decide.1 this
    have hp2 : V (mhi a b) (mlo a b) = a * b := by rw [hp, mul_same hne]
    have e1 : mhi a b = hiW (a * b) := by rw [← hp2, hiW_V kp]
    have e2 : mlo a b = loW (a * b) := by rw [← hp2, loW_V kp]
    have HE1 := Lib.hid e1; have HE2 := Lib.hid e2
    have KA := Lib.hid ka; have KB := Lib.hid kb
    clear hp hp2 kp hne ka kb e1 e2
    go_enter Try.func50, Try.ntmps50
    go_wp2_with fail
    refine (wsize_any a _ KA.out).mono ?_
    rintro e w2 ⟨rfl, hb⟩
    have m2 := Blk.below (H := E) (n := w.heap.size) (b := w.heap.size) (c := #[.int .i64 0, .int .u64 0]) (T := 113) (by (apply Blk.cast; (repeat (first | with_reducible assumption | (with_reducible apply Blk.mk_new; (focus (first | exact agE _ | assumption)); (focus (first | rfl | (simp; done))); (focus omega)) | with_reducible apply Blk.alloc | with_reducible apply Blk.drewN | with_reducible apply Blk.drew | with_reducible apply Blk.set | (with_reducible apply Blk.far'; focus (first | with_reducible assumption | (apply Ne.symm; with_reducible assumption) | omega)))); (try (first | (simp; done) | rfl)))) hb
    have hb2 := below_then (a := w) (by (repeat (first | with_reducible exact Below.refl _ _ | with_reducible assumption | (with_reducible refine below_set ?_ ?_; focus ((try dsimp only); first | with_reducible assumption | omega)) | (with_reducible refine below_alloc ?_ ?_; focus (first | omega | (simp; done) | (simp; omega))) | with_reducible refine below_drewN ?_ _ | with_reducible refine Below.drew ?_))) hb
    clear hb
    go_wp2_with fail
    refine (wsize_any b _ KB.out).mono ?_
    rintro e w3 ⟨rfl, hb⟩
    have m3 := m2.below hb
    have hb3 := below_then hb2 hb
    clear hb m2 hb2
    go_wp2_with fail
    refine (mul64 a b _ KA.out KB.out).mono ?_
    rintro e w4 ⟨rfl, rfl⟩
    have lm := m3.lt
    have c6 := m3.cell; have z6 := m3.frozen
    go_wp2
    simp [bodyPost, results, Try.results50, go_sem, c6, lm]
    refine ⟨⟨HE1.out, HE2.out⟩, ?_⟩
    (repeat (first | with_reducible exact Below.refl _ _ | with_reducible assumption | (with_reducible refine below_set ?_ ?_; focus ((try dsimp only); first | with_reducible assumption | omega)) | (with_reducible refine below_alloc ?_ ?_; focus (first | omega | (simp; done) | (simp; omega))) | with_reducible refine below_drewN ?_ _ | with_reducible refine Below.drew ?_))
end Go.Proofs.Ytocmdafncmlaaaa
namespace Go.Proofs.Ytocmdafncmlaaaa.Ab
open Go
set_option linter.all false
open Go Go.RowKit Go.Shelf Go.Proofs.Ytocmdafncmlaaaa
set_option linter.all false
structure TApiWide where
  gHi : Int
  gLo : Int
def eTApiWide (x : TApiWide) : D := .agg [.v (.int .i64 x.gHi), .v (.int .u64 x.gLo)]
def okI (n : Int) : Bool := decide (-9223372036854775808 ≤ n) && decide (n < 9223372036854775808)
def okW (x : TApiWide) : Bool := okI x.gHi && (decide (0 ≤ x.gLo) && decide (x.gLo < 18446744073709551616))
def vW (x : TApiWide) : Int := V x.gHi x.gLo
def ofW (z : Int) : TApiWide := ⟨hiW z, loW z⟩
theorem okI_i {n : Int} (h : okI n = true) : I64 n := by
  simp only [okI, Bool.and_eq_true, decide_eq_true_eq] at h
  exact h
theorem okW_i {x : TApiWide} (h : okW x = true) : Ok2 x.gHi x.gLo := by
  simp only [okW, okI, Bool.and_eq_true, decide_eq_true_eq] at h
  exact ⟨h.1.1, h.1.2, h.2.1, h.2.2⟩
theorem rep_ofW {H : Hp} (z : Int) : Rep H (eTApiWide (ofW z)) (.agg #[.int .i64 (hiW z), .int .u64 (loW z)]) := rep_agg (us := [.int .i64 (hiW z), .int .u64 (loW z)]) (reps_vals [.int .i64 (hiW z), .int .u64 (loW z)] (by simp [one]))
def pW (a0 : TApiWide) : Bool := okW a0
def pWW (a0 a1 : TApiWide) : Bool := okW a0 && okW a1
def pI (a0 : Int) : Bool := okI a0
def pII (a0 a1 : Int) : Bool := okI a0 && okI a1
def wAdd (a0 : TApiWide) (a1 : TApiWide) : TApiWide := ofW (vW a0 + vW a1)
theorem wAdd_ok (a0 : TApiWide) (a1 : TApiWide) (h : pWW a0 a1 = true) : CallsD Try.prog 49 [eTApiWide a0, eTApiWide a1] [] [] (fun d h k => d = eTApiWide (wAdd a0 a1) ∧ h = [] ∧ k = []) :=
  of_calls0 (us := #[.agg #[.int .i64 a0.gHi, .int .u64 a0.gLo], .agg #[.int .i64 a1.gHi, .int .u64 a1.gLo]]) (v := .agg #[.int .i64 (hiW (vW a0 + vW a1)), .int .u64 (loW (vW a0 + vW a1))]) ⟨_, Try.func49, rfl, rfl⟩ rfl (fun _ => rep_ofW _) fun w => by
    have hh : okW a0 = true ∧ okW a1 = true := by simpa [pWW] using h
    have h0 := okW_i hh.1
    have h1 := okW_i hh.2
    exact wadd_any a0.gHi a0.gLo a1.gHi a1.gLo w h0 h1
def wSub (a0 : TApiWide) (a1 : TApiWide) : TApiWide := ofW (vW a0 - vW a1)
theorem wSub_ok (a0 : TApiWide) (a1 : TApiWide) (h : pWW a0 a1 = true) : CallsD Try.prog 48 [eTApiWide a0, eTApiWide a1] [] [] (fun d h k => d = eTApiWide (wSub a0 a1) ∧ h = [] ∧ k = []) :=
  of_calls0 (us := #[.agg #[.int .i64 a0.gHi, .int .u64 a0.gLo], .agg #[.int .i64 a1.gHi, .int .u64 a1.gLo]]) (v := .agg #[.int .i64 (hiW (vW a0 - vW a1)), .int .u64 (loW (vW a0 - vW a1))]) ⟨_, Try.func48, rfl, rfl⟩ rfl (fun _ => rep_ofW _) fun w => by
    have hh : okW a0 = true ∧ okW a1 = true := by simpa [pWW] using h
    have h0 := okW_i hh.1
    have h1 := okW_i hh.2
    exact wsub_any a0.gHi a0.gLo a1.gHi a1.gLo w h0 h1
def wNeg (a0 : TApiWide) : TApiWide := ofW (-(vW a0))
theorem wNeg_ok (a0 : TApiWide) (h : pW a0 = true) : CallsD Try.prog 42 [eTApiWide a0] [] [] (fun d h k => d = eTApiWide (wNeg a0) ∧ h = [] ∧ k = []) :=
  of_calls0 (us := #[.agg #[.int .i64 a0.gHi, .int .u64 a0.gLo]]) (v := .agg #[.int .i64 (hiW (-(vW a0))), .int .u64 (loW (-(vW a0)))]) ⟨_, Try.func42, rfl, rfl⟩ rfl (fun _ => rep_ofW _) fun w => by
    have h0 := okW_i h
    exact wneg_any a0.gHi a0.gLo w h0
def wOf (a0 : Int) : TApiWide := ofW a0
theorem wOf_ok (a0 : Int) (h : pI a0 = true) : CallsD Try.prog 43 [.v (.int .i64 a0)] [] [] (fun d h k => d = eTApiWide (wOf a0) ∧ h = [] ∧ k = []) :=
  of_calls0 (us := #[.int .i64 a0]) (v := .agg #[.int .i64 (hiW (a0)), .int .u64 (loW (a0))]) ⟨_, Try.func43, rfl, rfl⟩ rfl (fun _ => rep_ofW _) fun w => by
    have h0 := okI_i h
    exact wof_any a0 w h0
def wMul (a0 : Int) (a1 : Int) : TApiWide := ofW (a0 * a1)
theorem wMul_ok (a0 : Int) (a1 : Int) (h : pII a0 a1 = true) : CallsD Try.prog 50 [.v (.int .i64 a0), .v (.int .i64 a1)] [] [] (fun d h k => d = eTApiWide (wMul a0 a1) ∧ h = [] ∧ k = []) :=
  of_calls0 (us := #[.int .i64 a0, .int .i64 a1]) (v := .agg #[.int .i64 (hiW (a0 * a1)), .int .u64 (loW (a0 * a1))]) ⟨_, Try.func50, rfl, rfl⟩ rfl (fun _ => rep_ofW _) fun w => by
    have hh : okI a0 = true ∧ okI a1 = true := by simpa [pII] using h
    have h0 := okI_i hh.1
    have h1 := okI_i hh.2
    exact wmul_any a0 a1 w h0 h1
def wLow (a0 : TApiWide) : Int := wrap64 a0.gLo
theorem wLow_ok (a0 : TApiWide) (h : pW a0 = true) : CallsD Try.prog 41 [eTApiWide a0] [] [] (fun d h k => d = .v (.int .i64 (wLow a0)) ∧ h = [] ∧ k = []) :=
  of_calls0 (us := #[.agg #[.int .i64 a0.gHi, .int .u64 a0.gLo]]) (v := .int .i64 (wrap64 a0.gLo)) ⟨_, Try.func41, rfl, rfl⟩ rfl (fun _ => rep_v rfl) fun w => by
    have h0 := okW_i h
    exact wlow_any a0.gHi a0.gLo w h0
end Go.Proofs.Ytocmdafncmlaaaa.Ab
