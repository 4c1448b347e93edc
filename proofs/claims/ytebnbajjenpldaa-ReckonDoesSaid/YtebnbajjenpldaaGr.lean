/- What a call leaves: memory that has grown; what is told of data by a part of memory that nobody writes. The law on regions, for calls that leave memory so. Over any program. -/
import Derived.Test.YtebnbajjenpldaaJx
import Derived.Below
import Derived.WalkSmall
namespace Go.Proofs.Ytebnbajjenpldaa
open Go Go.RowKit
set_option linter.all false

/-- A part of memory. -/
abbrev Hp := Addr → Option Value
def Hp.le (H H' : Hp) : Prop := ∀ a v, H a = some v → H' a = some v
theorem Hp.le_refl (H : Hp) : H.le H := fun _ _ h => h
theorem Hp.le_trans {H H' H'' : Hp} (h : H.le H') (k : H'.le H'') : H.le H'' := fun a v x => k a v (h a v x)

/-- The world holds it. -/
def Ag (H : Hp) (w : World) : Prop := ∀ a v, H a = some v → w.cell? a = some v

theorem cell_lt {w : World} {a : Addr} {v : Value} (h : w.cell? a = some v) : a.block < w.heap.size := by
  unfold World.cell? at h
  rcases Nat.lt_or_ge a.block w.heap.size with hl | hl
  · exact hl
  · rw [Array.getElem?_eq_none hl] at h; cases h

theorem Ag.lt {H : Hp} {w : World} (h : Ag H w) {a : Addr} {v : Value} (ha : H a = some v) : a.block < w.heap.size := cell_lt (h a v ha)
theorem Ag.below {H : Hp} {w w' : World} (h : Ag H w) (hb : Below w.heap.size w w') : Ag H w' := fun a v ha => by rw [hb.cell (p := a) (h.lt ha)]; exact h a v ha
theorem Ag.drew {H : Hp} {w : World} (h : Ag H w) : Ag H w.drew := h
theorem Ag.alloc {H : Hp} {w : World} (h : Ag H w) (o : Obj) : Ag H (w.alloc o) := h.below ((Below.refl _ _).alloc (Nat.le_refl _) o)

/-- Memory has grown from (H, w) to (H', w'): what was there is as it was; what is told is more. -/
structure Grow (H : Hp) (w : World) (H' : Hp) (w' : World) : Prop where
  le : H.le H'
  new : ∀ a v, H' a = some v → H a = some v ∨ w.heap.size ≤ a.block
  ag : Ag H' w'
  below : Below w.heap.size w w'

theorem Grow.refl {H : Hp} {w : World} (h : Ag H w) : Grow H w H w := ⟨Hp.le_refl H, fun _ _ h => .inl h, h, Below.refl _ _⟩
theorem Grow.trans {H H1 H2 : Hp} {w w1 w2 : World} (h : Grow H w H1 w1) (k : Grow H1 w1 H2 w2) : Grow H w H2 w2 :=
  ⟨Hp.le_trans h.le k.le, fun a v x => by
    rcases k.new a v x with y | y
    · exact h.new a v y
    · exact .inr (Nat.le_trans h.below.size y), k.ag, h.below.trans (k.below.mono h.below.size)⟩
theorem Grow.of_below {H : Hp} {w w' : World} (h : Ag H w) (hb : Below w.heap.size w w') : Grow H w H w' := ⟨Hp.le_refl H, fun _ _ h => .inl h, h.below hb, hb⟩
theorem Grow.drew {H H' : Hp} {w w' : World} (h : Grow H w H' w') : Grow H w H' w'.drew := ⟨h.le, h.new, h.ag, h.below.drew⟩
/-- A cell that stood. -/
theorem Grow.cell {H H' : Hp} {w w' : World} (h : Grow H w H' w') : (∀ b o, b < w.heap.size → w'.cell? ⟨b, o, none⟩ = w.cell? ⟨b, o, none⟩) ∧ (∀ b o, b < w.heap.size → w'.frozen? ⟨b, o, none⟩ = w.frozen? ⟨b, o, none⟩) :=
  ⟨fun b o hb => h.below.cell (p := ⟨b, o, none⟩) hb, fun b o hb => h.below.frozen (p := ⟨b, o, none⟩) hb⟩

theorem below_then {a b c : World} (h : Below a.heap.size a b) (k : Below b.heap.size b c) : Below a.heap.size a c := h.trans (k.mono h.size)
theorem bcell {W w1 : World} (hb : Below W.heap.size W w1) : (∀ b o, b < W.heap.size → w1.cell? ⟨b, o, none⟩ = W.cell? ⟨b, o, none⟩) ∧ (∀ b o, b < W.heap.size → w1.frozen? ⟨b, o, none⟩ = W.frozen? ⟨b, o, none⟩) :=
  ⟨fun b o h => hb.cell (p := ⟨b, o, none⟩) h, fun b o h => hb.frozen (p := ⟨b, o, none⟩) h⟩
theorem abs_world {P : Program} {c : Code} {Q : Exit → Act → World → Prop} {a : Act} {W : World} (F : World → Prop) (h : F W) (k : ∀ w1, F w1 → c.wp P Q a w1) : c.wp P Q a W := k W h

def E : Hp := fun _ => none
theorem agE (w : World) : Ag E w := fun _ _ h => by cases h

theorem hp_alloc (w : World) (o : Obj) (k : Nat) : (w.alloc o).heap[k]? = if k = w.heap.size then some o else w.heap[k]? := by
  show (w.heap.push o)[k]? = _
  rw [Array.getElem?_push]
theorem hp_drew (w : World) (k : Nat) : w.drew.heap[k]? = w.heap[k]? := rfl
theorem hp_drewN (w : World) (n k : Nat) : (w.drewN n).heap[k]? = w.heap[k]? := rfl
def setO (off : Nat) (v : Value) : Obj → Obj
  | .cells c e fr => .cells (c.setIfInBounds off v) e fr
  | o => o
theorem hp_setCell (w : World) (b o : Nat) (v : Value) (k : Nat) : (w.setCell ⟨b, o, none⟩ v).heap[k]? = if b = k then (w.heap[k]?).map (setO o v) else w.heap[k]? := by
  simp only [World.setCell, Array.getElem?_modify]
  by_cases h : b = k
  · rw [if_pos h, if_pos h]
    cases w.heap[k]? with
    | none => rfl
    | some x => cases x <;> rfl
  · rw [if_neg h, if_neg h]
theorem setO_cells (off : Nat) (v : Value) (c : Array Value) (e : TypeId) (f : Nat × Nat) : setO off v (.cells c e f) = .cells (c.setIfInBounds off v) e f := rfl

/-! ### The law on regions, at this class -/
/-- A new block's pointer. -/
def IsPtr (v : Value) (b : Nat) : Prop := v = .pointer (some ⟨b, 0, none⟩)
theorem IsPtr.inj {v : Value} {b b' : Nat} (h : IsPtr v b) (h' : IsPtr v b') : b = b' := by
  unfold IsPtr at *; rw [h] at h'; simpa using h'

/-- Block b, laid since, holds c. -/
structure Blk (H : Hp) (w : World) (n : Nat) (b : Nat) (c : Array Value) (T : TypeId) : Prop where
  ge : n ≤ b
  at_ : w.heap[b]? = some (.cells c T (0, 0))
  out : ∀ o, H ⟨b, o, none⟩ = none
theorem Blk.lt {H : Hp} {w : World} {n b : Nat} {c : Array Value} {T : TypeId} (h : Blk H w n b c T) : b < w.heap.size := (Array.getElem?_eq_some_iff.1 h.at_).1
theorem Blk.grow {H H' : Hp} {w w' : World} {n b : Nat} {c : Array Value} {T : TypeId} (h : Blk H w n b c T) (hg : Grow H w H' w') : Blk H' w' n b c T :=
  ⟨h.ge, by rw [hg.below.block b h.lt]; exact h.at_, fun o => by
    cases e : H' ⟨b, o, none⟩ with
    | none => rfl
    | some v =>
      rcases hg.new _ v e with x | x
      · rw [h.out] at x; cases x
      · have := h.lt; exact absurd x (by show ¬ w.heap.size ≤ b; omega)⟩
theorem Blk.new {H : Hp} {w : World} (hA : Ag H w) {n : Nat} (hn : n ≤ w.heap.size) (c : Array Value) (T : TypeId) : Blk H (w.alloc (.cells c T)) n w.heap.size c T :=
  ⟨hn, by show (w.heap.push _)[w.heap.size]? = _; simp, fun o => by
    cases e : H ⟨w.heap.size, o, none⟩ with
    | none => rfl
    | some v => exact absurd (hA.lt e) (Nat.lt_irrefl _)⟩
theorem Blk.mk_new {H : Hp} {w : World} (hA : Ag H w) {n b : Nat} (hb : b = w.heap.size) (hn : n ≤ b) {c : Array Value} {T : TypeId} : Blk H (w.alloc (.cells c T)) n b c T := by subst hb; exact Blk.new hA hn c T
theorem Blk.alloc {H : Hp} {w : World} {n b : Nat} {c : Array Value} {T : TypeId} (h : Blk H w n b c T) (o : Obj) : Blk H (w.alloc o) n b c T :=
  ⟨h.ge, by rw [hp_alloc, if_neg (by have := h.lt; omega)]; exact h.at_, h.out⟩
theorem Blk.drew {H : Hp} {w : World} {n b : Nat} {c : Array Value} {T : TypeId} (h : Blk H w n b c T) : Blk H w.drew n b c T := ⟨h.ge, h.at_, h.out⟩
theorem Blk.drewN {H : Hp} {w : World} {n b : Nat} {c : Array Value} {T : TypeId} (h : Blk H w n b c T) (k : Nat) : Blk H (w.drewN k) n b c T := ⟨h.ge, h.at_, h.out⟩
theorem Blk.set {H : Hp} {w : World} {n b : Nat} {c : Array Value} {T : TypeId} (h : Blk H w n b c T) (o : Nat) (v : Value) : Blk H (w.setCell ⟨b, o, none⟩ v) n b (c.setIfInBounds o v) T :=
  ⟨h.ge, by rw [hp_setCell, if_pos rfl, h.at_]; rfl, h.out⟩
theorem Blk.far {H : Hp} {w : World} {n b : Nat} {c : Array Value} {T : TypeId} (h : Blk H w n b c T) {b' : Nat} (hb : b' ≠ b) (o : Nat) (v : Value) : Blk H (w.setCell ⟨b', o, none⟩ v) n b c T :=
  ⟨h.ge, by rw [hp_setCell, if_neg hb]; exact h.at_, h.out⟩
theorem Blk.ge_of {H : Hp} {w : World} {n m b : Nat} {c : Array Value} {T : TypeId} (h : Blk H w n b c T) (hm : m ≤ b) : Blk H w m b c T := ⟨hm, h.at_, h.out⟩
theorem Blk.far' {H : Hp} {w : World} {n b : Nat} {c : Array Value} {T : TypeId} {b' o : Nat} {v : Value} (hb : b' ≠ b) (h : Blk H w n b c T) : Blk H (w.setCell ⟨b', o, none⟩ v) n b c T := h.far hb o v
theorem below_set {B : Nat} {a w : World} {p : Addr} {u : Value} (hp : B ≤ p.block) (h : Below B a w) : Below B a (w.setCell p u) := h.setCell hp u
theorem below_alloc {B : Nat} {a w : World} {o : Obj} (hB : B ≤ w.heap.size) (h : Below B a w) : Below B a (w.alloc o) := h.alloc hB o
theorem Blk.cast {H : Hp} {w : World} {n b : Nat} {c c' : Array Value} {T : TypeId} (h : Blk H w n b c T) (e : c = c') : Blk H w n b c' T := e ▸ h
theorem Blk.toE {H : Hp} {w : World} {n b : Nat} {c : Array Value} {T : TypeId} (h : Blk H w n b c T) : Blk E w n b c T := ⟨h.ge, h.at_, fun _ => rfl⟩
theorem Blk.below {H : Hp} {w w' : World} {n b : Nat} {c : Array Value} {T : TypeId} (h : Blk H w n b c T) (hb : Below w.heap.size w w') : Blk H w' n b c T :=
  ⟨h.ge, by rw [hb.block b h.lt]; exact h.at_, h.out⟩
theorem Blk.cell {H : Hp} {w : World} {n b : Nat} {c : Array Value} {T : TypeId} (h : Blk H w n b c T) (o : Nat) : w.cell? ⟨b, o, none⟩ = c[o]? := by
  simp [World.cell?, h.at_]
theorem Blk.frozen {H : Hp} {w : World} {n b : Nat} {c : Array Value} {T : TypeId} (h : Blk H w n b c T) (o : Nat) : w.frozen? ⟨b, o, none⟩ = false := by
  simp [World.frozen?, h.at_]

/-- What is so of a value, and stays so. -/
structure St where
  r : Hp → World → Value → Prop
  st : ∀ H w H' w', Grow H w H' w' → ∀ v, r H w v → r H' w' v
/-- Nothing. -/
def St.tt : St := ⟨fun _ _ _ => True, fun _ _ _ _ _ _ h => h⟩
/-- Something that hangs on no memory. -/
def St.is (p : Value → Prop) : St := ⟨fun _ _ v => p v, fun _ _ _ _ _ _ h => h⟩
/-- A new variable, from block n on. -/
def St.var (n : Nat) (c : Array Value) (T : TypeId) : St := ⟨fun H w v => ∃ b, v = .pointer (some ⟨b, 0, none⟩) ∧ Blk H w n b c T, fun _ _ _ _ hg _ ⟨b, e, h⟩ => ⟨b, e, h.grow hg⟩⟩
/-- Something of memory that is told. -/
def St.hp (p : Hp → Value → Prop) (hp : ∀ H H', Hp.le H H' → ∀ v, p H v → p H' v) : St := ⟨fun H _ v => p H v, fun H _ H' _ hg v h => hp H H' hg.le v h⟩

section
variable {P : Program} {ops : Array Oper} {Q : Exit → Act → World → Prop} {H0 : Hp} {w0 : World} {R : Nat → St} {pre : List (List Nat)} {ev al : List Nat} {l2 : List Oper} {vals : Nat → Value} {i : Nat} {o : Oper} {rest : List Oper} {a : Act}

/-- The class of worlds: memory has grown; the values of what has come up are as told; the new variables (al) are apart. -/
def Cls (H0 : Hp) (w0 : World) (R : Nat → St) (al : List Nat) (S : Nat → Bool) (vals : Nat → Value) (w : World) : Prop :=
  ∃ H, Grow H0 w0 H w ∧ (∀ e, S e = true → (R e).r H w (vals e)) ∧ (∀ e ∈ al, S e = true → ∃ b, IsPtr (vals e) b ∧ b < w.heap.size) ∧
    ∀ e ∈ al, ∀ e' ∈ al, e ≠ e' → S e = true → S e' = true → ∀ b, IsPtr (vals e) b → ¬ IsPtr (vals e') b

def Ls (P : Program) (ops : Array Oper) (Q : Exit → Act → World → Prop) (H0 : Hp) (w0 : World) (R : Nat → St) (pre : List (List Nat)) (ev al : List Nat) (l2 : List Oper) (vals : Nat → Value) : Nat → List Oper → Act → Prop :=
  Jx.Lx P ops (Cls H0 w0 R al) (fun i => pre.getD i []) (fun i => ev.contains i) vals (fun a => ∀ S w, (∀ i, ev.contains i = true → S i = true) → Cls H0 w0 R al S vals w → wpList P ops Q l2 a w)

theorem ls_quiet {out : Value} (hw : Region.wanted o (yielded ops a.tmps) = true) (he : ev.contains i = false)
    (h : ∀ H w, Grow H0 w0 H w → (∀ k ∈ pre.getD i [], (R k).r H w (vals k)) → (execOp a.eval o).run P w = .ok (.value out) w) (k : Ls P ops Q H0 w0 R pre ev al l2 vals (i + 1) rest (a.put o.dst out)) :
    Ls P ops Q H0 w0 R pre ev al l2 vals i (o :: rest) a := by
  refine ⟨out, ?_, k⟩
  unfold Jx.OK
  rw [if_pos hw, if_neg (by show ¬ ev.contains i = true; rw [he]; exact Bool.false_ne_true)]
  exact fun S w ⟨H, hg, hr, _⟩ hp => h H w hg fun k hk => hr k (hp k hk)

/-- The same, for a walk: 'apply Exists.intro' leaves the value open. -/
theorem lsq (hw : Region.wanted o (yielded ops a.tmps) = true) (he : ev.contains i = false)
    (h : ∃ out, (∀ H w, Grow H0 w0 H w → (∀ k ∈ pre.getD i [], (R k).r H w (vals k)) → (execOp a.eval o).run P w = .ok (.value out) w) ∧ Ls P ops Q H0 w0 R pre ev al l2 vals (i + 1) rest (a.put o.dst out)) :
    Ls P ops Q H0 w0 R pre ev al l2 vals i (o :: rest) a := let ⟨_, h1, h2⟩ := h; ls_quiet hw he h1 h2

theorem ls_skip (hw : Region.wanted o (yielded ops a.tmps) = false) (he : ev.contains i = false) (k : Ls P ops Q H0 w0 R pre ev al l2 vals (i + 1) rest (a.put o.dst undef)) : Ls P ops Q H0 w0 R pre ev al l2 vals i (o :: rest) a := by
  refine ⟨undef, ?_, k⟩
  unfold Jx.OK
  rw [if_neg (by rw [hw]; exact Bool.false_ne_true)]
  exact ⟨rfl, fun h => by have h2 : ev.contains i = true := h; rw [he] at h2; cases h2⟩

/-- An event that makes no new variable. -/
theorem ls_ev (hw : Region.wanted o (yielded ops a.tmps) = true) (he : ev.contains i = true) (hal : al.contains i = false)
    (h : ∀ H w, Grow H0 w0 H w → (∀ k ∈ pre.getD i [], (R k).r H w (vals k)) → Jx.Gives P o a w fun v w' => ∃ H', Grow H w H' w' ∧ (R i).r H' w' v)
    (k : Ls P ops Q H0 w0 R pre ev al l2 vals (i + 1) rest (a.put o.dst (vals i))) : Ls P ops Q H0 w0 R pre ev al l2 vals i (o :: rest) a := by
  refine ⟨vals i, ?_, k⟩
  have hni : ∀ e ∈ al, e ≠ i := fun e hea h => by subst h; rw [← Bool.not_eq_true, List.contains_iff_mem] at hal; exact hal hea
  unfold Jx.OK
  rw [if_pos hw, if_pos he]
  refine ⟨rfl, fun S w ⟨H, hg, hr, hp1, hp2⟩ hS hp => (h H w hg fun k hk => hr k (hp k hk)).mono fun v w' ⟨H', hg', hv⟩ => ⟨H', hg.trans hg', fun e hes => ?_, fun e hea hes => ?_, fun e hea e' hea' hne hes hes' b => ?_⟩⟩
  · by_cases hei : e = i
    · subst hei; rw [Jx.upd_same]; exact hv
    · rw [Jx.upd_ne _ _ hei] at hes ⊢; exact (R e).st H w H' w' hg' _ (hr e hes)
  · rw [Jx.upd_ne _ _ (hni e hea)] at hes ⊢
    obtain ⟨b, hb, hl⟩ := hp1 e hea hes
    exact ⟨b, hb, Nat.lt_of_lt_of_le hl hg'.below.size⟩
  · rw [Jx.upd_ne _ _ (hni e hea)] at hes ⊢
    rw [Jx.upd_ne _ _ (hni e' hea')] at hes' ⊢
    exact hp2 e hea e' hea' hne hes hes' b

/-- A new variable. -/
theorem ls_alloc {c : Array Value} {T : TypeId} (hw : Region.wanted o (yielded ops a.tmps) = true) (he : ev.contains i = true)
    (hrun : ∀ w, (execOp a.eval o).run P w = .ok (.value (.pointer (some ⟨w.heap.size, 0, none⟩))) (w.alloc (.cells c T)))
    (hRi : ∀ H w b, Blk H w w0.heap.size b c T → (R i).r H w (.pointer (some ⟨b, 0, none⟩)))
    (k : Ls P ops Q H0 w0 R pre ev al l2 vals (i + 1) rest (a.put o.dst (vals i))) : Ls P ops Q H0 w0 R pre ev al l2 vals i (o :: rest) a := by
  refine ⟨vals i, ?_, k⟩
  unfold Jx.OK
  rw [if_pos hw, if_pos he]
  refine ⟨rfl, fun S w ⟨H, hg, hr, hp1, hp2⟩ hS hp => ?_⟩
  unfold Jx.Gives
  rw [hrun w]
  have hg' : Grow H w H (w.alloc (.cells c T)) := Grow.of_below hg.ag ((Below.refl _ _).alloc (Nat.le_refl _) _)
  have hsz : (w.alloc (.cells c T)).heap.size = w.heap.size + 1 := by show (w.heap.push _).size = _; simp
  refine ⟨H, hg.trans hg', fun e hes => ?_, fun e hea hes => ?_, fun e hea e' hea' hne hes hes' b => ?_⟩
  · by_cases hei : e = i
    · subst hei; rw [Jx.upd_same]; exact hRi H _ _ (Blk.new hg.ag hg.below.size c T)
    · rw [Jx.upd_ne _ _ hei] at hes ⊢; exact (R e).st H w H _ hg' _ (hr e hes)
  · by_cases hei : e = i
    · subst hei; rw [Jx.upd_same]; exact ⟨w.heap.size, rfl, by omega⟩
    · rw [Jx.upd_ne _ _ hei] at hes ⊢
      obtain ⟨b, hb, hl⟩ := hp1 e hea hes
      exact ⟨b, hb, by omega⟩
  · by_cases hei : e = i
    · subst hei
      have hne' : e' ≠ e := fun h => hne h.symm
      rw [Jx.upd_same, Jx.upd_ne _ _ hne']
      rw [Jx.upd_ne _ _ hne'] at hes'
      obtain ⟨b', hb', hl⟩ := hp1 e' hea' hes'
      intro h1 h2
      have e1 : w.heap.size = b := by simpa [IsPtr] using h1
      have := hb'.inj h2
      omega
    · rw [Jx.upd_ne _ _ hei] at hes ⊢
      by_cases hei' : e' = i
      · subst hei'
        rw [Jx.upd_same]
        obtain ⟨b', hb', hl⟩ := hp1 e hea hes
        intro h1 h2
        have e1 : w.heap.size = b := by simpa [IsPtr] using h2
        have := hb'.inj h1
        omega
      · rw [Jx.upd_ne _ _ hei'] at hes' ⊢
        exact hp2 e hea e' hea' hne hes hes' b

theorem ls_evskip (hw : Region.wanted o (yielded ops a.tmps) = false) (hu : ∀ H w, (R i).r H w undef) (hal : al.contains i = false) (k : Ls P ops Q H0 w0 R pre ev al l2 vals (i + 1) rest (a.put o.dst undef)) : Ls P ops Q H0 w0 R pre ev al l2 vals i (o :: rest) a := by
  refine ⟨undef, ?_, k⟩
  have hni : ∀ e ∈ al, e ≠ i := fun e hea h => by subst h; rw [← Bool.not_eq_true, List.contains_iff_mem] at hal; exact hal hea
  unfold Jx.OK
  rw [if_neg (by rw [hw]; exact Bool.false_ne_true)]
  refine ⟨rfl, fun _ S w ⟨H, hg, hr, hp1, hp2⟩ hS => ⟨H, hg, fun e hes => ?_, fun e hea hes => ?_, fun e hea e' hea' hne hes hes' b => ?_⟩⟩
  · by_cases hei : e = i
    · subst hei; rw [Jx.upd_same]; exact hu H w
    · rw [Jx.upd_ne _ _ hei] at hes ⊢; exact hr e hes
  · rw [Jx.upd_ne _ _ (hni e hea)] at hes ⊢; exact hp1 e hea hes
  · rw [Jx.upd_ne _ _ (hni e hea)] at hes ⊢
    rw [Jx.upd_ne _ _ (hni e' hea')] at hes' ⊢
    exact hp2 e hea e' hea' hne hes hes' b

/-- Behind them all. -/
theorem ls_nil (h : ∀ H w, Grow H0 w0 H w → (∀ e ∈ ev, (R e).r H w (vals e)) → (∀ e ∈ al, ∀ e' ∈ al, e ≠ e' → e ∈ ev → e' ∈ ev → ∀ b, IsPtr (vals e) b → ¬ IsPtr (vals e') b) → wpList P ops Q l2 a w) : Ls P ops Q H0 w0 R pre ev al l2 vals i [] a :=
  fun S w hS ⟨H, hg, hr, _, hp2⟩ => h H w hg (fun e he => hr e (hS e (by simpa using he))) fun e hea e' hea' hne he he' b => hp2 e hea e' hea' hne (hS e (by simpa using he)) (hS e' (by simpa using he')) b

/-- The region l1 ++ l2: l1's operations in whatever order, then l2's, one behind the other. R: of each event what is so of its value; pre: of each operation the events that it hangs on; ev: the events; al: those that make a new variable; tp: of each of l2 all that are before it. -/
theorem ls_region {id : Nat} {l1 : List Oper} (R : Nat → St) (pre : List (List Nat)) (ev al : List Nat) (tp : List (List Nat)) (hA : Ag H0 w0) (hm : P.follows .mixedOrders = true) (hsl : Jx.slotsB (l1 ++ l2).toArray = true)
    (hp : Jx.preB (l1 ++ l2).toArray (fun i => pre.getD i []) = true) (hpe : pre.all (·.all ev.contains) = true) (hev : ev.all (· < l1.length) = true) (hsuf : Jx.sufB (l1 ++ l2).toArray tp l1.length = true)
    (hwalk : ∀ vals, Ls P (l1 ++ l2).toArray Q H0 w0 R pre ev al l2 vals 0 l1 a) : (Code.region id (l1 ++ l2).toArray true).wp P Q a w0 := by
  refine Jx.region_any (Cls H0 w0 R al) (fun i => pre.getD i []) (fun i => ev.contains i) tp hm hsl hp ?_ ?_ hsuf ?_ ?_ hwalk
  · intro i k hk
    rw [List.all_eq_true] at hpe
    by_cases hi : i < pre.length
    · have e : pre.getD i [] = pre[i] := by simp [hi]
      rw [e] at hk
      exact List.all_eq_true.1 (hpe _ (List.getElem_mem hi)) k hk
    · have e : pre.getD i [] = [] := by simp [Nat.le_of_not_lt hi]
      rw [e] at hk; cases hk
  · intro i hi
    rw [List.all_eq_true] at hev
    simpa using hev i (by simpa using hi)
  · rintro S vals vals' w hv ⟨H, hg, hr, hp1, hp2⟩
    exact ⟨H, hg, fun e he => hv e he ▸ hr e he, fun e hea he => hv e he ▸ hp1 e hea he, fun e hea e' hea' hne he he' b => hv e he ▸ hv e' he' ▸ hp2 e hea e' hea' hne he he' b⟩
  · exact fun vals => ⟨H0, (Grow.refl hA).drew, fun e he => absurd he Bool.false_ne_true, fun e _ he => absurd he Bool.false_ne_true, fun e _ e' _ _ he => absurd he Bool.false_ne_true⟩

theorem gives_call {o : Oper} {a : Act} {w : World} {K : Value → World → Prop} {f : FuncId} (h : ∃ args, (execOp a.eval o).run P w = .ok (.enter f args) w ∧ Calls P f args w fun e w'' => ∃ v, e = .returned v ∧ K v w'') : Jx.Gives P o a w K := by
  obtain ⟨args, h1, h2⟩ := h
  unfold Jx.Gives
  rw [h1]
  exact h2

theorem ls_take {id : Nat} {l : List Oper} (m : Nat) (R : Nat → St) (pre : List (List Nat)) (ev al : List Nat) (tp : List (List Nat)) (hA : Ag H0 w0) (hm : P.follows .mixedOrders = true) (hsl : Jx.slotsB l.toArray = true)
    (hp : Jx.preB l.toArray (fun i => pre.getD i []) = true) (hpe : pre.all (·.all ev.contains) = true) (hev : ev.all (· < (l.take m).length) = true) (hsuf : Jx.sufB l.toArray tp (l.take m).length = true)
    (hwalk : ∀ vals, Ls P l.toArray Q H0 w0 R pre ev al (l.drop m) vals 0 (l.take m) a) : (Code.region id l.toArray true).wp P Q a w0 := by
  have h := ls_region (P := P) (Q := Q) (H0 := H0) (w0 := w0) (a := a) (id := id) (l1 := l.take m) (l2 := l.drop m) R pre ev al tp hA hm (by rw [List.take_append_drop]; exact hsl) (by rw [List.take_append_drop]; exact hp) hpe hev (by rw [List.take_append_drop]; exact hsuf)
    (by rw [List.take_append_drop]; exact hwalk)
  rw [List.take_append_drop] at h
  exact h
end
#print axioms ls_region
end Go.Proofs.Ytebnbajjenpldaa
