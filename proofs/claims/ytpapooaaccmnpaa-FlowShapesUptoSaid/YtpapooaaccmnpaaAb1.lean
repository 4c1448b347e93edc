/- An abstract machine, part 1: data without addresses, what a value stands for, the state of a frame. Over any program. -/
import Derived.Tactics
import Derived.Scope
import Derived.KernelRfl
import Derived.WalkSmall
import Derived.Below
namespace Go.Proofs.Ytpapooaaccmnpaa.Ab
open Go
set_option linter.all false

/-- A part of memory that is told, and that nobody writes any more. -/
abbrev Hp := Addr → Option Value
def Hp.le (H H' : Hp) : Prop := ∀ a v, H a = some v → H' a = some v
theorem Hp.le_refl (H : Hp) : H.le H := fun _ _ h => h
theorem Hp.le_trans {H H' H'' : Hp} (h : H.le H') (k : H'.le H'') : H.le H'' := fun a v x => k a v (h a v x)
def Ag (H : Hp) (w : World) : Prop := ∀ a v, H a = some v → w.cell? a = some v
def Told (H : Hp) (b off : Nat) (us : List Value) : Prop := ∀ j u, us[j]? = some u → H ⟨b, off + j, none⟩ = some u

theorem cell_lt {w : World} {a : Addr} {v : Value} (h : w.cell? a = some v) : a.block < w.heap.size := by
  unfold World.cell? at h
  rcases Nat.lt_or_ge a.block w.heap.size with hl | hl
  · exact hl
  · rw [Array.getElem?_eq_none hl] at h; cases h
theorem Ag.lt {H : Hp} {w : World} (h : Ag H w) {a : Addr} {v : Value} (ha : H a = some v) : a.block < w.heap.size := cell_lt (h a v ha)

/-- What is known of a slice's room: nothing; there is none; the value y's own. -/
inductive Cap where
  | no | full | cur (y : Value)

/-- Data. -/
inductive D where
  | any
  | v (x : Value)
  | agg (l : List D)
  | lst (k : Nat) (xs : List D) (c : Cap)
  | el (d : D)
  | ptr (b o : Nat)
  | fn (f : Fn) (first captured : List D)
  | tup (l : List D)

def CapOK (c : Cap) (y : Value) : Prop :=
  match c with
  | .no => True
  | .full => match y with | .slice _ n m => m = n | _ => False
  | .cur z => y = z

def D.shape (d : D) (y : Value) : Bool :=
  match d, y with
  | .any, _ => true
  | .agg _, .agg _ => true
  | .agg _, _ => false
  | _, .agg _ => false
  | _, _ => true

/-- One cell's value. -/
def one : Value → Bool
  | .agg _ => false
  | .tuple _ => false
  | _ => true
/-- One cell's. -/
def D.flat : D → Bool
  | .agg _ => false
  | _ => true

mutual
/-- The cells us hold d. -/
def RepC (H : Hp) : D → List Value → Prop
  | .any, _ => True
  | .v x, us => us = [x]
  | .agg l, us => Reps H l us
  | .lst k xs c, us => ∃ y, us = [y] ∧ CapOK c y ∧ ((xs = [] ∧ ∃ a m, y = .slice a 0 m ∧ (a = none → m = 0)) ∨ ∃ b off m, y = .slice (some ⟨b, off, none⟩) xs.length m ∧ xs.length ≤ m ∧ Els H k b off xs)
  | .el d, us => ∃ b off vs, us = [.pointer (some ⟨b, off, none⟩)] ∧ RepC H d vs ∧ Told H b off vs ∧ ∀ u ∈ vs, one u = true
  | .ptr b o, us => us = [.pointer (some ⟨b, o, none⟩)]
  | .fn f as cs, us => ∃ vs ws, us = [.func f vs.toArray ws.toArray] ∧ RepsV H as vs ∧ RepsV H cs ws
  | .tup l, us => ∃ vs, us = [.tuple vs.toArray] ∧ RepsV H l vs
def Reps (H : Hp) : List D → List Value → Prop
  | [], us => us = []
  | d :: l, us => ∃ u us', us = u :: us' ∧ (RepC H d [u] ∧ one u = true ∧ d.flat = true) ∧ Reps H l us'
def Els (H : Hp) (k b : Nat) (off : Nat) : List D → Prop
  | [] => True
  | x :: xs => (∃ us, us.length = k ∧ RepC H x us ∧ Told H b off us ∧ ∀ u ∈ us, one u = true) ∧ Els H k b (off + k) xs
def RepsV (H : Hp) : List D → List Value → Prop
  | [], vs => vs = []
  | d :: l, vs => ∃ u us', vs = u :: us' ∧ (RepC H d u.cells.toList ∧ d.shape u = true) ∧ RepsV H l us'
end

/-- The value y stands for d. -/
def Rep (H : Hp) (d : D) (y : Value) : Prop := RepC H d y.cells.toList ∧ d.shape y = true

theorem Told.mono {H H' : Hp} (h : H.le H') {b off : Nat} {us : List Value} (k : Told H b off us) : Told H' b off us := fun j u hj => h _ _ (k j u hj)

mutual
theorem RepC.mono {H H' : Hp} (h : H.le H') : ∀ (d : D) (us : List Value), RepC H d us → RepC H' d us
  | .any, _, _ => by simp only [RepC]
  | .v x, us, k => by simp only [RepC] at k ⊢; exact k
  | .agg l, us, k => by simp only [RepC] at k ⊢; exact Reps.mono h l us k
  | .lst kk xs c, us, k => by
    simp only [RepC] at k ⊢
    obtain ⟨y, e, hc, hk⟩ := k
    refine ⟨y, e, hc, ?_⟩
    rcases hk with hk | ⟨b, off, m, e1, e2, e3⟩
    · exact .inl hk
    · exact .inr ⟨b, off, m, e1, e2, Els.mono h kk b off xs e3⟩
  | .el d, us, k => by
    simp only [RepC] at k ⊢
    obtain ⟨b, off, vs, e, h1, h2, h3⟩ := k
    exact ⟨b, off, vs, e, RepC.mono h d vs h1, h2.mono h, h3⟩
  | .ptr b o, us, k => by simp only [RepC] at k ⊢; exact k
  | .fn f as cs, us, k => by
    simp only [RepC] at k ⊢
    obtain ⟨vs, ws, e, h1, h2⟩ := k
    exact ⟨vs, ws, e, RepsV.mono h as vs h1, RepsV.mono h cs ws h2⟩
  | .tup l, us, k => by
    simp only [RepC] at k ⊢
    obtain ⟨vs, e, h1⟩ := k
    exact ⟨vs, e, RepsV.mono h l vs h1⟩
theorem Reps.mono {H H' : Hp} (h : H.le H') : ∀ (l : List D) (us : List Value), Reps H l us → Reps H' l us
  | [], us, k => by simp only [Reps] at k ⊢; exact k
  | d :: l, us, k => by
    simp only [Reps] at k ⊢
    obtain ⟨u, us', e, ⟨h1, h0⟩, h2⟩ := k
    exact ⟨u, us', e, ⟨RepC.mono h d _ h1, h0⟩, Reps.mono h l _ h2⟩
theorem Els.mono {H H' : Hp} (h : H.le H') (k b off : Nat) : ∀ (l : List D), Els H k b off l → Els H' k b off l
  | [], _ => by simp only [Els]
  | x :: xs, q => by
    simp only [Els] at q ⊢
    obtain ⟨⟨us, e, h1, h2, h0⟩, h3⟩ := q
    exact ⟨⟨us, e, RepC.mono h x us h1, h2.mono h, h0⟩, Els.mono h k b (off + k) xs h3⟩
theorem RepsV.mono {H H' : Hp} (h : H.le H') : ∀ (l : List D) (us : List Value), RepsV H l us → RepsV H' l us
  | [], us, k => by simp only [RepsV] at k ⊢; exact k
  | d :: l, us, k => by
    simp only [RepsV] at k ⊢
    obtain ⟨u, us', e, h1, h2⟩ := k
    exact ⟨u, us', e, ⟨RepC.mono h d _ h1.1, h1.2⟩, RepsV.mono h l _ h2⟩
end
theorem Rep.mono {H H' : Hp} (h : H.le H') {d : D} {y : Value} (k : Rep H d y) : Rep H' d y := ⟨RepC.mono h d _ k.1, k.2⟩

/-! ### The state -/
inductive Blk where
  | cells (ds : List D) (T : TypeId)
  | row (k : Nat) (xs : List D) (y : Value)
  | told (k : Nat) (xs : List D) (y : Value)
/-- A row of cells of k, element by element. -/
def FlatR (H : Hp) (k : Nat) : List D → List Value → Prop
  | [], us => us = []
  | x :: xs, us => ∃ u1 u2, us = u1 ++ u2 ∧ u1.length = k ∧ (RepC H x u1 ∧ ∀ u ∈ u1, one u = true) ∧ FlatR H k xs u2
theorem FlatR.mono {H H' : Hp} (h : H.le H') {k : Nat} : ∀ {xs : List D} {us : List Value}, FlatR H k xs us → FlatR H' k xs us
  | [], us, q => q
  | x :: xs, us, q => by
    obtain ⟨u1, u2, e, hl, ⟨h1, h2⟩, h3⟩ := q
    exact ⟨u1, u2, e, hl, ⟨RepC.mono h x u1 h1, h2⟩, h3.mono h⟩
def sliceClaim : Value → List Nat
  | .slice (some a) _ m => if 0 < m then [a.block] else []
  | _ => []

def BlkOK (H : Hp) (w : World) : Nat × Blk → Prop
  | (b, .cells ds T) => ∃ us : List Value, w.heap[b]? = some (.cells us.toArray T (0, 0)) ∧ Reps H ds us ∧ (∀ o, H ⟨b, o, none⟩ = none)
  | (_, .row k xs y) => (∃ a, y = .slice a 0 0 ∧ xs = []) ∨ ∃ (b m : Nat) (us rest : List Value) (T : TypeId), y = .slice (some ⟨b, 0, none⟩) xs.length m ∧ xs.length ≤ m ∧ 0 < m ∧ w.heap[b]? = some (.cells (us ++ rest).toArray T (0, 0)) ∧ FlatR H k xs us ∧ m * k ≤ (us ++ rest).length ∧ ∀ o, H ⟨b, o, none⟩ = none
  | (_, .told k xs y) => RepC H (.lst k xs (.cur y)) [y]
def blkClaim : Nat × Blk → List Nat
  | (b, .cells _ _) => [b]
  | (_, .row _ _ y) => sliceClaim y
  | (_, .told _ _ _) => []

/-- y is a slice value with cells of k; what lies behind its end is its own. -/
def TokOK (H : Hp) (w : World) : Nat × Value → Prop
  | (k, y) => ∀ a n m, y = .slice (some a) n m → n < m →
    ∃ cs T, w.heap[a.block]? = some (.cells cs T (0, 0)) ∧ a.spot = none ∧ a.off + m * k ≤ cs.size ∧ ∀ o, a.off + n * k ≤ o → H ⟨a.block, o, none⟩ = none
def tokClaim : Nat × Value → List Nat
  | (_, .slice (some a) n m) => if n < m then [a.block] else []
  | _ => []
def claims (h : List (Nat × Blk)) (k : List (Nat × Value)) : List Nat := h.flatMap blkClaim ++ k.flatMap tokClaim

/-- Where a call began: what was told, the world, which old blocks it may turn. -/
structure Ctx where
  H : Hp
  w : World
  M : List Nat

def Env (a b : World) : Prop := b.os = a.os ∧ b.tape = a.tape ∧ b.output = a.output
theorem Env.refl (w : World) : Env w w := ⟨rfl, rfl, rfl⟩
theorem Env.trans {a b c : World} (h : Env a b) (k : Env b c) : Env a c := ⟨k.1.trans h.1, k.2.1.trans h.2.1, k.2.2.trans h.2.2⟩
structure Core (C : Ctx) (H : Hp) (h : List (Nat × Blk)) (k : List (Nat × Value)) (w : World) : Prop where
  ag : Ag H w
  le : C.H.le H
  new : ∀ a v, H a = some v → C.H a = some v ∨ C.w.heap.size ≤ a.block ∨ a.block ∈ C.M
  same : ∀ b, b < C.w.heap.size → b ∉ C.M → w.heap[b]? = C.w.heap[b]?
  size : C.w.heap.size ≤ w.heap.size
  blks : ∀ p ∈ h, BlkOK H w p
  toks : ∀ p ∈ k, TokOK H w p
  nd : (claims h k).Nodup
  own : ∀ b ∈ claims h k, b ∈ C.M ∨ C.w.heap.size ≤ b
  env : Env C.w w

theorem claims_lt {H : Hp} {h : List (Nat × Blk)} {k : List (Nat × Value)} {w : World} (hb : ∀ p ∈ h, BlkOK H w p) (ht : ∀ p ∈ k, TokOK H w p) : ∀ b ∈ claims h k, b < w.heap.size := by
  intro b hc
  simp only [claims, List.mem_append, List.mem_flatMap] at hc
  rcases hc with ⟨⟨b', bl⟩, hp, hq⟩ | ⟨⟨kk, y⟩, hp, hy⟩
  · cases bl with
    | cells ds T =>
      simp only [blkClaim, List.mem_singleton] at hq
      subst hq
      obtain ⟨us, h1, _⟩ := hb _ hp
      exact (Array.getElem?_eq_some_iff.1 h1).1
    | row kk xs y =>
      rcases hb _ hp with ⟨a, e, _⟩ | ⟨b2, m, us, rest, T, e, _, hm, h1, _⟩
      · subst e; cases a <;> simp [blkClaim, sliceClaim] at hq
      · subst e
        simp only [blkClaim, sliceClaim, if_pos hm, List.mem_singleton] at hq
        subst hq
        exact (Array.getElem?_eq_some_iff.1 h1).1
    | told kk xs y => simp [blkClaim] at hq
  · have := ht _ hp
    unfold tokClaim at hy
    split at hy
    · rename_i k0 a n m e
      split at hy
      · rename_i hlt
        simp only [Prod.mk.injEq] at e
        obtain ⟨e1, e2⟩ := e
        subst e2
        obtain ⟨cs, T, h1, _⟩ := this a n m rfl hlt
        simp only [List.mem_singleton] at hy
        subst hy
        exact (Array.getElem?_eq_some_iff.1 h1).1
      · cases hy
    · cases hy

theorem Core.lt {C : Ctx} {H : Hp} {h : List (Nat × Blk)} {k : List (Nat × Value)} {w : World} (c : Core C H h k w) : ∀ b ∈ claims h k, b < w.heap.size := claims_lt c.blks c.toks

/-- A call has been carried out that may turn what h1, k1 claim alone. -/
theorem hp_later {H H' : Hp} {w w' : World} {M : List Nat} {h' : List (Nat × Blk)} {k' : List (Nat × Value)} (c : Core ⟨H, w, M⟩ H' h' k' w') {b : Nat} (hlt : b < w.heap.size) (hm : b ∉ M) (h3 : ∀ o, H ⟨b, o, none⟩ = none) (o : Nat) : H' ⟨b, o, none⟩ = none := by
  cases e : H' ⟨b, o, none⟩ with
  | none => rfl
  | some v =>
    rcases c.new _ v e with x | x | x
    · have x' : H ⟨b, o, none⟩ = some v := x
      rw [h3] at x'; cases x'
    · exact absurd x (by show ¬ w.heap.size ≤ b; omega)
    · exact absurd x hm
theorem BlkOK.later {H H' : Hp} {w w' : World} {M : List Nat} {h' : List (Nat × Blk)} {k' : List (Nat × Value)} (c : Core ⟨H, w, M⟩ H' h' k' w') {p : Nat × Blk} (h : BlkOK H w p) (hm : ∀ b ∈ blkClaim p, b ∉ M) : BlkOK H' w' p := by
  obtain ⟨b, bl⟩ := p
  cases bl with
  | cells ds T =>
    obtain ⟨us, h1, h2, h3⟩ := h
    have hlt := (Array.getElem?_eq_some_iff.1 h1).1
    have hm' := hm b (by simp [blkClaim])
    exact ⟨us, by rw [c.same b hlt hm']; exact h1, Reps.mono c.le _ _ h2, hp_later c hlt hm' h3⟩
  | row kk xs y =>
    rcases h with h | ⟨b2, m, us, rest, T, e, h0, hmp, h1, h2, h3, h4⟩
    · exact .inl h
    · have hlt := (Array.getElem?_eq_some_iff.1 h1).1
      have hm' := hm b2 (by subst e; simp [blkClaim, sliceClaim, hmp])
      exact .inr ⟨b2, m, us, rest, T, e, h0, hmp, by rw [c.same b2 hlt hm']; exact h1, h2.mono c.le, h3, hp_later c hlt hm' h4⟩
  | told kk xs y => exact RepC.mono c.le _ _ h
theorem TokOK.later {H H' : Hp} {w w' : World} {M : List Nat} {h' : List (Nat × Blk)} {k' : List (Nat × Value)} (c : Core ⟨H, w, M⟩ H' h' k' w') {p : Nat × Value} (h : TokOK H w p) (hm : ∀ b ∈ tokClaim p, b ∉ M) : TokOK H' w' p := by
  obtain ⟨kk, y⟩ := p
  intro a n m e hlt
  subst e
  obtain ⟨cs, T, h1, h2, h3, h4⟩ := h a n m rfl hlt
  have hl := (Array.getElem?_eq_some_iff.1 h1).1
  have hm' := hm a.block (by simp [tokClaim, hlt])
  refine ⟨cs, T, by rw [c.same _ hl hm']; exact h1, h2, h3, fun o ho => ?_⟩
  cases e : H' ⟨a.block, o, none⟩ with
  | none => rfl
  | some v =>
    rcases c.new _ v e with x | x | x
    · have x' : H ⟨a.block, o, none⟩ = some v := x
      rw [h4 o ho] at x'; cases x'
    · exact absurd x (by show ¬ w.heap.size ≤ a.block; omega)
    · exact absurd x hm'

theorem claims_append (h1 h2 : List (Nat × Blk)) (k1 k2 : List (Nat × Value)) : (claims (h1 ++ h2) (k1 ++ k2)).Perm (claims h1 k1 ++ claims h2 k2) := by
  unfold claims
  rw [List.flatMap_append, List.flatMap_append]
  generalize List.flatMap blkClaim h1 = a
  generalize List.flatMap blkClaim h2 = b
  generalize List.flatMap tokClaim k1 = c
  generalize List.flatMap tokClaim k2 = d
  have : (a ++ b ++ (c ++ d)).Perm (a ++ c ++ (b ++ d)) := by
    rw [List.append_assoc, List.append_assoc]
    refine List.Perm.append_left a ?_
    rw [← List.append_assoc, ← List.append_assoc]
    exact List.Perm.append_right d List.perm_append_comm
  exact this

theorem Core.call {C : Ctx} {H H' : Hp} {h1 h2 h1' : List (Nat × Blk)} {k1 k2 k1' : List (Nat × Value)} {w w' : World} (c : Core C H (h1 ++ h2) (k1 ++ k2) w) (c' : Core ⟨H, w, claims h1 k1⟩ H' h1' k1' w') :
    Core C H' (h1' ++ h2) (k1' ++ k2) w' := by
  have hp := claims_append h1 h2 k1 k2
  have hp' := claims_append h1' h2 k1' k2
  have nd := hp.nodup_iff.1 c.nd
  rw [List.nodup_append] at nd
  obtain ⟨nd1, nd2, nd3⟩ := nd
  have hlt := c.lt
  have hb2 : ∀ p ∈ h2, BlkOK H w p := fun p hp => c.blks p (List.mem_append_right _ hp)
  have ht2 : ∀ p ∈ k2, TokOK H w p := fun p hp => c.toks p (List.mem_append_right _ hp)
  refine ⟨c'.ag, Hp.le_trans c.le c'.le, ?_, ?_, Nat.le_trans c.size c'.size, ?_, ?_, ?_, ?_, c.env.trans c'.env⟩
  · intro a v hv
    rcases c'.new a v hv with x | x | x
    · exact c.new a v x
    · exact .inr (.inl (Nat.le_trans c.size x))
    · rcases c.own a.block (hp.mem_iff.2 (List.mem_append_left _ x)) with y | y
      · exact .inr (.inr y)
      · exact .inr (.inl y)
  · intro b hb hm
    rw [c'.same b (Nat.lt_of_lt_of_le hb c.size) ?_, c.same b hb hm]
    intro x
    rcases c.own b (hp.mem_iff.2 (List.mem_append_left _ x)) with y | y
    · exact hm y
    · omega
  · intro p hp2
    rcases List.mem_append.1 hp2 with x | x
    · exact c'.blks p x
    · refine (hb2 p x).later c' fun b hb hm => ?_
      exact nd3 _ hm _ (by simp only [claims, List.mem_append, List.mem_flatMap]; exact .inl ⟨p, x, hb⟩) rfl
  · intro p hp2
    rcases List.mem_append.1 hp2 with x | x
    · exact c'.toks p x
    · refine (ht2 p x).later c' fun b hb hm => ?_
      exact nd3 _ hm _ (by simp only [claims, List.mem_append, List.mem_flatMap]; exact .inr ⟨p, x, hb⟩) rfl
  · rw [hp'.nodup_iff, List.nodup_append]
    refine ⟨c'.nd, nd2, fun a ha b hb e => ?_⟩
    subst e
    rcases c'.own a ha with x | x
    · exact nd3 a x a hb rfl
    · have := claims_lt hb2 ht2 a hb
      exact absurd x (by show ¬ w.heap.size ≤ a; omega)
  · intro b hb
    rcases List.mem_append.1 (hp'.mem_iff.1 hb) with x | x
    · rcases c'.own b x with y | y
      · exact c.own b (hp.mem_iff.2 (List.mem_append_left _ y))
      · exact .inr (Nat.le_trans c.size y)
    · exact c.own b (hp.mem_iff.2 (List.mem_append_right _ x))

theorem claims_perm {h h' : List (Nat × Blk)} {k k' : List (Nat × Value)} (hh : h.Perm h') (hk : k.Perm k') : (claims h k).Perm (claims h' k') :=
  List.Perm.append (hh.flatMap_right _) (hk.flatMap_right _)
theorem Core.perm {C : Ctx} {H : Hp} {h h' : List (Nat × Blk)} {k k' : List (Nat × Value)} {w : World} (c : Core C H h k w) (hh : h.Perm h') (hk : k.Perm k') : Core C H h' k' w :=
  ⟨c.ag, c.le, c.new, c.same, c.size, fun p hp => c.blks p (hh.mem_iff.2 hp), fun p hp => c.toks p (hk.mem_iff.2 hp), (claims_perm hh hk).nodup_iff.1 c.nd, fun b hb => c.own b ((claims_perm hh hk).mem_iff.2 hb), c.env⟩
theorem flatMap_sub {α β : Type} {f : α → List β} {k k' : List α} (hk : k'.Sublist k) : (k'.flatMap f).Sublist (k.flatMap f) := by
  induction hk with
  | slnil => exact List.Sublist.refl _
  | cons a _ ih => simp only [List.flatMap_cons]; exact ih.trans (List.sublist_append_right _ _)
  | cons_cons a _ ih => simp only [List.flatMap_cons]; exact List.Sublist.append (List.Sublist.refl _) ih
theorem claims_sub {h h' : List (Nat × Blk)} {k k' : List (Nat × Value)} (hh : h'.Sublist h) (hk : k'.Sublist k) : (claims h' k').Sublist (claims h k) :=
  List.Sublist.append (flatMap_sub hh) (flatMap_sub hk)
/-- Another block's content claims the same. -/
theorem claims_set {h : List (Nat × Blk)} {k : List (Nat × Value)} {j : Nat} {x y : Nat × Blk} (hj : h[j]? = some x) (e : blkClaim y = blkClaim x) : claims (h.set j y) k = claims h k := by
  unfold claims
  congr 1
  induction h generalizing j with
  | nil => simp at hj
  | cons a h ih =>
    cases j with
    | zero => simp at hj; subst hj; simp only [List.set_cons_zero, List.flatMap_cons, e]
    | succ j => simp at hj; simp only [List.set_cons_succ, List.flatMap_cons, ih hj]
theorem Core.drop {C : Ctx} {H : Hp} {h h' : List (Nat × Blk)} {k k' : List (Nat × Value)} {w : World} (c : Core C H h k w) (hh : h'.Sublist h) (hk : k'.Sublist k) : Core C H h' k' w :=
  ⟨c.ag, c.le, c.new, c.same, c.size, fun p hp => c.blks p (hh.subset hp), fun p hp => c.toks p (hk.subset hp), (claims_sub hh hk).nodup c.nd, fun b hb => c.own b ((claims_sub hh hk).subset hb), c.env⟩
end Go.Proofs.Ytpapooaaccmnpaa.Ab
