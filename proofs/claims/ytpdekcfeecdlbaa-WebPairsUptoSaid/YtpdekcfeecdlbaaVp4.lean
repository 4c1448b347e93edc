/- The texts that webPairsUpto_holds leans on, part 4. -/
import Derived.Test.YtpdekcfeecdlbaaVp3
namespace Go.Proofs.Ytpdekcfeecdlbaa
open Go Go.RowKit
set_option linter.all false
abbrev Hp := Addr → Option Value
def Hp.le (H H' : Hp) : Prop := ∀ a v, H a = some v → H' a = some v
theorem Hp.le_refl (H : Hp) : H.le H := fun _ _ h => h
theorem Hp.le_trans {H H' H'' : Hp} (h : H.le H') (k : H'.le H'') : H.le H'' := fun a v x => k a v (h a v x)
def Ag (H : Hp) (w : World) : Prop := ∀ a v, H a = some v → w.cell? a = some v
theorem cell_lt {w : World} {a : Addr} {v : Value} (h : w.cell? a = some v) : a.block < w.heap.size := by
  unfold World.cell? at h
  rcases Nat.lt_or_ge a.block w.heap.size with hl | hl
  · exact hl
  · rw [Array.getElem?_eq_none hl] at h; cases h
theorem Ag.lt {H : Hp} {w : World} (h : Ag H w) {a : Addr} {v : Value} (ha : H a = some v) : a.block < w.heap.size := cell_lt (h a v ha)
theorem Ag.below {H : Hp} {w w' : World} (h : Ag H w) (hb : Below w.heap.size w w') : Ag H w' := fun a v ha => by rw [hb.cell (p := a) (h.lt ha)]; exact h a v ha
theorem Ag.drew {H : Hp} {w : World} (h : Ag H w) : Ag H w.drew := h
theorem Ag.alloc {H : Hp} {w : World} (h : Ag H w) (o : Obj) : Ag H (w.alloc o) := h.below ((Below.refl _ _).alloc (Nat.le_refl _) o)
structure Grow (H : Hp) (w : World) (H' : Hp) (w' : World) : Prop where
  le : H.le H'
  new : ∀ a v, H' a = some v → H a = some v ∨ w.heap.size ≤ a.block
  ag : Ag H' w'
  below : Below w.heap.size w w'
theorem Grow.refl {H : Hp} {w : World} (h : Ag H w) : Grow H w H w := ⟨Hp.le_refl H, fun _ _ h => .inl h, h, Below.refl _ _⟩
theorem Grow.trans {H H1 H2 : Hp} {w w1 w2 : World} (h : Grow H w H1 w1) (k : Grow H1 w1 H2 w2) : Grow H w H2 w2 :=
  ⟨Hp.le_trans h.le k.le, fun a v x => by
    rcases k.new a v x with y | y
    · exact h.new a v y
    · exact .inr (Nat.le_trans h.below.size y), k.ag, h.below.trans (k.below.mono h.below.size)⟩
theorem Grow.drew {H H' : Hp} {w w' : World} (h : Grow H w H' w') : Grow H w H' w'.drew := ⟨h.le, h.new, h.ag, h.below.drew⟩
theorem Grow.cell {H H' : Hp} {w w' : World} (h : Grow H w H' w') : (∀ b o, b < w.heap.size → w'.cell? ⟨b, o, none⟩ = w.cell? ⟨b, o, none⟩) ∧ (∀ b o, b < w.heap.size → w'.frozen? ⟨b, o, none⟩ = w.frozen? ⟨b, o, none⟩) :=
  ⟨fun b o hb => h.below.cell (p := ⟨b, o, none⟩) hb, fun b o hb => h.below.frozen (p := ⟨b, o, none⟩) hb⟩
theorem hp_alloc (w : World) (o : Obj) (k : Nat) : (w.alloc o).heap[k]? = if k = w.heap.size then some o else w.heap[k]? := by
  show (w.heap.push o)[k]? = _
  rw [Array.getElem?_push]
def setO (off : Nat) (v : Value) : Obj → Obj
  | .cells c e fr => .cells (c.setIfInBounds off v) e fr
  | o => o
theorem hp_setCell (w : World) (b o : Nat) (v : Value) (k : Nat) : (w.setCell ⟨b, o, none⟩ v).heap[k]? = if b = k then (w.heap[k]?).map (setO o v) else w.heap[k]? := by
  simp only [World.setCell, Array.getElem?_modify]
  by_cases h : b = k
  · rw [if_pos h, if_pos h]
    cases w.heap[k]? with
    | none => rfl
    | some x => cases x <;> rfl
  · rw [if_neg h, if_neg h]
def IsPtr (v : Value) (b : Nat) : Prop := v = .pointer (some ⟨b, 0, none⟩)
theorem IsPtr.inj {v : Value} {b b' : Nat} (h : IsPtr v b) (h' : IsPtr v b') : b = b' := by
  unfold IsPtr at *; rw [h] at h'; simpa using h'
structure Blk (H : Hp) (w : World) (n : Nat) (b : Nat) (c : Array Value) (T : TypeId) : Prop where
  ge : n ≤ b
  at_ : w.heap[b]? = some (.cells c T (0, 0))
  out : ∀ o, H ⟨b, o, none⟩ = none
theorem Blk.lt {H : Hp} {w : World} {n b : Nat} {c : Array Value} {T : TypeId} (h : Blk H w n b c T) : b < w.heap.size := (Array.getElem?_eq_some_iff.1 h.at_).1
theorem Blk.new {H : Hp} {w : World} (hA : Ag H w) {n : Nat} (hn : n ≤ w.heap.size) (c : Array Value) (T : TypeId) : Blk H (w.alloc (.cells c T)) n w.heap.size c T :=
  ⟨hn, by show (w.heap.push _)[w.heap.size]? = _; simp, fun o => by
    cases e : H ⟨w.heap.size, o, none⟩ with
    | none => rfl
    | some v => exact absurd (hA.lt e) (Nat.lt_irrefl _)⟩
theorem Blk.alloc {H : Hp} {w : World} {n b : Nat} {c : Array Value} {T : TypeId} (h : Blk H w n b c T) (o : Obj) : Blk H (w.alloc o) n b c T :=
  ⟨h.ge, by rw [hp_alloc, if_neg (by have := h.lt; omega)]; exact h.at_, h.out⟩
theorem Blk.drew {H : Hp} {w : World} {n b : Nat} {c : Array Value} {T : TypeId} (h : Blk H w n b c T) : Blk H w.drew n b c T := ⟨h.ge, h.at_, h.out⟩
theorem Blk.set {H : Hp} {w : World} {n b : Nat} {c : Array Value} {T : TypeId} (h : Blk H w n b c T) (o : Nat) (v : Value) : Blk H (w.setCell ⟨b, o, none⟩ v) n b (c.setIfInBounds o v) T :=
  ⟨h.ge, by rw [hp_setCell, if_pos rfl, h.at_]; rfl, h.out⟩
theorem Blk.below {H : Hp} {w w' : World} {n b : Nat} {c : Array Value} {T : TypeId} (h : Blk H w n b c T) (hb : Below w.heap.size w w') : Blk H w' n b c T :=
  ⟨h.ge, by rw [hb.block b h.lt]; exact h.at_, h.out⟩
theorem Blk.cell {H : Hp} {w : World} {n b : Nat} {c : Array Value} {T : TypeId} (h : Blk H w n b c T) (o : Nat) : w.cell? ⟨b, o, none⟩ = c[o]? := by
  simp [World.cell?, h.at_]
theorem Blk.frozen {H : Hp} {w : World} {n b : Nat} {c : Array Value} {T : TypeId} (h : Blk H w n b c T) (o : Nat) : w.frozen? ⟨b, o, none⟩ = false := by
  simp [World.frozen?, h.at_]
structure St where
  r : Hp → World → Value → Prop
  st : ∀ H w H' w', Grow H w H' w' → ∀ v, r H w v → r H' w' v
def St.tt : St := ⟨fun _ _ _ => True, fun _ _ _ _ _ _ h => h⟩
def St.is (p : Value → Prop) : St := ⟨fun _ _ v => p v, fun _ _ _ _ _ _ h => h⟩
def St.hp (p : Hp → Value → Prop) (hp : ∀ H H', Hp.le H H' → ∀ v, p H v → p H' v) : St := ⟨fun H _ v => p H v, fun H _ H' _ hg v h => hp H H' hg.le v h⟩
section
variable {P : Program} {ops : Array Oper} {Q : Exit → Act → World → Prop} {H0 : Hp} {w0 : World} {R : Nat → St} {pre : List (List Nat)} {ev al : List Nat} {l2 : List Oper} {vals : Nat → Value} {i : Nat} {o : Oper} {rest : List Oper} {a : Act}
def Cls (H0 : Hp) (w0 : World) (R : Nat → St) (al : List Nat) (S : Nat → Bool) (vals : Nat → Value) (w : World) : Prop :=
  ∃ H, Grow H0 w0 H w ∧ (∀ e, S e = true → (R e).r H w (vals e)) ∧ (∀ e ∈ al, S e = true → ∃ b, IsPtr (vals e) b ∧ b < w.heap.size) ∧
    ∀ e ∈ al, ∀ e' ∈ al, e ≠ e' → S e = true → S e' = true → ∀ b, IsPtr (vals e) b → ¬ IsPtr (vals e') b
def Ls (P : Program) (ops : Array Oper) (Q : Exit → Act → World → Prop) (H0 : Hp) (w0 : World) (R : Nat → St) (pre : List (List Nat)) (ev al : List Nat) (l2 : List Oper) (vals : Nat → Value) : Nat → List Oper → Act → Prop :=
  Jx.Lx P ops (Cls H0 w0 R al) (fun i => pre.getD i []) (fun i => ev.contains i) vals (fun a => ∀ S w, (∀ i, ev.contains i = true → S i = true) → Cls H0 w0 R al S vals w → wpList P ops Q l2 a w)
theorem ls_quiet {out : Value} (hw : Region.wanted o (yielded ops a.tmps) = true) (he : ev.contains i = false)
    (h : ∀ H w, Grow H0 w0 H w → (∀ k ∈ pre.getD i [], (R k).r H w (vals k)) → (execOp a.eval o).run P w = .ok (.value out) w) (k : Ls P ops Q H0 w0 R pre ev al l2 vals (i + 1) rest (a.put o.dst out)) :
    Ls P ops Q H0 w0 R pre ev al l2 vals i (o :: rest) a := by
  refine ⟨out, ?_, k⟩
  unfold Jx.OK
  rw [if_pos hw, if_neg (by show ¬ ev.contains i = true; rw [he]; exact Bool.false_ne_true)]
  exact fun S w ⟨H, hg, hr, _⟩ hp => h H w hg fun k hk => hr k (hp k hk)
theorem lsq (hw : Region.wanted o (yielded ops a.tmps) = true) (he : ev.contains i = false)
    (h : ∃ out, (∀ H w, Grow H0 w0 H w → (∀ k ∈ pre.getD i [], (R k).r H w (vals k)) → (execOp a.eval o).run P w = .ok (.value out) w) ∧ Ls P ops Q H0 w0 R pre ev al l2 vals (i + 1) rest (a.put o.dst out)) :
    Ls P ops Q H0 w0 R pre ev al l2 vals i (o :: rest) a := let ⟨_, h1, h2⟩ := h; ls_quiet hw he h1 h2
theorem ls_skip (hw : Region.wanted o (yielded ops a.tmps) = false) (he : ev.contains i = false) (k : Ls P ops Q H0 w0 R pre ev al l2 vals (i + 1) rest (a.put o.dst undef)) : Ls P ops Q H0 w0 R pre ev al l2 vals i (o :: rest) a := by
  refine ⟨undef, ?_, k⟩
  unfold Jx.OK
  rw [if_neg (by rw [hw]; exact Bool.false_ne_true)]
  exact ⟨rfl, fun h => by have h2 : ev.contains i = true := h; rw [he] at h2; cases h2⟩
theorem ls_ev (hw : Region.wanted o (yielded ops a.tmps) = true) (he : ev.contains i = true) (hal : al.contains i = false)
    (h : ∀ H w, Grow H0 w0 H w → (∀ k ∈ pre.getD i [], (R k).r H w (vals k)) → Jx.Gives P o a w fun v w' => ∃ H', Grow H w H' w' ∧ (R i).r H' w' v)
    (k : Ls P ops Q H0 w0 R pre ev al l2 vals (i + 1) rest (a.put o.dst (vals i))) : Ls P ops Q H0 w0 R pre ev al l2 vals i (o :: rest) a := by
  refine ⟨vals i, ?_, k⟩
  have hni : ∀ e ∈ al, e ≠ i := fun e hea h => by subst h; rw [← Bool.not_eq_true, List.contains_iff_mem] at hal; exact hal hea
  unfold Jx.OK
  rw [if_pos hw, if_pos he]
  refine ⟨rfl, fun S w ⟨H, hg, hr, hp1, hp2⟩ hS hp => (h H w hg fun k hk => hr k (hp k hk)).mono fun v w' ⟨H', hg', hv⟩ => ⟨H', hg.trans hg', fun e hes => ?_, fun e hea hes => ?_, fun e hea e' hea' hne hes hes' b => ?_⟩⟩
  · by_cases hei : e = i
    · subst hei; rw [Jx.upd_same]; exact hv
    · rw [Jx.upd_ne _ _ hei] at hes ⊢; exact (R e).st H w H' w' hg' _ (hr e hes)
  · rw [Jx.upd_ne _ _ (hni e hea)] at hes ⊢
    obtain ⟨b, hb, hl⟩ := hp1 e hea hes
    exact ⟨b, hb, Nat.lt_of_lt_of_le hl hg'.below.size⟩
  · rw [Jx.upd_ne _ _ (hni e hea)] at hes ⊢
    rw [Jx.upd_ne _ _ (hni e' hea')] at hes' ⊢
    exact hp2 e hea e' hea' hne hes hes' b
theorem ls_nil (h : ∀ H w, Grow H0 w0 H w → (∀ e ∈ ev, (R e).r H w (vals e)) → (∀ e ∈ al, ∀ e' ∈ al, e ≠ e' → e ∈ ev → e' ∈ ev → ∀ b, IsPtr (vals e) b → ¬ IsPtr (vals e') b) → wpList P ops Q l2 a w) : Ls P ops Q H0 w0 R pre ev al l2 vals i [] a :=
  fun S w hS ⟨H, hg, hr, _, hp2⟩ => h H w hg (fun e he => hr e (hS e (by simpa using he))) fun e hea e' hea' hne he he' b => hp2 e hea e' hea' hne (hS e (by simpa using he)) (hS e' (by simpa using he')) b
theorem ls_region {id : Nat} {l1 : List Oper} (R : Nat → St) (pre : List (List Nat)) (ev al : List Nat) (tp : List (List Nat)) (hA : Ag H0 w0) (hm : P.follows .mixedOrders = true) (hsl : Jx.slotsB (l1 ++ l2).toArray = true)
    (hp : Jx.preB (l1 ++ l2).toArray (fun i => pre.getD i []) = true) (hpe : pre.all (·.all ev.contains) = true) (hev : ev.all (· < l1.length) = true) (hsuf : Jx.sufB (l1 ++ l2).toArray tp l1.length = true)
    (hwalk : ∀ vals, Ls P (l1 ++ l2).toArray Q H0 w0 R pre ev al l2 vals 0 l1 a) : (Code.region id (l1 ++ l2).toArray true).wp P Q a w0 := by
  refine Jx.region_any (Cls H0 w0 R al) (fun i => pre.getD i []) (fun i => ev.contains i) tp hm hsl hp ?_ ?_ hsuf ?_ ?_ hwalk
  · intro i k hk
    rw [List.all_eq_true] at hpe
    by_cases hi : i < pre.length
    · have e : pre.getD i [] = pre[i] := by simp [hi]
      rw [e] at hk
      exact List.all_eq_true.1 (hpe _ (List.getElem_mem hi)) k hk
    · have e : pre.getD i [] = [] := by simp [Nat.le_of_not_lt hi]
      rw [e] at hk; cases hk
  · intro i hi
    rw [List.all_eq_true] at hev
    simpa using hev i (by simpa using hi)
  · rintro S vals vals' w hv ⟨H, hg, hr, hp1, hp2⟩
    exact ⟨H, hg, fun e he => hv e he ▸ hr e he, fun e hea he => hv e he ▸ hp1 e hea he, fun e hea e' hea' hne he he' b => hv e he ▸ hv e' he' ▸ hp2 e hea e' hea' hne he he' b⟩
  · exact fun vals => ⟨H0, (Grow.refl hA).drew, fun e he => absurd he Bool.false_ne_true, fun e _ he => absurd he Bool.false_ne_true, fun e _ e' _ _ he => absurd he Bool.false_ne_true⟩
theorem gives_call {o : Oper} {a : Act} {w : World} {K : Value → World → Prop} {f : FuncId} (h : ∃ args, (execOp a.eval o).run P w = .ok (.enter f args) w ∧ Calls P f args w fun e w'' => ∃ v, e = .returned v ∧ K v w'') : Jx.Gives P o a w K := by
  obtain ⟨args, h1, h2⟩ := h
  unfold Jx.Gives
  rw [h1]
  exact h2
theorem ls_take {id : Nat} {l : List Oper} (m : Nat) (R : Nat → St) (pre : List (List Nat)) (ev al : List Nat) (tp : List (List Nat)) (hA : Ag H0 w0) (hm : P.follows .mixedOrders = true) (hsl : Jx.slotsB l.toArray = true)
    (hp : Jx.preB l.toArray (fun i => pre.getD i []) = true) (hpe : pre.all (·.all ev.contains) = true) (hev : ev.all (· < (l.take m).length) = true) (hsuf : Jx.sufB l.toArray tp (l.take m).length = true)
    (hwalk : ∀ vals, Ls P l.toArray Q H0 w0 R pre ev al (l.drop m) vals 0 (l.take m) a) : (Code.region id l.toArray true).wp P Q a w0 := by
  have h := ls_region (P := P) (Q := Q) (H0 := H0) (w0 := w0) (a := a) (id := id) (l1 := l.take m) (l2 := l.drop m) R pre ev al tp hA hm (by rw [List.take_append_drop]; exact hsl) (by rw [List.take_append_drop]; exact hp) hpe hev (by rw [List.take_append_drop]; exact hsuf)
    (by rw [List.take_append_drop]; exact hwalk)
  rw [List.take_append_drop] at h
  exact h
end
end Go.Proofs.Ytpdekcfeecdlbaa
namespace Go.Proofs.Ytpdekcfeecdlbaa.Ab
open Go Go.RowKit Go.Shelf Go.Proofs Go.Proofs.Ytpdekcfeecdlbaa.Ab.Pq
set_option linter.all false
theorem grow_core {H H' : Hp} {w w' : World} (c : Core ⟨H, w, []⟩ H' [] [] w') : Grow H w H' w' :=
  ⟨c.le, fun a v e => (c.new a v e).imp id (fun q => q.elim id (by simp)), c.ag, below_core c⟩
theorem core_grow {H H' : Hp} {w w' : World} (g : Grow H w H' w') : Core ⟨H, w, []⟩ H' [] [] w' :=
  ⟨g.ag, g.le, fun a v e => (g.new a v e).imp id .inl, fun b hb _ => g.below.block b hb, g.below.size, by simp, by simp, by simp [claims], by simp [claims], ⟨g.below.os, g.below.tape, g.below.output, Nat.le_refl _⟩⟩
theorem g_row {f : FuncId} {us : Array Value} {l : List TApiKey} {H : Hp} {w : World} (c : Calls Try.prog f us w fun e w' => ∃ z : Z3, e = .returned (SL z) ∧ Core ⟨H, w, []⟩ H [(0, .row 2 (l.map eTApiKey) (SL z))] [] w') :
    Calls Try.prog f us w fun e w' => ∃ v, e = .returned v ∧ ∃ H', Grow H w H' w' ∧ KL H' l v :=
  c.mono fun e w' ⟨z, he, hc⟩ => by
    obtain ⟨H', hle, c', hk⟩ := core_tell hc
    exact ⟨SL z, he, H', grow_core c', hk⟩
theorem g_on {C : Ctx} {H : Hp} {z : YW} {W : World} {B : Nat} {ps : List Pr} (c : Core C H (webH z) [] W) (r : WR B ps (tieL z.e1) (tieL z.e2)) (hB : B < 4398046511104) {H2 : Hp} {w2 : World} (g : Grow H W H2 w2) (x : TApiKey) :
    Calls Try.prog 14 #[.pointer (some ⟨z.p, 0, none⟩), encK x] w2 fun e w' => ∃ v, e = .returned v ∧ ∃ H', Grow H2 w2 H' w' ∧ KL H' (onP ps (clK x)) v := by
  have cw := Core.call (h1 := []) (k1 := []) (k2 := []) c (core_grow g)
  have q1 := r.g1.2 (clK x)
  have q2 := r.onE (clK x)
  rw [mgetL] at q1 q2
  rw [← q2]
  exact g_row (On_calls H2 w2 g.ag z cw.blks x (Nat.lt_of_le_of_lt q1.2 hB))
theorem g_of {C : Ctx} {H : Hp} {z : YW} {W : World} {B : Nat} {ps : List Pr} (c : Core C H (webH z) [] W) (r : WR B ps (tieL z.e1) (tieL z.e2)) (hB : B < 4398046511104) {H2 : Hp} {w2 : World} (g : Grow H W H2 w2) (x : TApiKey) :
    Calls Try.prog 16 #[.pointer (some ⟨z.p, 0, none⟩), encK x] w2 fun e w' => ∃ v, e = .returned v ∧ ∃ H', Grow H2 w2 H' w' ∧ KL H' (ofP ps (clK x)) v := by
  have cw := Core.call (h1 := []) (k1 := []) (k2 := []) c (core_grow g)
  have q1 := r.g2.2 (clK x)
  have q2 := r.ofE (clK x)
  rw [mgetL] at q1 q2
  rw [← q2]
  exact g_row (Of_calls H2 w2 g.ag z cw.blks x (Nat.lt_of_le_of_lt q1.2 hB))
theorem kl_st {l : List TApiKey} : ∀ H H' : Hp, Hp.le H H' → ∀ v, KL H l v → KL H' l v := fun _ _ h _ k => KL.mono h k
end Go.Proofs.Ytpdekcfeecdlbaa.Ab
namespace Go.Proofs.Ytpdekcfeecdlbaa.Ab
open Go Go.Proofs.Ytpdekcfeecdlbaa.Ab.Pq
set_option linter.all false
theorem wt_ops : ∀ l : List TSondagelaw29Op, l.length ≤ wts (l.map eTSondagelaw29Op)
  | [] => Nat.zero_le _
  | x :: l => by
    have := wt_ops l
    simp only [List.map_cons, wts, List.length_cons, eTSondagelaw29Op, wt, wtv]; omega
end Go.Proofs.Ytpdekcfeecdlbaa.Ab
namespace Go.Proofs.Ytpdekcfeecdlbaa.Ab
open Go Go.RowKit Go.Shelf Go.Proofs Go.Proofs.Ytpdekcfeecdlbaa.Ab.Pq
set_option linter.all false
theorem g_doc {f : FuncId} {ds : List D} {us : Array Value} {kk : Nat} {xs : List D} (c : CallsD Try.prog f ds [] [] (fun d h k => ∃ y0, d = .lst kk xs (.cur y0) ∧ h = [] ∧ k = [(kk, y0)])) {H : Hp} {w : World} (hA : Ag H w) (hv : RepsV H ds us.toList) :
    Calls Try.prog f us w fun e w' => ∃ v, e = .returned v ∧ ∃ H', Grow H w H' w' ∧ Rep H' (.lst kk xs .no) v :=
  (doc_calls c (Core.here hA) hv).mono fun e w' ⟨H', v, he, _, hc, hk⟩ => ⟨v, he, H', grow_core hc, hk⟩
theorem g_keys {H : Hp} {w : World} (hA : Ag H w) {l : List TApiKey} {u v : Value} (hu : KL H l u) (hv : KL H l v) (h1 : l.length ≤ 4611686018427387904) :
    Calls Try.prog 9 #[u, v] w fun e w' => ∃ r, e = .returned r ∧ ∃ H', Grow H w H' w' ∧ r = .bool true :=
  (doc_keys (Core.here hA) hu hv h1).mono fun e w' ⟨he, hc⟩ => ⟨_, he, H, grow_core hc, rfl⟩
theorem g_bel {f : FuncId} {us : Array Value} {x : Value} {H : Hp} {w : World} (hA : Ag H w) (c : Calls Try.prog f us w fun e w' => e = .returned x ∧ Below w.heap.size w w') :
    Calls Try.prog f us w fun e w' => ∃ r, e = .returned r ∧ ∃ H', Grow H w H' w' ∧ r = x :=
  c.mono fun e w' ⟨he, hb⟩ => ⟨_, he, H, grow_core (core_below0 hA hb), rfl⟩
set_option maxRecDepth 100000 in
set_option maxHeartbeats 8000000 in
theorem WebPairs_D (ops : List TSondagelaw29Op) (x : TApiKey) (h1 : ops.length ≤ 1048576) :
    CallsD Try.prog 4 [.lst 5 (ops.map eTSondagelaw29Op) .no, eTApiKey x] [] [] (fun d h k => d = .v (.bool true) ∧ h = [] ∧ k = []) := by
  refine ⟨⟨_, Try.func4, rfl, rfl⟩, fun H w vs hv hA _ _ _ => ?_⟩
  simp only [RepsV] at hv
  obtain ⟨u1, _, rfl, g1, u2, _, rfl, g2, rfl⟩ := hv
  replace g1 : Rep H (.lst 5 (ops.map eTSondagelaw29Op) .no) u1 := g1
  obtain rfl : u2 = encK x := rep_va_inv (us := kc2 x) g2
  clear g2
  have mixed : Try.prog.follows .mixedOrders = true := by kernel_rfl
  suffices hs : Calls Try.prog 4 #[u1, encK x] w fun e w' => e = .returned (.bool true) ∧ Below w.heap.size w w' from
    hs.mono fun e w' ⟨he, hb⟩ => ⟨_, H, .v (.bool true), [], [], he, rep_v rfl, core_below0 hA hb, rfl, rfl, rfl⟩
  obtain ⟨H2, l2, c2, t1⟩ := tell_key (Core.here hA) x 34
  obtain ⟨W2, hW2⟩ : ∃ W2, W2 = w.alloc (.cells #[.string x.gName, .int .i64 x.gNode] 34) := ⟨_, rfl⟩
  rw [← hW2] at c2
  replace g1 := g1.mono l2
  have hb2 := below_core c2
  have hA2 := c2.ag
  clear l2
  have hnew := New_calls H2 W2 hA2
  obtain ⟨va, vm, rfl⟩ := rep_slm g1
  simp only [encK]
  go_enter Try.func4, Try.ntmps4
  go_wp2_with fail
  rw [← hW2]
  clear hW2
  refine hnew.mono ?_
  rintro e W1 ⟨z, rfl, c1, hz1, hz2⟩
  clear hnew
  have hplay := play_calls c1 hz1 hz2 g1 h1
  go_wp2_with fail
  refine hplay.mono ?_
  rintro e W3 ⟨v', rfl, ⟨H3, z3, ps, l3, hp3, c3, k3, r3, n3⟩⟩
  clear hplay hz1 hz2 c1
  replace t1 := t1.mono l3
  have hA3 : Go.Proofs.Ytpdekcfeecdlbaa.Ag H3 W3 := c3.ag
  have no1 : (ofP ps (clK x)).length ≤ 4611686018427387904 := Nat.le_trans (Nat.le_trans (rowK_all _).2.2 (by rw [List.length_map]; exact List.length_filter_le _ _)) (by omega)
  have no2 : (onP ps (clK x)).length ≤ 4611686018427387904 := Nat.le_trans (Nat.le_trans (rowK_all _).2.2 (by rw [List.length_map]; exact List.length_filter_le _ _)) (by omega)
  obtain ⟨xa, xm, rfl⟩ := rep_slm k3
  go_wp2_with fail
  refine ls_take (H0 := H3) 20 (fun e => match e with | 2 => .hp (fun H v => KL H (onP ps (clK x)) v) kl_st | 5 => .hp (fun H v => KL H (onP ps (clK x)) v) kl_st | 6 => .is (· = .bool true) | 10 => .hp (fun H v => KL H (ofP ps (clK x)) v) kl_st | 13 => .hp (fun H v => KL H (ofP ps (clK x)) v) kl_st | 14 => .is (· = .bool true) | 17 => .is (· = .bool true) | _ => .tt) [[],[],[],[],[],[],[2,5],[6],[],[],[],[],[],[],[10,13],[14],[],[],[17],[]] [2,5,6,10,13,14,17] [] [[],[],[0,1],[],[],[0,1,2,3,4],[0,1,2,3,4,5],[0,1,2,3,4,5,6],[0,1,2,3,4,5,6,7],[0,1,2,3,4,5,6,7],[0,1,2,3,4,5,6,7,8,9],[0,1,2,3,4,5,6,7],[0,1,2,3,4,5,6,7],[0,1,2,3,4,5,6,7,8,9,10,11,12],[0,1,2,3,4,5,6,7,8,9,10,11,12,13],[0,1,2,3,4,5,6,7,8,9,10,11,12,13,14],[0,1,2,3,4,5,6,7,8,9,10,11,12,13,14,15],[0,1,2,3,4,5,6,7,8,9,10,11,12,13,14,15,16],[0,1,2,3,4,5,6,7,8,9,10,11,12,13,14,15,16,17],[0,1,2,3,4,5,6,7,8,9,10,11,12,13,14,15,16,17,18]] (by assumption) (by kernel_rfl) (by kernel_rfl) (by kernel_rfl) (by rfl) (by rfl) (by kernel_rfl) ?_
  intro vals
  refine lsq (by rfl) (by rfl) ?_; apply Exists.intro; refine ⟨fun H w2 hg hp => ?_, ?_⟩
  · (first | (go_simp; rfl) | go_simp)
  (try simp only [Act.put, List.setIfInBounds_toArray, List.set_cons_zero, List.set_cons_succ])
  refine lsq (by rfl) (by rfl) ?_; apply Exists.intro; refine ⟨fun H w2 hg hp => ?_, ?_⟩
  · obtain ⟨a0, a1⟩ := told_box (W := w2) hg.ag (t1.mono hg.le); (first | (go_simp; rfl) | go_simp)
  (try simp only [Act.put, List.setIfInBounds_toArray, List.set_cons_zero, List.set_cons_succ])
  refine ls_ev (by rfl) (by rfl) (by rfl) (fun H w2 hg hp => ?_) ?_
  · refine gives_call (f := 14) ?_; apply Exists.intro; refine ⟨?_, ?_⟩
    · (first | (go_simp; rfl) | go_simp)
    · have h := g_on c3 r3 (by omega) hg x; rw [hp3] at h; exact h
  (try simp only [Act.put, List.setIfInBounds_toArray, List.set_cons_zero, List.set_cons_succ])
  refine lsq (by rfl) (by rfl) ?_; apply Exists.intro; refine ⟨fun H w2 hg hp => ?_, ?_⟩
  · (first | (go_simp; rfl) | go_simp)
  (try simp only [Act.put, List.setIfInBounds_toArray, List.set_cons_zero, List.set_cons_succ])
  refine lsq (by rfl) (by rfl) ?_; apply Exists.intro; refine ⟨fun H w2 hg hp => ?_, ?_⟩
  · obtain ⟨a0, a1⟩ := told_box (W := w2) hg.ag (t1.mono hg.le); (first | (go_simp; rfl) | go_simp)
  (try simp only [Act.put, List.setIfInBounds_toArray, List.set_cons_zero, List.set_cons_succ])
  refine ls_ev (by rfl) (by rfl) (by rfl) (fun H w2 hg hp => ?_) ?_
  · refine gives_call (f := 15) ?_; apply Exists.intro; refine ⟨?_, ?_⟩
    · (first | (go_simp; rfl) | go_simp)
    · exact g_doc (us := #[.slice xa ps.length xm, encK x]) (r29_On_ok ps x _ (ron_eq ps x (by omega))) hg.ag (by simp only [RepsV]; exact ⟨_, _, rfl, PL.mono k3 hg.le, _, _, rfl, rep_key _ x, rfl⟩)
  (try simp only [Act.put, List.setIfInBounds_toArray, List.set_cons_zero, List.set_cons_succ])
  refine ls_ev (by rfl) (by rfl) (by rfl) (fun H w2 hg hp => ?_) ?_
  · refine gives_call (f := 9) ?_; apply Exists.intro; refine ⟨?_, ?_⟩
    · (first | (go_simp; rfl) | go_simp)
    · exact g_keys hg.ag (hp 2 (by simp)) (hp 5 (by simp)) no2
  (try simp only [Act.put, List.setIfInBounds_toArray, List.set_cons_zero, List.set_cons_succ])
  refine lsq (by rfl) (by rfl) ?_; apply Exists.intro; refine ⟨fun H w2 hg hp => ?_, ?_⟩
  · have hv6 : vals 6 = .bool true := hp 6 (by simp); (first | (go_simp; rfl) | go_simp)
  (try simp only [Act.put, List.setIfInBounds_toArray, List.set_cons_zero, List.set_cons_succ])
  first | refine ls_skip (by rfl) (by rfl) ?_ | (refine lsq (by rfl) (by rfl) ?_; apply Exists.intro; refine ⟨fun H w2 hg hp => ?_, ?_⟩; focus ((first | (go_simp; rfl) | go_simp)))
  (try simp only [Act.put, List.setIfInBounds_toArray, List.set_cons_zero, List.set_cons_succ])
  first | refine ls_skip (by rfl) (by rfl) ?_ | (refine lsq (by rfl) (by rfl) ?_; apply Exists.intro; refine ⟨fun H w2 hg hp => ?_, ?_⟩; focus (obtain ⟨a0, a1⟩ := told_box (W := w2) hg.ag (t1.mono hg.le); (first | (go_simp; rfl) | go_simp)))
  (try simp only [Act.put, List.setIfInBounds_toArray, List.set_cons_zero, List.set_cons_succ])
  refine ls_ev (by rfl) (by rfl) (by rfl) (fun H w2 hg hp => ?_) ?_
  · refine gives_call (f := 16) ?_; apply Exists.intro; refine ⟨?_, ?_⟩
    · (first | (go_simp; rfl) | go_simp)
    · have h := g_of c3 r3 (by omega) hg x; rw [hp3] at h; exact h
  (try simp only [Act.put, List.setIfInBounds_toArray, List.set_cons_zero, List.set_cons_succ])
  first | refine ls_skip (by rfl) (by rfl) ?_ | (refine lsq (by rfl) (by rfl) ?_; apply Exists.intro; refine ⟨fun H w2 hg hp => ?_, ?_⟩; focus ((first | (go_simp; rfl) | go_simp)))
  (try simp only [Act.put, List.setIfInBounds_toArray, List.set_cons_zero, List.set_cons_succ])
  first | refine ls_skip (by rfl) (by rfl) ?_ | (refine lsq (by rfl) (by rfl) ?_; apply Exists.intro; refine ⟨fun H w2 hg hp => ?_, ?_⟩; focus (obtain ⟨a0, a1⟩ := told_box (W := w2) hg.ag (t1.mono hg.le); (first | (go_simp; rfl) | go_simp)))
  (try simp only [Act.put, List.setIfInBounds_toArray, List.set_cons_zero, List.set_cons_succ])
  refine ls_ev (by rfl) (by rfl) (by rfl) (fun H w2 hg hp => ?_) ?_
  · refine gives_call (f := 17) ?_; apply Exists.intro; refine ⟨?_, ?_⟩
    · (first | (go_simp; rfl) | go_simp)
    · exact g_doc (us := #[.slice xa ps.length xm, encK x]) (r29_Of_ok ps x _ (rof29_eq ps x (by omega))) hg.ag (by simp only [RepsV]; exact ⟨_, _, rfl, PL.mono k3 hg.le, _, _, rfl, rep_key _ x, rfl⟩)
  (try simp only [Act.put, List.setIfInBounds_toArray, List.set_cons_zero, List.set_cons_succ])
  refine ls_ev (by rfl) (by rfl) (by rfl) (fun H w2 hg hp => ?_) ?_
  · refine gives_call (f := 9) ?_; apply Exists.intro; refine ⟨?_, ?_⟩
    · (first | (go_simp; rfl) | go_simp)
    · exact g_keys hg.ag (hp 10 (by simp)) (hp 13 (by simp)) no1
  (try simp only [Act.put, List.setIfInBounds_toArray, List.set_cons_zero, List.set_cons_succ])
  refine lsq (by rfl) (by rfl) ?_; apply Exists.intro; refine ⟨fun H w2 hg hp => ?_, ?_⟩
  · have hv14 : vals 14 = .bool true := hp 14 (by simp); (first | (go_simp; rfl) | go_simp)
  (try simp only [Act.put, List.setIfInBounds_toArray, List.set_cons_zero, List.set_cons_succ])
  refine lsq (by rfl) (by rfl) ?_; apply Exists.intro; refine ⟨fun H w2 hg hp => ?_, ?_⟩
  · (first | (go_simp; rfl) | go_simp)
  (try simp only [Act.put, List.setIfInBounds_toArray, List.set_cons_zero, List.set_cons_succ])
  refine ls_ev (by rfl) (by rfl) (by rfl) (fun H w2 hg hp => ?_) ?_
  · refine gives_call (f := 13) ?_; apply Exists.intro; refine ⟨?_, ?_⟩
    · (first | (go_simp; rfl) | go_simp)
    · exact g_bel hg.ag (lives_calls _ w2 hg.ag)
  (try simp only [Act.put, List.setIfInBounds_toArray, List.set_cons_zero, List.set_cons_succ])
  refine lsq (by rfl) (by rfl) ?_; apply Exists.intro; refine ⟨fun H w2 hg hp => ?_, ?_⟩
  · have hv17 : vals 17 = .bool true := hp 17 (by simp); (first | (go_simp; rfl) | go_simp)
  (try simp only [Act.put, List.setIfInBounds_toArray, List.set_cons_zero, List.set_cons_succ])
  refine lsq (by rfl) (by rfl) ?_; apply Exists.intro; refine ⟨fun H w2 hg hp => ?_, ?_⟩
  · (first | (go_simp; rfl) | go_simp)
  refine ls_nil (fun H w2 hg hr hd => ?_)
  have e6 : vals 6 = .bool true := hr 6 (by simp)
  have e14 : vals 14 = .bool true := hr 14 (by simp)
  have e17 : vals 17 = .bool true := hr 17 (by simp)
  simp only [e6, e14, e17, Act.put, List.setIfInBounds_toArray, List.set_cons_zero, List.set_cons_succ, List.drop_succ_cons, List.drop_zero]
  refine wpList_nil ?_
  have c6 := Core.call (h1 := []) (k1 := []) (k2 := []) c3 (core_grow hg)
  go_wp2
  go_ret
  have hbz := below_core (c6.drop (List.nil_sublist _) (List.Sublist.refl _))
  exact ⟨rfl, hb2.trans (hbz.mono hb2.size)⟩
theorem WebPairs_U (a0 : List TSondagelaw29Op) (a1 : TApiKey) (h : wt (.lst 5 (a0.map eTSondagelaw29Op) .no) + wt (eTApiKey a1) ≤ 1048576) (_ : wfL22 a0) (_ : wfTApiKey a1) :
    CallsD Try.prog 4 [.lst 5 (a0.map eTSondagelaw29Op) .no, eTApiKey a1] [] [] (fun d h k => d = .v (.bool true) ∧ h = [] ∧ k = []) := by
  have h0 := wt_ops a0
  simp only [wt] at h
  exact WebPairs_D a0 a1 (by omega)
end Go.Proofs.Ytpdekcfeecdlbaa.Ab
namespace Go.Proofs.Ytpdekcfeecdlbaa
open Go.ChangeShapes Go.WideShapes Go.ChangeAt Go.RowKit Go.Joins
set_option linter.all false
mutual
theorem bulk_leWebPairs {H : Type} : ∀ d : DataW H, Ab.bulk d ≤ Rows.uptoBulk d
  | .lit (.string bytes) => by simp [Ab.bulk, Rows.uptoBulk]
  | .lit (.int _ _) => by simp [Ab.bulk, Rows.uptoBulk]
  | .lit (.bool _) => by simp [Ab.bulk, Rows.uptoBulk]
  | .lit l => by cases l <;> simp [Ab.bulk, Rows.uptoBulk]
  | .nil => by simp [Ab.bulk, Rows.uptoBulk]
  | .ptr d => by have := bulk_leWebPairs d; simp only [Ab.bulk, Rows.uptoBulk]; omega
  | .slice elems spare => by have h1 := bulkAll_leWebPairs elems; have h2 := bulkAll_leWebPairs spare; simp only [Ab.bulk, Rows.uptoBulk]; omega
  | .agg parts => by have := bulkAll_leWebPairs parts; simp only [Ab.bulk, Rows.uptoBulk]; omega
  | .iface t d => by have := bulk_leWebPairs d; simp only [Ab.bulk, Rows.uptoBulk]; omega
  | .map entries => by simp [Ab.bulk, Rows.uptoBulk]
  | .held h => by simp [Ab.bulk, Rows.uptoBulk]
theorem bulkAll_leWebPairs {H : Type} : ∀ l : List (DataW H), Ab.bulkAll l ≤ Rows.uptoBulkAll l
  | [] => by simp [Ab.bulkAll, Rows.uptoBulkAll]
  | d :: l => by have h1 := bulk_leWebPairs d; have h2 := bulkAll_leWebPairs l; simp only [Ab.bulkAll, Rows.uptoBulkAll]; omega
end
set_option maxRecDepth 100000 in
theorem liftedWebPairsUpto (os : Os) (started : os.Started) (H : Type) (enc : TypeId × Value → H) (Fi : Stop.Interp) :
    ReturnsInHanded {} Try.checked os 4 .any ((Rows.OpenSpec.upto Rows.webPairsSpec).pre6 enc Try.prog Try.f4 Rows.webPairsUptoRow.domain false) (((Rows.OpenSpec.upto Rows.webPairsSpec).at Fi).post enc Try.prog Try.f4 false true false false) := by
  refine returnsInHanded_of_cond (C := Try.checked) (s := Rows.OpenSpec.upto Rows.webPairsSpec) (k := Rows.uptoSmall) rfl own started (by kernel_rfl) Try.func4
    (OpenSpec.witness (enc := enc) (C := Try.checked) (s := Rows.OpenSpec.upto Rows.webPairsSpec) (k := Rows.uptoSmall) rfl false ⟨#[], #[.slice none 0 0, .agg #[.string ByteArray.empty, .int .i64 0]], []⟩ 8 (by kernel_rfl) (by kernel_rfl) (by kernel_rfl)
      (x := ([.nil, .agg [.lit (.string []), .lit (.int .i64 0)]], [], [])) (by kernel_rfl) rfl (by kernel_rfl)) ?_
  intro W base args ds gs before hval0 hW _ hk _
  have hval : ∀ (j : Nat) t v, Try.f4.params[j]? = some t → args[j]? = some v → Value.okWide Try.prog W .any base t v := hval0
  have hW' := hW
  obtain ⟨p, q, hA0, hV, rfl, hfz, hnd⟩ := hW
  have hA : DataW.TrodAll enc Try.prog W 0 (fun _ => true) true Try.f4.params.toList args.toList ds p := hA0
  obtain ⟨rfl, rfl⟩ := trodVars_none hV
  simp only [List.append_nil] at hW' hk
  have hback := args_back laidOut' (by kernel_rfl) hA (fun x hx => hW'.lt x hx)
  rw [Try.params4] at hA hval
  obtain ⟨v0, vs0, d0, ds0, p0, q0, hargs, rfl, hp0, h0, r0⟩ := trodAll_cons hA
  obtain ⟨v1, vs1, d1, ds1, p1, q1, rfl, rfl, hp1, h1, r1⟩ := trodAll_cons r0
  obtain ⟨rfl, rfl, hpn⟩ := trodAll_nil r1
  obtain rfl : args = #[v0, v1] := by cases args; simp_all
  obtain ⟨n0, x0, g0, rep0, u0⟩ := Ab.rdw_arg (t := 22) Ab.htab [3, 9, 22, 34, 48] (by kernel_rfl) (by kernel_rfl) (hval 0 22 v0 rfl rfl) h0
  obtain ⟨a0, rfl, k0⟩ := Ab.goodL22 g0
  obtain ⟨n1, x1, g1, rep1, u1⟩ := Ab.rdw_arg (t := 34) Ab.htab [3, 9, 22, 34, 48] (by kernel_rfl) (by kernel_rfl) (hval 1 34 v1 rfl rfl) h1
  obtain ⟨a1, rfl, k1⟩ := Ab.goodTApiKey g1
  have hb0 := of_decide_eq_true hk
  have hb1 := bulkAll_leWebPairs [d0, d1]
  simp only [Ab.bulkAll] at hb1
  clear hA0 hval0
  refine (Ab.to_calls (us := #[v0, v1]) (Ab.WebPairs_U a0 a1 (by omega) k0 k1) (Ab.ag_all W) (by simp only [Ab.RepsV]; exact ⟨_, _, rfl, rep0, ⟨_, _, rfl, rep1, rfl⟩⟩)).mono fun e W' ⟨he, hb⟩ => ?_
  subst he
  exact ⟨_, rfl, _, _, _, [], p, [], hW', trodAll_cons_mk (shut_bool Try.underlying4 _) trodAll_mk0, hback W' hb _ (fun x hx => by simpa using hW'.lt x hx), rfl, hb.frame _, fun h => by cases h⟩
theorem webPairsUpto_holds : Rows.WebPairsUptoSaid :=
  OpenClaim.holds_of_cond 4 Try.f4 rfl rfl rfl rfl rfl rfl rfl ⟨rfl, rfl, rfl, rfl, rfl⟩ rfl rfl rfl rfl rfl (by kernel_rfl) Try.func4 (by kernel_rfl)
    (of_decide_eq_true (by kernel_rfl)) (by unfold Func.isWrapper; rw [if_neg (of_decide_eq_false (by kernel_rfl))]; exact ⟨rfl, rfl⟩)
    (fun os started H enc _ Fi => liftedWebPairsUpto os started H enc Fi)
#print axioms webPairsUpto_holds
end Go.Proofs.Ytpdekcfeecdlbaa
