/- Arrays at an index that is reckoned. Over any program. -/
import Derived.Test.YtpapooaaccmnpaaTr3
namespace Go.Proofs.Ytpapooaaccmnpaa.Ab
open Go
set_option linter.all false
def putA (j : Int) (k : Nat) (v g : Int) : Int := bif j == (k : Int) then v else g
def putL (j : Int) (v : Int) : Nat → List Int → List Int
  | _, [] => []
  | k, g :: l => putA j k v g :: putL j v (k + 1) l
def inA (j : Int) (n : Nat) : Bool := decide (0 ≤ j) && decide (j < (n : Int))
theorem inA_both {j : Int} {n : Nat} (h : inA j n = true) : 0 ≤ j ∧ j < (n : Int) := by simpa [inA] using h
theorem inA_lo {j : Int} {n : Nat} {u : Unit} (h : need (inA j n) = some u) : 0 ≤ j := (inA_both (need_ok h)).1
theorem inA_hi {j : Int} {n : Nat} {u : Unit} (h : need (inA j n) = some u) : j < (n : Int) := (inA_both (need_ok h)).2
theorem inA_of {j : Int} {n : Nat} (h : 0 ≤ j) (k : j < (n : Int)) : inA j n = true := by simp [inA, h, k]
theorem idx_lt {α : Type} {xs : List α} {j : Int} {x : α} (h : idx xs j = some x) : j.toNat < xs.length := (List.getElem?_eq_some_iff.1 (idx_ok h).2).1
theorem idx_lt' {α : Type} {xs : List α} {j : Int} {x : α} {n : Nat} (h : idx xs j = some x) (hn : xs.length = n) : j < (n : Int) := by
  have := idx_lt h; have := idx_nonneg h; omega
theorem part_at {α : Type} {i : TI} {e : α → D} {xs : List α} {pre post : List D} {j : Int} {x : α} (hg : i.agg = false) (h : idx xs j = some x) : partD i (pre ++ (xs.map e ++ post)) (pre.length + j.toNat * 1) = some (e x) := by
  unfold partD
  rw [hg, cond_false, Nat.mul_one, List.getElem?_append_right (Nat.le_add_right _ _), Nat.add_sub_cancel_left, List.getElem?_append_left (by simpa using idx_lt h), List.getElem?_map, (idx_ok h).2]
  rfl
theorem part_at0 {α : Type} {i : TI} {e : α → D} {xs : List α} {j : Int} {x : α} (hg : i.agg = false) (h : idx xs j = some x) : partD i (xs.map e) (j.toNat * 1) = some (e x) := by
  unfold partD
  rw [hg, cond_false, Nat.mul_one, List.getElem?_map, (idx_ok h).2]
  rfl
theorem flat_take {α : Type} {c : α → List D} {m : Nat} : ∀ {xs : List α} {j : Nat} {x : α}, (∀ y ∈ xs, (c y).length = m) → xs[j]? = some x → (((xs.map c).flatten).drop (j * m)).take m = c x ∧ j * m + m ≤ ((xs.map c).flatten).length
  | [], j, x, _, h => by simp at h
  | y :: xs, 0, x, hl, h => by
    simp only [List.getElem?_cons_zero, Option.some.injEq] at h
    subst h
    have := hl y (by simp)
    simp only [List.map_cons, List.flatten_cons, Nat.zero_mul, List.drop_zero, List.length_append, Nat.zero_add]
    refine ⟨?_, by omega⟩
    rw [List.take_append_of_le_length (by omega), List.take_of_length_le (by omega)]
  | y :: xs, j + 1, x, hl, h => by
    have ih := flat_take (xs := xs) (j := j) (x := x) (fun z hz => hl z (by simp [hz])) (by simpa using h)
    have hy := hl y (by simp)
    simp only [List.map_cons, List.flatten_cons, List.length_append]
    have e : (j + 1) * m = (c y).length + j * m := by rw [hy, Nat.add_mul]; omega
    refine ⟨?_, by rw [hy]; have := ih.2; rw [Nat.add_mul]; omega⟩
    rw [e, List.drop_append, List.drop_of_length_le (by omega)]
    simpa using ih.1
theorem part_st {α : Type} {i : TI} {c : α → List D} {xs : List α} {m : Nat} {j : Int} {x : α} (hg : i.agg = true) (hm : i.size = m) (hl : ∀ y ∈ xs, (c y).length = m) (h : idx xs j = some x) : partD i ((xs.map c).flatten) (j.toNat * m) = some (.agg (c x)) := by
  obtain ⟨h1, h2⟩ := flat_take hl (idx_ok h).2
  have hb : Nat.ble (j.toNat * m + m) ((xs.map c).flatten).length = true := by rw [Nat.ble_eq]; exact h2
  unfold partD
  rw [hg, cond_true, hm, hb, cond_true, h1]
theorem putL_at {kk : IntKind} {v : Int} : ∀ {xs : List Int} {j k : Nat}, (xs.map (fun x => D.v (.int kk x))).set j (.v (.int kk v)) = (putL ((j + k : Nat) : Int) v k xs).map (fun x => D.v (.int kk x))
  | [], j, k => by simp [putL]
  | g :: l, 0, k => by
    have hn : ∀ (l : List Int) (q : Nat), k < q → putL (k : Int) v q l = l := by
      intro l
      induction l with
      | nil => intro q _; rfl
      | cons a l ih =>
        intro q hq
        unfold putL putA
        rw [ih (q + 1) (by omega), show ((k : Int) == (q : Int)) = false by simp; omega]
        rfl
    simp only [List.map_cons, List.set_cons_zero, putL, Nat.zero_add]
    rw [hn l (k + 1) (by omega)]
    simp [putA]
  | g :: l, j + 1, k => by
    have ih := putL_at (kk := kk) (v := v) (xs := l) (j := j) (k := k + 1)
    simp only [List.map_cons, List.set_cons_succ, putL, ih]
    have hp : putA ((j + 1 + k : Nat) : Int) k v g = g := by
      unfold putA
      rw [show ((((j + 1 + k : Nat) : Int)) == (k : Int)) = false by rw [beq_eq_false_iff_ne]; omega]
      rfl
    rw [hp, show j + (k + 1) = j + 1 + k by omega]
theorem lay_at {kk : IntKind} {xs : List Int} {pre post : List D} {j v : Int} (h0 : 0 ≤ j) (h1 : j < (xs.length : Int)) : lay (pre ++ (xs.map (fun x => D.v (.int kk x)) ++ post)) (pre.length + j.toNat * 1) [.v (.int kk v)] = pre ++ ((putL j v 0 xs).map (fun x => D.v (.int kk x)) ++ post) := by
  obtain ⟨n, rfl⟩ := Int.eq_ofNat_of_zero_le h0
  have hn : n < xs.length := by omega
  have := putL_at (kk := kk) (v := v) (xs := xs) (j := n) (k := 0)
  rw [Nat.add_zero] at this
  rw [← this]
  unfold lay
  simp only [Int.toNat_natCast, Nat.mul_one, List.length_cons, List.length_nil, Nat.zero_add]
  rw [List.take_append, List.take_of_length_le (by omega), show pre.length + n - pre.length = n by omega, List.take_append_of_le_length (by simp; omega), List.drop_append, List.drop_of_length_le (by omega), show pre.length + n + 1 - pre.length = n + 1 by omega, List.drop_append_of_le_length (by simp; omega)]
  simp only [List.nil_append, List.append_assoc, List.cons_append]
  congr 1
  have e := List.set_eq_take_append_cons_drop (l := xs.map (fun x => D.v (.int kk x))) (i := n) (a := .v (.int kk v))
  rw [if_pos (by simpa using hn)] at e
  rw [e]
  simp
theorem ble_at {n m : Nat} {j : Int} {p : Nat} (h0 : 0 ≤ j) (h1 : j < (n : Int)) (h : p + n ≤ m) : Nat.ble (p + j.toNat * 1 + 1) m = true := by rw [Nat.ble_eq]; omega
section
variable {P : Program} {C : Ctx} {N : Nat} {ops rest : List Oper} {o : Oper} {t : List (Nat × D)} {h : List (Nat × Blk)} {k : List (Nat × Value)} {Q : Exit → S → Prop} {tab : List (Option TI)}
theorem x_idxA {n : Nat} {T e : TypeId} {x ix : Operand} {ik : IntKind} {j : Int} {ds : List D} {d : D} {ti0 tie : TI} (hT : TabOK P tab) (ho : o.op = .index T x ix) (hx : opD t x = some (.agg ds)) (hix : opD t ix = some (.v (.int ik j)))
    (hti : ti tab T = some ti0) (hs : ti0.d = .array n e) (hte : ti tab e = some tie) (h0 : 0 ≤ j) (hb : j < n) (hp : partD tie ds (j.toNat * tie.size) = some d) : Ex P o t d := fun H a w kt => by
  obtain ⟨dd, h1, h2⟩ := run_underlying (w := w) (ti_ok hT hti)
  have := td_array (h2.trans hs); subst this
  obtain ⟨us, h3, h4⟩ := rep_agg_inv (opD_ok kt hx)
  obtain ⟨v, h5, h6⟩ := run_part (w := w) (ti_ok hT hte) h4 hp
  refine ⟨v, ?_, h6⟩
  unfold execOp
  rw [ho]
  refine exec_v ?_
  rw [h3, rep_v_inv (opD_ok kt hix)]
  unfold Instr.index
  rw [run_bind_ok (a := (ik, j)) rfl]
  simp only []
  rw [run_bind_ok h1]
  simp only [if_pos (show 0 ≤ j ∧ j < (n : Int) from ⟨h0, hb⟩)]
  rw [run_bind_ok (run_sizeOf (ti_ok hT hte))]
  exact h5
theorem p_idxA {i n : Nat} {T e : TypeId} {x ix : Operand} {ik : IntKind} {j : Int} {ds : List D} {d : D} {ti0 tie : TI} (hT : TabOK P tab) (ho : o.op = .index T x ix) (hw : wantD ops t o = some true) (hd : o.dst = some i) (hi : Nat.blt i N = true) (hx : opD t x = some (.agg ds)) (hix : opD t ix = some (.v (.int ik j)))
    (hti : ti tab T = some ti0) (hs : ti0.d = .array n e) (hte : ti tab e = some tie) (h0 : 0 ≤ j) (hb : j < n) (hp : partD tie ds (j.toNat * tie.size) = some d)
    (g : opsD P C N ops rest ⟨(i, d) :: t, h, k⟩ Q) : opsD P C N ops (o :: rest) ⟨t, h, k⟩ Q := ops_run (s := ⟨t, h, k⟩) hw hd hi (x_idxA hT ho hx hix hti hs hte h0 hb hp) g
end
end Go.Proofs.Ytpapooaaccmnpaa.Ab
