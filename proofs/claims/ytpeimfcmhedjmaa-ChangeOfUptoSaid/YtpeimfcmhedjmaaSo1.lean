/- Rows of one-celled elements, as the kit tells them. Over any program. -/
import Derived.Test.YtpeimfcmhedjmaaBc
import Derived.Sort.Row
import Derived.Sort.Grow
namespace Go.Proofs.Ytpeimfcmhedjmaa.Ab
open Go
set_option linter.all false
section
variable {α : Type} [Inhabited α]
def rowE (enc : α → Value) (xs : List α) : List D := xs.map fun x => .v (enc x)
theorem flat_v {H : Hp} {enc : α → Value} : ∀ {xs : List α} {us : List Value}, FlatR H 1 (rowE enc xs) us → us = xs.map enc
  | [], us, h => h
  | x :: xs, us, h => by
    obtain ⟨u1, u2, rfl, hl, ⟨h1, h2⟩, h3⟩ := h
    simp only [RepC] at h1
    subst h1
    rw [flat_v h3]; rfl
theorem v_flat {H : Hp} {enc : α → Value} (he : ∀ x, one (enc x) = true) : ∀ (xs : List α), FlatR H 1 (rowE enc xs) (xs.map enc)
  | [] => rfl
  | x :: xs => ⟨[enc x], xs.map enc, rfl, rfl, ⟨by simp [RepC], by simp [he]⟩, v_flat he xs⟩
theorem row_holds {H : Hp} {w : World} {r : Nat} {enc : α → Value} {xs : List α} {z : Z3} (h : BlkOK H w (r, .row 1 (rowE enc xs) (SL z))) :
    (xs = [] ∧ z.2.1 = 0) ∨ ∃ b m T rest, z = (some ⟨b, 0, none⟩, xs.length, m) ∧ xs.length ≤ m ∧ 0 < m ∧ w.heap[b]? = some (.cells (xs.map enc ++ rest).toArray T (0, 0)) ∧ m ≤ (xs.map enc ++ rest).length ∧ (∀ o, H ⟨b, o, none⟩ = none) ∧ claims [(r, Blk.row 1 (rowE enc xs) (SL z))] [] = [b] ∧ Sort.Holds enc w b 0 xs.toArray := by
  rcases h with ⟨a, e, h⟩ | ⟨b, m, us, rest, T, e, h0, hm, h1, h2, h3, h4⟩
  · left
    simp only [Value.slice.injEq] at e
    exact ⟨by simpa [rowE] using h, e.2.1⟩
  · right
    have hu := flat_v h2
    subst hu
    simp only [rowE, List.length_map] at h0 e
    obtain ⟨z1, z2, z3⟩ := z
    simp only [Value.slice.injEq] at e
    obtain ⟨rfl, rfl, rfl⟩ := e
    refine ⟨b, z3, T, rest, rfl, h0, hm, h1, by simpa using h3, h4, by simp [claims, blkClaim, sliceClaim, hm], fun j hj => ?_⟩
    have hj' : j < xs.length := by simpa using hj
    constructor
    · simp only [World.cell?, h1, Option.isSome_none, Bool.false_eq_true, if_false, List.getElem?_toArray, Nat.zero_add]
      rw [List.getElem?_append_left (by simpa using hj'), List.getElem?_map, List.getElem?_eq_getElem hj']
      simp [hj']
    · simp [World.frozen?, h1]
theorem put_heap {w : World} {enc : α → Value} {b n : Nat} {fs xs : List α} {rest : List Value} {T : TypeId} {os : Array Obj} (h1 : w.heap[b]? = some (.cells (xs.map enc ++ rest).toArray T (0, 0))) (hl : fs.length = xs.length) :
    (Sort.grow (Sort.putRow enc (Sort.ahead w n) b 0 fs.toArray) os).heap[b]? = some (.cells (fs.map enc ++ rest).toArray T (0, 0)) ∧ (∀ i, i < w.heap.size → i ≠ b → (Sort.grow (Sort.putRow enc (Sort.ahead w n) b 0 fs.toArray) os).heap[i]? = w.heap[i]?) ∧ w.heap.size ≤ (Sort.grow (Sort.putRow enc (Sort.ahead w n) b 0 fs.toArray) os).heap.size ∧ Env w (Sort.grow (Sort.putRow enc (Sort.ahead w n) b 0 fs.toArray) os) := by
  have hb := (Array.getElem?_eq_some_iff.1 h1).1
  have hsz : (Sort.putRow enc (Sort.ahead w n) b 0 fs.toArray).heap.size = w.heap.size := by simp [Sort.putRow, Sort.mapBlock, Sort.ahead]
  refine ⟨?_, fun i hi hne => ?_, by simp [Sort.grow, hsz], ⟨rfl, rfl, rfl⟩⟩
  · show ((Sort.putRow enc (Sort.ahead w n) b 0 fs.toArray).heap ++ os)[b]? = _
    rw [Array.getElem?_append_left (by rw [hsz]; exact hb)]
    simp only [Sort.putRow, Sort.mapBlock, Sort.ahead, Array.getElem?_modify, if_true, h1, Option.map_some, Sort.onCells]
    congr 2
    unfold Sort.putCells
    apply Array.ext_getElem?
    intro k
    simp only [Array.getElem?_mapIdx, List.getElem?_toArray, List.size_toArray, Nat.zero_le, true_and, Nat.zero_add, Nat.sub_zero]
    by_cases hk : k < fs.length
    · rw [List.getElem?_append_left (by simpa [← hl] using hk), List.getElem?_append_left (by simpa using hk)]
      simp only [List.getElem?_map, List.getElem?_eq_getElem hk, List.getElem?_eq_getElem (show k < xs.length by omega), Option.map_some, if_pos hk]
      congr 1
      rw [getElem!_pos fs.toArray k (by simpa using hk)]
      simp
    · rw [List.getElem?_append_right (by simp; omega), List.getElem?_append_right (by simp; omega)]
      simp only [List.length_map, hl]
      cases rest[k - xs.length]? with
      | none => rfl
      | some v => simp only [Option.map_some]; rw [if_neg (by omega)]
  · show ((Sort.putRow enc (Sort.ahead w n) b 0 fs.toArray).heap ++ os)[i]? = _
    rw [Array.getElem?_append_left (by rw [hsz]; exact hi)]
    simp only [Sort.putRow, Sort.mapBlock, Sort.ahead, Array.getElem?_modify]
    rw [if_neg (Ne.symm hne)]
/-- What holds behind a function that has turned a row's elements, and has left n' of them. -/
theorem row_put {H : Hp} {w : World} {enc : α → Value} (he : ∀ x, one (enc x) = true) {b m n n' : Nat} {fs xs : List α} {rest : List Value} {T : TypeId} {os : Array Obj} (hA : Ag H w) (h1 : w.heap[b]? = some (.cells (xs.map enc ++ rest).toArray T (0, 0))) (h0 : xs.length ≤ m) (hm : 0 < m) (h3 : m ≤ (xs.map enc ++ rest).length) (h4 : ∀ o, H ⟨b, o, none⟩ = none) (hl : fs.length = xs.length) (hn : n' ≤ fs.length) :
    Core ⟨H, w, [b]⟩ H [(0, .row 1 (rowE enc (fs.take n')) (SL (some ⟨b, 0, none⟩, n', m)))] [] (Sort.grow (Sort.putRow enc (Sort.ahead w n) b 0 fs.toArray) os) := by
  obtain ⟨p1, p2, p3, p4⟩ := put_heap (n := n) (os := os) h1 hl
  refine ⟨fun a v e => ?_, Hp.le_refl H, fun _ _ x => .inl x, fun i hi hne => p2 i hi (by simpa using hne), p3, ?_, by simp, ?_, ?_, p4⟩
  · have hc := hA a v e
    have hlt := hA.lt e
    by_cases q : a.block = b
    · obtain ⟨ab, ao, as⟩ := a
      simp only at q; subst q
      cases as with
      | some sp => simp [World.cell?, h1] at hc
      | none => rw [h4 ao] at e; cases e
    · simp only [World.cell?] at hc ⊢
      rw [p2 _ hlt q]; exact hc
  · intro p hp
    simp only [List.mem_singleton] at hp; subst hp
    refine .inr ⟨b, m, (fs.take n').map enc, (fs.drop n').map enc ++ rest, T, by simp [SL, rowE]; omega, by simp [rowE]; omega, hm, ?_, v_flat he _, ?_, h4⟩
    · rw [p1, ← List.append_assoc, ← List.map_append, List.take_append_drop]
    · rw [← List.append_assoc, ← List.map_append, List.take_append_drop]
      simp only [List.length_append, List.length_map] at h3 ⊢
      omega
  · simp [claims, blkClaim, sliceClaim, hm]
  · intro x hx; simp [claims, blkClaim, sliceClaim, hm] at hx; subst hx; exact .inl (by simp)
theorem row_same {H : Hp} {w : World} {r : Nat} {kk : Nat} {xs : List D} {y : Value} (hA : Ag H w) (h : BlkOK H w (r, .row kk xs y)) (nd : (claims [(r, Blk.row kk xs y)] []).Nodup) : Core ⟨H, w, claims [(r, Blk.row kk xs y)] []⟩ H [(0, .row kk xs y)] [] w := by
  refine ⟨hA, Hp.le_refl H, fun _ _ x => .inl x, fun _ _ _ => rfl, Nat.le_refl _, ?_, by simp, ?_, ?_, Env.refl w⟩
  · intro p hp
    simp only [List.mem_singleton] at hp; subst hp
    exact h
  · have e : claims [(0, Blk.row kk xs y)] [] = claims [(r, Blk.row kk xs y)] [] := rfl
    rw [e]; exact nd
  · intro x hx
    exact .inl (by simpa [claims, blkClaim] using hx)
/-- A function that orders a row's elements, as a contract. -/
theorem sort_row {P : Program} {f : FuncId} {enc : α → Value} (he : ∀ x, one (enc x) = true) {S : List α → List α} (hS : ∀ xs, (S xs).length = xs.length) (hg : Goes P f) (ex : List Value) (dx : List D) (hdx : ∀ H vs, RepsV H dx vs → vs = ex)
    (hc : ∀ (b m : Nat) (xs : List α) (w : World), Sort.Holds enc w b 0 xs.toArray → b < w.heap.size → xs.length < 4611686018427387904 → Calls P f (.slice (some ⟨b, 0, none⟩) xs.length m :: ex).toArray w fun e w' => e = .returned (.tuple #[]) ∧ ∃ n os, w' = Sort.grow (Sort.putRow enc (Sort.ahead w n) b 0 (S xs).toArray) os)
    (hn : ∀ (a : Option Addr) (m : Nat) (w : World), Calls P f (.slice a 0 m :: ex).toArray w fun e w' => e = .returned (.tuple #[]) ∧ w' = w)
    (xs : List α) (z : Z3) (hb : xs.length < 4611686018427387904) : CallsD P f (.v (SL z) :: dx) [(0, .row 1 (rowE enc xs) (SL z))] [] (fun d h k => d = .tup [] ∧ h = [(0, .row 1 (rowE enc (S xs)) (SL z))] ∧ k = []) := by
  refine ⟨hg, fun H w vs hv hA hblk _ nd => ?_⟩
  simp only [RepsV] at hv
  obtain ⟨u, us, rfl, hu, hus⟩ := hv
  have := rep_v_inv hu
  subst this
  have := hdx H us hus
  subst this
  have hrow := hblk _ (List.mem_singleton.2 rfl)
  have unit : ∀ H', Rep H' (.tup []) (.tuple #[]) := fun H' => ⟨by simp only [Value.cells, RepC]; exact ⟨[], rfl, by simp [RepsV]⟩, rfl⟩
  rcases row_holds hrow with ⟨rfl, h0⟩ | ⟨b, m, T, rest, rfl, h0, hm, h1, h3, h4, hcl, hH⟩
  · obtain ⟨z1, z2, z3⟩ := z
    simp only at h0; subst h0
    have hS0 : S [] = [] := List.eq_nil_of_length_eq_zero (by rw [hS]; rfl)
    refine (hn z1 z3 w).mono fun e w' ⟨he', hw⟩ => ?_
    subst hw
    exact ⟨_, H, .tup [], _, [], he', unit H, row_same hA hrow nd, rfl, by rw [hS0], rfl⟩
  · refine (hc b m xs w hH (Array.getElem?_eq_some_iff.1 h1).1 hb).mono fun e w' ⟨he', n, os, hw⟩ => ?_
    subst hw
    have hp := row_put (n := n) (n' := (S xs).length) (os := os) he hA h1 h0 hm h3 h4 (hS xs) (Nat.le_refl _)
    rw [List.take_length, hS] at hp
    refine ⟨_, H, .tup [], _, [], he', unit H, ?_, rfl, rfl, rfl⟩
    rw [hcl]; exact hp
/-- A function that leaves some of a row's elements, ahead, as a contract. -/
theorem cut_row {P : Program} {f : FuncId} {enc : α → Value} (he : ∀ x, one (enc x) = true) {S : List α → List α} (hS : ∀ xs, (S xs).length ≤ xs.length) (hg : Goes P f) (ex : List Value) (dx : List D) (hdx : ∀ H vs, RepsV H dx vs → vs = ex) (zr : α)
    (hc : ∀ (b m : Nat) (xs : List α) (w : World), Sort.Holds enc w b 0 xs.toArray → xs.length < 4611686018427387904 → xs.length ≤ m → Calls P f (.slice (some ⟨b, 0, none⟩) xs.length m :: ex).toArray w fun e w' => e = .returned (.slice (some ⟨b, 0, none⟩) (S xs).length m) ∧ ∃ n, w' = Sort.putRow enc (Sort.ahead w n) b 0 (S xs ++ List.replicate (xs.length - (S xs).length) zr).toArray)
    (hn : ∀ (a : Option Addr) (m : Nat) (w : World), Calls P f (.slice a 0 m :: ex).toArray w fun e w' => e = .returned (.slice a 0 m) ∧ w' = w)
    (xs : List α) (z : Z3) (hb : xs.length < 4611686018427387904) : CallsD P f (.v (SL z) :: dx) [(0, .row 1 (rowE enc xs) (SL z))] [] (fun d h k => ∃ z' : Z3, d = .v (SL z') ∧ h = [(0, .row 1 (rowE enc (S xs)) (SL z'))] ∧ k = []) := by
  refine ⟨hg, fun H w vs hv hA hblk _ nd => ?_⟩
  simp only [RepsV] at hv
  obtain ⟨u, us, rfl, hu, hus⟩ := hv
  have := rep_v_inv hu
  subst this
  have := hdx H us hus
  subst this
  have hrow := hblk _ (List.mem_singleton.2 rfl)
  rcases row_holds hrow with ⟨rfl, h0⟩ | ⟨b, m, T, rest, rfl, h0, hm, h1, h3, h4, hcl, hH⟩
  · obtain ⟨z1, z2, z3⟩ := z
    simp only at h0; subst h0
    have hS0 : S [] = [] := List.eq_nil_of_length_eq_zero (by have := hS []; simpa using this)
    refine (hn z1 z3 w).mono fun e w' ⟨he', hw⟩ => ?_
    subst hw
    exact ⟨SL (z1, 0, z3), H, .v (SL (z1, 0, z3)), _, [], he', rep_v rfl, row_same hA hrow nd, (z1, 0, z3), rfl, by rw [hS0], rfl⟩
  · refine (hc b m xs w hH hb h0).mono fun e w' ⟨he', n, hw⟩ => ?_
    have hl : (S xs ++ List.replicate (xs.length - (S xs).length) zr).length = xs.length := by
      have := hS xs; simp; omega
    have hp := row_put (n := n) (n' := (S xs).length) (os := #[]) (fs := S xs ++ List.replicate (xs.length - (S xs).length) zr) he hA h1 h0 hm h3 h4 hl (by simp)
    rw [List.take_left, Sort.grow_empty, ← hw] at hp
    refine ⟨SL (some ⟨b, 0, none⟩, (S xs).length, m), H, .v (SL (some ⟨b, 0, none⟩, (S xs).length, m)), _, [], he', rep_v rfl, ?_, (some ⟨b, 0, none⟩, (S xs).length, m), rfl, rfl, rfl⟩
    rw [hcl]; exact hp
end
end Go.Proofs.Ytpeimfcmhedjmaa.Ab
