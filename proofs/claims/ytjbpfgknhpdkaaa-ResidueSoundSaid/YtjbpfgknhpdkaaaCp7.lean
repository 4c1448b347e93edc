/- Layer 5: the quotient of two words by one, digit by digit. -/
import Derived.Test.YtjbpfgknhpdkaaaCp3
namespace Go.Proofs.Ytjbpfgknhpdkaaa.Ab
open Go Go.RowKit Go.Shelf Go.Proofs.Ytjbpfgknhpdkaaa
set_option linter.all false
theorem blen : ∀ (f x : Nat), x < 2 ^ f → x ≠ 0 → 1 ≤ Lib.bitLenAux f x ∧ Lib.bitLenAux f x ≤ f ∧ 2 ^ (Lib.bitLenAux f x - 1) ≤ x ∧ x < 2 ^ Lib.bitLenAux f x
  | 0, x, h, h0 => by simp at h; omega
  | f + 1, x, h, h0 => by
    rw [Lib.bitLenAux, if_neg h0]
    by_cases h2 : x / 2 = 0
    · have h1 : x = 1 := by omega
      subst h1
      have : Lib.bitLenAux f (1 / 2) = 0 := by cases f <;> simp [Lib.bitLenAux]
      rw [this]; simp
    · have hx : x / 2 < 2 ^ f := by rw [Nat.pow_succ] at h; omega
      obtain ⟨a, b, c, d⟩ := blen f (x / 2) hx h2
      obtain ⟨k, hk⟩ : ∃ k, Lib.bitLenAux f (x / 2) = k + 1 := ⟨_, (Nat.sub_add_cancel a).symm⟩
      rw [hk] at a b c d ⊢
      have e1 : 1 + (k + 1) - 1 = k + 1 := by omega
      have e2 : 1 + (k + 1) = (k + 1) + 1 := by omega
      have e3 : k + 1 - 1 = k := by omega
      rw [e3] at c
      rw [e1, e2, Nat.pow_succ 2 k, Nat.pow_succ 2 (k + 1), Nat.pow_succ 2 k]
      rw [Nat.pow_succ] at d
      omega
theorem npow (n s : Nat) : (n : Int) * 2 ^ s = ((n * 2 ^ s : Nat) : Int) := by rw [Int.natCast_mul, Int.natCast_pow]; rfl
theorem powc {p c n s : Nat} (h : p = c) (k : p ≤ n * 2 ^ s) : (c : Int) ≤ (n : Int) * 2 ^ s := by rw [npow]; omega
theorem powd {p c n s : Nat} (h : p = c) (k : n * 2 ^ s < p) : (n : Int) * 2 ^ s < (c : Int) := by rw [npow]; omega
theorem lead_spec {y : Int} (h : 0 < y) (k : y < 18446744073709551616) : ∃ s : Nat, lead y = (s : Int) ∧ s ≤ 63 ∧ 9223372036854775808 ≤ y * 2 ^ s ∧ y * 2 ^ s < 18446744073709551616 := by
  obtain ⟨n, rfl⟩ := Int.eq_ofNat_of_zero_le (Int.le_of_lt h)
  have hn : n < 2 ^ 64 := by omega
  obtain ⟨a, b, c, d⟩ := blen 64 n hn (by omega)
  refine ⟨64 - Lib.bitLenAux 64 n, ?_, by omega, ?_, ?_⟩
  · unfold lead Lib.bitLen; simp only [Int.toNat_natCast]; omega
  · have hm : 2 ^ (Lib.bitLenAux 64 n - 1) * 2 ^ (64 - Lib.bitLenAux 64 n) ≤ n * 2 ^ (64 - Lib.bitLenAux 64 n) := Nat.mul_le_mul_right _ c
    rw [← Nat.pow_add, show Lib.bitLenAux 64 n - 1 + (64 - Lib.bitLenAux 64 n) = 63 by omega] at hm
    exact powc (show (2:Nat) ^ 63 = 9223372036854775808 by decide) hm
  · have hp : 0 < 2 ^ (64 - Lib.bitLenAux 64 n) := Nat.two_pow_pos _
    have hm : n * 2 ^ (64 - Lib.bitLenAux 64 n) < 2 ^ Lib.bitLenAux 64 n * 2 ^ (64 - Lib.bitLenAux 64 n) := Nat.mul_lt_mul_of_pos_right d hp
    rw [← Nat.pow_add, show Lib.bitLenAux 64 n + (64 - Lib.bitLenAux 64 n) = 64 by omega] at hm
    exact powd (show (2:Nat) ^ 64 = 18446744073709551616 by decide) hm
theorem u64bits : IntKind.u64.bits = 64 := by decide
theorem shl_eq (a : Int) {s : Nat} (h : s ≤ 64) : shI .shl .u64 a (s : Int) = IntKind.u64.wrap (a * 2 ^ s) := by
  unfold shI; simp only [Int.toNat_natCast, u64bits, Nat.min_eq_left h]
theorem shr_eq (a : Int) {s : Nat} (h : s ≤ 64) : shI .shr .u64 a (s : Int) = a / 2 ^ s := by
  unfold shI; simp only [Int.toNat_natCast, u64bits, Nat.min_eq_left h]
  exact Int.fdiv_eq_ediv_of_nonneg a (Int.le_of_lt (Int.pow_pos (by decide)))
theorem bv_nat {n : Nat} (h : n < 18446744073709551616) : (BitVec.ofInt IntKind.u64.bits (n : Int)).toNat = n := by
  rw [BitVec.toNat_ofInt, u64bits]
  omega
theorem and_eq {a : Int} (h : 0 ≤ a) (k : a < 18446744073709551616) : bitI .and .u64 a 4294967295 = a % 4294967296 := by
  obtain ⟨n, rfl⟩ := Int.eq_ofNat_of_zero_le h
  unfold bitI
  show IntKind.u64.wrap _ = _
  rw [BitVec.toNat_and, bv_nat (by omega), show (4294967295 : Int) = ((4294967295 : Nat) : Int) from rfl, bv_nat (by decide)]
  rw [show (4294967295 : Nat) = 2 ^ 32 - 1 by decide, Nat.and_two_pow_sub_one_eq_mod, IntKind.wrap_u64]
  have : n % 2 ^ 32 < 2 ^ 32 := Nat.mod_lt _ (by decide)
  omega
theorem or_eq {x b : Int} {s : Nat} (hx : 0 ≤ x) (hb : 0 ≤ b) (hs : b < 2 ^ s) (k : x * 2 ^ s + b < 18446744073709551616) (k2 : 0 < (2 : Int) ^ s) : bitI .or .u64 (x * 2 ^ s) b = x * 2 ^ s + b := by
  obtain ⟨n, rfl⟩ := Int.eq_ofNat_of_zero_le hx
  obtain ⟨m, rfl⟩ := Int.eq_ofNat_of_zero_le hb
  have e : (n : Int) * 2 ^ s = ((2 ^ s * n : Nat) : Int) := by rw [Nat.mul_comm, npow]
  rw [e] at k ⊢
  have hs' : m < 2 ^ s := by have := npow 1 s; simp only [Nat.one_mul] at this; omega
  unfold bitI
  show IntKind.u64.wrap _ = _
  rw [BitVec.toNat_or, bv_nat (by omega), bv_nat (by omega), ← Nat.two_pow_add_eq_or_of_lt hs' n, IntKind.wrap_u64]
  omega
/-! ### One digit -/
structure Dg (Y y1 y0 u n : Int) : Prop where
  hY : Y = y1 * 4294967296 + y0
  a0 : 0 ≤ y0
  b0 : y0 < 4294967296
  a1 : 4294967296 ≤ 2 * y1
  b1 : y1 < 4294967296
  au : 0 ≤ u
  bu : u < Y
  an : 0 ≤ n
  bn : n < 4294967296
theorem Dg.q {Y y1 y0 u n : Int} (h : Dg Y y1 y0 u n) : 0 ≤ (u * 4294967296 + n) / Y ∧ (u * 4294967296 + n) / Y < 4294967296 ∧ (u * 4294967296 + n) / Y * Y ≤ u * 4294967296 + n ∧ u * 4294967296 + n < (u * 4294967296 + n) / Y * Y + Y := by
  obtain ⟨hY, a0, b0, a1, b1, au, bu, an, bn⟩ := h
  have hp : 0 < Y := by omega
  have h1 := Int.emod_add_mul_ediv (u * 4294967296 + n) Y
  have h2 := Int.emod_nonneg (u * 4294967296 + n) (show Y ≠ 0 by omega)
  have h3 := Int.emod_lt_of_pos (u * 4294967296 + n) hp
  rw [Int.mul_comm Y] at h1
  refine ⟨Int.ediv_nonneg (by omega) (by omega), Int.ediv_lt_of_lt_mul hp (by omega), by omega, by omega⟩
def DgI (y1 u Q q r : Int) : Prop := r = u - q * y1 ∧ 0 ≤ r ∧ r < 4294967296 ∧ Q ≤ q ∧ q ≤ 4294967297
theorem Dg.start {Y y1 y0 u n : Int} (h : Dg Y y1 y0 u n) : DgI y1 u ((u * 4294967296 + n) / Y) (u / y1) (u % y1) ∧ 0 ≤ u / y1 := by
  obtain ⟨q1, q2, q3, q4⟩ := h.q
  obtain ⟨hY, a0, b0, a1, b1, au, bu, an, bn⟩ := h
  have hp : 0 < y1 := by omega
  have h1 := Int.emod_add_mul_ediv u y1
  have h2 := Int.emod_nonneg u (show y1 ≠ 0 by omega)
  have h3 := Int.emod_lt_of_pos u hp
  rw [Int.mul_comm y1] at h1
  have h0 : 0 ≤ u / y1 := Int.ediv_nonneg au (by omega)
  refine ⟨⟨by omega, by omega, by omega, ?_, ?_⟩, h0⟩
  · by_cases hc : (u * 4294967296 + n) / Y ≤ u / y1
    · exact hc
    · exfalso
      have hq : u / y1 + 1 ≤ (u * 4294967296 + n) / Y := by omega
      have m1 : (u / y1 + 1) * y1 ≤ (u * 4294967296 + n) / Y * y1 := Int.mul_le_mul_of_nonneg_right hq (by omega)
      rw [Int.add_mul] at m1
      generalize (u * 4294967296 + n) / Y = Q at *
      have e : Q * Y = Q * y1 * 4294967296 + Q * y0 := by rw [hY, Int.mul_add, Int.mul_assoc]
      have p : 0 ≤ Q * y0 := Int.mul_nonneg q1 a0
      omega
  · by_cases hc : u / y1 ≤ 4294967297
    · exact hc
    · exfalso
      have hq : 4294967298 ≤ u / y1 := by omega
      have m1 : 4294967298 * y1 ≤ u / y1 * y1 := Int.mul_le_mul_of_nonneg_right hq (by omega)
      omega
theorem Dg.more {Y y1 y0 u n q r : Int} (h : Dg Y y1 y0 u n) (i : DgI y1 u ((u * 4294967296 + n) / Y) q r) (t : 4294967296 ≤ q ∨ 4294967296 * r + n < q * y0) : (u * 4294967296 + n) / Y ≤ q - 1 := by
  obtain ⟨q1, q2, q3, q4⟩ := h.q
  obtain ⟨hY, a0, b0, a1, b1, au, bu, an, bn⟩ := h
  obtain ⟨i1, i2, i3, i4, i5⟩ := i
  rcases t with t | t
  · omega
  · by_cases hc : (u * 4294967296 + n) / Y ≤ q - 1
    · exact hc
    · exfalso
      have he : (u * 4294967296 + n) / Y = q := by omega
      rw [he] at q3
      have e : q * Y = q * y1 * 4294967296 + q * y0 := by rw [hY, Int.mul_add, Int.mul_assoc]
      omega
theorem Dg.stop {Y y1 y0 u n q r : Int} (h : Dg Y y1 y0 u n) (i : DgI y1 u ((u * 4294967296 + n) / Y) q r) (t : ¬ 4294967296 * r + n < q * y0) : q = (u * 4294967296 + n) / Y := by
  obtain ⟨q1, q2, q3, q4⟩ := h.q
  obtain ⟨hY, a0, b0, a1, b1, au, bu, an, bn⟩ := h
  obtain ⟨i1, i2, i3, i4, i5⟩ := i
  have e : q * Y = q * y1 * 4294967296 + q * y0 := by rw [hY, Int.mul_add, Int.mul_assoc]
  have hp : 0 < Y := by omega
  have := Int.le_ediv_of_mul_le hp (show q * Y ≤ u * 4294967296 + n by omega)
  omega
theorem Dg.brk {Y y1 y0 u n q r : Int} (h : Dg Y y1 y0 u n) (i : DgI y1 u ((u * 4294967296 + n) / Y) q r) (t : (u * 4294967296 + n) / Y ≤ q - 1) (b : 4294967296 ≤ r + y1) : q - 1 = (u * 4294967296 + n) / Y := by
  obtain ⟨q1, q2, q3, q4⟩ := h.q
  obtain ⟨hY, a0, b0, a1, b1, au, bu, an, bn⟩ := h
  obtain ⟨i1, i2, i3, i4, i5⟩ := i
  have e : (q - 1) * Y = (q - 1) * y1 * 4294967296 + (q - 1) * y0 := by rw [hY, Int.mul_add, Int.mul_assoc]
  have e1 : (q - 1) * y1 = q * y1 - y1 := by rw [Int.sub_mul]; omega
  have m : (q - 1) * y0 ≤ 4294967296 * y0 := Int.mul_le_mul_of_nonneg_right (by omega) a0
  have hp : 0 < Y := by omega
  have := Int.le_ediv_of_mul_le hp (show (q - 1) * Y ≤ u * 4294967296 + n by omega)
  omega
theorem Dg.next {Y y1 y0 u n q r : Int} (h : Dg Y y1 y0 u n) (i : DgI y1 u ((u * 4294967296 + n) / Y) q r) (t : (u * 4294967296 + n) / Y ≤ q - 1) (b : ¬ 4294967296 ≤ r + y1) : DgI y1 u ((u * 4294967296 + n) / Y) (q - 1) (r + y1) := by
  obtain ⟨hY, a0, b0, a1, b1, au, bu, an, bn⟩ := h
  obtain ⟨i1, i2, i3, i4, i5⟩ := i
  have e1 : (q - 1) * y1 = q * y1 - y1 := by rw [Int.sub_mul]; omega
  exact ⟨by omega, by omega, by omega, t, by omega⟩
theorem Dg.test {Y y1 y0 u n q r : Int} (h : Dg Y y1 y0 u n) (i : DgI y1 u ((u * 4294967296 + n) / Y) q r) (hq : ¬ 4294967296 ≤ q) (h0 : 0 ≤ q) : IntKind.u64.wrap ((IntKind.u64.wrap (4294967296 * r)) + n) = 4294967296 * r + n ∧ IntKind.u64.wrap (q * y0) = q * y0 := by
  obtain ⟨hY, a0, b0, a1, b1, au, bu, an, bn⟩ := h
  obtain ⟨i1, i2, i3, i4, i5⟩ := i
  have m : q * y0 ≤ 4294967295 * y0 := Int.mul_le_mul_of_nonneg_right (by omega) a0
  have m0 : 0 ≤ q * y0 := Int.mul_nonneg h0 a0
  refine ⟨?_, u64w m0 (by omega)⟩
  rw [u64w (n := 4294967296 * r) (by omega) (by omega), u64w (by omega) (by omega)]
theorem digit1 {Y y1 y0 u n : Int} (h : Dg Y y1 y0 u n) : loopM (fun (s36 : Int × Int) => (Option.bind (α := Bool) (bif (decide ((4294967296 : Int) ≤ s36.1)) then some true else some (decide ((IntKind.u64.wrap ((IntKind.u64.wrap ((4294967296 : Int) * s36.2)) + n)) < (IntKind.u64.wrap (s36.1 * y0))))) fun y48 => (bif y48 then (bif (decide ((4294967296 : Int) ≤ (IntKind.u64.wrap (s36.2 + y1)))) then some (.done (IntKind.u64.wrap (s36.1 - (1 : Int)))) else some (.next ((IntKind.u64.wrap (s36.1 - (1 : Int))), (IntKind.u64.wrap (s36.2 + y1))))) else some (.done s36.1)))) (u / y1, u % y1) = some ((u * 4294967296 + n) / Y) := by
  refine loopM_eq (fun s => DgI y1 u ((u * 4294967296 + n) / Y) s.1 s.2 ∧ 0 ≤ s.1) (fun s => s.1.toNat) (fun _ => (u * 4294967296 + n) / Y) ?_ _ h.start
  rintro ⟨q, r⟩ ⟨i, h0⟩
  simp only at i h0 ⊢
  have hq := h.q
  have hd := h
  obtain ⟨hY, a0, b0, a1, b1, au, bu, an, bn⟩ := hd
  have i' := i
  obtain ⟨i1, i2, i3, i4, i5⟩ := i'
  have w2 : IntKind.u64.wrap (r + y1) = r + y1 := u64w (by omega) (by omega)
  rw [w2]
  have fin : (u * 4294967296 + n) / Y ≤ q - 1 → (∃ s', (bif decide (4294967296 ≤ r + y1) then some (Step.done (IntKind.u64.wrap (q - 1))) else some (.next (IntKind.u64.wrap (q - 1), r + y1)) : Option (Step (Int × Int) Int)) = some (.next s') ∧ (DgI y1 u ((u * 4294967296 + n) / Y) s'.1 s'.2 ∧ 0 ≤ s'.1) ∧ s'.1.toNat < q.toNat ∧ True) ∨ (bif decide (4294967296 ≤ r + y1) then some (Step.done (IntKind.u64.wrap (q - 1))) else some (.next (IntKind.u64.wrap (q - 1), r + y1)) : Option (Step (Int × Int) Int)) = some (.done ((u * 4294967296 + n) / Y)) := by
    intro ht
    rw [u64w (n := q - 1) (by omega) (by omega)]
    by_cases hb : 4294967296 ≤ r + y1
    · right
      rw [decide_eq_true hb, cond_true, h.brk i ht hb]
    · left
      rw [decide_eq_false hb, cond_false]
      exact ⟨_, rfl, ⟨h.next i ht hb, by simp only; omega⟩, by simp only; omega, trivial⟩
  by_cases c1 : 4294967296 ≤ q
  · rw [decide_eq_true c1]
    simp only [cond_true, Option.bind_some, and_true] at fin ⊢
    exact fin (h.more i (.inl c1))
  · obtain ⟨e1, e2⟩ := h.test i c1 h0
    rw [decide_eq_false c1, e1, e2]
    by_cases c2 : 4294967296 * r + n < q * y0
    · rw [decide_eq_true c2]
      simp only [cond_true, cond_false, Option.bind_some, and_true] at fin ⊢
      exact fin (h.more i (.inr c2))
    · rw [decide_eq_false c2]
      right
      simp only [cond_false, Option.bind_some]
      rw [← h.stop i c2]
theorem digit2 {Y y1 y0 u n : Int} (h : Dg Y y1 y0 u n) : loopM (fun (s36 : Int × Int) => (Option.bind (α := Bool) (bif (decide ((4294967296 : Int) ≤ s36.2)) then some true else some (decide ((IntKind.u64.wrap ((IntKind.u64.wrap ((4294967296 : Int) * s36.1)) + n)) < (IntKind.u64.wrap (s36.2 * y0))))) fun y48 => (bif y48 then (bif (decide ((4294967296 : Int) ≤ (IntKind.u64.wrap (s36.1 + y1)))) then some (.done (IntKind.u64.wrap (s36.2 - (1 : Int)))) else some (.next ((IntKind.u64.wrap (s36.1 + y1)), (IntKind.u64.wrap (s36.2 - (1 : Int)))))) else some (.done s36.2)))) (u % y1, u / y1) = some ((u * 4294967296 + n) / Y) := by
  refine loopM_eq (fun s => DgI y1 u ((u * 4294967296 + n) / Y) s.2 s.1 ∧ 0 ≤ s.2) (fun s => s.2.toNat) (fun _ => (u * 4294967296 + n) / Y) ?_ _ h.start
  rintro ⟨r, q⟩ ⟨i, h0⟩
  simp only at i h0 ⊢
  have hq := h.q
  have hd := h
  obtain ⟨hY, a0, b0, a1, b1, au, bu, an, bn⟩ := hd
  have i' := i
  obtain ⟨i1, i2, i3, i4, i5⟩ := i'
  have w2 : IntKind.u64.wrap (r + y1) = r + y1 := u64w (by omega) (by omega)
  rw [w2]
  have fin : (u * 4294967296 + n) / Y ≤ q - 1 → (∃ s', (bif decide (4294967296 ≤ r + y1) then some (Step.done (IntKind.u64.wrap (q - 1))) else some (.next (r + y1, IntKind.u64.wrap (q - 1))) : Option (Step (Int × Int) Int)) = some (.next s') ∧ (DgI y1 u ((u * 4294967296 + n) / Y) s'.2 s'.1 ∧ 0 ≤ s'.2) ∧ s'.2.toNat < q.toNat ∧ True) ∨ (bif decide (4294967296 ≤ r + y1) then some (Step.done (IntKind.u64.wrap (q - 1))) else some (.next (r + y1, IntKind.u64.wrap (q - 1))) : Option (Step (Int × Int) Int)) = some (.done ((u * 4294967296 + n) / Y)) := by
    intro ht
    rw [u64w (n := q - 1) (by omega) (by omega)]
    by_cases hb : 4294967296 ≤ r + y1
    · right
      rw [decide_eq_true hb, cond_true, h.brk i ht hb]
    · left
      rw [decide_eq_false hb, cond_false]
      exact ⟨_, rfl, ⟨h.next i ht hb, by simp only; omega⟩, by simp only; omega, trivial⟩
  by_cases c1 : 4294967296 ≤ q
  · rw [decide_eq_true c1]
    simp only [cond_true, Option.bind_some, and_true] at fin ⊢
    exact fin (h.more i (.inl c1))
  · obtain ⟨e1, e2⟩ := h.test i c1 h0
    rw [decide_eq_false c1, e1, e2]
    by_cases c2 : 4294967296 * r + n < q * y0
    · rw [decide_eq_true c2]
      simp only [cond_true, cond_false, Option.bind_some, and_true] at fin ⊢
      exact fin (h.more i (.inr c2))
    · rw [decide_eq_false c2]
      right
      simp only [cond_false, Option.bind_some]
      rw [← h.stop i c2]
end Go.Proofs.Ytjbpfgknhpdkaaa.Ab
