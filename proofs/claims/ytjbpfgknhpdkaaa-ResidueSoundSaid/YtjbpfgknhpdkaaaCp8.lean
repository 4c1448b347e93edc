/- Layer 5: products modulo a number. -/
import Derived.Test.YtjbpfgknhpdkaaaCp7
namespace Go.Proofs.Ytjbpfgknhpdkaaa.Ab
open Go Go.RowKit Go.Shelf Go.Proofs.Ytjbpfgknhpdkaaa
set_option linter.all false
theorem split_lo {lo P P' : Int} (hP : 0 < P) (hP' : 0 < P') (hh : P * P' = 18446744073709551616) (h0 : 0 ≤ lo) (h1 : lo < 18446744073709551616) :
    lo * P % 18446744073709551616 = lo % P' * P ∧ 0 ≤ lo / P' ∧ lo / P' < P ∧ lo / P' * 18446744073709551616 + lo % P' * P = lo * P ∧ 0 ≤ lo % P' * P ∧ lo % P' * P < 18446744073709551616 := by
  have d1 := Int.emod_add_mul_ediv lo P'
  have d2 := Int.emod_nonneg lo (show P' ≠ 0 by omega)
  have d3 := Int.emod_lt_of_pos lo hP'
  have f2 : lo / P' < P := Int.ediv_lt_of_lt_mul hP' (by omega)
  have f1 : 0 ≤ lo / P' := Int.ediv_nonneg h0 (by omega)
  have g1 : 0 ≤ lo % P' * P := Int.mul_nonneg d2 (by omega)
  have g2 : lo % P' * P < P' * P := Int.mul_lt_mul_of_pos_right d3 hP
  rw [Int.mul_comm P' P, hh] at g2
  have e : lo / P' * 18446744073709551616 + lo % P' * P = lo * P := by
    conv => rhs; rw [← d1]
    rw [Int.add_mul, ← hh]
    have : P' * (lo / P') * P = lo / P' * (P * P') := by rw [Int.mul_comm P' (lo / P'), Int.mul_assoc, Int.mul_comm P' P]
    omega
  exact ⟨by omega, f1, f2, e, g1, g2⟩
theorem u64wm (n : Int) : IntKind.u64.wrap n = n % 18446744073709551616 := by rw [IntKind.wrap_u64]
theorem two_digits {Y y1 y0 u n1 n0 : Int} (h : Dg Y y1 y0 u n1) (a : 0 ≤ n0) (b : n0 < 4294967296) (kY : Y < 18446744073709551616) :
    IntKind.u64.wrap (IntKind.u64.wrap (IntKind.u64.wrap (u * 4294967296) + n1) - IntKind.u64.wrap ((u * 4294967296 + n1) / Y * Y)) = (u * 4294967296 + n1) % Y ∧ Dg Y y1 y0 ((u * 4294967296 + n1) % Y) n0 := by
  have hd := h
  obtain ⟨q1, q2, q3, q4⟩ := h.q
  obtain ⟨hY, a0, b0, a1, b1, au, bu, an, bn⟩ := hd
  have hp : 0 < Y := by omega
  have h1 := Int.emod_add_mul_ediv (u * 4294967296 + n1) Y
  rw [Int.mul_comm Y] at h1
  have h2 := Int.emod_nonneg (u * 4294967296 + n1) (show Y ≠ 0 by omega)
  have h3 := Int.emod_lt_of_pos (u * 4294967296 + n1) hp
  refine ⟨?_, ⟨hY, a0, b0, a1, b1, h2, h3, a, b⟩⟩
  simp only [u64wm]
  generalize (u * 4294967296 + n1) % Y = R at *
  generalize (u * 4294967296 + n1) / Y * Y = K at *
  omega
theorem div64_eq {hi lo y : Int} (h0 : 0 ≤ hi) (h1 : hi < y) (l0 : 0 ≤ lo) (l1 : lo < 18446744073709551616) (ky : y < 18446744073709551616) :
    ∃ q, math_bits_Div64 hi lo y = some (q, (hi * 18446744073709551616 + lo) % y) := by
  have hy : 0 < y := by omega
  have k1 : (y == 0) = false := by simpa using (show y ≠ 0 by omega)
  have k2 : decide (y ≤ hi) = false := by simp; omega
  unfold math_bits_Div64
  rw [k1, k2]
  simp only [cond_false]
  by_cases hz : hi = 0
  · subst hz
    refine ⟨IntKind.u64.wrap (lo.tdiv y), ?_⟩
    simp only [beq_self_eq_true, cond_true, need_ne (show y ≠ 0 by omega), Option.bind_some]
    rw [Int.tmod_eq_emod_of_nonneg l0]
    simp
  · have k3 : (hi == 0) = false := by simpa using hz
    obtain ⟨s, hl, hs, s1, s2⟩ := lead_spec hy ky
    have hL : IntKind.u64.wrap (lead y) = (s : Int) := by rw [hl]; exact u64w (by omega) (by omega)
    have hM : IntKind.u64.wrap (64 - (s : Int)) = ((64 - s : Nat) : Int) := by rw [u64w (by omega) (by omega)]; omega
    have p1 : pU y = true := by simp [pU, okU]; omega
    have p2 : decide (0 ≤ (s : Int)) = true := by simp
    have p3 : decide (0 ≤ ((64 - s : Nat) : Int)) = true := by simp only [decide_eq_true_eq]; omega
    have hP : (0 : Int) < 2 ^ s := Int.pow_pos (by decide)
    have hP' : (0 : Int) < 2 ^ (64 - s) := Int.pow_pos (by decide)
    have hPP : (2 : Int) ^ s * 2 ^ (64 - s) = 18446744073709551616 := by
      rw [← Int.pow_add, show s + (64 - s) = 64 by omega]; decide
    obtain ⟨t1, t2, t3, t4, t5, t6⟩ := split_lo hP hP' hPP l0 l1
    have hhi : (hi + 1) * 2 ^ s ≤ y * 2 ^ s := Int.mul_le_mul_of_nonneg_right (by omega) (by omega)
    rw [Int.add_mul, Int.one_mul] at hhi
    have hhp : 0 ≤ hi * 2 ^ s := Int.mul_nonneg h0 (by omega)
    have e1 : shI .shl .u64 y (s : Int) = y * 2 ^ s := by rw [shl_eq _ (by omega)]; exact u64w (by omega) s2
    have e2 : shI .shl .u64 hi (s : Int) = hi * 2 ^ s := by rw [shl_eq _ (by omega)]; exact u64w hhp (by omega)
    have e3 : shI .shl .u64 lo (s : Int) = lo % 2 ^ (64 - s) * 2 ^ s := by rw [shl_eq _ (by omega), u64wm]; exact t1
    have e4 : shI .shr .u64 lo ((64 - s : Nat) : Int) = lo / 2 ^ (64 - s) := shr_eq _ (by omega)
    have e5 : bitI .or .u64 (hi * 2 ^ s) (lo / 2 ^ (64 - s)) = hi * 2 ^ s + lo / 2 ^ (64 - s) := or_eq h0 t2 t3 (by omega) hP
    have sh : ∀ a : Int, shI .shr .u64 a 32 = a / 4294967296 := fun a => shr_eq a (s := 32) (by omega)
    have e6 : bitI .and .u64 (y * 2 ^ s) 4294967295 = y * 2 ^ s % 4294967296 := and_eq (by omega) s2
    have e7 : bitI .and .u64 (lo % 2 ^ (64 - s) * 2 ^ s) 4294967295 = lo % 2 ^ (64 - s) * 2 ^ s % 4294967296 := and_eq t5 t6
    have e8 : ∀ a : Int, shI .shr .u64 a (s : Int) = a / 2 ^ s := fun a => shr_eq a (by omega)
    simp only [k3, cond_false, hL, hM, need_bind p1, need_bind p2, need_bind p3, e1, e2, e3, e4, e5, e6, e7, e8, sh]
    have eT : (hi * 18446744073709551616 + lo) * 2 ^ s = (hi * 2 ^ s + lo / 2 ^ (64 - s)) * 18446744073709551616 + lo % 2 ^ (64 - s) * 2 ^ s := by
      rw [Int.add_mul, ← t4, Int.mul_right_comm]; omega
    have eM : (hi * 18446744073709551616 + lo) * 2 ^ s % (y * 2 ^ s) = (hi * 18446744073709551616 + lo) % y * 2 ^ s := by
      rw [Int.mul_comm _ (2 ^ s), Int.mul_comm y (2 ^ s), Int.mul_emod_mul_of_pos _ _ hP, Int.mul_comm]
    rw [eT] at eM
    have hu : 0 ≤ hi * 2 ^ s + lo / 2 ^ (64 - s) := by omega
    have hu1 : hi * 2 ^ s + lo / 2 ^ (64 - s) < y * 2 ^ s := by omega
    generalize (hi * 18446744073709551616 + lo) % y = G at *
    generalize hi * 2 ^ s + lo / 2 ^ (64 - s) = u at *
    generalize lo % 2 ^ (64 - s) * 2 ^ s = v at *
    generalize y * 2 ^ s = Y at *
    have hG : v = v / 4294967296 * 4294967296 + v % 4294967296 := by omega
    have d1 : Dg Y (Y / 4294967296) (Y % 4294967296) u (v / 4294967296) := ⟨by omega, by omega, by omega, by omega, by omega, hu, by omega, by omega, by omega⟩
    have hy1 : Y / 4294967296 ≠ 0 := by omega
    have st : ∀ z : Int, 0 ≤ z → z < 18446744073709551616 → IntKind.u64.wrap (z.tdiv (Y / 4294967296)) = z / (Y / 4294967296) ∧ IntKind.u64.wrap (z - IntKind.u64.wrap (z / (Y / 4294967296) * (Y / 4294967296))) = z % (Y / 4294967296) := by
      intro z hz kz
      rw [Int.tdiv_eq_ediv_of_nonneg hz]
      have w1 := Int.emod_add_mul_ediv z (Y / 4294967296)
      have w2 := Int.emod_nonneg z hy1
      have w3 : 0 ≤ z / (Y / 4294967296) := Int.ediv_nonneg hz (by omega)
      have w4 : z / (Y / 4294967296) ≤ z := Int.ediv_le_self _ hz
      have w5 : 0 ≤ z / (Y / 4294967296) * (Y / 4294967296) := Int.mul_nonneg w3 (by omega)
      rw [Int.mul_comm (Y / 4294967296)] at w1
      refine ⟨u64w w3 (by omega), ?_⟩
      rw [u64w w5 (by omega)]
      generalize z / (Y / 4294967296) * (Y / 4294967296) = K at *
      generalize z % (Y / 4294967296) = K2 at *
      rw [u64w (by omega) (by omega)]
      omega
    obtain ⟨x1, x2⟩ := st u hu (by omega)
    obtain ⟨y1, d2⟩ := two_digits d1 (n0 := v % 4294967296) (by omega) (by omega) s2
    have hr0 : 0 ≤ (u * 4294967296 + v / 4294967296) % Y := d2.au
    have hr1 : (u * 4294967296 + v / 4294967296) % Y < Y := d2.bu
    obtain ⟨x3, x4⟩ := st ((u * 4294967296 + v / 4294967296) % Y) hr0 (by omega)
    obtain ⟨y2, _⟩ := two_digits d2 (n0 := 0) (by omega) (by omega) s2
    rw [need_ne hy1, x1, x2, digit1 d1]
    simp only [Option.bind_some]
    rw [y1, x3, x4, digit2 d2]
    simp only [Option.bind_some]
    rw [y2]
    have fe : ((u * 4294967296 + v / 4294967296) % Y * 4294967296 + v % 4294967296) % Y = (u * 18446744073709551616 + v) % Y := by
      have w1 := Int.emod_add_mul_ediv (u * 4294967296 + v / 4294967296) Y
      have : u * 18446744073709551616 + v = ((u * 4294967296 + v / 4294967296) % Y * 4294967296 + v % 4294967296) + Y * ((u * 4294967296 + v / 4294967296) / Y * 4294967296) := by
        rw [← Int.mul_assoc]; omega
      rw [this, Int.add_mul_emod_self_left]
    rw [fe, eM, Int.mul_ediv_cancel _ (by omega)]
    exact ⟨_, rfl⟩
theorem times_eq {a b m : Int} (ha : 0 ≤ a) (hb : 0 ≤ b) (ka : a < m) (kb : b < m) (km : m < 18446744073709551616) : cong_times a b m = some (a * b % m) := by
  have hh : (mul64 a b).1 * 18446744073709551616 + (mul64 a b).2 = a * b := by unfold mul64; simp only; omega
  have h0 : 0 ≤ a * b := Int.mul_nonneg ha hb
  have h1 : a * b ≤ a * m := Int.mul_le_mul_of_nonneg_left (by omega) ha
  have h2 : a * m ≤ (m - 1) * m := Int.mul_le_mul_of_nonneg_right (by omega) (by omega)
  have h3 : (m - 1) * m < m * 18446744073709551616 := by
    have : (m - 1) * m ≤ (m - 1) * 18446744073709551616 := Int.mul_le_mul_of_nonneg_left (by omega) (by omega)
    omega
  have g1 : 0 ≤ (mul64 a b).1 := Int.ediv_nonneg h0 (by omega)
  have g2 : (mul64 a b).1 < m := Int.ediv_lt_of_lt_mul (by omega) (by omega)
  have g3 : 0 ≤ (mul64 a b).2 ∧ (mul64 a b).2 < 18446744073709551616 := by unfold mul64; simp only; omega
  obtain ⟨q, hq⟩ := div64_eq g1 g2 g3.1 g3.2 km
  unfold cong_times
  rw [need_bind (show pUU a b = true by simp [pUU, okU]; omega), hq, hh]
  rfl
end Go.Proofs.Ytjbpfgknhpdkaaa.Ab
