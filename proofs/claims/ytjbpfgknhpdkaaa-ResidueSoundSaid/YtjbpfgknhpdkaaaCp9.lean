/- Layer 5: the inverse, and what is in both. -/
import Derived.Test.YtjbpfgknhpdkaaaCp8
namespace Go.Proofs.Ytjbpfgknhpdkaaa.Ab
open Go Go.RowKit Go.Shelf Go.Proofs.Ytjbpfgknhpdkaaa
set_option linter.all false
theorem inv_eq {a m : Int} (ha : 0 ≤ a) (hm : 0 < m) (km : m < 9223372036854775808) (hg : Int.gcd a m = 1) :
    ∃ y, cong_inverse a m = some y ∧ 0 ≤ y ∧ y < m ∧ m ∣ y * a - 1 := by
  have hne : m ≠ 0 := by omega
  unfold cong_inverse
  rw [need_ne hne]
  simp only [Option.bind_some]
  refine loopM_some (fun s => 0 ≤ s.1 ∧ s.1 < s.2.1 ∧ s.2.1 ≤ m ∧ 0 ≤ s.2.2.1 ∧ s.2.2.1 < m ∧ 0 ≤ s.2.2.2 ∧ s.2.2.2 < m ∧ m ∣ s.1 - s.2.2.1 * a ∧ m ∣ s.2.1 - s.2.2.2 * a ∧ Int.gcd s.1 s.2.1 = 1) (fun s => s.1.toNat) (fun y => 0 ≤ y ∧ y < m ∧ m ∣ y * a - 1) ?_ _ ?_
  · rintro ⟨r, s, x, y⟩ ⟨h1, h2, h3, h4, h5, h6, h7, h8, h9, h10⟩
    simp only at h1 h2 h3 h4 h5 h6 h7 h8 h9 h10 ⊢
    by_cases h0 : r = 0
    · right
      subst h0
      refine ⟨y, by simp, h6, h7, ?_⟩
      rw [Int.gcd_zero_left] at h10
      have hs : s = 1 := by omega
      subst hs
      have := Int.dvd_neg.2 h9
      rwa [Int.neg_sub] at this
    · left
      have e0 : (r == 0) = false := by simpa using h0
      have q0 : 0 ≤ s / r := Int.ediv_nonneg (by omega) h1
      have q1 : s / r ≤ s := Int.ediv_le_self _ (by omega)
      have r1 := Int.emod_add_mul_ediv s r
      have r2 := Int.emod_nonneg s h0
      have r3 := Int.emod_lt_of_pos s (show 0 < r by omega)
      have m1 := Int.emod_add_mul_ediv (s / r) m
      have m2 := Int.emod_nonneg (s / r) hne
      have m3 := Int.emod_lt_of_pos (s / r) hm
      have t1 := Int.emod_add_mul_ediv (s / r % m * x) m
      have t2 := Int.emod_nonneg (s / r % m * x) hne
      have t3 := Int.emod_lt_of_pos (s / r % m * x) hm
      rw [e0, cond_false, need_ne h0, Int.tdiv_eq_ediv_of_nonneg (by omega), u64w q0 (by omega), Int.tmod_eq_emod_of_nonneg q0]
      simp only [Option.bind_some]
      rw [times_eq m2 h4 m3 h5 (by omega)]
      simp only [Option.bind_some]
      rw [u64w (n := y + m) (by omega) (by omega), u64w (n := y + m - s / r % m * x % m) (by omega) (by omega), Int.tmod_eq_emod_of_nonneg (show 0 ≤ s by omega), Int.tmod_eq_emod_of_nonneg (show 0 ≤ y + m - s / r % m * x % m by omega)]
      have n1 := Int.emod_add_mul_ediv (y + m - s / r % m * x % m) m
      have n2 := Int.emod_nonneg (y + m - s / r % m * x % m) hne
      have n3 := Int.emod_lt_of_pos (y + m - s / r % m * x % m) hm
      refine ⟨_, rfl, ⟨r2, r3, (show r ≤ m by omega), n2, n3, h4, h5, ?_, h8, ?_⟩, by simp only; omega⟩
      · simp only
        obtain ⟨u, hu⟩ := h8
        obtain ⟨v, hv⟩ := h9
        generalize (y + m - s / r % m * x % m) % m = nx at *
        generalize (y + m - s / r % m * x % m) / m = k1 at *
        generalize s / r % m * x % m = t at *
        generalize s / r % m * x / m = k2 at *
        generalize s / r % m = qm at *
        generalize s / r / m = k3 at *
        generalize s / r = q at *
        generalize s % r = sr at *
        refine ⟨v - q * u - a * (1 + k3 * x + k2 - k1), ?_⟩
        have e1 : sr = s - r * q := by omega
        have e2 : nx = y + m - t - m * k1 := by omega
        have e3 : t = qm * x - m * k2 := by omega
        have e4 : qm = q - m * k3 := by omega
        have e5 : s = m * v + y * a := by omega
        have e6 : r = m * u + x * a := by omega
        clear h1 h2 h3 h4 h5 h6 h7 h10 q0 q1 r1 r2 r3 m1 m2 m3 t1 t2 t3 n1 n2 n3 hu hv h0 e0
        subst e1 e2 e3 e4 e5 e6
        grind
      · simp only
        have := gcd_step (x := s) (y := r) (by omega) h1
        rw [Int.tmod_eq_emod_of_nonneg (by omega)] at this
        rw [Int.gcd_comm, this, Int.gcd_comm]; exact h10
  · simp only
    have a1 := Int.emod_add_mul_ediv a m
    have a2 := Int.emod_nonneg a hne
    have a3 := Int.emod_lt_of_pos a hm
    have o1 := Int.emod_add_mul_ediv 1 m
    have o2 := Int.emod_nonneg 1 hne
    have o3 := Int.emod_lt_of_pos 1 hm
    rw [Int.tmod_eq_emod_of_nonneg ha, Int.tmod_eq_emod_of_nonneg (by omega)]
    refine ⟨a2, a3, Int.le_refl _, o2, o3, Int.le_refl _, hm, ?_, ?_, ?_⟩
    · refine ⟨1 / m * a - a / m, ?_⟩
      generalize a % m = A at *
      generalize (1 : Int) % m = O at *
      generalize a / m = A' at *
      generalize (1 : Int) / m = O' at *
      have e1 : O = 1 - m * O' := by omega
      have e2 : A = a - m * A' := by omega
      clear a1 a2 a3 o1 o2 o3
      subst e1 e2
      grind
    · simp
    · have := gcd_step (x := a) (y := m) ha (by omega)
      rw [Int.tmod_eq_emod_of_nonneg ha] at this
      rw [Int.gcd_comm, this, hg]
theorem low_of {z : Int} (h : I64 z) : wLow (ofW z) = z := by
  unfold wLow ofW
  show wrap64 (loW z) = z
  unfold wrap64 loW; unfold I64 at h; omega
theorem ti_pos {a b : Int} (ha : 0 ≤ a) : a.tdiv b = a / b := Int.tdiv_eq_ediv_of_nonneg ha
theorem wdiv {g z : Int} (hg : 0 < g) (hz : 0 ≤ z) (k : g * z < 18446744073709551616) (kz : z < 18446744073709551616) : IntKind.u64.wrap ((IntKind.u64.wrap (g * z)).tdiv g) = z := by
  have h0 : 0 ≤ g * z := Int.mul_nonneg (by omega) hz
  rw [u64w h0 k, ti_pos h0, Int.mul_ediv_cancel_left _ (by omega), u64w hz kz]
theorem both_eq {x y : TApiCong} (kx : okC x) (ky : okC y) (hx : 0 < x.gM) (hy : 0 < y.gM) (rx : 0 ≤ x.gR ∧ x.gR < x.gM) (ry : 0 ≤ y.gR ∧ y.gR < y.gM)
    (hd : (Int.gcd x.gM y.gM : Int) ∣ x.gR - y.gR) (fit : x.gM * (y.gM / (Int.gcd x.gM y.gM : Int)) < 9223372036854775808) :
    ∃ w, cong_both x y (Int.gcd x.gM y.gM : Int) = some w ∧ 0 ≤ w ∧ w < x.gM * (y.gM / (Int.gcd x.gM y.gM : Int)) ∧ x.gM ∣ w - x.gR ∧ y.gM ∣ w - y.gR := by
  obtain ⟨sx, M, R⟩ := x
  obtain ⟨sy, N, S⟩ := y
  simp only [okC] at *
  have gp : 0 < (Int.gcd M N : Int) := by
    have : Int.gcd M N ≠ 0 := by rw [Ne, Int.gcd_eq_zero_iff]; omega
    omega
  have g1 : (Int.gcd M N : Int) ∣ M := Int.gcd_dvd_left ..
  have g2 : (Int.gcd M N : Int) ∣ N := Int.gcd_dvd_right ..
  have cop : Int.gcd (M / (Int.gcd M N : Int)) (N / (Int.gcd M N : Int)) = 1 := by
    obtain ⟨m, rfl⟩ := Int.eq_ofNat_of_zero_le (Int.le_of_lt hx)
    obtain ⟨n, rfl⟩ := Int.eq_ofNat_of_zero_le (Int.le_of_lt hy)
    have := Nat.gcd_div_gcd_div_gcd_of_pos_left (n := m) (m := n) (by omega)
    exact this
  generalize (Int.gcd M N : Int) = g at *
  obtain ⟨p, rfl⟩ := g1
  obtain ⟨n, rfl⟩ := g2
  rw [Int.mul_ediv_cancel_left _ (by omega), Int.mul_ediv_cancel_left _ (by omega)] at cop
  rw [Int.mul_ediv_cancel_left _ (by omega)] at fit ⊢
  have hp : 0 < p := by rw [Int.mul_comm] at hx; exact Int.pos_of_mul_pos_left hx gp
  have hn : 0 < n := by rw [Int.mul_comm] at hy; exact Int.pos_of_mul_pos_left hy gp
  have ub : ∀ z : Int, 0 < z → z ≤ g * z := fun z hz => by
    have := Int.mul_le_mul_of_nonneg_right (show 1 ≤ g by omega) (Int.le_of_lt hz)
    omega
  have kM : g * p < 9223372036854775808 := kx.1.2
  have kN : g * n < 9223372036854775808 := ky.1.2
  have pM := ub p hp
  have pN := ub n hn
  have c1 := Int.emod_nonneg R (show g * n ≠ 0 by omega)
  have c2 := Int.emod_lt_of_pos R hy
  have c3 := Int.emod_add_mul_ediv R (g * n)
  have d1 := Int.emod_nonneg (S - R % (g * n)) (show g * n ≠ 0 by omega)
  have d2 := Int.emod_lt_of_pos (S - R % (g * n)) hy
  have d3 := Int.emod_add_mul_ediv (S - R % (g * n)) (g * n)
  -- what they differ by, modulo the second one's M
  have gD : g ∣ (S - R % (g * n)) % (g * n) := by
    obtain ⟨u, hu⟩ := hd
    refine ⟨-u + n * (R / (g * n)) - n * ((S - R % (g * n)) / (g * n)), ?_⟩
    generalize (S - R % (g * n)) % (g * n) = A at *
    generalize (S - R % (g * n)) / (g * n) = B at *
    generalize R % (g * n) = C at *
    generalize R / (g * n) = E at *
    have e1 : R = C + g * n * E := by omega
    have e2 : A = S - C - g * n * B := by omega
    have e3 : S = R - g * u := by omega
    clear fit kx ky hx hy rx ry gp cop hp hn ub kM kN pM pN c1 c2 c3 d1 d2 d3 hu
    subst e2 e3
    grind
  obtain ⟨d, hD⟩ := gD
  have hd0 : 0 ≤ d := by
    rw [hD] at d1
    exact Int.nonneg_of_mul_nonneg_right d1 gp
  have kD : d ≤ (S - R % (g * n)) % (g * n) := by
    rw [hD]
    by_cases hz : d = 0
    · subst hz; simp
    · exact ub d (by omega)
  obtain ⟨i, hi, i0, i1, i2⟩ := inv_eq (a := p) (m := n) (by omega) hn (by omega) cop
  have e0 := Int.emod_nonneg d (show n ≠ 0 by omega)
  have e1 := Int.emod_lt_of_pos d hn
  have e2 := Int.emod_add_mul_ediv d n
  have f0 := Int.emod_nonneg (d % n * i) (show n ≠ 0 by omega)
  have f1 := Int.emod_lt_of_pos (d % n * i) hn
  have f2 := Int.emod_add_mul_ediv (d % n * i) n
  have w0 : 0 ≤ g * p * (d % n * i % n) := Int.mul_nonneg (by omega) f0
  have w1 : g * p * (d % n * i % n) ≤ g * p * (n - 1) := Int.mul_le_mul_of_nonneg_left (by omega) (by omega)
  rw [Int.mul_sub, Int.mul_one] at w1
  refine ⟨R + g * p * (d % n * i % n), ?_, by omega, by omega, ?_, ?_⟩
  · unfold cong_both
    have gi : I64 (g * n) := ky.1
    have wn : IntKind.u64.wrap ((IntKind.u64.wrap (g * n)).tdiv g) = n := by
      exact wdiv gp (by omega) (by omega) (by omega)
    have wp : IntKind.u64.wrap ((IntKind.u64.wrap (g * p)).tdiv g) = p := by
      exact wdiv gp (by omega) (by omega) (by omega)
    have wd : IntKind.u64.wrap ((IntKind.u64.wrap ((S - R % (g * n)) % (g * n))).tdiv g) = d := by
      rw [hD]; rw [hD] at d1 d2
      exact wdiv gp hd0 (by omega) (by omega)
    have mo : ∀ z : Int, modI z (g * n) = z % (g * n) := fun z => by unfold modI; rw [if_neg (by omega)]
    simp only
    rw [need_ne (show g ≠ 0 by omega), mod_eq _ _ gi, mo]
    simp only [Option.bind_some]
    rw [w64 (show I64 (S - R % (g * n)) by unfold I64; omega), mod_eq _ _ gi, mo]
    simp only [Option.bind_some]
    rw [wn, wp, wd, need_ne (show n ≠ 0 by omega), hi, Int.tmod_eq_emod_of_nonneg hd0]
    simp only [Option.bind_some]
    rw [times_eq e0 i0 e1 i1 (by omega)]
    simp only [Option.bind_some]
    have ki : I64 (d % n * i % n) := by unfold I64; omega
    rw [w64 ki]
    have q1 : okI R = true := okI_of kx.2
    have q2 : okI (g * p) = true := okI_of kx.1
    have q3 : okI (d % n * i % n) = true := okI_of ki
    have v1 : vW (wOf R) = R := vW_of kx.2
    have v2 : vW (wMul (g * p) (d % n * i % n)) = g * p * (d % n * i % n) := vW_of (show I64 (g * p * (d % n * i % n)) by unfold I64; omega)
    have v3 : wAdd (wOf R) (wMul (g * p) (d % n * i % n)) = ofW (R + g * p * (d % n * i % n)) := by unfold wAdd; rw [v1, v2]
    rw [v3, need_bind (show pI R = true from q1), need_bind (show pII (g * p) (d % n * i % n) = true by simp [pII, q2, q3]), need_bind (show pWW (wOf R) (wMul (g * p) (d % n * i % n)) = true by simp [pWW, wOf, wMul, okW_ofW]), need_bind (show pW (ofW (R + g * p * (d % n * i % n))) = true from okW_ofW _)]
    rw [low_of (by unfold I64; omega)]
  · exact ⟨d % n * i % n, by omega⟩
  · obtain ⟨v, hv⟩ := i2
    generalize d % n * i % n = k at *
    generalize d % n * i / n = k1 at *
    generalize d % n = d' at *
    generalize d / n = k2 at *
    generalize (S - R % (g * n)) / (g * n) = B at *
    generalize R % (g * n) = C at *
    generalize R / (g * n) = E at *
    generalize (S - C) % (g * n) = A at *
    refine ⟨d * v - p * k2 * i - p * k1 + E - B, ?_⟩
    have x1 : S = A + C + g * n * B := by omega
    have x2 : R = C + g * n * E := by omega
    have x3 : k = d' * i - n * k1 := by omega
    have x4 : d' = d - n * k2 := by omega
    clear hi fit kx ky hx hy rx ry gp cop hp hn ub kM kN pM pN c1 c2 c3 d1 d2 d3 hd0 kD e0 e1 e2 f0 f1 f2 w0 w1 i0 i1 hd
    subst x1 x2 x3 x4 hD
    grind
end Go.Proofs.Ytjbpfgknhpdkaaa.Ab
