/- Layer 5: joining has all of both, and ends. -/
import Derived.Test.YtjbpfgknhpdkaaaCp2
namespace Go.Proofs.Ytjbpfgknhpdkaaa.Ab
open Go Go.RowKit Go.Shelf Go.Proofs.Ytjbpfgknhpdkaaa
set_option linter.all false
def hasC (x : TApiCong) (n : Int) : Bool := x.gSome && (if x.gM = 0 then n == x.gR else n % x.gM == x.gR)
theorem rhas_eq {c : TApiCong} (h : okC c) (n : Int) : r05_Has c n = some (hasC (norm c) n) := by
  have k := norm_ok h
  have cl : clean (norm c) := norm_norm c
  unfold r05_Has
  rw [rclean_eq c h.1]
  generalize norm c = x at *
  simp only [Option.bind_some, hasC]
  cases hx : x.gSome
  · simp
  · have mx := clean_m cl hx
    by_cases h0 : x.gM = 0
    · simp [h0]
    · have : (x.gM == 0) = false := by simpa using h0
      rw [this, rest_eq _ _ k.1 (by omega)]
      simp [h0]
def leqC (x y : TApiCong) : Bool := !x.gSome || (y.gSome && (if y.gM = 0 then (x.gM == 0) && (x.gR == y.gR) else (x.gM % y.gM == 0) && hasC y x.gR))
theorem clean_r {c : TApiCong} (h : clean c) (hs : c.gSome = true) (hm : 0 < c.gM) : 0 ≤ c.gR ∧ c.gR < c.gM := by
  have h2 := h
  unfold clean norm at h
  rw [if_pos hs] at h
  have e1 : (ofC c.gM c.gR).gR = c.gR := congrArg TApiCong.gR h
  have e2 : normM c.gM = c.gM := by unfold normM; rw [if_neg (by omega)]
  simp only [ofC, e2] at e1
  have := modI_range (n := c.gR) hm
  rw [e1] at this; exact this
theorem clean_none {c : TApiCong} (h : clean c) (hs : c.gSome = false) : c = noneC := by
  unfold clean norm at h
  rw [hs] at h
  simpa using h.symm
theorem clean_ofC {g r : Int} : clean (ofC g r) := by
  have := norm_norm ⟨true, g, r⟩
  exact this
theorem join_clean {x y : TApiCong} (hx : clean x) (hy : clean y) : clean (joinC x y) := by
  unfold joinC
  split
  · exact hy
  · split
    · exact hx
    · split
      · exact clean_ofC (g := 1) (r := 0)
      · exact clean_ofC
theorem join_ok {x y : TApiCong} (hx : okC x) (hy : okC y) : okC (joinC x y) := by
  unfold joinC
  split
  · exact hy
  · split
    · exact hx
    · split
      · exact ⟨i64_1, i64_0⟩
      · rename_i hg
        have h0 : 0 ≤ joinG x y := by unfold joinG; omega
        exact norm_ok (c := ⟨true, joinG x y, x.gR⟩) ⟨show I64 (joinG x y) from ⟨by omega, by omega⟩, hx.2⟩
theorem g_dvd (x y : TApiCong) : joinG x y ∣ x.gM ∧ joinG x y ∣ y.gM ∧ joinG x y ∣ x.gR - y.gR := by
  unfold joinG
  have h1 := Int.gcd_dvd_left (a := (Int.gcd x.gM y.gM : Int)) (b := ((x.gR - y.gR).natAbs : Int))
  have h2 := Int.gcd_dvd_right (a := (Int.gcd x.gM y.gM : Int)) (b := ((x.gR - y.gR).natAbs : Int))
  refine ⟨Int.dvd_trans h1 (Int.gcd_dvd_left ..), Int.dvd_trans h1 (Int.gcd_dvd_right ..), ?_⟩
  exact Int.dvd_natAbs.1 h2
theorem g_comm (x y : TApiCong) : joinG x y = joinG y x := by
  unfold joinG
  rw [Int.gcd_comm x.gM, show (x.gR - y.gR).natAbs = (y.gR - x.gR).natAbs by omega]
theorem g_nonneg (x y : TApiCong) : 0 ≤ joinG x y := by unfold joinG; omega
theorem ofC_congr {g r r' : Int} (hg : 0 ≤ g) (h : g ∣ r - r') : ofC g r = ofC g r' := by
  have e : normM g = g := by unfold normM; rw [if_neg (by omega)]
  unfold ofC
  rw [e]
  have : modI r g = modI r' g := by
    unfold modI
    split
    · have : g = 0 := by omega
      subst this
      have := Int.zero_dvd.1 h
      omega
    · exact Int.emod_eq_emod_iff_emod_sub_eq_zero.2 (Int.emod_eq_zero_of_dvd h)
  rw [this]
theorem join_comm {x y : TApiCong} (hx : clean x) (hy : clean y) : joinC x y = joinC y x := by
  unfold joinC
  cases h1 : x.gSome
  · cases h2 : y.gSome
    · simp [clean_none hx h1, clean_none hy h2]
    · simp
  · cases h2 : y.gSome
    · simp
    · simp only [Bool.true_eq_false, if_false]
      rw [g_comm x y]
      split
      · rfl
      · exact ofC_congr (g_nonneg _ _) (by rw [g_comm]; exact (g_dvd x y).2.2)
theorem leq_left {x y : TApiCong} (hx : clean x) (hy : clean y) : leqC x (joinC x y) = true := by
  unfold joinC
  cases h1 : x.gSome
  · simp [leqC, h1]
  · have mx := clean_m hx h1
    cases h2 : y.gSome
    · simp only [Bool.true_eq_false, if_false, if_true, leqC, h1]
      by_cases h0 : x.gM = 0
      · simp [h0]
      · have := clean_r hx h1 (by omega)
        simp [h0, hasC, h1, Int.emod_eq_of_lt this.1 this.2]
    · simp only [Bool.true_eq_false, if_false]
      split
      · simp [leqC, hasC, Int.emod_one]
      · have hg := g_nonneg x y
        obtain ⟨d1, _, _⟩ := g_dvd x y
        have e : normM (joinG x y) = joinG x y := by unfold normM; rw [if_neg (by omega)]
        simp only [leqC, ofC, e, hasC]
        by_cases h0 : joinG x y = 0
        · rw [h0] at d1 ⊢
          have := Int.zero_dvd.1 d1
          simp [this, modI]
        · simp [h0, modI, show ¬ joinG x y ≤ 0 by omega, Int.emod_eq_zero_of_dvd d1]
theorem leq_right {x y : TApiCong} (hx : clean x) (hy : clean y) : leqC y (joinC x y) = true := by
  rw [join_comm hx hy]; exact leq_left hy hx
/-- How often it may still change. -/
def rank (c : TApiCong) : Nat := if c.gSome = false then 65 else if c.gM = 0 then 64 else Nat.log2 c.gM.toNat
theorem ceq {a b : TApiCong} (h1 : a.gSome = b.gSome) (h2 : a.gM = b.gM) (h3 : a.gR = b.gR) : a = b := by cases a; cases b; simp_all
theorem log_lt {m : Int} (h : 0 < m) (k : m < 9223372036854775808) : Nat.log2 m.toNat ≤ 62 := by
  have : Nat.log2 m.toNat < 63 := (Nat.log2_lt (by omega)).2 (by omega)
  omega
theorem rank_join {x y : TApiCong} (hx : clean x) (hy : clean y) (kx : okC x) (ky : okC y) (h : joinC x y ≠ x) : rank (joinC x y) < rank x := by
  have hcl := join_clean hx hy
  have hok := join_ok kx ky
  cases h1 : x.gSome
  · have e : joinC x y = y := by unfold joinC; rw [if_pos h1]
    rw [e] at h hok hcl ⊢
    have hys : y.gSome = true := by
      cases h2 : y.gSome
      · exact absurd ((clean_none hy h2).trans (clean_none hx h1).symm) h
      · rfl
    unfold rank
    rw [hys, h1]
    simp only [Bool.true_eq_false, if_false, if_true]
    have := clean_m hy hys
    have ky' := ky.1; unfold I64 at ky'
    split
    · omega
    · have := log_lt (m := y.gM) (by omega) (by omega); omega
  · have mx := clean_m hx h1
    have kx' := kx.1; unfold I64 at kx'
    cases h2 : y.gSome
    · exact absurd (by unfold joinC; rw [h1, h2]; simp) h
    · have e : joinC x y = if 9223372036854775807 < joinG x y then ⟨true, 1, 0⟩ else ofC (joinG x y) x.gR := by unfold joinC; rw [h1, h2]; simp
      obtain ⟨d1, d2, d3⟩ := g_dvd x y
      have hg := g_nonneg x y
      rw [e] at h ⊢
      by_cases hb : 9223372036854775807 < joinG x y
      · rw [if_pos hb] at h ⊢
        have hm : x.gM = 0 := by
          by_cases h0 : x.gM = 0
          · exact h0
          · have := Int.le_of_dvd (by omega) d1; omega
        unfold rank
        simp only [h1, hm]
        decide
      · rw [if_neg hb] at h ⊢
        have en : normM (joinG x y) = joinG x y := by unfold normM; rw [if_neg (by omega)]
        unfold rank
        simp only [ofC, en, h1, Bool.true_eq_false, if_false]
        by_cases h0 : x.gM = 0
        · simp only [h0, if_true]
          by_cases h3 : joinG x y = 0
          · exfalso
            apply h
            refine ceq h1.symm ?_ ?_
            · simp [ofC, h3, h0, normM]
            · simp [ofC, h3, modI, normM]
          · rw [if_neg h3]
            have := log_lt (m := joinG x y) (by omega) (by omega); omega
        · have hgp : 0 < joinG x y := by
            rcases Int.lt_or_eq_of_le hg with q | q
            · exact q
            · rw [← q] at d1; exact absurd (Int.zero_dvd.1 d1) h0
          rw [if_neg h0, if_neg (by omega)]
          obtain ⟨c, hc⟩ := d1
          have hcp : 0 < c := by
            rcases Int.lt_or_le 0 c with q | q
            · exact q
            · have : joinG x y * c ≤ 0 := Int.mul_nonpos_of_nonneg_of_nonpos (by omega) q
              omega
          have hc1 : c ≠ 1 := by
            intro q
            subst q
            apply h
            have em : joinG x y = x.gM := by omega
            have hr := clean_r hx h1 (by omega)
            refine ceq h1.symm ?_ ?_
            · show normM (joinG x y) = x.gM
              rw [en, em]
            · show modI x.gR (normM (joinG x y)) = x.gR
              rw [en, em]
              unfold modI
              rw [if_neg (by omega), Int.emod_eq_of_lt hr.1 hr.2]
          have h2g : 2 * joinG x y ≤ x.gM := by
            rw [hc, Int.mul_comm]
            exact Int.mul_le_mul_of_nonneg_left (by omega) (by omega)
          have hne : (joinG x y).toNat ≠ 0 := by omega
          have l1 : Nat.log2 (2 * (joinG x y).toNat) ≤ Nat.log2 x.gM.toNat := by
            rw [Nat.le_log2 (by omega)]
            exact Nat.le_trans (Nat.log2_self_le (by omega)) (by omega)
          rw [Nat.log2_two_mul hne] at l1
          omega
end Go.Proofs.Ytjbpfgknhpdkaaa.Ab
