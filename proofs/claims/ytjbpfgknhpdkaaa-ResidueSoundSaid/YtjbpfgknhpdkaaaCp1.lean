/- Layer 5: what the functions come to, plainly. -/
import Derived.Test.YtjbpfgknhpdkaaaCg3
namespace Go.Proofs.Ytjbpfgknhpdkaaa.Ab
open Go Go.RowKit Go.Shelf Go.Proofs.Ytjbpfgknhpdkaaa
set_option linter.all false
theorem w64 {n : Int} (h : I64 n) : IntKind.i64.wrap n = n := by unfold I64 at h; rw [IntKind.wrap_i64]; omega
theorem u64w {n : Int} (h : 0 ≤ n) (k : n < 18446744073709551616) : IntKind.u64.wrap n = n := by rw [IntKind.wrap_u64]; omega
theorem need_ne {b : Int} (h : b ≠ 0) : need (b != 0) = some () := need_t (by simpa using h)
/-- The rest from 0 on. -/
theorem tmod_fix {n m : Int} (h : 0 < m) : (if n.tmod m < 0 then n.tmod m + m else n.tmod m) = n % m := by
  rw [Int.tmod_eq_emod]
  have h1 := Int.emod_nonneg n (Int.ne_of_gt h)
  have h2 := Int.emod_lt_of_pos n h
  by_cases h3 : 0 ≤ n ∨ m ∣ n
  · rw [if_pos h3]; split <;> omega
  · rw [if_neg h3]
    have : (m.natAbs : Int) = m := by omega
    rw [this]
    have h4 : n % m ≠ 0 := fun e => h3 (.inr (Int.dvd_of_emod_eq_zero e))
    split <;> omega
def modI (n m : Int) : Int := if m ≤ 0 then n else n % m
theorem modI_range {n m : Int} (h : 0 < m) : 0 ≤ modI n m ∧ modI n m < m := by
  unfold modI; rw [if_neg (by omega)]
  exact ⟨Int.emod_nonneg n (Int.ne_of_gt h), Int.emod_lt_of_pos n h⟩
theorem mod_eq (n m : Int) (hm : I64 m) : cong_Mod n m = some (modI n m) := by
  unfold cong_Mod modI
  by_cases h : m ≤ 0
  · simp [h]
  · have hp : 0 < m := by omega
    simp only [h, decide_false, cond_false, need_ne (Int.ne_of_gt hp), Option.bind_some, if_false]
    rw [← tmod_fix hp]
    have h2 : I64 (n.tmod m + m) ∨ ¬ n.tmod m < 0 := by
      by_cases h3 : n.tmod m < 0
      · left
        have := Int.lt_tmod_of_pos n hp
        unfold I64 at *; omega
      · exact .inr h3
    by_cases h3 : n.tmod m < 0
    · rcases h2 with h2 | h2
      · simp [h3, w64 h2]
      · exact absurd h3 h2
    · simp [h3]
theorem rest_eq (n m : Int) (hm : I64 m) (hp : 0 < m) : r05_rest n m = some (n % m) := by
  have h := mod_eq n m hm
  unfold cong_Mod modI at h
  rw [if_neg (by omega)] at h
  simpa [show ¬ m ≤ 0 by omega, r05_rest] using h
def normM (m : Int) : Int := if m < 0 then 1 else m
def ofC (m r : Int) : TApiCong := ⟨true, normM m, modI r (normM m)⟩
theorem normM_i {m : Int} (h : I64 m) : I64 (normM m) := by unfold normM I64 at *; split <;> omega
theorem of_eq (m r : Int) (hm : I64 m) : cong_Of m r = some (ofC m r) := by
  unfold cong_Of ofC
  have h1 : (bif decide (m < 0) then some (1 : Int) else some m) = some (normM m) := by unfold normM; by_cases h : m < 0 <;> simp [h]
  rw [h1]
  simp only [Option.bind_some]
  rw [mod_eq _ _ (normM_i hm)]
  rfl
def noneC : TApiCong := ⟨false, 0, 0⟩
def norm (c : TApiCong) : TApiCong := if c.gSome = true then ofC c.gM c.gR else noneC
theorem clean_eq (c : TApiCong) (hm : I64 c.gM) : cong_Clean c = some (norm c) := by
  unfold cong_Clean norm
  cases h : c.gSome
  · simp [noneC]
  · simp [of_eq c.gM c.gR hm]
theorem rclean_eq (c : TApiCong) (hm : I64 c.gM) : r05_Clean c = some (norm c) := by
  unfold r05_Clean norm
  cases h : c.gSome
  · simp [noneC]
  · have h1 : (bif decide (c.gM < 0) then some (1 : Int) else some c.gM) = some (normM c.gM) := by unfold normM; by_cases h : c.gM < 0 <;> simp [h]
    simp only [Bool.not_true, cond_false, if_true]
    rw [h1]
    simp only [Option.bind_some]
    by_cases h0 : normM c.gM = 0
    · simp [h0, ofC, modI]
    · have hp : 0 < normM c.gM := by unfold normM at *; split at h0 <;> omega
      have : (normM c.gM == 0) = false := by simpa using h0
      rw [this, cond_false, rest_eq _ _ (normM_i hm) hp]
      simp [ofC, modI, show ¬ normM c.gM ≤ 0 by omega]
theorem gcd_step {x y : Int} (hx : 0 ≤ x) (hy : 0 ≤ y) : Int.gcd y (x.tmod y) = Int.gcd x y := by
  obtain ⟨m, rfl⟩ := Int.eq_ofNat_of_zero_le hx
  obtain ⟨n, rfl⟩ := Int.eq_ofNat_of_zero_le hy
  rw [Int.tmod_eq_emod_of_nonneg hx]
  show Nat.gcd n (m % n) = Nat.gcd m n
  rw [Nat.gcd_comm m n, Nat.gcd_rec n m, Nat.gcd_comm]
/-- The greatest common factor. -/
theorem gcd_eq (a b : Int) (ha : 0 ≤ a) (hb : 0 ≤ b) : cong_Gcd a b = some (Int.gcd a b : Int) := by
  unfold cong_Gcd
  refine loopM_eq (fun s => 0 ≤ s.1 ∧ 0 ≤ s.2) (fun s => s.2.toNat) (fun s => (Int.gcd s.1 s.2 : Int)) ?_ (a, b) ⟨ha, hb⟩
  rintro ⟨x, y⟩ ⟨hx, hy⟩
  simp only at hx hy ⊢
  by_cases h0 : y = 0
  · right; subst h0
    simp [Int.natAbs_of_nonneg hx]
  · left
    have : (y == 0) = false := by simpa using h0
    refine ⟨(y, x.tmod y), ?_, ⟨hy, Int.tmod_nonneg _ hx⟩, ?_, ?_⟩
    · rw [this, cond_false, need_ne h0]; rfl
    · have := Int.tmod_lt_of_pos x (show 0 < y by omega)
      have := Int.tmod_nonneg y hx
      simp only; omega
    · simp only
      rw [gcd_step hx hy]
theorem rgcd_eq (a b : Int) (ha : 0 ≤ a) (hb : 0 ≤ b) (ka : a < 18446744073709551616) (kb : b < 18446744073709551616) : r05_Gcd a b = some (Int.gcd a b : Int) := by
  unfold r05_Gcd
  refine loop_bind (fun s => 0 ≤ s.1 ∧ 0 ≤ s.2 ∧ s.1 < 18446744073709551616 ∧ s.2 < 18446744073709551616 ∧ (Int.gcd s.1 s.2 : Int) = (Int.gcd a b : Int)) (fun s => s.1.toNat + s.2.toNat) (fun t => t.1 + t.2 = (Int.gcd a b : Int) ∧ 0 ≤ t.1 + t.2 ∧ t.1 + t.2 < 18446744073709551616) ⟨ha, hb, ka, kb, rfl⟩ ?_ ?_
  · rintro ⟨x, y⟩ ⟨hx, hy, kx, ky, hg⟩
    simp only at hx hy kx ky hg ⊢
    by_cases h0 : x = 0
    · right; subst h0
      refine ⟨(0, y), by simp, ?_⟩
      simp only [Int.zero_add]
      refine ⟨?_, hy, ky⟩
      rw [← hg]; simp [Int.natAbs_of_nonneg hy]
    by_cases h1 : y = 0
    · right; subst h1
      refine ⟨(x, 0), by simp, ?_⟩
      simp only [Int.add_zero]
      refine ⟨?_, hx, kx⟩
      rw [← hg]; simp [Int.natAbs_of_nonneg hx]
    left
    have e0 : (x != 0) = true := by simpa using h0
    have e1 : (y != 0) = true := by simpa using h1
    by_cases h2 : y ≤ x
    · refine ⟨(x.tmod y, y), by simp [e0, e1, h2, need], ?_, ?_⟩
      · have := Int.tmod_lt_of_pos x (show 0 < y by omega)
        exact ⟨Int.tmod_nonneg _ hx, hy, by simp only; omega, ky, by simp only; rw [← hg, Int.gcd_comm, gcd_step hx hy]⟩
      · have := Int.tmod_lt_of_pos x (show 0 < y by omega)
        have := Int.tmod_nonneg y hx
        simp only; omega
    · refine ⟨(x, y.tmod x), by simp [e0, e1, h2, need], ?_, ?_⟩
      · have := Int.tmod_lt_of_pos y (show 0 < x by omega)
        exact ⟨hx, Int.tmod_nonneg _ hy, kx, by simp only; omega, by simp only; rw [← hg, gcd_step hy hx, Int.gcd_comm]⟩
      · have := Int.tmod_lt_of_pos y (show 0 < x by omega)
        have := Int.tmod_nonneg x hy
        simp only; omega
  · rintro ⟨x, y⟩ ⟨h1, h2, h3⟩
    simp only at h1 h2 h3 ⊢
    rw [u64w h2 h3, h1]
end Go.Proofs.Ytjbpfgknhpdkaaa.Ab
