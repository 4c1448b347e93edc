/- Words of bits: what the library gives. -/
import Derived.Test.YtjbpfgknhpdkaaaWk
import Derived.Test.YtjbpfgknhpdkaaaShelf
namespace Go.Proofs.Ytjbpfgknhpdkaaa.Ab
open Go Go.RowKit Go.Shelf Go.Proofs.Ytjbpfgknhpdkaaa
set_option linter.all false
def okU (n : Int) : Bool := decide (0 ≤ n) && decide (n < 18446744073709551616)
def pU (a0 : Int) : Bool := okU a0
def pUU (a0 a1 : Int) : Bool := okU a0 && okU a1
theorem okU_i {n : Int} (h : okU n = true) : 0 ≤ n ∧ n < 18446744073709551616 := by
  simpa [okU] using h
def lead (a0 : Int) : Int := 64 - (Lib.bitLen a0.toNat : Nat)
theorem lead_ok (a0 : Int) (h : pU a0 = true) : CallsD Try.prog 79 [.v (.int .u64 a0)] [] [] (fun d h k => d = .v (.int .i64 (lead a0)) ∧ h = [] ∧ k = []) :=
  of_calls (us := #[.int .u64 a0]) (v := .int .i64 (lead a0)) ⟨_, Try.func79, rfl, rfl⟩ rfl (fun _ => rep_v rfl) fun w => by
    obtain ⟨h0, h1⟩ := okU_i h
    exact (Try.bits_LeadingZeros64 a0 w h0 (by omega)).mono fun _ w' ⟨e1, e2⟩ => ⟨e1, by subst e2; exact Below.refl _ _⟩
def mul64 (a0 a1 : Int) : Int × Int := (a0 * a1 / 18446744073709551616, a0 * a1 % 18446744073709551616)
theorem rep_two {H : Hp} {x y : Value} (hx : one x = true) (hy : one y = true) : Rep H (.tup [.v x, .v y]) (.tuple #[x, y]) := by
  refine ⟨?_, rfl⟩
  simp only [Value.cells, RepC]
  refine ⟨[x, y], rfl, ?_⟩
  simp only [RepsV]
  exact ⟨x, [y], rfl, rep_v hx, y, [], rfl, rep_v hy, rfl⟩
theorem mul64_ok (a0 a1 : Int) (h : pUU a0 a1 = true) : CallsD Try.prog 77 [.v (.int .u64 a0), .v (.int .u64 a1)] [] [] (fun d h k => d = .tup [.v (.int .u64 (mul64 a0 a1).1), .v (.int .u64 (mul64 a0 a1).2)] ∧ h = [] ∧ k = []) := by
  have hh : okU a0 = true ∧ okU a1 = true := by simpa [pUU] using h
  obtain ⟨h0, h1⟩ := okU_i hh.1
  obtain ⟨h2, h3⟩ := okU_i hh.2
  obtain ⟨m, rfl⟩ := Int.eq_ofNat_of_zero_le h0
  obtain ⟨n, rfl⟩ := Int.eq_ofNat_of_zero_le h2
  refine of_calls (us := #[.int .u64 m, .int .u64 n]) (v := .tuple #[.int .u64 ((m * n / 18446744073709551616 : Nat) : Int), .int .u64 ((m * n % 18446744073709551616 : Nat) : Int)]) ⟨_, Try.func77, rfl, rfl⟩ rfl (fun _ => ?_) fun w =>
    (Try.bits_Mul64 m n (by omega) (by omega) w).mono fun _ w' ⟨e1, e2⟩ => ⟨e1, by subst e2; exact Below.refl _ _⟩
  have e1 : (mul64 m n).1 = ((m * n / 18446744073709551616 : Nat) : Int) := by simp [mul64]
  have e2 : (mul64 m n).2 = ((m * n % 18446744073709551616 : Nat) : Int) := by simp [mul64]
  rw [e1, e2]
  exact rep_two rfl rfl
end Go.Proofs.Ytjbpfgknhpdkaaa.Ab
