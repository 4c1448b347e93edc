/- Layer 5: what makes a congruence. -/
import Derived.Test.YtcjgacmoemiifaaCp5
namespace Go.Proofs.Ytcjgacmoemiifaa.Ab
open Go Go.RowKit Go.Shelf Go.Proofs.Ytcjgacmoemiifaa
set_option linter.all false
def wfT2Uint64 (x : T2Uint64) : Prop := (Lit.int .u64 x.g0).wf = true ∧ (Lit.int .u64 x.g1).wf = true
theorem goodT2Uint64 {n : Nat} {d : D} (g : GoodT tab n 23 d) : ∃ x : T2Uint64, d = eT2Uint64 x ∧ wfT2Uint64 x := by
  obtain ⟨n', ds, _, rfl, hl, h⟩ := good_array ti23 rfl g
  match ds, hl with
  | [d0, d1], _ =>
    obtain ⟨x1, rfl, w1⟩ := good_int ti22 rfl (h d0 (by simp))
    obtain ⟨x2, rfl, w2⟩ := good_int ti22 rfl (h d1 (by simp))
    exact ⟨⟨x1, x2⟩, rfl, w1, w2⟩
theorem makes (m r : Int) (x : T2Uint64) (hm : I64 m) (h0 : 0 ≤ x.g0) (k0 : x.g0 < 18446744073709551616) (h1 : 0 ≤ x.g1) (k1 : x.g1 < 18446744073709551616) : l05_CongMakes m r x = some true := by
  have e1 : norm ⟨true, m, r⟩ = ofC m r := rfl
  have e2 : norm ⟨true, 0, r⟩ = ⟨true, 0, r⟩ := by simp [norm, ofC, normM, modI]
  have e3 : (bif decide (0 < m) then some (ofC m r).gR else some r) = some (modI r m) := by
    by_cases h : 0 < m
    · have : normM m = m := by unfold normM; rw [if_neg (by omega)]
      simp [h, ofC, this]
    · simp [h, modI, show m ≤ 0 by omega]
  unfold l05_CongMakes
  rw [rclean_eq ⟨true, m, r⟩ hm, e1]
  simp only [Option.bind_some]
  rw [e3, of_eq m r hm, one_eq, rclean_eq ⟨true, 0, r⟩ i64_0, e2, all_eq, mod_eq r m hm, gcd_eq _ _ h0 h1, rgcd_eq _ _ h0 h1 k0 k1, lives05]
  simp
theorem CongMakes_true (a0 a1 : Int) (a2 : T2Uint64) (k0 : (Lit.int .i64 a0).wf = true) (k1 : (Lit.int .i64 a1).wf = true) (k2 : wfT2Uint64 a2) : l05_CongMakes a0 a1 a2 = some true :=
  makes a0 a1 a2 (i64_wf k0) (u64_wf k2.1).1 (u64_wf k2.1).2 (u64_wf k2.2).1 (u64_wf k2.2).2
end Go.Proofs.Ytcjgacmoemiifaa.Ab
