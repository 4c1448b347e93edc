/- Layer 5: the laws, plainly. -/
import Derived.Test.YtcjgacmoemiifaaCp3
namespace Go.Proofs.Ytcjgacmoemiifaa.Ab
open Go Go.RowKit Go.Shelf Go.Proofs.Ytcjgacmoemiifaa
set_option linter.all false
theorem one_eq (n : Int) : cong_One n = some ⟨true, 0, n⟩ := by
  unfold cong_One
  rw [of_eq 0 n i64_0]
  simp [ofC, normM, modI]
theorem all_eq : cong_All = some ⟨true, 1, 0⟩ := by
  unfold cong_All
  rw [of_eq 1 0 i64_1]
  rfl
theorem idx_at {α : Type} {xs : List α} {n : Nat} (h : n < xs.length) : idx xs (n : Int) = some xs[n] := by
  rw [idx_nat]; simp [h]
theorem wrapS1 {n : Nat} (h : n < 9223372036854775807) : IntKind.i64.wrap ((n : Int) + 1) = ((n + 1 : Nat) : Int) := by
  rw [IntKind.wrap_i64]; omega
theorem climbs (a0 : List TApiCong) (h : ∀ c ∈ a0, okC c) (hl : a0.length ≤ 9223372036854775807) (hv : l05_lives = some true) : l05_CongClimbs a0 = some true := by
  unfold l05_CongClimbs
  refine loop_bind (fun s => ∃ (n i : Nat), s.1 = (n : Int) ∧ s.2.1 = (i : Int) ∧ i ≤ a0.length ∧ clean ⟨s.2.2.1, s.2.2.2.1, s.2.2.2.2⟩ ∧ okC ⟨s.2.2.1, s.2.2.2.1, s.2.2.2.2⟩ ∧ n + rank ⟨s.2.2.1, s.2.2.2.1, s.2.2.2.2⟩ ≤ 65) (fun s => a0.length - s.2.1.toNat) (fun t => ∃ v, t = .inl v ∧ v.1 ≤ 65) ?_ ?_ ?_
  · exact ⟨0, 0, rfl, rfl, Nat.zero_le _, rfl, ⟨i64_0, i64_0⟩, by decide⟩
  · rintro ⟨n', i', b, m, r⟩ ⟨n, i, e1, e2, hi, hc, hk, hr⟩
    simp only at e1 e2 hc hk hr ⊢
    subst e1; subst e2
    by_cases hlt : i < a0.length
    · left
      have hx : okC a0[i] := h _ (List.getElem_mem hlt)
      have cx : clean (norm a0[i]) := norm_norm _
      have kx : okC (norm a0[i]) := norm_ok hx
      have hj : cong_Join ⟨b, m, r⟩ a0[i] = some (joinC ⟨b, m, r⟩ (norm a0[i])) := by rw [join_eq hk hx, hc]
      have hj2 : cong_Join a0[i] ⟨b, m, r⟩ = some (joinC ⟨b, m, r⟩ (norm a0[i])) := by rw [join_eq hx hk, hc, join_comm cx hc]
      have cj := join_clean hc cx
      have kj := join_ok hk kx
      have l1 : r05_Leq ⟨b, m, r⟩ (joinC ⟨b, m, r⟩ (norm a0[i])) = some true := by rw [rleq_eq hk kj, cj, hc, leq_left hc cx]
      have l2 : r05_Leq a0[i] (joinC ⟨b, m, r⟩ (norm a0[i])) = some true := by rw [rleq_eq hx kj, cj, leq_right hc cx]
      have hd : (decide ((i : Int) < (a0.length : Int))) = true := by simpa using hlt
      have hrk : joinC ⟨b, m, r⟩ (norm a0[i]) ≠ ⟨b, m, r⟩ → rank (joinC ⟨b, m, r⟩ (norm a0[i])) < rank ⟨b, m, r⟩ := rank_join hc cx hk kx
      rw [hd, cond_true, idx_at hlt]
      simp only [Option.bind_some, hj, l1, l2, hj2, Bool.not_true, cond_false, beq_self_eq_true, Bool.and_self]
      generalize joinC ⟨b, m, r⟩ (norm a0[i]) = d at *
      have hw : IntKind.i64.wrap ((i : Int) + 1) = ((i + 1 : Nat) : Int) := wrapS1 (by omega)
      rw [hw]
      by_cases hs : d = ⟨b, m, r⟩
      · subst hs
        refine ⟨(n, ((i + 1 : Nat) : Int), b, m, r), by simp, ⟨n, i + 1, rfl, rfl, by omega, hc, hk, hr⟩, ?_⟩
        simp only; omega
      · have hne : (d.gSome == b && (d.gM == m && (d.gR == r && true))) = false := by
          rw [Bool.eq_false_iff]
          intro q
          simp only [Bool.and_true, Bool.and_eq_true, beq_iff_eq] at q
          exact hs (ceq q.1 q.2.1 q.2.2)
        have := hrk hs
        rw [hne]
        refine ⟨(((n + 1 : Nat) : Int), ((i + 1 : Nat) : Int), d.gSome, d.gM, d.gR), ?_, ⟨n + 1, i + 1, rfl, rfl, by omega, cj, kj, by show n + 1 + rank d ≤ 65; omega⟩, ?_⟩
        · simp [wrapS1 (n := n) (by omega)]
        · simp only; omega
    · right
      have hd : (decide ((i : Int) < (a0.length : Int))) = false := by simpa using hlt
      rw [hd]
      exact ⟨_, rfl, _, rfl, by simp only; omega⟩
  · rintro _ ⟨v, rfl, hv'⟩
    simp [Sum.elim, hv', hv]
theorem times_small {a b m : Int} (ha : 0 ≤ a) (hb : 0 ≤ b) (hm : 0 < m) (h : a * b < 18446744073709551616) (ka : a < 18446744073709551616) (kb : b < 18446744073709551616) : cong_times a b m = some ((a * b) % m) := by
  have h0 : 0 ≤ a * b := Int.mul_nonneg ha hb
  have e1 : (mul64 a b).1 = 0 := by show a * b / 18446744073709551616 = 0; omega
  have e2 : (mul64 a b).2 = a * b := by show a * b % 18446744073709551616 = a * b; omega
  unfold cong_times
  rw [need_bind (show pUU a b = true by simp [pUU, okU]; omega), e1, e2]
  unfold math_bits_Div64
  have k1 : (m == 0) = false := by simpa using (show m ≠ 0 by omega)
  have k2 : decide (m ≤ 0) = false := by simp; omega
  simp only [k1, k2, cond_false, beq_self_eq_true, cond_true, need_ne (show m ≠ 0 by omega), Option.bind_some]
  rw [Int.tmod_eq_emod_of_nonneg h0]
theorem inv35 : cong_inverse 3 5 = some 2 := by
  unfold cong_inverse
  have w : ∀ n : Int, 0 ≤ n → n < 100 → IntKind.u64.wrap n = n := fun n h k => u64w h (by omega)
  rw [need_ne (by decide)]
  simp only [Option.bind_some]
  refine loopM_of (n := 5) ?_
  have t1 : cong_times 1 1 5 = some 1 := times_small (by decide) (by decide) (by decide) (by decide) (by decide) (by decide)
  have t2 : cong_times 1 4 5 = some 4 := times_small (by decide) (by decide) (by decide) (by decide) (by decide) (by decide)
  have t3 : cong_times 2 2 5 = some 4 := times_small (by decide) (by decide) (by decide) (by decide) (by decide) (by decide)
  simp [loopN, need, w, t1, t2, t3]
end Go.Proofs.Ytcjgacmoemiifaa.Ab
