/- Layer 1: the least and the greatest: the plain law; the arguments. -/
import Derived.Test.YtbkohmpogdameaaBt
import Derived.Test.YtbkohmpogdameaaFr
namespace Go.Proofs.Ytbkohmpogdameaa.Ab
open Go Go.RowKit Go.Shelf Go.Proofs.Ytbkohmpogdameaa
theorem cmp_ltB {x y : Int} : (cmpI x y == -1) = decide (x < y) := by
  unfold cmpI
  by_cases h : x < y
  · simp [h]
  · rw [if_neg h]
    by_cases h2 : y < x <;> simp [h, h2]
theorem cmp_gtB {x y : Int} : (cmpI x y == 1) = decide (y < x) := by
  unfold cmpI
  by_cases h : x < y
  · rw [if_pos h]; simp; omega
  · rw [if_neg h]
    by_cases h2 : y < x <;> simp [h2]
theorem least : ∀ (l : List WP) (a : WP), val (bestF (-1) a l) ≤ val a ∧ (∀ b ∈ l, val (bestF (-1) a l) ≤ val b) ∧ (bestF (-1) a l = a ∨ bestF (-1) a l ∈ l)
  | [], a => ⟨Int.le_refl _, by simp, .inl rfl⟩
  | b :: l, a => by
    have e : bestF (-1) a (b :: l) = bestF (-1) (stepB (-1) a b) l := rfl
    rw [e]
    obtain ⟨h1, h2, h3⟩ := least l (stepB (-1) a b)
    have hs : stepB (-1) a b = if val b < val a then b else a := by
      unfold stepB; rw [cmp_ltB]; by_cases h : val b < val a <;> simp [h]
    have hle : val (stepB (-1) a b) ≤ val a ∧ val (stepB (-1) a b) ≤ val b := by rw [hs]; split <;> omega
    refine ⟨by omega, fun x hx => ?_, ?_⟩
    · rcases List.mem_cons.1 hx with rfl | hx
      · omega
      · exact h2 x hx
    · rcases h3 with h3 | h3
      · rw [h3, hs]; split
        · exact .inr (by simp)
        · exact .inl rfl
      · exact .inr (by simp [h3])
theorem most : ∀ (l : List WP) (a : WP), val a ≤ val (bestF 1 a l) ∧ (∀ b ∈ l, val b ≤ val (bestF 1 a l)) ∧ (bestF 1 a l = a ∨ bestF 1 a l ∈ l)
  | [], a => ⟨Int.le_refl _, by simp, .inl rfl⟩
  | b :: l, a => by
    have e : bestF 1 a (b :: l) = bestF 1 (stepB 1 a b) l := rfl
    rw [e]
    obtain ⟨h1, h2, h3⟩ := most l (stepB 1 a b)
    have hs : stepB 1 a b = if val a < val b then b else a := by
      unfold stepB; rw [cmp_gtB]; by_cases h : val a < val b <;> simp [h]
    have hle : val a ≤ val (stepB 1 a b) ∧ val b ≤ val (stepB 1 a b) := by rw [hs]; split <;> omega
    refine ⟨by omega, fun x hx => ?_, ?_⟩
    · rcases List.mem_cons.1 hx with rfl | hx
      · omega
      · exact h2 x hx
    · rcases h3 with h3 | h3
      · rw [h3, hs]; split
        · exact .inr (by simp)
        · exact .inl rfl
      · exact .inr (by simp [h3])
theorem xin_of {a x : WP} {l : List WP} (h : x = a ∨ x ∈ l) : xin a x l = true := by
  unfold xin
  rw [Bool.or_eq_true, List.any_eq_true]
  rcases h with rfl | h
  · exact .inl (by simp [eqW])
  · exact .inr ⟨x, h, by simp [eqW]⟩
theorem not_gt {x y : Int} (h : x ≤ y) : decide (0 < cmpI x y) = false := by
  unfold cmpI; split <;> (try split) <;> simp <;> omega
theorem not_lt {x y : Int} (h : y ≤ x) : decide (cmpI x y < 0) = false := by
  unfold cmpI; split <;> (try split) <;> simp <;> omega
theorem bests_all (a : WP) (l : List WP) (ha : ok a) (hl : ∀ b ∈ l, ok b) (hlen : l.length ≤ 9223372036854775807) : CallsD Try.prog 6 [wD a, .lst 2 (l.map wD) .no] [] [] (fun d h k => d = .v (.bool true) ∧ h = [] ∧ k = []) := by
  obtain ⟨h1, h2, h3⟩ := least l a
  obtain ⟨g1, g2, g3⟩ := most l a
  exact bests_walk a (bestF (-1) a l) (bestF 1 a l) l ha (best_ok ha hl) (best_ok ha hl) hl hlen (min_any a l ha hl hlen) (max_any a l ha hl hlen) (not_gt h1) (not_lt g1) (fun b hb => not_gt (h2 b hb)) (fun b hb => not_lt (g2 b hb)) (xin_of h3) (xin_of g3)
theorem good_wide {n : Nat} {d : D} (g : GoodT tab n 24 d) : ∃ p : WP, d = wD p ∧ ok p := by
  obtain ⟨n', ds, rfl, rfl, hl, h⟩ := good_struct ti24 rfl g
  match ds, hl with
  | [d0, d1], _ =>
    obtain ⟨x, rfl, wx⟩ := good_int ti2 rfl (h 0 _ _ rfl rfl)
    obtain ⟨y, rfl, wy⟩ := good_int ti22 rfl (h 1 _ _ rfl rfl)
    exact ⟨(x, y), rfl, (i64_wf wx).1, (i64_wf wx).2, (u64_wf wy).1, (u64_wf wy).2⟩
theorem good_wides {n : Nat} {d : D} (g : GoodT tab n 36 d) : ∃ l : List WP, d = .lst 2 (l.map wD) .no ∧ (∀ p ∈ l, ok p) ∧ l.length ≤ maxLen := by
  obtain ⟨n', xs, rfl, rfl, hl, h⟩ := good_slice ti36 rfl ti24 g
  obtain ⟨ys, rfl, hy⟩ := good_list (f := wD) (K := ok) (p := fun x => GoodT tab n' 24 x) (fun x hx => good_wide hx) xs h
  exact ⟨ys, rfl, hy, by simpa using hl⟩
end Go.Proofs.Ytbkohmpogdameaa.Ab
