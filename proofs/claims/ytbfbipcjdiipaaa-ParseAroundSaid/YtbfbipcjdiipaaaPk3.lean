/- Layer 10: reading; the same elsewhere. -/
import Derived.Test.YtbfbipcjdiipaaaPk2
namespace Go.Proofs.Ytbfbipcjdiipaaa.Ab.Pq
open Go
set_option linter.all false
abbrev Tp := Nat × (Int × ByteArray × Int)
def tb (d : Nat) (x : Tp) : Tok := ta (x.1 + d) x.2
abbrev S3 := List UInt8 × Int × List TApiToken
noncomputable def rdF (a0 : List UInt8) (s25 : S3) : Option (Step S3 (S3 ⊕ (List TApiToken × Int × Int))) := (bif (decide (s25.2.1 < (a0.length : Int))) then ((token_reader_next (⟨s25.1, s25.2.1, s25.2.2⟩ : TTokenReader)).bind fun x40 => (bif (x40.1 != (0 : Int)) then some (.done (.inr (([] : List TApiToken), x40.2.gAt, x40.1))) else some (.next (x40.2.gB, x40.2.gAt, x40.2.gL)))) else some (.done (.inl (s25.1, s25.2.1, s25.2.2))))
def s3 (b : List UInt8) (a : Nat) (l : List Tok) : S3 := (b, (a : Int), l)
theorem rdF_end {b : List UInt8} {l : List Tok} : rdF b (s3 b b.length l) = some (.done (.inl (s3 b b.length l))) := by
  unfold rdF s3; simp only []; rw [decide_eq_false (by omega), cond_false]
theorem rdF_next {b : List UInt8} {a a' : Nat} {l l' : List Tok} (ha : a < b.length) (h : token_reader_next (rt b a l) = some (0, rt b a' l')) : rdF b (s3 b a l) = some (.next (s3 b a' l')) := by
  unfold rdF s3; simp only []
  change (bif decide ((a : Int) < (b.length : Int)) then Option.bind (token_reader_next (rt b a l)) _ else _) = _
  rw [decide_eq_true (by omega), cond_true, h, Option.bind_some]; rfl
theorem rdF_err {b : List UInt8} {a : Nat} {l : List Tok} {e : Int} (ha : a < b.length) (he : e ≠ 0) (h : token_reader_next (rt b a l) = some (e, rt b a l)) : rdF b (s3 b a l) = some (.done (.inr ([], (a : Int), e))) := by
  unfold rdF s3; simp only []
  change (bif decide ((a : Int) < (b.length : Int)) then Option.bind (token_reader_next (rt b a l)) _ else _) = _
  rw [decide_eq_true (by omega), cond_true, h, Option.bind_some]
  simp only []
  rw [show (e != 0) = true by simp [he], cond_true]; rfl
/-- b stands in b2 at d, and a bracket behind it. -/
def In2 (b b2 : List UInt8) (d : Nat) : Prop := b2.drop d = b ++ [41] ∧ b2.length ≤ 90000
theorem In2.drop {b b2 : List UInt8} {d a : Nat} (h : In2 b b2 d) (ha : a ≤ b.length) : b2.drop (a + d) = b.drop a ++ [41] := by
  rw [Nat.add_comm, ← List.drop_drop, h.1, List.drop_append_of_le_length ha]
theorem In2.len {b b2 : List UInt8} {d : Nat} (h : In2 b b2 d) : b2.length = d + b.length + 1 := by
  have := congrArg List.length h.1
  rw [List.length_drop] at this
  simp at this; omega
/-- Over a text that stands elsewhere. -/
def Over (b : List UInt8) (a : Nat) (new : List Tp) : Prop := ∀ (b2 : List UInt8) (d : Nat) (l2 : List Tok), In2 b b2 d → l2.length ≤ 4000 →
  (∃ a' : Nat, loopM (rdF b2) (s3 b2 (a + d) l2) = some (.inr ([], (a' : Int), 6))) ∨ ((l2 ++ new.map (tb d)).length ≤ 4000 ∧ loopM (rdF b2) (s3 b2 (a + d) l2) = loopM (rdF b2) (s3 b2 (b.length + d) (l2 ++ new.map (tb d))))
theorem read_loop (b : List UInt8) (hb : b.length ≤ 80000) : ∀ (q a : Nat) (l : List Tok), b.length - a ≤ q → a ≤ b.length → l.length ≤ 4000 →
    (∃ (a' : Nat) (e : Int), e ≠ 0 ∧ loopM (rdF b) (s3 b a l) = some (.inr ([], (a' : Int), e))) ∨
    ∃ new : List Tp, loopM (rdF b) (s3 b a l) = some (.inl (s3 b b.length (l ++ new.map (tb 0)))) ∧ (l ++ new.map (tb 0)).length ≤ 4000 ∧ (∀ x ∈ new, x.2.1 ≠ 0) ∧ Over b a new
  | q, a, l, hq, ha, hl => by
    by_cases he : a = b.length
    · subst he
      exact .inr ⟨[], by rw [loopM_done rdF_end]; simp, by simpa using hl, by simp, fun b2 d l2 h2 hl2 => .inr ⟨by simpa using hl2, by simp⟩⟩
    · have hlt : a < b.length := by omega
      obtain ⟨c, r, hr⟩ : ∃ c r, b.drop a = c :: r := by
        cases h : b.drop a with
        | nil => have := congrArg List.length h; simp at this; omega
        | cons c r => exact ⟨c, r, rfl⟩
      have hrl := congrArg List.length hr
      rw [List.length_drop, List.length_cons] at hrl
      match q, hq with
      | 0, hq => omega
      | q + 1, hq =>
        rcases step_ab c r (by omega) with h | ⟨n, new, hn1, hn2, hn3, hk, h, h41⟩
        · obtain ⟨e, he, h1⟩ := h b a l hr (by omega) (by omega)
          exact .inl ⟨a, e, he, loopM_done (rdF_err hlt he h1)⟩
        · rw [List.length_cons] at hn2
          obtain ⟨g1, g2⟩ := h b a l hr (by omega) (by omega)
          by_cases hc : new = [] ∨ l.length < 4000
          · have hnx := rdF_next hlt (g1 hc)
            have hlen : (l ++ new.map (ta a)).length ≤ 4000 := by
              rcases hc with h0 | h0
              · subst h0; simpa using hl
              · simp; omega
            rcases read_loop b hb q (a + n) (l ++ new.map (ta a)) (by omega) (by omega) hlen with ⟨a', e, he', h2⟩ | ⟨new2, h2, h3, h4, h5⟩
            · exact .inl ⟨a', e, he', by rw [loopM_next hnx]; exact h2⟩
            · have hm : ∀ d, new.map (ta (a + d)) ++ new2.map (tb d) = ((new.map fun x => ((a, x) : Tp)) ++ new2).map (tb d) := by
                intro d; simp [tb]
              refine .inr ⟨(new.map fun x => (a, x)) ++ new2, ?_, ?_, ?_, ?_⟩
              · rw [loopM_next hnx, h2, List.append_assoc, ← hm 0]; rfl
              · rw [List.append_assoc] at h3
                rw [← hm 0]; exact h3
              · intro x hx
                rcases List.mem_append.1 hx with hx | hx
                · obtain ⟨y, hy, rfl⟩ := List.mem_map.1 hx; exact hk y hy
                · exact h4 x hx
              · intro b2 d l2 hi hl2
                have hi2 := hi.len
                have hd := hi.drop (a := a) ha
                rw [hr] at hd
                have hb2 := hi.2
                obtain ⟨k1, k2⟩ := h41 b2 (a + d) l2 hd (by omega) (by omega)
                by_cases hc2 : new = [] ∨ l2.length < 4000
                · have hnx2 := rdF_next (by omega) (k1 hc2)
                  have hlen2 : (l2 ++ new.map (ta (a + d))).length ≤ 4000 := by
                    rcases hc2 with h0 | h0
                    · subst h0; simpa using hl2
                    · simp; omega
                  rcases h5 b2 d (l2 ++ new.map (ta (a + d))) hi hlen2 with ⟨a', h6⟩ | ⟨h6, h7⟩
                  · exact .inl ⟨a', by rw [loopM_next hnx2, show a + d + n = a + n + d by omega]; exact h6⟩
                  · rw [List.append_assoc, hm d] at h6 h7
                    exact .inr ⟨h6, by rw [loopM_next hnx2, show a + d + n = a + n + d by omega]; exact h7⟩
                · exact .inl ⟨a + d, loopM_done (rdF_err (by omega) (by decide) (k2 (fun h0 => hc2 (.inl h0)) (by have : ¬ l2.length < 4000 := fun h0 => hc2 (.inr h0); omega)))⟩
          · exact .inl ⟨a, 6, by decide, loopM_done (rdF_err hlt (by decide) (g2 (fun h0 => hc (.inl h0)) (by have : ¬ l.length < 4000 := fun h0 => hc (.inr h0); omega)))⟩
def endT (n : Nat) : Tok := ⟨0, ByteArray.empty, 0, (n : Int)⟩
theorem read_of {b : List UInt8} (hb : b.length ≤ 20000) {l : List Tok} (hl : l.length ≤ 4000) (h : loopM (rdF b) (s3 b 0 []) = some (.inl (s3 b b.length l))) : token_Read b = some (l ++ [endT b.length], 0, 0) := by
  unfold token_Read
  rw [decide_eq_false (by omega), cond_false]
  change Option.bind (loopM (rdF b) (s3 b 0 [])) _ = _
  rw [h, Option.bind_some]
  simp only [Sum.elim_inl, s3]
  rw [app_len (by omega) (by simp; omega), Option.bind_some]; rfl
theorem read_err {b : List UInt8} (hb : b.length ≤ 20000) {a e : Int} (h : loopM (rdF b) (s3 b 0 []) = some (.inr ([], a, e))) : token_Read b = some ([], a, e) := by
  unfold token_Read
  rw [decide_eq_false (by omega), cond_false]
  change Option.bind (loopM (rdF b) (s3 b 0 [])) _ = _
  rw [h, Option.bind_some]; rfl
/-- A sign alone. -/
theorem one_step {c : UInt8} {r : List UInt8} (h1 : kd c = 0) (h2 : twoB (c :: r) = false) (h3 : decide (0 ≤ indexB ones (c.toNat : Int)) = true) {b : List UInt8} {a : Nat} {l : List Tok} (hr : b.drop a = c :: r) (hb : b.length ≤ 100000) (hl : l.length ≤ 100000) :
    token_reader_next (rt b a l) = some (bif decide (4000 ≤ l.length) then (6, rt b a l) else (0, rt b (a + 1) (l ++ [⟨3, ByteArray.mk #[c], 0, (a : Int)⟩]))) := by
  have hs : sg c r = 1 := by unfold sg; rw [h2, h3]; rfl
  rw [next_eq hr hb hl, h1, hs]; rfl
theorem kd40 : kd 40 = 0 := by unfold kd; rfl
theorem kd45 : kd 45 = 0 := by unfold kd; rfl
theorem ones40 : decide (0 ≤ indexB ones ((40 : UInt8).toNat : Int)) = true := by decide
theorem ones41 : decide (0 ≤ indexB ones ((41 : UInt8).toNat : Int)) = true := by decide
theorem ones45 : decide (0 ≤ indexB ones ((45 : UInt8).toNat : Int)) = true := by decide
theorem two40 (r : List UInt8) : twoB (40 :: r) = false := by
  unfold twoB
  cases r with
  | nil => rfl
  | cons x r => simp [hasS, txt, twos]
theorem two45 (r : List UInt8) : twoB (45 :: r) = false := by
  unfold twoB
  cases r with
  | nil => rfl
  | cons x r => simp [hasS, txt, twos]
def opT (a : Nat) : Tok := ⟨3, ByteArray.mk #[40], 0, (a : Int)⟩
def clT (a : Nat) : Tok := ⟨3, ByteArray.mk #[41], 0, (a : Int)⟩
def mnT (a : Nat) : Tok := ⟨3, ByteArray.mk #[45], 0, (a : Int)⟩
/-- Behind the text: the bracket, and the end. -/
theorem read_tail {b b2 : List UInt8} {d : Nat} (hi : In2 b b2 d) {l : List Tok} (hl : l.length ≤ 4000) : (∃ a' : Nat, loopM (rdF b2) (s3 b2 (b.length + d) l) = some (.inr ([], (a' : Int), 6))) ∨ (l.length < 4000 ∧ loopM (rdF b2) (s3 b2 (b.length + d) l) = some (.inl (s3 b2 b2.length (l ++ [clT (b.length + d)])))) := by
  have hd := hi.drop (a := b.length) (Nat.le_refl _)
  rw [List.drop_length, List.nil_append] at hd
  have hlen := hi.len
  have hb2 := hi.2
  have h := one_step kd41 (by rfl) ones41 hd (l := l) (by omega) (by omega)
  by_cases q : 4000 ≤ l.length
  · rw [decide_eq_true q, cond_true] at h
    exact .inl ⟨_, loopM_done (rdF_err (by omega) (by decide) h)⟩
  · rw [decide_eq_false q, cond_false] at h
    refine .inr ⟨by omega, ?_⟩
    rw [loopM_next (rdF_next (by omega) h), show b.length + d + 1 = b2.length by omega]
    exact loopM_done rdF_end
end Go.Proofs.Ytbfbipcjdiipaaa.Ab.Pq
