/- Layer 10: reading, the law. -/
import Derived.Test.YtnjeklpjjceppaaTk12
namespace Go.Proofs.Ytnjeklpjjceppaa.Ab
open Go Go.Proofs.Ytnjeklpjjceppaa
set_option linter.all false
theorem readF_len (s : List UInt8) : ∀ (f at_ : Nat) (l l' : List Tok), l.length ≤ 4000 → readF s f at_ l = .ok l' → l'.length ≤ 4001
  | 0, at_, l, l', _, h => by simp [readF] at h
  | f + 1, at_, l, l', hl, h => by
    rw [readF] at h
    split at h
    · simp only [Res.ok.injEq] at h
      rw [← h]; simp; omega
    · split at h
      · cases h
      · exact readF_len s f _ _ l' (step_len _ l hl s at_) h
theorem tkRead_len (s : List UInt8) : (tkRead s).1.length ≤ 4001 := by
  unfold tkRead readR
  split
  · rename_i l h
    split at h
    · cases h
    · simp only [List.length_map]
      exact readF_len s _ 0 [] l (by simp) h
  · simp
theorem lives10 : l10_lives = some true := by
  unfold l10_lives
  have h : tkRead [120, 49, 61, 45, 55, 59] = ([⟨1, ⟨#[120, 49]⟩, 0, 0⟩, ⟨3, ⟨#[61]⟩, 0, 2⟩, ⟨3, ⟨#[45]⟩, 0, 3⟩, ⟨2, ⟨#[55]⟩, 7, 4⟩, ⟨3, ⟨#[59]⟩, 0, 5⟩, ⟨0, ⟨#[]⟩, 0, 6⟩], 0, 0) := by kernel_rfl
  rw [h]
  rfl
theorem TokenReads_true (a0 : List UInt8) (k0 : wfL22 a0) : l10_TokenReads a0 = some true := by
  unfold l10_TokenReads
  rw [rread_eq]
  simp only [Option.bind_some]
  rw [same_self _ (Nat.le_trans (tkRead_len a0) (by omega)), lives10]
  simp
end Go.Proofs.Ytnjeklpjjceppaa.Ab
