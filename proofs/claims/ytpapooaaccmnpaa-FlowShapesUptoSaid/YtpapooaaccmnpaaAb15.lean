/- An abstract machine, part 15: loops by a measure; the state told otherwise. Over any program. -/
import Derived.Test.YtpapooaaccmnpaaAb14
namespace Go.Proofs.Ytpapooaaccmnpaa.Ab
open Go
set_option linter.all false

/-- What is so in s is so in s'. -/
def WkS (C : Ctx) (s s' : S) : Prop := ∀ H a w, Core C H s.h s.k w → TOK H s.t a → ∃ H', H.le H' ∧ Core C H' s'.h s'.k w ∧ TOK H' s'.t a
theorem WkS.keep {C : Ctx} {t t' : List (Nat × D)} {h h' : List (Nat × Blk)} {k k' : List (Nat × Value)} (l : List Nat) (e : keepT l t = t') (hh : h'.Sublist h) (hk : k'.Sublist k) : WkS C ⟨t, h, k⟩ ⟨t', h', k'⟩ :=
  fun H _ _ c kt => ⟨H, Hp.le_refl H, c.drop hh hk, e ▸ keepT_ok kt l⟩
/-- Slots told otherwise, one by one. -/
theorem WkS.slots {C : Ctx} {t t' : List (Nat × D)} {h h' : List (Nat × Blk)} {k k' : List (Nat × Value)} (e : ∀ i d, look t' i = some d → ∃ d0, look t i = some d0 ∧ Wk d0 d) (hh : h'.Sublist h) (hk : k'.Sublist k) : WkS C ⟨t, h, k⟩ ⟨t', h', k'⟩ :=
  fun H _ _ c kt => ⟨H, Hp.le_refl H, c.drop hh hk, fun i d hi => by
    obtain ⟨d0, h1, h2⟩ := e i d hi
    obtain ⟨v, h3, h4⟩ := kt i d0 h1
    exact ⟨v, h3, h2 _ _ h4⟩⟩
theorem look_cons {t : List (Nat × D)} {j i : Nat} {d0 d : D} {p : Prop} (h : look ((j, d0) :: t) i = some d) (h1 : i = j → d = d0 → p) (h2 : look t i = some d → p) : p := by
  simp only [look] at h
  cases hb : Nat.beq j i with
  | true => rw [hb] at h; simp at h; exact h1 (Nat.eq_of_beq_eq_true hb).symm h.symm
  | false => rw [hb] at h; exact h2 (by simpa using h)
theorem WkS.nil {t : List (Nat × D)} : ∀ i d, look [] i = some d → ∃ d0, look t i = some d0 ∧ Wk d0 d := fun i d h => by simp [look] at h
theorem WkS.cons {t t' : List (Nat × D)} {j : Nat} {d0 d1 : D} (h0 : look t j = some d0) (hw : Wk d0 d1) (g : ∀ i d, look t' i = some d → ∃ d0, look t i = some d0 ∧ Wk d0 d) : ∀ i d, look ((j, d1) :: t') i = some d → ∃ d0, look t i = some d0 ∧ Wk d0 d :=
  fun i d h => look_cons h (fun e1 e2 => ⟨d0, e1 ▸ h0, e2 ▸ hw⟩) (g i d)
theorem Wk.of_eq {d d' : D} (h : d = d') : Wk d d' := h ▸ Wk.refl d

section
variable {P : Program} {C : Ctx} {N : Nat} {ops rest : List Oper} {o : Oper} {t : List (Nat × D)} {h : List (Nat × Blk)} {k : List (Nat × Value)} {Q : Exit → S → Prop} {tab : List (Option TI)}
/-- A loop. -/
theorem loop_ind {α : Type} {c : Code} {s : S} (I : α → Prop) (st : α → S) (μ : α → Nat) (x0 : α) (h0 : I x0) (hs : WkS C s (st x0)) (step : ∀ x, I x → wpD P C N c (st x) (thenD (fun s' => ∃ y, WkS C s' (st y) ∧ I y ∧ μ y < μ x) Q)) : wpD P C N (.loop c) s Q := by
  have key : ∀ n x, I x → μ x < n → roundsD P C N c Q n (st x) := by
    intro n
    induction n with
    | zero => intro x _ h; omega
    | succ n ih =>
      intro x hx hlt
      refine roundsD_succ (wpD_mono (step x hx) ?_)
      intro e s' q
      cases e with
      | normal =>
        obtain ⟨y, h1, h2, h3⟩ := q
        intro a w r
        obtain ⟨H, c0, kt, hN, hdf⟩ := r
        obtain ⟨H', hle, c', kt'⟩ := h1 H a w c0 kt
        exact ih y h2 (by omega) a w ⟨H', c', kt', hN, hdf⟩
      | _ => exact q
  exact wpD_wk hs (wpD_loop _ (key (μ x0 + 1) x0 h0 (Nat.lt_succ_self _)))
/-- Jumps back within a scope. -/
theorem w_norm {c : Code} {s' : S} (hs : WkS C ⟨t, h, k⟩ s') (g : wpD P C N c s' Q) : wpD P C N c ⟨t, h, k⟩ Q := wpD_wk (s := ⟨t, h, k⟩) hs g
theorem o_norm {s' : S} (hs : WkS C ⟨t, h, k⟩ s') (g : opsD P C N ops rest s' Q) : opsD P C N ops rest ⟨t, h, k⟩ Q := ops_wk (s := ⟨t, h, k⟩) hs g
end
end Go.Proofs.Ytpapooaaccmnpaa.Ab
