/- Layer 10: the document reads the same. -/
import Derived.Test.YtnjeklpjjceppaaTk11
import Derived.Test.YtnjeklpjjceppaaFr
namespace Go.Proofs.Ytnjeklpjjceppaa.Ab
open Go Go.Proofs.Ytnjeklpjjceppaa
set_option linter.all false
def wfL22 : List UInt8 → Prop := (fun y => (y.length ≤ maxLen ∧ ∀ z ∈ y, True))
theorem goodL22 {n : Nat} {d : D} (g : GoodT tab n 22 d) : ∃ x : List UInt8, d = .lst 1 (x.map byteD) .no ∧ wfL22 x := by
  obtain ⟨n1, zs1, _, rfl, hl1, hz1⟩ := good_slice ti22 rfl ti5 (g)
  obtain ⟨x1, rfl, w1⟩ := good_list (f := byteD) (K := (fun y => True)) (p := fun x => GoodT tab n1 5 x) (fun x hx => by obtain ⟨x2, rfl⟩ := good_u8 ti5 rfl (hx); exact ⟨x2, rfl, trivial⟩) zs1 hz1
  exact ⟨x1, rfl, ⟨by simpa using hl1, w1⟩⟩
theorem bla_kind (c : Int) : (kindI c = 1) ↔ isBla c = true := by
  unfold kindI
  constructor
  · intro h
    by_cases hb : isBla c = true
    · exact hb
    · rw [if_neg hb] at h; split at h <;> (try split at h) <;> simp at h
  · intro h; rw [if_pos h]
theorem ext1 (s : List UInt8) (a : Nat) : (ByteArray.mk s.toArray).extract a (ByteArray.mk s.toArray).size = ⟨(s.drop a).toArray⟩ := by
  apply ByteArray.ext
  simp [ByteArray.data_extract, ByteArray.size]
  exact List.take_of_length_le (by simp)
theorem drop_cons {s : List UInt8} {at_ : Nat} (h : at_ < s.length) : s.drop at_ = s.getD at_ 0 :: s.drop (at_ + 1) := by
  rw [List.drop_eq_getElem_cons h]; simp [h]
theorem step_same (r : List UInt8) {l l' : List Tok} (h : 4000 ≤ l.length ↔ 4000 ≤ l'.length) : stepO r l = stepO r l' := by
  cases r with
  | nil => rfl
  | cons c r =>
    by_cases hl : 4000 ≤ l.length
    · have hl' := h.1 hl
      simp only [stepO, nameO, numO, addO, if_pos hl, if_pos hl']
    · have hl' := fun q => hl (h.2 q)
      simp only [stepO, nameO, numO, addO, if_neg hl, if_neg hl']
theorem add_ne {l : List Tok} {kd num : Int} {n : Nat} : addO l kd n num ≠ .skip := by
  unfold addO; split <;> simp
theorem step_ne {c : UInt8} {r : List UInt8} {l : List Tok} (h : kindI (c.toNat : Int) ≠ 1) : stepO (c :: r) l ≠ .skip := by
  unfold stepO
  simp only []
  rw [if_neg h]
  split
  · unfold nameO
    split
    · simp
    · split <;> exact add_ne
  · split
    · unfold numO
      split
      · simp
      · split
        · simp
        · split
          · simp
          · exact add_ne
    · split
      · simp
      · exact add_ne
theorem lM_iff (l : List Tok) : 4000 ≤ (lM (decide ((4000 : Int) ≤ ((l.map tokT).length : Int)))).length ↔ 4000 ≤ l.length := by
  have h := lM_len (decide ((4000 : Int) ≤ ((l.map tokT).length : Int)))
  rw [List.length_map] at h ⊢
  by_cases hl : 4000 ≤ l.length
  · rw [decide_eq_true (show (4000 : Int) ≤ (l.length : Int) by omega)] at h ⊢
    exact ⟨fun _ => hl, fun _ => of_decide_eq_true h⟩
  · rw [decide_eq_false (show ¬ (4000 : Int) ≤ (l.length : Int) by omega)] at h ⊢
    exact ⟨fun q => absurd q (of_decide_eq_false h), fun q => absurd q hl⟩
theorem toList_mk (r : List UInt8) : (ByteArray.mk r.toArray).data.toList = r := rfl
theorem size_mk (s : List UInt8) : (ByteArray.mk s.toArray).size = s.length := by simp [ByteArray.size]
theorem rread_eq (s : List UInt8) : r10_Read s = some (tkRead s) := by
  unfold r10_Read
  by_cases hb : 20000 < s.length
  · have e : tkRead s = ([], 0, 6) := by unfold tkRead readR; rw [if_pos hb]; rfl
    rw [e, decide_eq_true (show (20000 : Int) < (s.length : Int) by omega)]; rfl
  rw [decide_eq_false (show ¬ (20000 : Int) < (s.length : Int) by omega), cond_false]
  have e : tkRead s = (match readF s (s.length + 1) 0 [] with | .ok l => (l.map tokT, 0, 0) | .bad a e => ([], (a : Int), e)) := by unfold tkRead readR; rw [if_neg hb]; rfl
  refine loop_bind (fun x => ∃ (f at_ : Nat) (l : List Tok), x.1 = l.map tokT ∧ x.2 = (at_ : Int) ∧ s.length < f + at_ ∧ at_ ≤ s.length ∧ l.length ≤ 4000 ∧ readF s f at_ l = readF s (s.length + 1) 0 []) (fun x => s.length - x.2.toNat)
    (fun t => (∃ l, t = .inl (l.map tokT) ∧ l.length ≤ 4000 ∧ readF s (s.length + 1) 0 [] = .ok (l ++ [⟨0, ⟨#[]⟩, 0, s.length⟩])) ∨ (∃ a e, t = .inr ([], (a : Int), e) ∧ readF s (s.length + 1) 0 [] = .bad a e)) ?_ ?_ ?_
  · exact ⟨s.length + 1, 0, [], rfl, rfl, by omega, by omega, by simp, rfl⟩
  · rintro ⟨_, _⟩ ⟨f, at_, l, e1, e2, hf, ha, hl, hr⟩
    simp only at e1 e2
    subst e1; subst e2
    simp only [size_mk]
    by_cases hlt : at_ < s.length
    · rw [decide_eq_true (show (at_ : Int) < (s.length : Int) by omega), cond_true]
      have hb : bAt (ByteArray.mk s.toArray) (at_ : Int) = some (s.getD at_ 0) := by
        unfold bAt; rw [idx_nat]; simp [hlt]
      have hdc := drop_cons hlt
      rw [hb]
      simp only [Option.bind_some]
      generalize hc : s.getD at_ 0 = c at hdc
      have hbla : (bif ((c.toNat : Int) == (32 : Int)) then some true else (bif ((c.toNat : Int) == (9 : Int)) then some true else (bif ((c.toNat : Int) == (10 : Int)) then some true else some ((c.toNat : Int) == (13 : Int))))) = some (isBla (c.toNat : Int)) := by
        unfold isBla
        cases ((c.toNat : Int) == 32) <;> cases ((c.toNat : Int) == 9) <;> cases ((c.toNat : Int) == 10) <;> simp
      rw [hbla]
      simp only [Option.bind_some]
      have hw : IntKind.i64.wrap ((at_ : Int) + 1) = ((at_ + 1 : Nat) : Int) := by rw [IntKind.wrap_i64]; omega
      by_cases hk : isBla (c.toNat : Int) = true
      · left
        have ho : stepO (s.drop at_) l = .skip := by
          rw [hdc]; unfold stepO; simp only []; rw [if_pos ((bla_kind _).2 hk)]
        obtain ⟨q1, q2, q3, q4, q5⟩ := step_on hlt hl hf (by rw [ho]; rfl)
        rw [ho] at q1 q2 q3 q4 q5
        rw [hk, cond_true, hw]
        exact ⟨_, rfl, ⟨f - 1, at_ + 1, l, rfl, rfl, q1, q2, q3, q5.trans hr⟩, by simp only; omega⟩
      · have hk' : isBla (c.toNat : Int) = false := by simpa using hk
        have hkind : kindI (c.toNat : Int) ≠ 1 := fun q => hk ((bla_kind _).1 q)
        have hcut : cutS (ByteArray.mk s.toArray) (at_ : Int) ((s.length : Nat) : Int) = some ⟨(s.drop at_).toArray⟩ := by
          unfold cutS
          rw [size_mk, show (decide ((0 : Int) ≤ (at_ : Int)) && decide ((at_ : Int) ≤ (s.length : Int)) && decide (((s.length : Nat) : Int) ≤ (s.length : Int))) = true by simp; omega, cond_true, Int.toNat_natCast, Int.toNat_natCast]
          have := ext1 s at_
          rw [size_mk] at this
          rw [this]
        have hpre : rOneP ⟨(s.drop at_).toArray⟩ (decide ((4000 : Int) ≤ ((l.map tokT).length : Int))) = true := by
          unfold rOneP
          rw [toList_mk, hdc]
          simp only [Bool.and_eq_true, decide_eq_true_eq, bne_iff_ne, ne_eq]
          refine ⟨?_, hkind⟩
          rw [← hdc]; simp; omega
        rw [hk', cond_false, hcut]
        simp only [Option.bind_some]
        rw [need_bind hpre]
        simp only [rOne, toList_mk]
        rw [step_same (s.drop at_) (lM_iff l)]
        have hne : stepO (s.drop at_) l ≠ .skip := by rw [hdc]; exact step_ne hkind
        have hgo := step_goes (s.drop at_) l (by rw [hdc]; simp)
        by_cases he : errOf (stepO (s.drop at_) l) = 0
        · left
          obtain ⟨q1, q2, q3, q4, q5⟩ := step_on hlt hl hf he
          generalize stepO (s.drop at_) l = o at *
          cases o with
          | err e => exact absurd he hgo
          | skip => exact absurd rfl hne
          | tok kd n num =>
            simp only [Goes1, List.length_drop] at hgo
            have ht : (textOf (s.drop at_) (.tok kd n num)).size = n := by
              simp [textOf, subS, ByteArray.size]; omega
            simp only [kindOf, numOf, errOf, bne_self_eq_false, cond_false]
            rw [app_of (by simp; omega)]
            simp only [Option.bind_some, ht]
            have hw2 : IntKind.i64.wrap ((at_ : Int) + (n : Int)) = ((at_ + n : Nat) : Int) := by rw [IntKind.wrap_i64]; omega
            rw [hw2]
            refine ⟨_, rfl, ⟨f - 1, at_ + n, advT s at_ l (.tok kd n num), ?_, rfl, q1, q2, q3, q5.trans hr⟩, by simp only; omega⟩
            simp only [advT, List.map_append, List.map_cons, List.map_nil, tokT, textOf]
        · right
          obtain ⟨b1, b2⟩ := step_bad hlt hf he
          have hb : (errOf (stepO (s.drop at_) l) != 0) = true := by simpa using he
          rw [hb, cond_true]
          exact ⟨_, rfl, .inr ⟨at_, errOf (stepO (s.drop at_) l), rfl, by rw [← hr]; exact b1⟩⟩
    · right
      rw [decide_eq_false (show ¬ (at_ : Int) < (s.length : Int) by omega), cond_false]
      refine ⟨_, rfl, .inl ⟨l, rfl, hl, ?_⟩⟩
      rw [← hr]
      obtain ⟨f', rfl⟩ : ∃ f', f = f' + 1 := ⟨f - 1, by omega⟩
      rw [readF, if_pos (by omega)]
  · rintro t (⟨l, rfl, hl, h⟩ | ⟨a, e', rfl, h⟩)
    · rw [e, h]
      simp only [Sum.elim_inl]
      rw [app_of (by simp; omega)]
      simp only [Option.bind_some, List.map_append, List.map_cons, List.map_nil, tokT]
      rfl
    · rw [e, h]; rfl
theorem same_self (l : List TApiToken) (hl : l.length ≤ 5000) : r10_Same l l true = some true := by
  unfold r10_Same
  rw [show ((l.length : Int) != (l.length : Int)) = false by simp, cond_false]
  refine loop_bind (fun i => ∃ n : Nat, i = (n : Int) ∧ n ≤ l.length) (fun i => l.length - i.toNat) (fun t => t = .inl ()) ⟨0, rfl, by omega⟩ ?_ ?_
  · rintro _ ⟨n, rfl, hn⟩
    by_cases h : n < l.length
    · left
      refine ⟨((n + 1 : Nat) : Int), ?_, ⟨n + 1, rfl, by omega⟩, by omega⟩
      have hw : IntKind.i64.wrap ((n : Int) + 1) = ((n + 1 : Nat) : Int) := by rw [IntKind.wrap_i64]; omega
      rw [decide_eq_true (show (n : Int) < (l.length : Int) by omega), cond_true, idx_nat]
      simp [h, hw]
    · right
      exact ⟨.inl (), by rw [decide_eq_false (show ¬ (n : Int) < (l.length : Int) by omega)]; rfl, rfl⟩
  · rintro _ rfl
    rfl
end Go.Proofs.Ytnjeklpjjceppaa.Ab
