/- Layer 10: a step; the same elsewhere. -/
import Derived.Test.YtbfbipcjdiipaaaPk1
namespace Go.Proofs.Ytbfbipcjdiipaaa.Ab.Pq
open Go
set_option linter.all false
noncomputable def digF (x17 : List UInt8) (m0 : TTokenReader) (s33 : Int × Int) : Option (Step (Int × Int) (Int ⊕ (Int × TTokenReader))) := (bif (decide (s33.2 < (x17.length : Int))) then ((idx x17 s33.2).bind fun x43 => (bif (decide ((IntKind.u64.wrap ((IntKind.u64.wrap ((9223372036854775807 : Int) - (IntKind.u64.wrap (IntKind.u8.wrap ((x43.toNat : Int) - (48 : Int)))))).tdiv (10 : Int))) < s33.1)) then some (.done (.inr ((4 : Int), m0))) else some (.next ((IntKind.u64.wrap ((IntKind.u64.wrap ((10 : Int) * s33.1)) + (IntKind.u64.wrap (IntKind.u8.wrap ((x43.toNat : Int) - (48 : Int)))))), (IntKind.i64.wrap (s33.2 + (1 : Int))))))) else some (.done (.inl s33.1)))
def dv (m0 : TTokenReader) : Option Int → Int ⊕ (Int × TTokenReader)
  | some y => .inl y
  | none => .inr ((4 : Int), m0)
theorem dig_eq (ds : List UInt8) (hd : ds.length ≤ 100000) : ∃ v : Option Int, ∀ m0, loopM (digF ds m0) ((0 : Int), (0 : Int)) = some (dv m0 v) := by
  have key : ∀ (post pre : List UInt8) (acc : Int), ds = pre ++ post → ∃ v : Option Int, ∀ m0, loopM (digF ds m0) (acc, ((pre.length : Nat) : Int)) = some (dv m0 v) := by
    intro post
    induction post with
    | nil =>
      intro pre acc h
      rw [List.append_nil] at h; subst h
      exact ⟨some acc, fun m0 => loopM_done (by unfold digF; simp only []; rw [lt_end, cond_false]; rfl)⟩
    | cons x post ih =>
      intro pre acc h
      have hf : ∀ m0, digF ds m0 (acc, ((pre.length : Nat) : Int)) = (bif (decide ((IntKind.u64.wrap ((IntKind.u64.wrap ((9223372036854775807 : Int) - (IntKind.u64.wrap (IntKind.u8.wrap ((x.toNat : Int) - (48 : Int)))))).tdiv (10 : Int))) < acc)) then some (.done (.inr ((4 : Int), m0))) else some (.next ((IntKind.u64.wrap ((IntKind.u64.wrap ((10 : Int) * acc)) + (IntKind.u64.wrap (IntKind.u8.wrap ((x.toNat : Int) - (48 : Int)))))), ((pre.length + 1 : Nat) : Int)))) := by
        intro m0
        unfold digF
        simp only []
        rw [lt_pre h, cond_true, idx_pre2 h rfl, Option.bind_some, inc_pre h (by omega)]
      cases hc : (decide ((IntKind.u64.wrap ((IntKind.u64.wrap ((9223372036854775807 : Int) - (IntKind.u64.wrap (IntKind.u8.wrap ((x.toNat : Int) - (48 : Int)))))).tdiv (10 : Int))) < acc))
      · obtain ⟨v, hv⟩ := ih (pre ++ [x]) (IntKind.u64.wrap ((IntKind.u64.wrap ((10 : Int) * acc)) + (IntKind.u64.wrap (IntKind.u8.wrap ((x.toNat : Int) - (48 : Int)))))) (by simp [h])
        refine ⟨v, fun m0 => ?_⟩
        have h1 := hf m0
        rw [hc, cond_false] at h1
        rw [loopM_next h1]
        have := hv m0
        simpa using this
      · refine ⟨none, fun m0 => ?_⟩
        have h1 := hf m0
        rw [hc, cond_true] at h1
        exact loopM_done h1
  exact key ds [] 0 rfl
def numBad (c : UInt8) (r : List UInt8) (n m : Nat) : Bool := decide (n < m) || ((c.toNat : Int) == 48 && decide (1 < n))
def dn' (b : List UInt8) (a : Nat) (l : List Tok) (r : List UInt8) (n : Nat) : Option Int → Int × TTokenReader
  | some y => (0, rt b (a + n) (l ++ [⟨2, txt r n, IntKind.i64.wrap y, (a : Int)⟩]))
  | none => (4, rt b a l)
noncomputable abbrev dn (b : List UInt8) (a : Nat) (l : List Tok) (r : List UInt8) (v : Option Int) : Int × TTokenReader := dn' b a l r (spn false r) v
theorem number_eq {b : List UInt8} {a : Nat} {l : List Tok} {c : UInt8} {r : List UInt8} (hr : b.drop a = c :: r) (hb : b.length ≤ 100000) (hl : l.length ≤ 100000) (v : Option Int) (hv : ∀ m0, loopM (digF ((c :: r).take (spn false (c :: r))) m0) ((0 : Int), (0 : Int)) = some (dv m0 v)) :
    token_reader_number (rt b a l) = some (bif decide (4000 ≤ l.length) then ((6 : Int), rt b a l) else bif numBad c r (spn false (c :: r)) (spn true (c :: r)) then (3, rt b a l) else dn b a l (c :: r) v) := by
  obtain ⟨h1, h2, h3⟩ := drop_at hr
  have ha : a ≤ b.length := by omega
  unfold token_reader_number
  change (bif decide ((4000 : Int) ≤ (l.length : Int)) then _ else _) = _
  by_cases q : 4000 ≤ l.length
  · rw [decide_eq_true (by omega), cond_true, decide_eq_true q, cond_true]
  · rw [decide_eq_false (by omega), cond_false, decide_eq_false q, cond_false, span_eq false hb ha, span_eq true hb ha, hr]
    simp only [Option.bind_some]
    have hidx : idx (rt b a l).gB (rt b a l).gAt = some c := by show idx b (a : Int) = _; rw [idx_nat]; exact h1
    rw [hidx, Option.bind_some]
    have hbad : (bif decide (((spn false (c :: r) : Nat) : Int) < ((spn true (c :: r) : Nat) : Int)) then some true else (bif ((c.toNat : Int) == (48 : Int)) then some (decide ((1 : Int) < ((spn false (c :: r) : Nat) : Int))) else some false)) = some (numBad c r (spn false (c :: r)) (spn true (c :: r))) := by
      unfold numBad
      rw [show decide (((spn false (c :: r) : Nat) : Int) < ((spn true (c :: r) : Nat) : Int)) = decide (spn false (c :: r) < spn true (c :: r)) from decide_eq_decide.2 (by omega), show decide ((1 : Int) < ((spn false (c :: r) : Nat) : Int)) = decide (1 < spn false (c :: r)) from decide_eq_decide.2 (by omega)]
      cases decide (spn false (c :: r) < spn true (c :: r)) <;> cases ((c.toNat : Int) == 48) <;> cases decide (1 < spn false (c :: r)) <;> rfl
    rw [hbad, Option.bind_some]
    cases numBad c r (spn false (c :: r)) (spn true (c :: r))
    · simp only [cond_false]
      have hn := spn_le false (c :: r)
      change Option.bind (cutL b (a : Int) (IntKind.i64.wrap ((a : Int) + ((spn false (c :: r) : Nat) : Int)))) _ = _
      rw [cut_eq (by rw [hr]; exact hn) ha hb, Option.bind_some, hr]
      change Option.bind (loopM (digF ((c :: r).take (spn false (c :: r))) (rt b a l)) ((0 : Int), (0 : Int))) _ = _
      rw [hv, Option.bind_some]
      cases v with
      | some y =>
        simp only [dv, dn, dn', Sum.elim_inl]
        rw [add_eq (by rw [hr]; exact hn) ha hb hl, Option.bind_some, decide_eq_false q, cond_false, hr]
      | none => rfl
    · rfl
theorem bind_eta2 {α β : Type} (o : Option (α × β)) : (o.bind fun x => some (x.1, x.2)) = o := by cases o <;> rfl
def twos : List ByteArray := [(ByteArray.mk #[61, 61]), (ByteArray.mk #[33, 61]), (ByteArray.mk #[60, 61]), (ByteArray.mk #[38, 38]), (ByteArray.mk #[124, 124])]
def ones : ByteArray := ByteArray.mk #[40, 41, 123, 125, 91, 93, 59, 44, 61, 60, 43, 45, 42, 47, 37, 33, 38]
def twoB (r : List UInt8) : Bool := decide (1 < r.length) && hasS (txt r 2) twos
def sg (c : UInt8) (r : List UInt8) : Nat := bif twoB (c :: r) then 2 else bif decide (0 ≤ indexB ones (c.toNat : Int)) then 1 else 0
theorem twoB_more (c : UInt8) (r : List UInt8) : twoB (c :: r ++ [41]) = twoB (c :: r) := by
  unfold twoB
  cases r with
  | nil =>
    have : hasS (txt ([c] ++ [41]) 2) twos = false := by
      unfold hasS txt twos
      simp
    rw [this, Bool.and_false]; rfl
  | cons x r =>
    rw [txt_more (by simp)]
    simp
theorem sg_le (c : UInt8) (r : List UInt8) : sg c r ≤ (c :: r).length := by
  unfold sg twoB
  by_cases h : 1 < (c :: r).length
  · cases (decide (1 < (c :: r).length) && hasS (txt (c :: r) 2) twos)
    · cases decide (0 ≤ indexB ones (c.toNat : Int)) <;> simp
    · simp only [cond_true]; omega
  · rw [decide_eq_false h, Bool.false_and, cond_false]
    cases decide (0 ≤ indexB ones (c.toNat : Int)) <;> simp
theorem sign_eq' {b : List UInt8} {a : Nat} {l : List Tok} {c : UInt8} {r : List UInt8} (hr : b.drop a = c :: r) : token_reader_sign (rt b a l) = some ((sg c r : Nat) : Int) := by
  obtain ⟨h1, h2, h3⟩ := drop_at hr
  unfold token_reader_sign
  change Option.bind (cutL b (a : Int) ((b.length : Nat) : Int)) _ = _
  rw [cutL_nat (by omega) (Nat.le_refl _), Option.bind_some, List.take_of_length_le (by simp), hr]
  unfold sg twoB
  by_cases h : 1 < (c :: r).length
  · rw [decide_eq_true (by omega), cond_true, decide_eq_true h, Bool.true_and]
    rw [show cutL (c :: r) 0 2 = some ((c :: r).take 2) from by
      have := cutL_nat (xs := c :: r) (l := 0) (h := 2) (by omega) (by omega)
      simpa using this, Option.bind_some, contains_eq _ _ (by decide), Option.bind_some, Option.bind_some]
    change (bif hasS (txt (c :: r) 2) twos then _ else _) = _
    cases hasS (txt (c :: r) 2) twos
    · simp only [cond_false]
      show Option.bind (some c) _ = _
      rw [Option.bind_some]
      show (bif decide (0 ≤ indexB ones (c.toNat : Int)) then some (1 : Int) else some 0) = _
      cases decide (0 ≤ indexB ones (c.toNat : Int)) <;> rfl
    · rfl
  · rw [decide_eq_false (by omega), cond_false, decide_eq_false h, Bool.false_and, Option.bind_some, cond_false]
    show Option.bind (some c) _ = _
    rw [Option.bind_some]
    show (bif decide (0 ≤ indexB ones (c.toNat : Int)) then some (1 : Int) else some 0) = _
    cases decide (0 ≤ indexB ones (c.toNat : Int)) <;> rfl
theorem next_eq {b : List UInt8} {a : Nat} {l : List Tok} {c : UInt8} {r : List UInt8} (hr : b.drop a = c :: r) (hb : b.length ≤ 100000) (hl : l.length ≤ 100000) : token_reader_next (rt b a l) =
    (bif kd c == 1 then some (0, rt b (a + 1) l) else bif kd c == 2 then token_reader_name (rt b a l) else bif kd c == 3 then token_reader_number (rt b a l)
    else some (bif (sg c r) == 0 then (3, rt b a l) else bif decide (4000 ≤ l.length) then (6, rt b a l) else (0, rt b (a + sg c r) (l ++ [⟨3, txt (c :: r) (sg c r), 0, (a : Int)⟩])))) := by
  obtain ⟨h1, h2, h3⟩ := drop_at hr
  unfold token_reader_next
  have hidx : idx (rt b a l).gB (rt b a l).gAt = some c := by show idx b (a : Int) = _; rw [idx_nat]; exact h1
  rw [hidx, Option.bind_some, kind_eq, Option.bind_some, sign_eq' hr, Option.bind_some, bind_eta2, bind_eta2]
  have hw : IntKind.i64.wrap ((a : Int) + 1) = ((a + 1 : Nat) : Int) := winc (by omega)
  change (bif kd c == 1 then some (0, (⟨b, IntKind.i64.wrap ((a : Int) + 1), l⟩ : TTokenReader)) else _) = _
  rw [hw]
  cases kd c == 1
  · cases kd c == 2
    · cases kd c == 3
      · simp only [cond_false]
        rw [add_eq (by rw [hr]; exact sg_le c r) (by omega) hb hl, Option.bind_some, hr]
        by_cases q : sg c r = 0
        · rw [q]; rfl
        · rw [show (((sg c r : Nat) : Int) == 0) = false by simp; omega, show (sg c r == 0) = false by simp [q]]
          rfl
      · rfl
    · rfl
  · rfl
/-! ### A step -/
def ta (a : Nat) (x : Int × ByteArray × Int) : Tok := ⟨x.1, x.2.1, x.2.2, (a : Int)⟩
def SA (r : List UInt8) (n : Nat) (new : List (Int × ByteArray × Int)) : Prop := ∀ (b : List UInt8) (a : Nat) (l : List Tok), b.drop a = r → b.length ≤ 100000 → l.length ≤ 100000 →
  (new = [] ∨ l.length < 4000 → token_reader_next (rt b a l) = some (0, rt b (a + n) (l ++ new.map (ta a)))) ∧ (new ≠ [] → 4000 ≤ l.length → token_reader_next (rt b a l) = some (6, rt b a l))
def SE (r : List UInt8) : Prop := ∀ (b : List UInt8) (a : Nat) (l : List Tok), b.drop a = r → b.length ≤ 100000 → l.length ≤ 100000 → ∃ e, e ≠ 0 ∧ token_reader_next (rt b a l) = some (e, rt b a l)
theorem dg_true {c : UInt8} {r : List UInt8} {w : Bool} (h : dg w c = true) : 1 ≤ spn w (c :: r) := by unfold spn; rw [List.takeWhile_cons, h]; simp
/-- It is told by what is ahead. -/
theorem step_ab (c : UInt8) (r : List UInt8) (hrl : r.length ≤ 90000) : SE (c :: r) ∨ ∃ n new, 1 ≤ n ∧ n ≤ (c :: r).length ∧ new.length ≤ 1 ∧ (∀ x ∈ new, x.1 ≠ 0) ∧ SA (c :: r) n new ∧ SA (c :: r ++ [41]) n new := by
  cases k1 : kd c == 1
  rotate_left
  · refine .inr ⟨1, [], Nat.le_refl _, by simp, by simp, by simp, fun b a l hr hb hl => ⟨fun _ => ?_, fun h => absurd rfl h⟩, fun b a l hr hb hl => ⟨fun _ => ?_, fun h => absurd rfl h⟩⟩
    · rw [next_eq hr hb hl, k1]; simp
    · rw [next_eq (r := r ++ [41]) hr hb hl, k1]; simp
  cases k2 : kd c == 2
  rotate_left
  · by_cases q : 20 < spn true (c :: r)
    · refine .inl fun b a l hr hb hl => ⟨6, by decide, ?_⟩
      obtain ⟨_, h2, _⟩ := drop_at hr
      rw [next_eq hr hb hl, k1, k2, cond_false, cond_true, name2_eq (by omega) hb hl, hr, decide_eq_true q, cond_true]
    · refine .inr ⟨spn true (c :: r), [(bif wd (txt (c :: r) (spn true (c :: r))) then 3 else 1, txt (c :: r) (spn true (c :: r)), 0)], dg_true (by unfold dg; rw [k2]; simp), spn_le _ _, by simp, by intro x hx; rw [List.mem_singleton] at hx; subst hx; cases wd (txt (c :: r) (spn true (c :: r))) <;> simp, ?_, ?_⟩
      · intro b a l hr hb hl
        obtain ⟨_, h2, _⟩ := drop_at hr
        have e := next_eq hr hb hl
        rw [k1, k2, cond_false, cond_true, name2_eq (by omega) hb hl, hr, decide_eq_false q, cond_false] at e
        refine ⟨fun h => ?_, fun _ h => ?_⟩
        · rw [e, decide_eq_false (by rcases h with h | h; cases h; omega), cond_false]; rfl
        · rw [e, decide_eq_true h, cond_true]
      · intro b a l hr hb hl
        obtain ⟨_, h2, _⟩ := drop_at hr
        have e := next_eq (r := r ++ [41]) hr hb hl
        rw [k1, k2, cond_false, cond_true, name2_eq (by omega) hb hl, hr, spn_more, txt_more (spn_le _ _), decide_eq_false q, cond_false] at e
        refine ⟨fun h => ?_, fun _ h => ?_⟩
        · rw [e, decide_eq_false (by rcases h with h | h; cases h; omega), cond_false]; rfl
        · rw [e, decide_eq_true h, cond_true]
  cases k3 : kd c == 3
  rotate_left
  · obtain ⟨v, hv⟩ := dig_eq ((c :: r).take (spn false (c :: r))) (by have := spn_le false (c :: r); simp at this ⊢; omega)
    have hv2 : ∀ m0, loopM (digF ((c :: (r ++ [41])).take (spn false (c :: (r ++ [41])))) m0) ((0 : Int), (0 : Int)) = some (dv m0 v) := by
      intro m0
      rw [show c :: (r ++ [41]) = (c :: r) ++ [41] from rfl, spn_more, List.take_append_of_le_length (spn_le _ _)]
      exact hv m0
    cases hbad : numBad c r (spn false (c :: r)) (spn true (c :: r))
    · cases v with
      | none =>
        refine .inl fun b a l hr hb hl => ?_
        have e := next_eq hr hb hl
        rw [k1, k2, k3, cond_false, cond_false, cond_true, number_eq hr hb hl _ hv, hbad, cond_false] at e
        by_cases q : 4000 ≤ l.length
        · exact ⟨6, by decide, by rw [e, decide_eq_true q, cond_true]⟩
        · exact ⟨4, by decide, by rw [e, decide_eq_false q, cond_false]; rfl⟩
      | some y =>
        refine .inr ⟨spn false (c :: r), [(2, txt (c :: r) (spn false (c :: r)), IntKind.i64.wrap y)], dg_true (by unfold dg; rw [k3]; rfl), spn_le _ _, by simp, by simp, ?_, ?_⟩
        · intro b a l hr hb hl
          have e := next_eq hr hb hl
          rw [k1, k2, k3, cond_false, cond_false, cond_true, number_eq hr hb hl _ hv, hbad, cond_false] at e
          refine ⟨fun h => ?_, fun _ h => ?_⟩
          · rw [e, decide_eq_false (by rcases h with h | h; cases h; omega), cond_false]; rfl
          · rw [e, decide_eq_true h, cond_true]
        · intro b a l hr hb hl
          have e := next_eq (r := r ++ [41]) hr hb hl
          rw [k1, k2, k3, cond_false, cond_false, cond_true, number_eq (r := r ++ [41]) hr hb hl (some y) hv2] at e
          rw [show c :: (r ++ [41]) = (c :: r) ++ [41] from rfl] at e
          simp only [dn, dn', spn_more, txt_more (spn_le false (c :: r))] at e
          rw [show numBad c (r ++ [41]) (spn false (c :: r)) (spn true (c :: r)) = numBad c r (spn false (c :: r)) (spn true (c :: r)) from rfl, hbad, cond_false] at e
          refine ⟨fun h => ?_, fun _ h => ?_⟩
          · rw [e, decide_eq_false (by rcases h with h | h; cases h; omega), cond_false]; rfl
          · rw [e, decide_eq_true h, cond_true]
    · refine .inl fun b a l hr hb hl => ?_
      have e := next_eq hr hb hl
      rw [k1, k2, k3, cond_false, cond_false, cond_true, number_eq hr hb hl _ hv, hbad, cond_true] at e
      by_cases q : 4000 ≤ l.length
      · exact ⟨6, by decide, by rw [e, decide_eq_true q, cond_true]⟩
      · exact ⟨3, by decide, by rw [e, decide_eq_false q, cond_false]⟩
  · by_cases q : sg c r = 0
    · refine .inl fun b a l hr hb hl => ⟨3, by decide, ?_⟩
      rw [next_eq hr hb hl, k1, k2, k3, q]; rfl
    · have hs : sg c (r ++ [41]) = sg c r := by
        unfold sg
        rw [show c :: (r ++ [41]) = c :: r ++ [41] from rfl, twoB_more]
      refine .inr ⟨sg c r, [(3, txt (c :: r) (sg c r), 0)], by omega, sg_le c r, by simp, by simp, ?_, ?_⟩
      · intro b a l hr hb hl
        have e := next_eq hr hb hl
        rw [k1, k2, k3, cond_false, cond_false, cond_false, show (sg c r == 0) = false by simp [q], cond_false] at e
        refine ⟨fun h => ?_, fun _ h => ?_⟩
        · rw [e, decide_eq_false (by rcases h with h | h; cases h; omega), cond_false]; rfl
        · rw [e, decide_eq_true h, cond_true]
      · intro b a l hr hb hl
        have e := next_eq (r := r ++ [41]) hr hb hl
        rw [k1, k2, k3, cond_false, cond_false, cond_false, hs, show c :: (r ++ [41]) = (c :: r) ++ [41] from rfl, txt_more (sg_le c r), show (sg c r == 0) = false by simp [q], cond_false] at e
        refine ⟨fun h => ?_, fun _ h => ?_⟩
        · rw [e, decide_eq_false (by rcases h with h | h; cases h; omega), cond_false]; rfl
        · rw [e, decide_eq_true h, cond_true]
end Go.Proofs.Ytbfbipcjdiipaaa.Ab.Pq
