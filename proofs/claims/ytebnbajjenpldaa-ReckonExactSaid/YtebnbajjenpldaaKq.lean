/- merged: Kp0, Kp1, Kp2, Kp3, Kp4, Kp5, Kp6, Kp7, Kp8, Kp9, Kpa. -/
import Derived.Test.YtebnbajjenpldaaRk3
/- Layer 2, plainly. -/
namespace Go.Proofs.Ytebnbajjenpldaa.Ab
open Go Go.RowKit Go.Shelf Go.Proofs.Ytebnbajjenpldaa
set_option linter.all false
theorem w64 {n : Int} (h : I64 n) : IntKind.i64.wrap n = n := by unfold I64 at h; rw [IntKind.wrap_i64]; omega
theorem u64w {n : Int} (h : 0 ≤ n) (k : n < 18446744073709551616) : IntKind.u64.wrap n = n := by rw [IntKind.wrap_u64]; omega
theorem need_ne {b : Int} (h : b ≠ 0) : need (b != 0) = some () := need_t (by simpa using h)
theorem vW_of {z : Int} (h : I64 z) : vW (ofW z) = z := vW_ofW (by unfold I64 at h; omega) (by unfold I64 at h; omega)
theorem ti_pos {a b : Int} (ha : 0 ≤ a) : a.tdiv b = a / b := Int.tdiv_eq_ediv_of_nonneg ha
theorem mul_rng {a b : Int} (ha : I64 a) (hb : I64 b) : a * b ≤ 85070591730234615865843651857942052864 ∧ -85070591730234615865843651857942052864 ≤ a * b := by
  have h1 : (a * b).natAbs ≤ 9223372036854775808 * 9223372036854775808 := by
    rw [Int.natAbs_mul]
    exact Nat.mul_le_mul (by unfold I64 at ha; omega) (by unfold I64 at hb; omega)
  omega
def b2i (b : Bool) : Int := bif b then 1 else 0
abbrev wi (n : Int) : Int := IntKind.i64.wrap n
def exI (op a b : Int) : TApiWide × Bool :=
  if op = 10 then (ofW (a + b), true) else if op = 11 then (ofW (a - b), true) else if op = 7 then (ofW (a * b), true) else (⟨0, 0⟩, false)
def doI (op a b : Int) : Int × Int :=
  if op = 10 then (wi (a + b), 0) else if op = 11 then (wi (a - b), 0) else if op = 7 then (wi (a * b), 0)
  else if op = 8 then (if b = 0 then (0, 10) else (wi (a.tdiv b), 0))
  else if op = 9 then (if b = 0 then (0, 10) else (a.tmod b, 0))
  else if op = 12 then (b2i (decide (a < b)), 0) else if op = 13 then (b2i (decide (a ≤ b)), 0)
  else if op = 14 then (b2i (a == b), 0) else if op = 15 then (b2i (a != b), 0)
  else if op = 16 then (b2i ((a != 0) && (b != 0)), 0) else if op = 17 then (b2i ((a != 0) || (b != 0)), 0)
  else (0, 2)
theorem wlow_any (z : Int) : wLow (ofW z) = wi z := by
  unfold wLow ofW wi
  show wrap64 (loW z) = _
  rw [IntKind.wrap_i64]
  unfold wrap64 loW; omega
theorem rlow_any (z : Int) : r02_low (ofW z) = some (wi z) := by
  unfold r02_low ofW wi
  show some (IntKind.i64.wrap (loW z)) = _
  rw [IntKind.wrap_i64, IntKind.wrap_i64]
  unfold loW; congr 1; omega
theorem okI_both {a b : Int} (ka : I64 a) (kb : I64 b) : pII a b = true := by simp [pII, okI_of ka, okI_of kb]
theorem wexact_eq {op a b : Int} (ka : I64 a) (kb : I64 b) : wrap_Exact op a b = some (exI op a b) := by
  have p1 : pWW (wOf a) (wOf b) = true := by simp [pWW, wOf, okW_ofW]
  have e1 : vW (wOf a) = a := vW_of ka
  have e2 : vW (wOf b) = b := vW_of kb
  unfold wrap_Exact exI
  have n1 : need (pI a) = some () := need_t (okI_of ka)
  have n2 : need (pI b) = some () := need_t (okI_of kb)
  have n3 := need_t p1
  have n4 := need_t (okI_both ka kb)
  unfold wAdd wSub
  rw [e1, e2]
  simp only [n1, n2, n3, n4, Option.bind_some]
  by_cases h1 : op = 10
  · simp [h1]
  have g1 : (op == 10) = false := by simpa using h1
  by_cases h2 : op = 11
  · simp [h2]
  have g2 : (op == 11) = false := by simpa using h2
  by_cases h3 : op = 7
  · simp [h3, wMul]
  have g3 : (op == 7) = false := by simpa using h3
  rw [g1, g2, g3, if_neg h1, if_neg h2, if_neg h3]
  rfl
theorem rexact_eq {op a b : Int} (ka : I64 a) (kb : I64 b) : r02_Exact op a b = some (exI op a b) := by
  have p1 : pWW (rOf a) (rOf b) = true := by simp [pWW, rOf, okW_ofW]
  have e1 : vW (rOf a) = a := vW_of ka
  have e2 : vW (rOf b) = b := vW_of kb
  unfold r02_Exact exI
  have n1 : need (pI a) = some () := need_t (okI_of ka)
  have n2 : need (pI b) = some () := need_t (okI_of kb)
  have n3 := need_t p1
  have n4 := need_t (okI_both ka kb)
  unfold rAdd rSub
  rw [e1, e2]
  simp only [n1, n2, n3, n4, Option.bind_some]
  by_cases h1 : op = 10
  · simp [h1]
  have g1 : (op == 10) = false := by simpa using h1
  by_cases h2 : op = 11
  · simp [h2]
  have g2 : (op == 11) = false := by simpa using h2
  by_cases h3 : op = 7
  · simp [h3, rMul]
  have g3 : (op == 7) = false := by simpa using h3
  rw [g1, g2, g3, if_neg h1, if_neg h2, if_neg h3]
  rfl
theorem parts_eq {op a b : Int} (ka : I64 a) (kb : I64 b) (h : op = 8 ∨ op = 9) : wrap_parts op a b = some (doI op a b) := by
  unfold wrap_parts doI
  by_cases h0 : b = 0
  · subst h0; rcases h with rfl | rfl <;> simp
  have e0 : (b == 0) = false := by simpa using h0
  by_cases h1 : b = -1
  · subst h1
    rcases h with rfl | rfl
    · have : a.tdiv (-1) = 0 - a := by rw [Int.tdiv_neg, Int.tdiv_one]; omega
      simp [this]
    · have : a.tmod (-1) = 0 := by rw [Int.tmod_neg, Int.tmod_one]
      simp [this]
  · have e1 : (b == -1) = false := by simpa using h1
    rw [e0, e1, need_ne h0]
    rcases h with rfl | rfl <;> simp [h0]
theorem wdo_eq {op a b : Int} (ka : I64 a) (kb : I64 b) : wrap_Do op a b = some (doI op a b) := by
  unfold wrap_Do
  rw [wexact_eq ka kb]
  by_cases h10 : op = 10
  · subst h10; simp [exI, doI, pW, okW_ofW, need, wlow_any]
  by_cases h11 : op = 11
  · subst h11; simp [exI, doI, pW, okW_ofW, need, wlow_any]
  by_cases h7 : op = 7
  · subst h7; simp [exI, doI, pW, okW_ofW, need, wlow_any]
  have he : exI op a b = (⟨0, 0⟩, false) := by simp [exI, h10, h11, h7]
  rw [he]
  by_cases h8 : op = 8
  · subst h8; simp [parts_eq ka kb (.inl rfl)]
  by_cases h9 : op = 9
  · subst h9; simp [parts_eq ka kb (.inr rfl)]
  have e8 : (op == 8) = false := by simpa using h8
  have e9 : (op == 9) = false := by simpa using h9
  simp only [Option.bind_some, cond_false, e8, e9]
  unfold wrap_holds doI wrap_truth b2i
  simp only [if_neg h10, if_neg h11, if_neg h7, if_neg h8, if_neg h9]
  by_cases h12 : op = 12
  · subst h12; by_cases c : a < b <;> simp [c]
  by_cases h13 : op = 13
  · subst h13; by_cases c : a ≤ b <;> simp [c]
  by_cases h14 : op = 14
  · subst h14; cases hc : (a == b) <;> simp [hc]
  by_cases h15 : op = 15
  · subst h15; cases hc : (a != b) <;> simp [hc]
  by_cases h16 : op = 16
  · subst h16; cases hc : (a != 0) <;> cases hc2 : (b != 0) <;> simp [hc, hc2]
  by_cases h17 : op = 17
  · subst h17; cases hc : (a != 0) <;> cases hc2 : (b != 0) <;> simp [hc, hc2]
  have g12 : (op == 12) = false := by simpa using h12
  have g13 : (op == 13) = false := by simpa using h13
  have g14 : (op == 14) = false := by simpa using h14
  have g15 : (op == 15) = false := by simpa using h15
  have g16 : (op == 16) = false := by simpa using h16
  have g17 : (op == 17) = false := by simpa using h17
  rw [g12, g13, g14, g15, g16, g17]
  simp [h12, h13, h14, h15, h16, h17]
theorem rabs_eq {a : Int} (ka : I64 a) : r02_abs a = some (a.natAbs : Int) := by
  unfold r02_abs
  have e1 : vW (rOf a) = a := vW_of ka
  rw [need_bind (show pI a = true from okI_of ka), need_bind (show pW (rOf a) = true from okW_ofW _)]
  unfold rNeg
  rw [e1]
  unfold I64 at ka
  by_cases h : a < 0
  · rw [decide_eq_true h]
    show some (loW (-a)) = _
    unfold loW; congr 1; omega
  · rw [decide_eq_false h]
    show some (loW a) = _
    unfold loW; congr 1; omega
theorem V0 : vW ⟨0, 0⟩ = 0 := rfl
theorem quo_eq {a b : Int} (ka : I64 a) (kb : I64 b) (h : b ≠ 0) : r02_Quotient a b = some (wi (a.tdiv b)) := by
  unfold r02_Quotient
  rw [rabs_eq ka, rabs_eq kb]
  simp only [Option.bind_some]
  rw [need_ne (show (b.natAbs : Int) ≠ 0 by omega)]
  simp only [Option.bind_some]
  have na : (a.natAbs : Int) ≤ 9223372036854775808 := by unfold I64 at ka; omega
  have q0 : 0 ≤ (a.natAbs : Int) / (b.natAbs : Int) := Int.ediv_nonneg (by omega) (by omega)
  have q1 : (a.natAbs : Int) / (b.natAbs : Int) ≤ a.natAbs := Int.ediv_le_self _ (by omega)
  rw [ti_pos (by omega), u64w q0 (by omega)]
  have hw : (⟨0, (a.natAbs : Int) / (b.natAbs : Int)⟩ : TApiWide) = ofW ((a.natAbs : Int) / (b.natAbs : Int)) := by
    unfold ofW hiW loW
    rw [show (a.natAbs : Int) / (b.natAbs : Int) / 18446744073709551616 = 0 by omega, show (a.natAbs : Int) / (b.natAbs : Int) % 18446744073709551616 = (a.natAbs : Int) / (b.natAbs : Int) by omega, show wrap64 0 = 0 by unfold wrap64; omega]
  rw [hw, need_bind (show pW (ofW ((a.natAbs : Int) / (b.natAbs : Int))) = true from okW_ofW _), rlow_any]
  unfold rNeg
  rw [vW_ofW (by omega) (by omega), rlow_any]
  simp only [Option.bind_some]
  by_cases ha : a < 0
  · have ea : a = -(a.natAbs : Int) := by omega
    by_cases hb : b < 0
    · have eb : b = -(b.natAbs : Int) := by omega
      have hq : a.tdiv b = (a.natAbs : Int) / (b.natAbs : Int) := by
        conv => lhs; rw [ea, eb]
        rw [Int.neg_tdiv_neg, ti_pos (by omega)]
      rw [decide_eq_true ha, decide_eq_true hb, hq]; rfl
    · have eb : b = (b.natAbs : Int) := by omega
      have hq : a.tdiv b = -((a.natAbs : Int) / (b.natAbs : Int)) := by
        conv => lhs; rw [ea, eb]
        rw [Int.neg_tdiv, ti_pos (by omega)]
      rw [decide_eq_true ha, decide_eq_false hb, hq]; rfl
  · have ea : a = (a.natAbs : Int) := by omega
    by_cases hb : b < 0
    · have eb : b = -(b.natAbs : Int) := by omega
      have hq : a.tdiv b = -((a.natAbs : Int) / (b.natAbs : Int)) := by
        conv => lhs; rw [ea, eb]
        rw [Int.tdiv_neg, ti_pos (by omega)]
      rw [decide_eq_false ha, decide_eq_true hb, hq]; rfl
    · have eb : b = (b.natAbs : Int) := by omega
      have hq : a.tdiv b = (a.natAbs : Int) / (b.natAbs : Int) := by
        conv => lhs; rw [ea, eb]
        rw [ti_pos (by omega)]
      rw [decide_eq_false ha, decide_eq_false hb, hq]; rfl
theorem rem_eq {a b : Int} (ka : I64 a) (kb : I64 b) (hz : b ≠ 0) : wi (a - wi (a.tdiv b) * b) = a.tmod b := by
  have h := Int.mul_tdiv_add_tmod a b
  have h1 : (a - wi (a.tdiv b) * b) % 18446744073709551616 = a.tmod b % 18446744073709551616 := by
    have e : wi (a.tdiv b) = a.tdiv b + 18446744073709551616 * (-((a.tdiv b + 9223372036854775808) / 18446744073709551616)) := by unfold wi; rw [IntKind.wrap_i64]; omega
    rw [e, Int.add_mul, Int.mul_comm (a.tdiv b) b, Int.mul_assoc]
    omega
  have l1 : (a.tmod b).natAbs ≤ a.natAbs := by rw [Int.natAbs_tmod]; exact Nat.mod_le _ _
  have l2 : (a.tmod b).natAbs < b.natAbs := by rw [Int.natAbs_tmod]; exact Nat.mod_lt _ (by omega)
  unfold I64 at ka kb
  unfold wi at h1 ⊢
  rw [IntKind.wrap_i64]
  generalize a - IntKind.i64.wrap (a.tdiv b) * b = z at *
  omega
theorem wi_i (n : Int) : I64 (wi n) := by unfold wi I64; rw [IntKind.wrap_i64]; omega
theorem one_b (b : Bool) : r02_one b = some (b2i b) := by cases b <;> rfl
theorem rdo_eq {op a b : Int} (ka : I64 a) (kb : I64 b) : r02_Do op a b = some (doI op a b) := by
  unfold r02_Do
  rw [rexact_eq ka kb]
  by_cases h10 : op = 10
  · subst h10; simp [exI, doI, rlow_any]
  by_cases h11 : op = 11
  · subst h11; simp [exI, doI, rlow_any]
  by_cases h7 : op = 7
  · subst h7; simp [exI, doI, rlow_any]
  have he : exI op a b = (⟨0, 0⟩, false) := by simp [exI, h10, h11, h7]
  have e1 : vW (rOf a) = a := vW_of ka
  have e2 : vW (rOf b) = b := vW_of kb
  have e3 : rSub (rOf a) (rOf b) = ofW (a - b) := by unfold rSub; rw [e1, e2]
  have e4 : vW (ofW (a - b)) = a - b := vW_ofW (by unfold I64 at *; omega) (by unfold I64 at *; omega)
  have n1 : need (pI a) = some () := need_t (okI_of ka)
  have n2 : need (pI b) = some () := need_t (okI_of kb)
  have n3 : need (pWW (rOf a) (rOf b)) = some () := need_t (by simp [pWW, rOf, okW_ofW])
  have n4 : need (pWW (ofW (a - b)) ⟨0, 0⟩) = some () := need_t (by simp [pWW, okW_ofW]; rfl)
  have hc : rCmp (ofW (a - b)) ⟨0, 0⟩ = cmpI (a - b) 0 := by unfold rCmp; rw [e4]; rfl
  rw [he, e3]
  simp only [Option.bind_some, cond_false, n1, n2, n3, n4, hc, one_b]
  unfold doI
  simp only [if_neg h10, if_neg h11, if_neg h7]
  by_cases h8 : op = 8
  · subst h8
    by_cases h0 : b = 0
    · subst h0; simp
    · simp only [show ((8 : Int) == 8) = true from rfl, cond_false, cond_true, show (b == 0) = false by simpa using h0, Option.bind_some, quo_eq ka kb h0, h0, if_false, if_true]
  by_cases h9 : op = 9
  · subst h9
    by_cases h0 : b = 0
    · subst h0; simp
    · have n5 : need (pII (wi (a.tdiv b)) b) = some () := need_t (okI_both (wi_i _) kb)
      have hv : vW (rMul (wi (a.tdiv b)) b) = wi (a.tdiv b) * b := by
        have := mul_rng (wi_i (a.tdiv b)) kb
        unfold rMul; exact vW_ofW (by omega) (by omega)
      have n6 : need (pWW (rOf a) (rMul (wi (a.tdiv b)) b)) = some () := need_t (by simp [pWW, rOf, rMul, okW_ofW])
      have e5 : rSub (rOf a) (rMul (wi (a.tdiv b)) b) = ofW (a - wi (a.tdiv b) * b) := by unfold rSub; rw [e1, hv]
      simp only [show ((9 : Int) == 8) = false from rfl, show ((9 : Int) == 9) = true from rfl, cond_false, cond_true, show (b == 0) = false by simpa using h0, Option.bind_some, quo_eq ka kb h0, n5, n6, e5, rlow_any, rem_eq ka kb h0, h0, if_false]
      rfl
  have g8 : (op == 8) = false := by simpa using h8
  have g9 : (op == 9) = false := by simpa using h9
  simp only [g8, g9, cond_false, Option.bind_some, if_neg h8, if_neg h9]
  have c1 : decide (cmpI (a - b) 0 < 0) = decide (a < b) := by
    unfold cmpI; by_cases c : a < b
    · rw [if_pos (by omega), decide_eq_true c]; rfl
    · rw [if_neg (by omega), decide_eq_false c]; split <;> rfl
  have c2 : decide (cmpI (a - b) 0 ≤ 0) = decide (a ≤ b) := by
    unfold cmpI; by_cases c : a < b
    · rw [if_pos (by omega), decide_eq_true (show a ≤ b by omega)]; rfl
    · rw [if_neg (by omega)]
      by_cases c3 : a = b
      · rw [if_neg (by omega), decide_eq_true (show a ≤ b by omega)]; rfl
      · rw [if_pos (by omega), decide_eq_false (show ¬ a ≤ b by omega)]; rfl
  have c3 : (cmpI (a - b) 0 == 0) = (a == b) := by
    unfold cmpI; by_cases c : a < b
    · rw [if_pos (by omega), show (a == b) = false by rw [beq_eq_false_iff_ne]; omega]; rfl
    · rw [if_neg (by omega)]
      by_cases c3 : a = b
      · rw [if_neg (by omega), show (a == b) = true by rw [beq_iff_eq]; exact c3]; rfl
      · rw [if_pos (by omega), show (a == b) = false by rw [beq_eq_false_iff_ne]; omega]; rfl
  have c4 : (cmpI (a - b) 0 != 0) = (a != b) := by unfold bne; rw [c3]
  rw [c1, c2, c3, c4]
  by_cases h12 : op = 12
  · subst h12; simp
  by_cases h13 : op = 13
  · subst h13; simp
  by_cases h14 : op = 14
  · subst h14; simp
  by_cases h15 : op = 15
  · subst h15; simp
  by_cases h16 : op = 16
  · subst h16; cases hc : (a != 0) <;> simp [hc]
  by_cases h17 : op = 17
  · subst h17; cases hc : (a != 0) <;> simp [hc]
  have g12 : (op == 12) = false := by simpa using h12
  have g13 : (op == 13) = false := by simpa using h13
  have g14 : (op == 14) = false := by simpa using h14
  have g15 : (op == 15) = false := by simpa using h15
  have g16 : (op == 16) = false := by simpa using h16
  have g17 : (op == 17) = false := by simpa using h17
  rw [g12, g13, g14, g15, g16, g17]
  simp [h12, h13, h14, h15, h16, h17]
end Go.Proofs.Ytebnbajjenpldaa.Ab
/- Layers 3 and 4, plainly: spans, and what wraps round. -/
namespace Go.Proofs.Ytebnbajjenpldaa.Ab
open Go Go.RowKit Go.Shelf Go.Proofs.Ytebnbajjenpldaa
set_option linter.all false
def zS : TApiSpan := ⟨false, 0, 0⟩
def mkS (lo hi : Int) : TApiSpan := if hi < lo then zS else ⟨true, lo, hi⟩
def noneB (s : TApiSpan) : Bool := !s.gSome || decide (s.gHi < s.gLo)
def hasB (s : TApiSpan) (n : Int) : Bool := s.gSome && (decide (s.gLo ≤ n) && decide (n ≤ s.gHi))
def allS : TApiSpan := ⟨true, -9223372036854775808, 9223372036854775807⟩
def meetS (a b : TApiSpan) : TApiSpan := if (noneB a || noneB b) = true then zS else mkS (max a.gLo b.gLo) (min a.gHi b.gHi)
def okS (s : TApiSpan) : Prop := I64 s.gLo ∧ I64 s.gHi
def eqS (a b : TApiSpan) : Bool := a.gSome == b.gSome && (a.gLo == b.gLo && (a.gHi == b.gHi && true))
theorem eqS_refl (a : TApiSpan) : eqS a a = true := by simp [eqS]
theorem of_eq (lo hi : Int) : span_Of lo hi = some (mkS lo hi) := by
  unfold span_Of mkS zS
  by_cases h : hi < lo <;> simp [h]
theorem one_eq (n : Int) : span_One n = some (mkS n n) := by
  unfold span_One; rw [of_eq]; rfl
theorem allS_eq : span_All = some allS := by
  unfold span_All; rw [of_eq]; rfl
theorem none_eq (s : TApiSpan) : span_None s = some (noneB s) := by
  unfold span_None noneB
  cases s.gSome <;> rfl
theorem has_eq (s : TApiSpan) (n : Int) : span_Has s n = some (hasB s n) := by
  unfold span_Has hasB
  cases s.gSome <;> cases decide (s.gLo ≤ n) <;> rfl
theorem clean_eq (s : TApiSpan) : span_Clean s = some (if noneB s = true then zS else s) := by
  unfold span_Clean; rw [none_eq]
  cases noneB s <;> rfl
def joinS (a b : TApiSpan) : TApiSpan := if noneB a = true then (if noneB b = true then zS else b) else if noneB b = true then a else mkS (min a.gLo b.gLo) (max a.gHi b.gHi)
theorem join_eq (a b : TApiSpan) : span_Join a b = some (joinS a b) := by
  unfold span_Join joinS
  rw [none_eq, none_eq, clean_eq, of_eq]
  cases noneB a <;> cases noneB b <;> rfl
def leqB (a b : TApiSpan) : Bool := noneB a || (hasB b a.gLo && hasB b a.gHi)
theorem leq_eq (a b : TApiSpan) : span_Leq a b = some (leqB a b) := by
  unfold span_Leq leqB
  rw [none_eq, has_eq, has_eq]
  cases noneB a <;> cases hasB b a.gLo <;> rfl
theorem meet_eq (a b : TApiSpan) : span_Meet a b = some (meetS a b) := by
  unfold span_Meet meetS
  rw [none_eq, none_eq, of_eq]
  cases noneB a <;> cases noneB b <;> rfl
theorem rn_eq (s : TApiSpan) : r03_none s = some (noneB s) := by
  unfold r03_none noneB
  cases s.gSome <;> simp
theorem rnone_eq (s : TApiSpan) : r03_None s = some (noneB s) := by
  unfold r03_None
  rw [rn_eq]; rfl
theorem rmake_eq (lo hi : Int) : r03_Make lo hi = some (mkS lo hi) := by
  unfold r03_Make
  rw [rn_eq]
  unfold mkS zS noneB
  by_cases h : hi < lo <;> simp [h]
theorem rhas_eq (s : TApiSpan) (n : Int) : r03_Has s n = some (hasB s n) := by
  unfold r03_Has hasB
  rw [rn_eq]
  unfold noneB
  cases s.gSome with
  | false => simp
  | true =>
    by_cases h : s.gHi < s.gLo
    · by_cases h1 : s.gLo ≤ n
      · have : ¬ n ≤ s.gHi := by omega
        simp [h, h1, this]
      · simp [h, h1]
    · by_cases h1 : s.gLo ≤ n <;> simp [h, h1]
theorem rmeet_eq (a b : TApiSpan) : r03_Meet a b = some (meetS a b) := by
  unfold r03_Meet meetS
  simp only [rn_eq, rmake_eq, Option.bind_some]
  have e1 : (bif decide (a.gLo < b.gLo) then some b.gLo else some a.gLo) = some (max a.gLo b.gLo) := by
    by_cases h : a.gLo < b.gLo
    · simp [h]; omega
    · simp [h]; omega
  have e2 : (bif decide (b.gHi < a.gHi) then some b.gHi else some a.gHi) = some (min a.gHi b.gHi) := by
    by_cases h : b.gHi < a.gHi
    · simp [h]; omega
    · simp [h]; omega
  rw [e1, e2]
  cases noneB a <;> cases noneB b <;> simp [zS, Option.bind_some]
theorem rall_eq : r04_all = some allS := by
  unfold r04_all; rw [rmake_eq]; rfl
/-! ### What wraps round -/
def wrapW (lo hi : TApiWide) : TApiSpan :=
  if vW hi < vW lo then zS else if (ofW (vW hi - vW lo)).gHi ≠ 0 then allS else if IntKind.i64.wrap hi.gLo < IntKind.i64.wrap lo.gLo then allS else mkS (IntKind.i64.wrap lo.gLo) (IntKind.i64.wrap hi.gLo)
theorem cmpI_pos (x y : Int) : decide (0 < cmpI x y) = decide (y < x) := by
  unfold cmpI
  by_cases h : x < y
  · have : ¬ y < x := by omega
    simp [h, this]
  · by_cases h2 : y < x <;> simp [h, h2]
theorem cmpI_neg (x y : Int) : decide (cmpI x y < 0) = decide (x < y) := by
  unfold cmpI
  by_cases h : x < y
  · simp [h]
  · by_cases h2 : y < x <;> simp [h, h2]
theorem wcmp_pos (x y : TApiWide) : decide (0 < wCmp x y) = decide (vW y < vW x) := cmpI_pos _ _
theorem rcmp_pos (x y : TApiWide) : decide (0 < rCmp x y) = decide (vW y < vW x) := cmpI_pos _ _
theorem rcmp_neg (x y : TApiWide) : decide (rCmp x y < 0) = decide (vW x < vW y) := cmpI_neg _ _
theorem wLow_w (x : TApiWide) : wLow x = IntKind.i64.wrap x.gLo := by unfold wLow wrap64; rw [IntKind.wrap_i64]
theorem wwrap_eq {lo hi : TApiWide} (h1 : okW lo = true) (h2 : okW hi = true) : reckon_Wrap lo hi = some (wrapW lo hi) := by
  have p1 : pWW hi lo = true := by simp [pWW, h1, h2]
  have p2 : pWW lo hi = true := by simp [pWW, h1, h2]
  have p3 : pW lo = true := h1
  have p4 : pW hi = true := h2
  unfold reckon_Wrap wrapW
  rw [need_bind p1, need_bind p2, need_bind p3, need_bind p4]
  simp only [allS_eq, of_eq, wcmp_pos, wSub, Option.bind_some, wLow_w]
  by_cases a : vW hi < vW lo
  · simp [a, zS]
  · by_cases b : (ofW (vW hi - vW lo)).gHi = 0
    · by_cases c : IntKind.i64.wrap hi.gLo < IntKind.i64.wrap lo.gLo <;> simp [a, b, c]
    · simp [a, b, bne_iff_ne.2 b]
theorem rwrap_eq {lo hi : TApiWide} (h1 : okW lo = true) (h2 : okW hi = true) : r04_Wrap lo hi = some (wrapW lo hi) := by
  have p1 : pWW hi lo = true := by simp [pWW, h1, h2]
  have p2 : pWW lo hi = true := by simp [pWW, h1, h2]
  unfold r04_Wrap wrapW
  rw [need_bind p1, need_bind p2]
  simp only [rall_eq, rmake_eq, rcmp_pos, rSub, Option.bind_some]
  by_cases a : vW hi < vW lo
  · simp [a, zS]
  · by_cases b : (ofW (vW hi - vW lo)).gHi = 0
    · by_cases c : IntKind.i64.wrap hi.gLo < IntKind.i64.wrap lo.gLo <;> simp [a, b, c]
    · simp [a, b, bne_iff_ne.2 b]
/-- Of ints that fit well. -/
def Fit (z : Int) : Prop := -85070591730234615865843651857942052864 ≤ z ∧ z ≤ 85070591730234615865843651857942052864
def wrapZ (lo hi : Int) : TApiSpan := if 18446744073709551616 ≤ hi - lo then allS else if wi hi < wi lo then allS else ⟨true, wi lo, wi hi⟩
theorem low_ofW (z : Int) : IntKind.i64.wrap (ofW z).gLo = wi z := by rw [← wLow_w, wlow_any]
theorem vW_fit {z : Int} (h : Fit z) : vW (ofW z) = z := vW_ofW (by have := h.1; omega) (by have := h.2; omega)
theorem wrapW_ofW {lo hi : Int} (h1 : Fit lo) (h2 : Fit hi) (h : lo ≤ hi) : wrapW (ofW lo) (ofW hi) = wrapZ lo hi := by
  unfold wrapW wrapZ
  rw [vW_fit h1, vW_fit h2, low_ofW, low_ofW]
  have k : ¬ hi < lo := by omega
  rw [if_neg k]
  obtain ⟨a1, a2⟩ := h1
  obtain ⟨b1, b2⟩ := h2
  have e : (ofW (hi - lo)).gHi ≠ 0 ↔ 18446744073709551616 ≤ hi - lo := by
    show wrap64 ((hi - lo) / 18446744073709551616) ≠ 0 ↔ _
    unfold wrap64; omega
  by_cases c : 18446744073709551616 ≤ hi - lo
  · rw [if_pos (e.2 c), if_pos c]
  · rw [if_neg (fun x => c (e.1 x)), if_neg c]
    by_cases d : wi hi < wi lo
    · rw [if_pos d, if_pos d]
    · rw [if_neg d, if_neg d]; unfold mkS; rw [if_neg d]
end Go.Proofs.Ytebnbajjenpldaa.Ab
/- Layer 4, plainly: the least and the greatest; what ends come to. -/
namespace Go.Proofs.Ytebnbajjenpldaa.Ab
open Go Go.RowKit Go.Shelf Go.Proofs.Ytebnbajjenpldaa
set_option linter.all false
theorem okW_w (z : Int) : okW (ofW z) = true := okW_ofW z
theorem pWW_w (y z : Int) : pWW (ofW y) (ofW z) = true := by simp [pWW, okW_ofW]
theorem eta_w (z : Int) : (⟨(ofW z).gHi, (ofW z).gLo⟩ : TApiWide) = ofW z := rfl
theorem cmp_w {y z : Int} (h : Fit y) (k : Fit z) : wCmp (ofW y) (ofW z) = cmpI y z := by unfold wCmp; rw [vW_fit h, vW_fit k]
theorem rcmp_w {y z : Int} (h : Fit y) (k : Fit z) : rCmp (ofW y) (ofW z) = cmpI y z := by unfold rCmp; rw [vW_fit h, vW_fit k]
theorem wi_nat {n : Nat} (h : n < 4611686018427387904) : IntKind.i64.wrap ((n : Int) + 1) = ((n + 1 : Nat) : Int) := by
  rw [IntKind.wrap_i64]; omega
def Fits (zs : List Int) : Prop := ∀ z ∈ zs, Fit z
def pickI (c x y : Int) : Int := if cmpI y x = c then y else x
theorem pickI_fit {c x y : Int} (h : Fit x) (k : Fit y) : Fit (pickI c x y) := by unfold pickI; split <;> assumption
theorem drop_cons {α : Type} {zs : List α} {n : Nat} (h : n < zs.length) : zs.drop n = zs[n] :: zs.drop (n + 1) := List.drop_eq_getElem_cons h
theorem best_eq (c z0 : Int) (zs : List Int) (h0 : Fit z0) (hf : Fits zs) (hl : zs.length < 1000) : wide_best (ofW z0) c (zs.map ofW) = some (ofW (zs.foldl (pickI c) z0)) := by
  unfold wide_best
  refine loop_bind (I := fun s => ∃ (n : Nat) (z : Int), s = ((n : Int), (ofW z).gHi, (ofW z).gLo) ∧ n ≤ zs.length ∧ Fit z ∧ (zs.drop n).foldl (pickI c) z = zs.foldl (pickI c) z0) (μ := fun s => zs.length - s.1.toNat) (p := fun t => t = ((ofW (zs.foldl (pickI c) z0)).gHi, (ofW (zs.foldl (pickI c) z0)).gLo)) ⟨0, z0, rfl, by omega, h0, by simp⟩ ?_ ?_
  · rintro _ ⟨n, z, rfl, h1, h2, h3⟩
    simp only [List.length_map, eta_w]
    by_cases h : n < zs.length
    · left
      have hx : Fit zs[n] := hf _ (List.getElem_mem h)
      have e1 : idx (zs.map ofW) (n : Int) = some (ofW zs[n]) := by rw [idx_nat]; simp [h]
      have e2 : decide ((n : Int) < (zs.length : Int)) = true := by simpa using h
      rw [drop_cons h, List.foldl_cons] at h3
      simp only [e2, cond_true, e1, Option.bind_some, need_bind (pWW_w _ _), cmp_w hx h2]
      rw [wi_nat (by omega)]
      by_cases hc : cmpI zs[n] z = c
      · refine ⟨_, by rw [hc]; simp, ⟨n + 1, zs[n], rfl, by omega, hx, ?_⟩, by simp; omega⟩
        rw [← h3]; unfold pickI; rw [if_pos hc]
      · refine ⟨_, by rw [beq_eq_false_iff_ne.2 hc]; simp, ⟨n + 1, z, rfl, by omega, h2, ?_⟩, by simp; omega⟩
        rw [← h3]; unfold pickI; rw [if_neg hc]
    · right
      have e2 : decide ((n : Int) < (zs.length : Int)) = false := by simpa using h
      have : n = zs.length := by omega
      subst this
      simp only [List.drop_length, List.foldl_nil] at h3
      simp only [e2, cond_false, h3]
      exact ⟨_, rfl, rfl⟩
  · rintro _ rfl; rfl
theorem pick_min (x y : Int) : pickI (-1) x y = min x y := by
  unfold pickI cmpI; by_cases h : y < x
  · rw [if_pos h]; simp; omega
  · rw [if_neg h]; by_cases k : x < y
    · rw [if_pos k]; simp; omega
    · rw [if_neg k]; simp; omega
theorem pick_max (x y : Int) : pickI 1 x y = max x y := by
  unfold pickI cmpI; by_cases h : y < x
  · rw [if_pos h]; simp; omega
  · rw [if_neg h]; by_cases k : x < y
    · rw [if_pos k]; simp; omega
    · rw [if_neg k]; simp; omega
theorem pick_min' : pickI (-1) = min := by funext x y; exact pick_min x y
theorem pick_max' : pickI 1 = max := by funext x y; exact pick_max x y
theorem min_eq {z0 : Int} {zs : List Int} (h0 : Fit z0) (hf : Fits zs) (hl : zs.length < 1000) : wide_Min (ofW z0) (zs.map ofW) = some (ofW (zs.foldl min z0)) := by
  unfold wide_Min; rw [best_eq _ _ _ h0 hf hl, pick_min']; rfl
theorem max_eq {z0 : Int} {zs : List Int} (h0 : Fit z0) (hf : Fits zs) (hl : zs.length < 1000) : wide_Max (ofW z0) (zs.map ofW) = some (ofW (zs.foldl max z0)) := by
  unfold wide_Max; rw [best_eq _ _ _ h0 hf hl, pick_max']; rfl
theorem fit_fold {f : Int → Int → Int} (hf : ∀ x y, Fit x → Fit y → Fit (f x y)) : ∀ (zs : List Int) (z : Int), Fit z → Fits zs → Fit (zs.foldl f z)
  | [], z, h, _ => h
  | x :: zs, z, h, k => fit_fold hf zs _ (hf _ _ h (k x (by simp))) fun y hy => k y (by simp [hy])
theorem fit_min {x y : Int} (h : Fit x) (k : Fit y) : Fit (min x y) := by unfold Fit at *; omega
theorem fit_max {x y : Int} (h : Fit x) (k : Fit y) : Fit (max x y) := by unfold Fit at *; omega
theorem fold_min_le : ∀ (zs : List Int) (z : Int), zs.foldl min z ≤ z ∧ ∀ x ∈ zs, zs.foldl min z ≤ x
  | [], z => ⟨Int.le_refl _, by simp⟩
  | y :: zs, z => by
    have ih := fold_min_le zs (min z y)
    refine ⟨by have := ih.1; simp only [List.foldl_cons]; omega, fun x hx => ?_⟩
    simp only [List.foldl_cons]
    rcases List.mem_cons.1 hx with rfl | hx
    · have := ih.1; omega
    · exact ih.2 x hx
theorem fold_max_le : ∀ (zs : List Int) (z : Int), z ≤ zs.foldl max z ∧ ∀ x ∈ zs, x ≤ zs.foldl max z
  | [], z => ⟨Int.le_refl _, by simp⟩
  | y :: zs, z => by
    have ih := fold_max_le zs (max z y)
    refine ⟨by have := ih.1; simp only [List.foldl_cons]; omega, fun x hx => ?_⟩
    simp only [List.foldl_cons]
    rcases List.mem_cons.1 hx with rfl | hx
    · have := ih.1; omega
    · exact ih.2 x hx
theorem fold_min_mem : ∀ (zs : List Int) (z : Int), zs.foldl min z ∈ z :: zs
  | [], z => by simp
  | y :: zs, z => by
    have ih := fold_min_mem zs (min z y)
    simp only [List.foldl_cons, List.mem_cons] at ih ⊢
    rcases ih with h | h
    · rw [h]; rcases Int.le_total z y with k | k
      · left; omega
      · right; left; omega
    · right; right; exact h
theorem fold_max_mem : ∀ (zs : List Int) (z : Int), zs.foldl max z ∈ z :: zs
  | [], z => by simp
  | y :: zs, z => by
    have ih := fold_max_mem zs (max z y)
    simp only [List.foldl_cons, List.mem_cons] at ih ⊢
    rcases ih with h | h
    · rw [h]; rcases Int.le_total z y with k | k
      · right; left; omega
      · left; omega
    · right; right; exact h
def aroundZ : List Int → TApiSpan
  | [] => zS
  | z :: zs => wrapZ (zs.foldl min z) (zs.foldl max z)
theorem around_eq {zs : List Int} (hf : Fits zs) (hl : zs.length < 1000) : reckon_around (zs.map ofW) = some (aroundZ zs) := by
  unfold reckon_around
  cases zs with
  | nil => rfl
  | cons z zs =>
    have h0 : Fit z := hf z (by simp)
    have e1 : idx ((z :: zs).map ofW) (0 : Int) = some (ofW z) := by rfl
    have e2 : ((((z :: zs).map ofW).length : Int) == (0 : Int)) = false := by simp; omega
    rw [e2]
    simp only [cond_false, e1, Option.bind_some, min_eq h0 hf hl, max_eq h0 hf hl]
    have k1 := fit_fold (fun x y => fit_min) (z :: zs) z h0 hf
    have k2 := fit_fold (fun x y => fit_max) (z :: zs) z h0 hf
    rw [wwrap_eq (okW_w _) (okW_w _), wrapW_ofW k1 k2 (Int.le_trans (fold_min_le _ _).1 (fold_max_le _ _).1)]
    simp only [List.foldl_cons, Int.min_self, Int.max_self, Option.bind_some, aroundZ]
theorem raround_eq {zs : List Int} (hf : Fits zs) (hl : zs.length < 1000) : r04_around (zs.map ofW) = some (aroundZ zs) := by
  unfold r04_around
  cases hz : zs with
  | nil => rfl
  | cons z zs' =>
    rw [← hz]
    have h0 : Fit z := hf z (by simp [hz])
    have e1 : idx (zs.map ofW) (0 : Int) = some (ofW z) := by rw [hz]; rfl
    have e2 : (((zs.map ofW).length : Int) == (0 : Int)) = false := by rw [hz]; simp; omega
    rw [e2]
    simp only [cond_false, e1, Option.bind_some]
    refine loop_bind (I := fun s => ∃ (n : Nat) (x y : Int), s = ((n : Int), (ofW x).gHi, (ofW x).gLo, (ofW y).gHi, (ofW y).gLo) ∧ n ≤ zs.length ∧ Fit x ∧ Fit y ∧ (zs.drop n).foldl min x = zs.foldl min z ∧ (zs.drop n).foldl max y = zs.foldl max z) (μ := fun s => zs.length - s.1.toNat) (p := fun t => t = ((ofW (zs.foldl min z)).gHi, (ofW (zs.foldl min z)).gLo, (ofW (zs.foldl max z)).gHi, (ofW (zs.foldl max z)).gLo)) ⟨0, z, z, rfl, by omega, h0, h0, by simp, by simp⟩ ?_ ?_
    · rintro _ ⟨n, x, y, rfl, h1, h2, h3, h4, h5⟩
      simp only [List.length_map, eta_w]
      by_cases h : n < zs.length
      · left
        have hx : Fit zs[n] := hf _ (List.getElem_mem h)
        have e1 : idx (zs.map ofW) (n : Int) = some (ofW zs[n]) := by rw [idx_nat]; simp [h]
        have e2 : decide ((n : Int) < (zs.length : Int)) = true := by simpa using h
        rw [drop_cons h, List.foldl_cons] at h4 h5
        simp only [e2, cond_true, e1, Option.bind_some, need_bind (pWW_w _ _), rcmp_neg, rcmp_pos, vW_fit hx, vW_fit h2, vW_fit h3]
        rw [wi_nat (by omega)]
        by_cases hc : zs[n] < x
        · have m1 : min x zs[n] = zs[n] := by omega
          rw [m1] at h4
          by_cases hd : y < zs[n]
          · have m2 : max y zs[n] = zs[n] := by omega
            rw [m2] at h5
            exact ⟨_, by simp only [hc, hd, decide_true, cond_true, Option.bind_some], ⟨n + 1, zs[n], zs[n], rfl, by omega, hx, hx, h4, h5⟩, by simp; omega⟩
          · have m2 : max y zs[n] = y := by omega
            rw [m2] at h5
            exact ⟨_, by simp only [hc, hd, decide_true, decide_false, cond_true, cond_false, Option.bind_some], ⟨n + 1, zs[n], y, rfl, by omega, hx, h3, h4, h5⟩, by simp; omega⟩
        · have m1 : min x zs[n] = x := by omega
          rw [m1] at h4
          by_cases hd : y < zs[n]
          · have m2 : max y zs[n] = zs[n] := by omega
            rw [m2] at h5
            exact ⟨_, by simp only [hc, hd, decide_true, decide_false, cond_true, cond_false, Option.bind_some], ⟨n + 1, x, zs[n], rfl, by omega, h2, hx, h4, h5⟩, by simp; omega⟩
          · have m2 : max y zs[n] = y := by omega
            rw [m2] at h5
            exact ⟨_, by simp only [hc, hd, decide_false, cond_false, Option.bind_some], ⟨n + 1, x, y, rfl, by omega, h2, h3, h4, h5⟩, by simp; omega⟩
      · right
        have e2 : decide ((n : Int) < (zs.length : Int)) = false := by simpa using h
        have : n = zs.length := by omega
        subst this
        simp only [List.drop_length, List.foldl_nil] at h4 h5
        simp only [e2, cond_false, h4, h5]
        exact ⟨_, rfl, rfl⟩
    · rintro _ rfl
      simp only [eta_w]
      have k1 := fit_fold (fun x y => fit_min) zs z h0 hf
      have k2 := fit_fold (fun x y => fit_max) zs z h0 hf
      rw [rwrap_eq (okW_w _) (okW_w _), wrapW_ofW k1 k2 (Int.le_trans (fold_min_le _ _).1 (fold_max_le _ _).1)]
      subst hz
      simp only [List.foldl_cons, Int.min_self, Int.max_self, Option.bind_some, aroundZ]
end Go.Proofs.Ytebnbajjenpldaa.Ab
/- Layer 4, plainly: what operators come to. -/
namespace Go.Proofs.Ytebnbajjenpldaa.Ab
open Go Go.RowKit Go.Shelf Go.Proofs.Ytebnbajjenpldaa
set_option linter.all false
theorem tdiv_abs {x y : Int} (h : y ≠ 0) : x.tdiv y = if (x < 0 ↔ y < 0) then (x.natAbs : Int) / (y.natAbs : Int) else -((x.natAbs : Int) / (y.natAbs : Int)) := by
  by_cases ha : x < 0
  · have ea : x = -(x.natAbs : Int) := by omega
    by_cases hb : y < 0
    · have eb : y = -(y.natAbs : Int) := by omega
      rw [if_pos (by simp [ha, hb])]
      conv => lhs; rw [ea, eb]
      rw [Int.neg_tdiv_neg, ti_pos (by omega)]
    · have eb : y = (y.natAbs : Int) := by omega
      rw [if_neg (by simp [ha, hb])]
      conv => lhs; rw [ea, eb]
      rw [Int.neg_tdiv, ti_pos (by omega)]
  · have ea : x = (x.natAbs : Int) := by omega
    by_cases hb : y < 0
    · have eb : y = -(y.natAbs : Int) := by omega
      rw [if_neg (by simp [ha, hb])]
      conv => lhs; rw [ea, eb]
      rw [Int.tdiv_neg, ti_pos (by omega)]
    · have eb : y = (y.natAbs : Int) := by omega
      rw [if_pos (by simp [ha, hb])]
      conv => lhs; rw [ea, eb]
      rw [ti_pos (by omega)]
theorem quoA {x y : Int} (h : y ≠ 0) : 0 ≤ (x.natAbs : Int) / (y.natAbs : Int) ∧ (x.natAbs : Int) / (y.natAbs : Int) ≤ x.natAbs := ⟨Int.ediv_nonneg (by omega) (by omega), Int.ediv_le_self _ (by omega)⟩
theorem tdiv_rng {x y : Int} (h : y ≠ 0) : -(x.natAbs : Int) ≤ x.tdiv y ∧ x.tdiv y ≤ x.natAbs := by
  have := quoA (x := x) h
  rw [tdiv_abs h]; split <;> omega
theorem rabs4_eq {x : Int} (k : I64 x) : r04_abs x = some (ofW (x.natAbs : Int)) := by
  unfold r04_abs
  have n1 : need (pI x) = some () := need_t (okI_of k)
  have n2 : need (pW (rOf x)) = some () := need_t (okW_ofW _)
  rw [n1, n2]
  unfold rNeg rOf
  rw [vW_of k]
  by_cases h : x < 0
  · rw [show (x.natAbs : Int) = -x by omega]; simp [h]
  · rw [show (x.natAbs : Int) = x by omega]; simp [h]
theorem lo_ofW {n : Int} (h : 0 ≤ n) (k : n < 18446744073709551616) : (ofW n).gLo = n := by show loW n = n; unfold loW; omega
theorem mkW {n : Int} (h : 0 ≤ n) (k : n < 18446744073709551616) : (⟨0, n⟩ : TApiWide) = ofW n := by
  unfold ofW hiW loW
  rw [show n / 18446744073709551616 = 0 by omega, show n % 18446744073709551616 = n by omega, show wrap64 0 = 0 by unfold wrap64; omega]
theorem rquo_eq {x y : Int} (kx : I64 x) (ky : I64 y) (h : y ≠ 0) : r04_quotient x y = some (ofW (x.tdiv y)) := by
  have na : (x.natAbs : Int) ≤ 9223372036854775808 := by unfold I64 at kx; omega
  have nb : (y.natAbs : Int) ≤ 9223372036854775808 := by unfold I64 at ky; omega
  obtain ⟨q0, q1⟩ := quoA (x := x) h
  unfold r04_quotient
  rw [rabs4_eq kx, rabs4_eq ky]
  simp only [Option.bind_some]
  rw [lo_ofW (by omega) (by omega), lo_ofW (by omega) (by omega), need_ne (show (y.natAbs : Int) ≠ 0 by omega), ti_pos (by omega), u64w q0 (by omega), mkW q0 (by omega), need_bind (show pW (ofW ((x.natAbs : Int) / (y.natAbs : Int))) = true from okW_ofW _)]
  unfold rNeg
  rw [vW_ofW (by omega) (by omega), tdiv_abs h]
  simp only [Option.bind_some]
  by_cases ha : x < 0 <;> by_cases hb : y < 0 <;> simp [ha, hb]
theorem wquo_eq {x y : Int} (kx : I64 x) (ky : I64 y) (h : y ≠ 0) : reckon_quotient x y = some (ofW (x.tdiv y)) := by
  unfold reckon_quotient
  have n1 : need (pI x) = some () := need_t (okI_of kx)
  have n2 : need (pW (wOf x)) = some () := need_t (okW_ofW _)
  rw [n1, n2, need_ne h]
  by_cases e : y = -1
  · subst e
    unfold wNeg wOf
    rw [vW_of kx]
    simp [Int.tdiv_neg]
  · obtain ⟨q0, q1⟩ := tdiv_rng (x := x) h
    have hx : I64 (x.tdiv y) := by
      by_cases hm : x = -9223372036854775808
      · have h2 : y.natAbs ≠ 1 ∨ y = 1 := by omega
        rcases h2 with h2 | h2
        · have : (x.natAbs : Int) / (y.natAbs : Int) ≤ 4611686018427387904 := by
            exact Int.ediv_le_of_le_mul (by omega) (by omega)
          have h5 := (quoA (x := x) h).1
          rw [tdiv_abs h]; unfold I64; split <;> omega
        · subst h2; rw [Int.tdiv_one]; exact kx
      · unfold I64 at kx ⊢; omega
    rw [w64 hx, need_t (show pI (x.tdiv y) = true from okI_of hx)]
    unfold wOf
    rw [beq_eq_false_iff_ne.2 e]; rfl
/-- An operator on ints, exactly. -/
def exZ (op x y : Int) : Int := if op = 8 then x.tdiv y else if op = 10 then x + y else if op = 11 then x - y else x * y
def cornZ (op : Int) (a b : TApiSpan) : List Int := [exZ op a.gLo b.gLo, exZ op a.gLo b.gHi, exZ op a.gHi b.gLo, exZ op a.gHi b.gHi]
theorem exZ_fit {op x y : Int} (kx : I64 x) (ky : I64 y) (h : op = 8 → y ≠ 0) : Fit (exZ op x y) := by
  have h1 := mul_rng kx ky
  unfold exZ Fit
  unfold I64 at kx ky
  by_cases e : op = 8
  · have := tdiv_rng (x := x) (h e)
    rw [if_pos e]; omega
  · rw [if_neg e]; split
    · omega
    · split <;> omega
theorem ex1_eq {op x y : Int} (kx : I64 x) (ky : I64 y) (h : op = 7 ∨ op = 10 ∨ op = 11) : (exI op x y).1 = ofW (exZ op x y) := by
  unfold exI exZ
  rcases h with h | h | h <;> subst h <;> simp
theorem do1_eq {op x y : Int} (kx : I64 x) (ky : I64 y) (h : op = 7 ∨ op = 10 ∨ op = 11) : reckon_Do1 x y op = some (ofW (exZ op x y)) := by
  unfold reckon_Do1
  rw [wexact_eq kx ky]
  simp only [Option.bind_some, ex1_eq kx ky h]
theorem r1_eq {op x y : Int} (kx : I64 x) (ky : I64 y) (h : op = 7 ∨ op = 8 ∨ op = 10 ∨ op = 11) (h0 : op = 8 → y ≠ 0) : r04_exact op x y = some (ofW (exZ op x y)) := by
  unfold r04_exact
  by_cases e : op = 8
  · subst e
    rw [rquo_eq kx ky (h0 rfl)]; rfl
  · have e2 : op = 7 ∨ op = 10 ∨ op = 11 := by omega
    rw [rexact_eq kx ky]
    simp only [Option.bind_some, ex1_eq kx ky e2, beq_eq_false_iff_ne.2 e, cond_false]
theorem cornE_eq {op : Int} {a b : TApiSpan} (ka : okS a) (kb : okS b) (h : op = 7 ∨ op = 10 ∨ op = 11) : reckon_cornersE a b op = some ((cornZ op a b).map ofW) := by
  unfold reckon_cornersE
  rw [do1_eq ka.1 kb.1 h, do1_eq ka.1 kb.2 h, do1_eq ka.2 kb.1 h, do1_eq ka.2 kb.2 h]
  rfl
theorem cornQ_eq {a b : TApiSpan} (ka : okS a) (kb : okS b) (h1 : b.gLo ≠ 0) (h2 : b.gHi ≠ 0) : reckon_cornersQ a b = some ((cornZ 8 a b).map ofW) := by
  unfold reckon_cornersQ
  rw [wquo_eq ka.1 kb.1 h1, wquo_eq ka.1 kb.2 h2, wquo_eq ka.2 kb.1 h1, wquo_eq ka.2 kb.2 h2]
  rfl
theorem rcorn_eq {op : Int} {a b : TApiSpan} (ka : okS a) (kb : okS b) (h : op = 7 ∨ op = 8 ∨ op = 10 ∨ op = 11) (h1 : op = 8 → b.gLo ≠ 0) (h2 : op = 8 → b.gHi ≠ 0) : r04_corners op a b = some ((cornZ op a b).map ofW) := by
  unfold r04_corners
  have e1 := r1_eq ka.1 kb.1 h h1
  have e2 := r1_eq ka.1 kb.2 h h2
  have e3 := r1_eq ka.2 kb.1 h h1
  have e4 := r1_eq ka.2 kb.2 h h2
  have w1 : IntKind.i64.wrap (0 + 1) = 1 := by decide
  have w2 : IntKind.i64.wrap (1 + 1) = 2 := by decide
  have w3 : IntKind.i64.wrap (2 + 1) = 3 := by decide
  have w4 : IntKind.i64.wrap (3 + 1) = 4 := by decide
  rw [loopM_next (s' := ([ofW (exZ op a.gLo b.gLo)], 1)) (by
    simp only [show decide ((0 : Int) < 4) = true from rfl, cond_true, show IntKind.i64.wrap (Int.tdiv 0 2) = 0 by decide, show Int.tmod 0 2 = 0 by decide, show idx [a.gLo, a.gHi] 0 = some a.gLo from rfl, show idx [b.gLo, b.gHi] 0 = some b.gLo from rfl, Option.bind_some, e1, w1]
    rfl)]
  rw [loopM_next (s' := ([ofW (exZ op a.gLo b.gLo), ofW (exZ op a.gLo b.gHi)], 2)) (by
    simp only [show decide ((1 : Int) < 4) = true from rfl, cond_true, show IntKind.i64.wrap (Int.tdiv 1 2) = 0 by decide, show Int.tmod 1 2 = 1 by decide, show idx [a.gLo, a.gHi] 0 = some a.gLo from rfl, show idx [b.gLo, b.gHi] 1 = some b.gHi from rfl, Option.bind_some, e2, w2]
    rfl)]
  rw [loopM_next (s' := ([ofW (exZ op a.gLo b.gLo), ofW (exZ op a.gLo b.gHi), ofW (exZ op a.gHi b.gLo)], 3)) (by
    simp only [show decide ((2 : Int) < 4) = true from rfl, cond_true, show IntKind.i64.wrap (Int.tdiv 2 2) = 1 by decide, show Int.tmod 2 2 = 0 by decide, show idx [a.gLo, a.gHi] 1 = some a.gHi from rfl, show idx [b.gLo, b.gHi] 0 = some b.gLo from rfl, Option.bind_some, e3, w3]
    rfl)]
  rw [loopM_next (s' := ([ofW (exZ op a.gLo b.gLo), ofW (exZ op a.gLo b.gHi), ofW (exZ op a.gHi b.gLo), ofW (exZ op a.gHi b.gHi)], 4)) (by
    simp only [show decide ((3 : Int) < 4) = true from rfl, cond_true, show IntKind.i64.wrap (Int.tdiv 3 2) = 1 by decide, show Int.tmod 3 2 = 1 by decide, show idx [a.gLo, a.gHi] 1 = some a.gHi from rfl, show idx [b.gLo, b.gHi] 1 = some b.gHi from rfl, Option.bind_some, e4, w4]
    rfl)]
  rw [loopM_done (t := [ofW (exZ op a.gLo b.gLo), ofW (exZ op a.gLo b.gHi), ofW (exZ op a.gHi b.gLo), ofW (exZ op a.gHi b.gHi)]) (by rfl)]
  rfl
theorem corn_fits {op : Int} {a b : TApiSpan} (ka : okS a) (kb : okS b) (h1 : op = 8 → b.gLo ≠ 0) (h2 : op = 8 → b.gHi ≠ 0) : Fits (cornZ op a b) := by
  intro z hz
  simp only [cornZ, List.mem_cons, List.not_mem_nil, or_false] at hz
  rcases hz with rfl | rfl | rfl | rfl
  · exact exZ_fit ka.1 kb.1 h1
  · exact exZ_fit ka.1 kb.2 h2
  · exact exZ_fit ka.2 kb.1 h1
  · exact exZ_fit ka.2 kb.2 h2
end Go.Proofs.Ytebnbajjenpldaa.Ab
/- Layer 4, plainly: quotients of spans. -/
namespace Go.Proofs.Ytebnbajjenpldaa.Ab
open Go Go.RowKit Go.Shelf Go.Proofs.Ytebnbajjenpldaa
set_option linter.all false
def lowS (b : TApiSpan) : TApiSpan := meetS b ⟨true, -9223372036854775808, -1⟩
def highS (b : TApiSpan) : TApiSpan := meetS b ⟨true, 1, 9223372036854775807⟩
theorem noneB_mk (lo hi : Int) : noneB (mkS lo hi) = decide (hi < lo) := by
  unfold mkS noneB zS
  by_cases h : hi < lo <;> simp [h]
theorem zS_none : noneB zS = true := rfl
theorem meet_some {a b : TApiSpan} (h : noneB (meetS a b) = false) : noneB a = false ∧ noneB b = false ∧ (meetS a b).gSome = true ∧ (meetS a b).gLo = max a.gLo b.gLo ∧ (meetS a b).gHi = min a.gHi b.gHi ∧ max a.gLo b.gLo ≤ min a.gHi b.gHi := by
  unfold meetS at h ⊢
  cases ha : noneB a with
  | true => rw [ha] at h; simp [zS_none] at h
  | false =>
    cases hb : noneB b with
    | true => rw [ha, hb] at h; simp [zS_none] at h
    | false =>
      rw [ha, hb] at h
      simp only [Bool.or_self, Bool.false_eq_true, if_false] at h ⊢
      rw [noneB_mk] at h
      have h2 : ¬ min a.gHi b.gHi < max a.gLo b.gLo := by simpa using h
      unfold mkS
      rw [if_neg h2]
      exact ⟨trivial, trivial, rfl, rfl, rfl, by omega⟩
theorem low_some {b : TApiSpan} (k : okS b) (h : noneB (lowS b) = false) : okS (lowS b) ∧ (lowS b).gLo ≠ 0 ∧ (lowS b).gHi ≠ 0 := by
  obtain ⟨_, _, _, h1, h2, h3⟩ := meet_some h
  unfold okS I64 at *
  unfold lowS at *
  rw [h1, h2]
  dsimp only at *
  omega
theorem high_some {b : TApiSpan} (k : okS b) (h : noneB (highS b) = false) : okS (highS b) ∧ (highS b).gLo ≠ 0 ∧ (highS b).gHi ≠ 0 := by
  obtain ⟨_, _, _, h1, h2, h3⟩ := meet_some h
  unfold okS I64 at *
  unfold highS at *
  rw [h1, h2]
  dsimp only at *
  omega
def partsS (b : TApiSpan) : List TApiSpan := (if noneB (lowS b) = true then [] else [lowS b]) ++ (if noneB (highS b) = true then [] else [highS b])
theorem i64w1 : IntKind.i64.wrap ((0 : Int) + 1) = 1 := by decide
theorem i64w2 : IntKind.i64.wrap ((1 : Int) + 1) = 2 := by decide
theorem parts4_eq (b : TApiSpan) : reckon_parts b = some (partsS b) := by
  unfold reckon_parts
  rw [of_eq, of_eq]
  simp only [Option.bind_some, show mkS (-9223372036854775808) (-1) = ⟨true, -9223372036854775808, -1⟩ from rfl, show mkS 1 9223372036854775807 = ⟨true, 1, 9223372036854775807⟩ from rfl, meet_eq, none_eq]
  have h0 : idx ([⟨true, -9223372036854775808, -1⟩, ⟨true, 1, 9223372036854775807⟩] : List TApiSpan) 0 = some ⟨true, -9223372036854775808, -1⟩ := rfl
  have h1 : idx ([⟨true, -9223372036854775808, -1⟩, ⟨true, 1, 9223372036854775807⟩] : List TApiSpan) 1 = some ⟨true, 1, 9223372036854775807⟩ := rfl
  rw [loopM_next (s' := (if noneB (lowS b) = true then [] else [lowS b], 1)) (by
    simp only [show decide ((0 : Int) < 2) = true from rfl, cond_true, h0, Option.bind_some, i64w1]
    show (bif !noneB (lowS b) then _ else _) = _
    cases noneB (lowS b)
    · rw [show app 24 ([] : List TApiSpan) [meetS b ⟨true, -9223372036854775808, -1⟩] = some [lowS b] from rfl]; rfl
    · rfl)]
  rw [loopM_next (s' := (partsS b, 2)) (by
    simp only [show decide ((1 : Int) < 2) = true from rfl, cond_true, h1, Option.bind_some, i64w2]
    show (bif !noneB (highS b) then _ else _) = _
    unfold partsS
    cases noneB (highS b)
    · rw [app_of (by cases noneB (lowS b) <;> simp)]; rfl
    · simp)]
  rw [loopM_done (t := partsS b) (by rfl)]
  rfl
def divL (a b : TApiSpan) : List Int := (if noneB (lowS b) = true then [] else cornZ 8 a (lowS b)) ++ (if noneB (highS b) = true then [] else cornZ 8 a (highS b))
theorem divL_fits {a b : TApiSpan} (ka : okS a) (kb : okS b) : Fits (divL a b) := by
  intro z hz
  unfold divL at hz
  rcases List.mem_append.1 hz with hz | hz
  · cases h : noneB (lowS b) with
    | true => rw [h] at hz; simp at hz
    | false =>
      rw [h] at hz
      have := low_some kb h
      exact corn_fits ka this.1 (fun _ => this.2.1) (fun _ => this.2.2) z (by simpa using hz)
  · cases h : noneB (highS b) with
    | true => rw [h] at hz; simp at hz
    | false =>
      rw [h] at hz
      have := high_some kb h
      exact corn_fits ka this.1 (fun _ => this.2.1) (fun _ => this.2.2) z (by simpa using hz)
theorem divL_len (a b : TApiSpan) : (divL a b).length ≤ 8 := by
  unfold divL
  cases noneB (lowS b) <;> cases noneB (highS b) <;> simp [cornZ]
theorem divide_eq {a b : TApiSpan} (ka : okS a) (kb : okS b) : reckon_divide a b = some (aroundZ (divL a b)) := by
  unfold reckon_divide
  rw [parts4_eq]
  simp only [Option.bind_some]
  have key : loopM (fun (s28 : List TApiWide × Int) => (bif (decide (s28.2 < ((partsS b).length : Int))) then ((idx (partsS b) s28.2).bind fun x43 => ((reckon_cornersQ a x43).bind fun x45 => ((app 16 s28.1 x45).bind fun x47 => some (.next (x47, (IntKind.i64.wrap (s28.2 + (1 : Int)))))))) else some (.done s28.1))) ([], (0 : Int)) = some ((divL a b).map ofW) := by
    unfold partsS divL
    cases hl : noneB (lowS b) with
    | true =>
      cases hh : noneB (highS b) with
      | true => exact loopM_done rfl
      | false =>
        have k2 := high_some kb hh
        simp only [if_true, Bool.false_eq_true, if_false, List.nil_append]
        rw [loopM_next (s' := ((cornZ 8 a (highS b)).map ofW, 1)) (by
          simp only [show decide ((0 : Int) < (([highS b] : List TApiSpan).length : Int)) = true from rfl, cond_true, show idx [highS b] 0 = some (highS b) from rfl, Option.bind_some, cornQ_eq ka k2.1 k2.2.1 k2.2.2, i64w1]
          rfl)]
        exact loopM_done rfl
    | false =>
      have k1 := low_some kb hl
      cases hh : noneB (highS b) with
      | true =>
        simp only [if_true, Bool.false_eq_true, if_false, List.append_nil]
        rw [loopM_next (s' := ((cornZ 8 a (lowS b)).map ofW, 1)) (by
          simp only [show decide ((0 : Int) < (([lowS b] : List TApiSpan).length : Int)) = true from rfl, cond_true, show idx [lowS b] 0 = some (lowS b) from rfl, Option.bind_some, cornQ_eq ka k1.1 k1.2.1 k1.2.2, i64w1]
          rfl)]
        exact loopM_done rfl
      | false =>
        have k2 := high_some kb hh
        simp only [Bool.false_eq_true, if_false, List.cons_append, List.nil_append]
        rw [loopM_next (s' := ((cornZ 8 a (lowS b)).map ofW, 1)) (by
          simp only [show decide ((0 : Int) < (([lowS b, highS b] : List TApiSpan).length : Int)) = true from rfl, cond_true, show idx [lowS b, highS b] 0 = some (lowS b) from rfl, Option.bind_some, cornQ_eq ka k1.1 k1.2.1 k1.2.2, i64w1]
          rfl)]
        rw [loopM_next (s' := ((cornZ 8 a (lowS b) ++ cornZ 8 a (highS b)).map ofW, 2)) (by
          simp only [show decide ((1 : Int) < (([lowS b, highS b] : List TApiSpan).length : Int)) = true from rfl, cond_true, show idx [lowS b, highS b] 1 = some (highS b) from rfl, Option.bind_some, cornQ_eq ka k2.1 k2.2.1 k2.2.2, i64w2]
          rfl)]
        exact loopM_done rfl
  rw [key]
  simp only [Option.bind_some]
  rw [around_eq (divL_fits ka kb) (by have := divL_len a b; omega)]
  rfl
/-! ### Rests -/
def restS (a b : TApiSpan) : TApiSpan :=
  if b.gLo = 0 ∧ b.gHi = 0 then zS else if a.gLo = a.gHi ∧ b.gLo = b.gHi then mkS (a.gLo.tmod b.gLo) (a.gLo.tmod b.gLo)
  else mkS (if a.gLo < 0 then max a.gLo (-(min (max (b.gLo.natAbs : Int) b.gHi.natAbs - 1) 9223372036854775807)) else 0) (if 0 < a.gHi then min a.gHi (min (max (b.gLo.natAbs : Int) b.gHi.natAbs - 1) 9223372036854775807) else 0)
theorem size_eq {x : Int} (k : I64 x) : reckon_size x = some (ofW (x.natAbs : Int)) := by
  unfold reckon_size
  have n1 : need (pI x) = some () := need_t (okI_of k)
  have n2 : need (pW (wOf x)) = some () := need_t (okW_ofW _)
  rw [n1, n2]
  have hf : Fit x := by unfold I64 at k; unfold Fit; omega
  have hg : Fit (-x) := by unfold I64 at k; unfold Fit; omega
  have e : wNeg (wOf x) = ofW (-x) := by unfold wNeg wOf; rw [vW_of k]
  have := max_eq (z0 := x) (zs := [-x]) hf (by intro z hz; simp at hz; subst hz; exact hg) (by simp)
  simp only [List.map_cons, List.map_nil, List.foldl_cons, List.foldl_nil] at this
  unfold wOf at e ⊢
  simp only [Option.bind_some, e, this]
  rw [show max x (-x) = (x.natAbs : Int) by omega]
theorem parts_nil {b : TApiSpan} (kb : okS b) (h : noneB b = false) : partsS b = [] ↔ b.gLo = 0 ∧ b.gHi = 0 := by
  have e1 : noneB (lowS b) = decide (0 ≤ b.gLo) := by
    unfold lowS meetS
    rw [h]
    simp only [show noneB (⟨true, -9223372036854775808, -1⟩ : TApiSpan) = false from rfl, Bool.or_self, Bool.false_eq_true, if_false, noneB_mk]
    have h2 : ¬ b.gHi < b.gLo := by unfold noneB at h; simp at h; omega
    unfold okS I64 at kb
    by_cases hc : 0 ≤ b.gLo
    · simp [hc]; omega
    · simp [hc]; omega
  have e2 : noneB (highS b) = decide (b.gHi ≤ 0) := by
    unfold highS meetS
    rw [h]
    simp only [show noneB (⟨true, 1, 9223372036854775807⟩ : TApiSpan) = false from rfl, Bool.or_self, Bool.false_eq_true, if_false, noneB_mk]
    have h2 : ¬ b.gHi < b.gLo := by unfold noneB at h; simp at h; omega
    unfold okS I64 at kb
    by_cases hc : b.gHi ≤ 0
    · simp [hc]; omega
    · simp [hc]; omega
  have h2 : ¬ b.gHi < b.gLo := by unfold noneB at h; simp at h; omega
  unfold partsS
  rw [e1, e2]
  by_cases c1 : 0 ≤ b.gLo <;> by_cases c2 : b.gHi ≤ 0 <;> simp [c1, c2] <;> omega
end Go.Proofs.Ytebnbajjenpldaa.Ab
/- Layer 4, plainly: rests, comparisons, operators. -/
namespace Go.Proofs.Ytebnbajjenpldaa.Ab
open Go Go.RowKit Go.Shelf Go.Proofs.Ytebnbajjenpldaa
set_option linter.all false
theorem fit_abs {x : Int} (k : I64 x) : Fit (x.natAbs : Int) := by unfold I64 at k; unfold Fit; omega
theorem clamp_m {m : Int} (h : 0 ≤ m) : clampI (m - 1) = min (m - 1) 9223372036854775807 := by unfold clampI; split <;> (try split) <;> omega
theorem bif_some {α : Type} (c : Bool) (x y : α) : (bif c then some x else some y) = some (bif c then x else y) := by cases c <;> rfl
theorem and_bif (p q : Prop) [Decidable p] [Decidable q] : (bif decide p then decide q else false) = decide (p ∧ q) := by
  by_cases h : p <;> simp [h]
theorem wrest_eq {a b : TApiSpan} (ka : okS a) (kb : okS b) (hb : noneB b = false) : reckon_rest a b = some (restS a b) := by
  unfold reckon_rest restS
  rw [parts4_eq]
  simp only [Option.bind_some]
  by_cases hz : b.gLo = 0 ∧ b.gHi = 0
  · rw [if_pos hz, (parts_nil kb hb).2 hz]; rfl
  · rw [if_neg hz]
    have hp : partsS b ≠ [] := fun e => hz ((parts_nil kb hb).1 e)
    have hl : (((partsS b).length : Int) == (0 : Int)) = false := by
      have : 0 < (partsS b).length := List.length_pos_iff.2 hp
      simp; exact hp
    rw [hl]
    simp only [cond_false]
    by_cases hs : a.gLo = a.gHi ∧ b.gLo = b.gHi
    · rw [if_pos hs]
      have h0 : b.gLo ≠ 0 := by omega
      have e1 : (a.gLo == a.gHi) = true := by simpa using hs.1
      have e2 : (b.gLo == b.gHi) = true := by simpa using hs.2
      rw [e1, e2, wdo_eq ka.1 kb.1]
      simp only [cond_true, Option.bind_some, one_eq]
      unfold doI
      simp [h0]
    · rw [if_neg hs]
      have e : (bif a.gLo == a.gHi then some (b.gLo == b.gHi) else some false : Option Bool) = some false := by
        by_cases h1 : a.gLo = a.gHi
        · have h2 : ¬ b.gLo = b.gHi := fun h2 => hs ⟨h1, h2⟩
          simp [h1, h2]
        · rw [beq_eq_false_iff_ne.2 h1]; rfl
      rw [e, size_eq kb.1, size_eq kb.2]
      have hm := max_eq (z0 := (b.gLo.natAbs : Int)) (zs := [(b.gHi.natAbs : Int)]) (fit_abs kb.1) (by intro z hz; simp at hz; subst hz; exact fit_abs kb.2) (by simp)
      simp only [List.map_cons, List.map_nil, List.foldl_cons, List.foldl_nil] at hm
      simp only [Option.bind_some, cond_false, hm]
      rw [show need (pI 1) = some () from rfl, need_t (show pWW (ofW (max (b.gLo.natAbs : Int) (b.gHi.natAbs : Int))) (wOf 1) = true from pWW_w _ _), need_t (show pW (wSub (ofW (max (b.gLo.natAbs : Int) (b.gHi.natAbs : Int))) (wOf 1)) = true from okW_ofW _)]
      generalize hg : max (b.gLo.natAbs : Int) (b.gHi.natAbs : Int) = m
      have m0 : 0 ≤ m := by omega
      have m1 : m ≤ 9223372036854775808 := by unfold okS I64 at kb; omega
      have hc : wClamp (wSub (ofW m) (wOf 1)) = min (m - 1) 9223372036854775807 := by
        unfold wClamp wSub wOf
        rw [vW_ofW (z := m) (by omega) (by omega), vW_ofW (z := 1) (by omega) (by omega), vW_ofW (by omega) (by omega), clamp_m m0]
      simp only [Option.bind_some, hc]
      have hw : IntKind.i64.wrap (0 - min (m - 1) 9223372036854775807) = -(min (m - 1) 9223372036854775807) := by
        rw [w64 (by unfold I64; omega)]; omega
      rw [hw]
      by_cases c1 : a.gLo < 0 <;> by_cases c2 : 0 < a.gHi <;> simp [c1, c2, of_eq]
theorem max_pair (A B : TApiWide) (hA : okW A = true) (hB : okW B = true) : ∃ M : TApiWide, (bif decide (vW A < vW B) then (some B).bind fun x28 => some (x28.gHi, x28.gLo) else some (A.gHi, A.gLo)) = some (M.gHi, M.gLo) ∧ vW M = max (vW A) (vW B) ∧ okW M = true := by
  by_cases h : vW A < vW B
  · exact ⟨B, by rw [decide_eq_true h]; rfl, by omega, hB⟩
  · exact ⟨A, by rw [decide_eq_false h]; rfl, by omega, hA⟩
theorem pair_lo (x q : Int) : (bif decide (x < q) then some q else some x) = some (max x q) := by
  by_cases h : x < q
  · rw [show max x q = q by omega, decide_eq_true h]; rfl
  · rw [show max x q = x by omega, decide_eq_false h]; rfl
theorem pair_hi (x q : Int) : (bif decide (q < x) then some q else some x) = some (min x q) := by
  by_cases h : q < x
  · rw [show min x q = q by omega, decide_eq_true h]; rfl
  · rw [show min x q = x by omega, decide_eq_false h]; rfl
theorem one_w : (⟨0, 1⟩ : TApiWide) = ofW 1 := by
  show _ = (⟨wrap64 0, 1⟩ : TApiWide)
  rw [show wrap64 0 = 0 by unfold wrap64; omega]
theorem rclamp_m {M : TApiWide} (m0 : 0 ≤ vW M) (m1 : vW M ≤ 9223372036854775808) : rClamp (rSub M ⟨0, 1⟩) = min (vW M - 1) 9223372036854775807 := by
  unfold rClamp rSub
  rw [one_w, vW_ofW (z := 1) (by omega) (by omega), vW_ofW (by omega) (by omega), clamp_m m0]
theorem rrest_eq {a b : TApiSpan} (ka : okS a) (kb : okS b) (hb : noneB b = false) : r04_rest a b = some (restS a b) := by
  unfold r04_rest restS
  by_cases hz : b.gLo = 0 ∧ b.gHi = 0
  · rw [if_pos hz]
    have e : (bif b.gLo == 0 then some (b.gHi == 0) else some false : Option Bool) = some true := by simp [hz.1, hz.2]
    rw [e]; simp only [Option.bind_some, cond_true, zS]
  · rw [if_neg hz]
    have e : (bif b.gLo == 0 then some (b.gHi == 0) else some false : Option Bool) = some false := by
      by_cases h1 : b.gLo = 0
      · have h2 : ¬ b.gHi = 0 := fun h2 => hz ⟨h1, h2⟩
        simp [h1, h2]
      · rw [beq_eq_false_iff_ne.2 h1]; rfl
    rw [e]
    simp only [Option.bind_some, cond_false]
    by_cases hs : a.gLo = a.gHi ∧ b.gLo = b.gHi
    · rw [if_pos hs]
      have h0 : b.gLo ≠ 0 := by omega
      have e1 : (a.gLo == a.gHi) = true := by simpa using hs.1
      have e2 : (b.gLo == b.gHi) = true := by simpa using hs.2
      rw [e1, e2, rdo_eq ka.1 kb.1]
      simp only [cond_true, Option.bind_some, rmake_eq]
      unfold doI
      simp [h0]
    · rw [if_neg hs]
      have e : (bif a.gLo == a.gHi then some (b.gLo == b.gHi) else some false : Option Bool) = some false := by
        by_cases h1 : a.gLo = a.gHi
        · have h2 : ¬ b.gLo = b.gHi := fun h2 => hs ⟨h1, h2⟩
          simp [h1, h2]
        · rw [beq_eq_false_iff_ne.2 h1]; rfl
      rw [e]
      have wA := vW_fit (fit_abs kb.1)
      have wB := vW_fit (fit_abs kb.2)
      have eA := rabs4_eq kb.1
      have eB := rabs4_eq kb.2
      have oA := okW_w (b.gLo.natAbs : Int)
      have oB := okW_w (b.gHi.natAbs : Int)
      generalize ofW (b.gLo.natAbs : Int) = A at wA eA oA
      generalize ofW (b.gHi.natAbs : Int) = B at wB eB oB
      rw [Option.bind_some, cond_false, eA, Option.bind_some, eB, Option.bind_some]
      rw [need_bind (show pWW B A = true by simp [pWW, oA, oB])]
      simp only [rcmp_pos]
      obtain ⟨M, hM, wM, oM⟩ := max_pair A B oA oB
      rw [hM]
      rw [wA, wB] at wM
      rw [Option.bind_some]
      have m0 : 0 ≤ vW M := by omega
      have m1 : vW M ≤ 9223372036854775808 := by unfold okS I64 at kb; omega
      rw [← wM]
      rw [need_bind (show pWW (⟨M.gHi, M.gLo⟩ : TApiWide) ⟨0, 1⟩ = true by rw [one_w]; simp [pWW, okW_ofW]; exact oM), need_bind (show pW (rSub ⟨M.gHi, M.gLo⟩ ⟨0, 1⟩) = true from okW_ofW _)]
      have hc : rClamp (rSub ⟨M.gHi, M.gLo⟩ ⟨0, 1⟩) = min (vW M - 1) 9223372036854775807 := rclamp_m m0 m1
      simp only [hc]
      have hw : IntKind.i64.wrap (0 - min (vW M - 1) 9223372036854775807) = -(min (vW M - 1) 9223372036854775807) := by
        rw [w64 (by unfold I64; omega)]; omega
      rw [hw]
      generalize min (vW M - 1) 9223372036854775807 = q
      have f1 := pair_lo a.gLo (-q)
      have f2 := pair_hi a.gHi q
      simp only [f1, f2, Option.bind_some]
      by_cases c1 : a.gLo < 0 <;> by_cases c2 : 0 < a.gHi <;> simp [c1, c2, rmake_eq]
/-! ### Truth -/
def truthS (yes no : Bool) : TApiSpan := if (yes && no) = true then ⟨true, 0, 1⟩ else if yes = true then ⟨true, 1, 1⟩ else ⟨true, 0, 0⟩
theorem rtruth_eq (yes no : Bool) : r04_truth yes no = some (truthS yes no) := by
  unfold r04_truth
  rw [rmake_eq, rmake_eq, rmake_eq]
  cases yes <;> cases no <;> rfl
theorem wtruth_eq (always never : Bool) : reckon_truth always never = some (if always = true then ⟨true, 1, 1⟩ else if never = true then ⟨true, 0, 0⟩ else ⟨true, 0, 1⟩) := by
  unfold reckon_truth
  rw [one_eq, one_eq, of_eq]
  cases always <;> cases never <;> rfl
def yesB (op : Int) (a b : TApiSpan) : Bool :=
  if op = 12 then decide (a.gLo < b.gHi) else if op = 13 then decide (a.gLo ≤ b.gHi) else if op = 14 then decide (max a.gLo b.gLo ≤ min a.gHi b.gHi)
  else if op = 15 then !decide (a.gLo = a.gHi ∧ b.gLo = b.gHi ∧ a.gLo = b.gLo)
  else if op = 16 then (decide (a.gLo ≠ 0 ∨ a.gHi ≠ 0) && decide (b.gLo ≠ 0 ∨ b.gHi ≠ 0)) else (decide (a.gLo ≠ 0 ∨ a.gHi ≠ 0) || decide (b.gLo ≠ 0 ∨ b.gHi ≠ 0))
def noB (op : Int) (a b : TApiSpan) : Bool :=
  if op = 12 then decide (b.gLo ≤ a.gHi) else if op = 13 then decide (b.gLo < a.gHi) else if op = 14 then !decide (a.gLo = a.gHi ∧ b.gLo = b.gHi ∧ a.gLo = b.gLo)
  else if op = 15 then decide (max a.gLo b.gLo ≤ min a.gHi b.gHi)
  else if op = 16 then (hasB a 0 || hasB b 0) else (hasB a 0 && hasB b 0)
def cmpS (op : Int) (a b : TApiSpan) : TApiSpan := if 12 ≤ op ∧ op ≤ 17 then truthS (yesB op a b) (noB op a b) else zS
/-- What an operator comes to. -/
def doS (op : Int) (a b : TApiSpan) : TApiSpan :=
  if (noneB a || noneB b) = true then zS else if op = 7 ∨ op = 10 ∨ op = 11 then aroundZ (cornZ op a b) else if op = 8 then aroundZ (divL a b) else if op = 9 then restS a b else cmpS op a b
theorem some_of {s : TApiSpan} (h : noneB s = false) : s.gSome = true ∧ s.gLo ≤ s.gHi := by
  unfold noneB at h
  simp at h
  exact ⟨h.1, by omega⟩
end Go.Proofs.Ytebnbajjenpldaa.Ab
/- Layer 4, plainly: both answers are one. -/
namespace Go.Proofs.Ytebnbajjenpldaa.Ab
open Go Go.RowKit Go.Shelf Go.Proofs.Ytebnbajjenpldaa
set_option linter.all false
theorem bsplit {α : Type} {p : Bool} {x y r : Option α} (h1 : p = true → x = r) (h2 : p = false → y = r) : (bif p then x else y) = r := by cases p <;> simp_all
theorem dn {p q : Prop} [Decidable p] [Decidable q] (h : p ↔ ¬ q) : decide p = !decide q := by
  by_cases k : q
  · rw [decide_eq_true k, decide_eq_false (by rw [h]; exact fun x => x k)]; rfl
  · rw [decide_eq_false k, decide_eq_true (h.2 k)]; rfl
theorem dnn {p q : Prop} [Decidable p] [Decidable q] (h : p ↔ q) : decide p = !!decide q := by
  rw [Bool.not_not]; exact decide_eq_decide.2 h
theorem dor {p q : Prop} [Decidable p] [Decidable q] (h : p ∨ q) : (decide p || decide q) = true := by simpa using h
theorem dorn {p q : Prop} [Decidable p] [Decidable q] (h : p ∨ ¬ q) : (decide p || !decide q) = true := by simpa using h
theorem dnor {p q : Prop} [Decidable p] [Decidable q] (h : ¬ p ∨ q) : ((!decide p) || decide q) = true := by simpa using h
theorem alone_eq (a : TApiSpan) (n : Int) : reckon_alone a n = some (decide (a.gLo = n ∧ a.gHi = n)) := by
  unfold reckon_alone
  by_cases h : a.gLo = n
  · by_cases k : a.gHi = n
    · simp [h, k]
    · rw [h, beq_self_eq_true]; simp [k]
  · rw [beq_eq_false_iff_ne.2 h]; simp [h]
/-- What is so of comparisons, by tests that are plain. -/
def trW (always never : Bool) : TApiSpan := if always = true then ⟨true, 1, 1⟩ else if never = true then ⟨true, 0, 0⟩ else ⟨true, 0, 1⟩
theorem tr_same {always never yes no : Bool} (h1 : always = !no) (h2 : never = !yes) (h3 : (yes || no) = true) : trW always never = truthS yes no := by
  subst h1; subst h2
  cases yes <;> cases no <;> simp [trW, truthS] at h3 ⊢
theorem eqS_iff (a b : TApiSpan) : (b.gSome == a.gSome && (b.gLo == a.gLo && (b.gHi == a.gHi && true))) = decide (b.gSome = a.gSome ∧ b.gLo = a.gLo ∧ b.gHi = a.gHi) := by
  by_cases h1 : b.gSome = a.gSome
  · by_cases h2 : b.gLo = a.gLo
    · by_cases h3 : b.gHi = a.gHi
      · simp [h1, h2, h3]
      · rw [beq_eq_false_iff_ne.2 h3]; simp [h3]
    · rw [beq_eq_false_iff_ne.2 h2]; simp [h2]
  · rw [beq_eq_false_iff_ne.2 h1]; simp [h1]
theorem compare_eq {op : Int} {a b : TApiSpan} (ha : noneB a = false) (hb : noneB b = false) : reckon_compare op a b = some (cmpS op a b) := by
  obtain ⟨sa, la⟩ := some_of ha
  obtain ⟨sb, lb⟩ := some_of hb
  unfold reckon_compare
  have e1 : (bif decide (a.gHi < b.gLo) then some true else some (decide (b.gHi < a.gLo))) = some (decide (a.gHi < b.gLo ∨ b.gHi < a.gLo)) := by
    by_cases h : a.gHi < b.gLo <;> simp [h]
  have e2 : (bif a.gLo == a.gHi then some (b.gSome == a.gSome && (b.gLo == a.gLo && (b.gHi == a.gHi && true))) else some false) = some (decide (a.gLo = a.gHi ∧ b.gLo = a.gLo ∧ b.gHi = a.gHi)) := by
    rw [eqS_iff]
    by_cases h : a.gLo = a.gHi
    · rw [h, beq_self_eq_true]; simp [sa, sb]
    · rw [beq_eq_false_iff_ne.2 h]; simp [h]
  rw [e1, e2, Option.bind_some, Option.bind_some]
  have T : ∀ x y, ((reckon_truth x y).bind fun x => some x) = some (trW x y) := fun x y => by rw [wtruth_eq]; rfl
  unfold cmpS
  refine bsplit (fun h => ?_) (fun h => ?_)
  · have := eq_of_beq h; subst this
    rw [T, if_pos (by omega)]; congr 1
    refine tr_same ?_ ?_ ?_
    · exact dn (p := a.gHi < b.gLo) (q := b.gLo ≤ a.gHi) (by omega)
    · exact dn (p := b.gHi ≤ a.gLo) (q := a.gLo < b.gHi) (by omega)
    · exact dor (p := a.gLo < b.gHi) (q := b.gLo ≤ a.gHi) (by omega)
  have n12 := ne_of_beq_false h
  refine bsplit (fun h => ?_) (fun h => ?_)
  · have := eq_of_beq h; subst this
    rw [T, if_pos (by omega)]; congr 1
    refine tr_same ?_ ?_ ?_
    · exact dn (p := a.gHi ≤ b.gLo) (q := b.gLo < a.gHi) (by omega)
    · exact dn (p := b.gHi < a.gLo) (q := a.gLo ≤ b.gHi) (by omega)
    · exact dor (p := a.gLo ≤ b.gHi) (q := b.gLo < a.gHi) (by omega)
  have n13 := ne_of_beq_false h
  refine bsplit (fun h => ?_) (fun h => ?_)
  · have := eq_of_beq h; subst this
    rw [T, if_pos (by omega)]; congr 1
    refine tr_same ?_ ?_ ?_
    · exact dnn (p := a.gLo = a.gHi ∧ b.gLo = a.gLo ∧ b.gHi = a.gHi) (q := a.gLo = a.gHi ∧ b.gLo = b.gHi ∧ a.gLo = b.gLo) (by omega)
    · exact dn (p := a.gHi < b.gLo ∨ b.gHi < a.gLo) (q := max a.gLo b.gLo ≤ min a.gHi b.gHi) (by omega)
    · exact dorn (p := max a.gLo b.gLo ≤ min a.gHi b.gHi) (q := a.gLo = a.gHi ∧ b.gLo = b.gHi ∧ a.gLo = b.gLo) (by omega)
  have n14 := ne_of_beq_false h
  refine bsplit (fun h => ?_) (fun h => ?_)
  · have := eq_of_beq h; subst this
    rw [T, if_pos (by omega)]; congr 1
    refine tr_same ?_ ?_ ?_
    · exact dn (p := a.gHi < b.gLo ∨ b.gHi < a.gLo) (q := max a.gLo b.gLo ≤ min a.gHi b.gHi) (by omega)
    · exact dnn (p := a.gLo = a.gHi ∧ b.gLo = a.gLo ∧ b.gHi = a.gHi) (q := a.gLo = a.gHi ∧ b.gLo = b.gHi ∧ a.gLo = b.gLo) (by omega)
    · exact dnor (p := a.gLo = a.gHi ∧ b.gLo = b.gHi ∧ a.gLo = b.gLo) (q := max a.gLo b.gLo ≤ min a.gHi b.gHi) (by omega)
  have n15 := ne_of_beq_false h
  have hA : hasB a 0 = decide (a.gLo ≤ 0 ∧ 0 ≤ a.gHi) := by unfold hasB; rw [sa]; simp
  have hB : hasB b 0 = decide (b.gLo ≤ 0 ∧ 0 ≤ b.gHi) := by unfold hasB; rw [sb]; simp
  refine bsplit (fun h => ?_) (fun h => ?_)
  · have := eq_of_beq h; subst this
    rw [if_pos (by omega), has_eq, Option.bind_some, has_eq, alone_eq, alone_eq]
    have key : (bif !hasB a 0 then (some (hasB b 0)).bind fun x25 => (some (decide (a.gLo = 0 ∧ a.gHi = 0))).bind fun x26 => (bif x26 then ((reckon_truth (!x25) true).bind fun x28 => some x28) else ((some (decide (b.gLo = 0 ∧ b.gHi = 0))).bind fun x30 => ((reckon_truth (!x25) x30).bind fun x31 => some x31))) else (some (decide (a.gLo = 0 ∧ a.gHi = 0))).bind fun x33 => (bif x33 then ((reckon_truth false true).bind fun x35 => some x35) else ((some (decide (b.gLo = 0 ∧ b.gHi = 0))).bind fun x37 => ((reckon_truth false x37).bind fun x38 => some x38)))) = some (trW (!hasB a 0 && !hasB b 0) (decide (a.gLo = 0 ∧ a.gHi = 0) || decide (b.gLo = 0 ∧ b.gHi = 0))) := by
      simp only [Option.bind_some, T]
      cases hasB a 0 <;> cases decide (a.gLo = 0 ∧ a.gHi = 0) <;> rfl
    rw [key]; congr 1
    refine tr_same ?_ ?_ ?_
    · unfold noB; simp
    · unfold yesB
      rw [show (decide (a.gLo ≠ 0 ∨ a.gHi ≠ 0)) = !decide (a.gLo = 0 ∧ a.gHi = 0) from dn (by omega), show (decide (b.gLo ≠ 0 ∨ b.gHi ≠ 0)) = !decide (b.gLo = 0 ∧ b.gHi = 0) from dn (by omega)]
      simp
    · unfold yesB noB; rw [hA, hB]; simp; omega
  have n16 := ne_of_beq_false h
  refine bsplit (fun h => ?_) (fun h => ?_)
  · have := eq_of_beq h; subst this
    rw [if_pos (by omega), has_eq, Option.bind_some, has_eq, alone_eq, alone_eq]
    have key : (bif !hasB a 0 then (some (decide (a.gLo = 0 ∧ a.gHi = 0))).bind fun x43 => (bif x43 then ((some (decide (b.gLo = 0 ∧ b.gHi = 0))).bind fun x45 => ((reckon_truth true x45).bind fun x46 => some x46)) else ((reckon_truth true false).bind fun x48 => some x48)) else ((some (hasB b 0)).bind fun x50 => ((some (decide (a.gLo = 0 ∧ a.gHi = 0))).bind fun x51 => (bif x51 then ((some (decide (b.gLo = 0 ∧ b.gHi = 0))).bind fun x53 => ((reckon_truth (!x50) x53).bind fun x54 => some x54)) else ((reckon_truth (!x50) false).bind fun x56 => some x56))))) = some (trW (!hasB a 0 || !hasB b 0) (decide (a.gLo = 0 ∧ a.gHi = 0) && decide (b.gLo = 0 ∧ b.gHi = 0))) := by
      simp only [Option.bind_some, T]
      cases hasB a 0 <;> cases decide (a.gLo = 0 ∧ a.gHi = 0) <;> rfl
    rw [key]; congr 1
    refine tr_same ?_ ?_ ?_
    · unfold noB; simp
    · unfold yesB
      rw [show (decide (a.gLo ≠ 0 ∨ a.gHi ≠ 0)) = !decide (a.gLo = 0 ∧ a.gHi = 0) from dn (by omega), show (decide (b.gLo ≠ 0 ∨ b.gHi ≠ 0)) = !decide (b.gLo = 0 ∧ b.gHi = 0) from dn (by omega)]
      simp
    · unfold yesB noB; rw [hA, hB]; simp; omega
  have n17 := ne_of_beq_false h
  rw [if_neg (by omega)]; rfl
theorem may_eq {op : Int} {a b : TApiSpan} (ha : noneB a = false) (hb : noneB b = false) (h : 12 ≤ op ∧ op ≤ 17) : r04_may op a b = some (yesB op a b, noB op a b) := by
  obtain ⟨sa, la⟩ := some_of ha
  obtain ⟨sb, lb⟩ := some_of hb
  have hM : noneB (meetS a b) = !decide (max a.gLo b.gLo ≤ min a.gHi b.gHi) := by
    unfold meetS; rw [ha, hb]; simp only [Bool.or_self, Bool.false_eq_true, if_false, noneB_mk]
    by_cases h : min a.gHi b.gHi < max a.gLo b.gLo
    · simp only [decide_eq_true h]; rw [decide_eq_false (by omega)]; rfl
    · simp only [decide_eq_false h]; rw [decide_eq_true (by omega)]; rfl
  unfold r04_may
  have e1 : (bif a.gLo == a.gHi then (bif b.gLo == b.gHi then some (a.gLo == b.gLo) else some false) else some false) = some (decide (a.gLo = a.gHi ∧ b.gLo = b.gHi ∧ a.gLo = b.gLo)) := by
    by_cases h1 : a.gLo = a.gHi
    · rw [beq_iff_eq.2 h1]
      by_cases h2 : b.gLo = b.gHi
      · rw [beq_iff_eq.2 h2]
        by_cases h3 : a.gLo = b.gLo
        · rw [beq_iff_eq.2 h3, decide_eq_true ⟨h1, h2, h3⟩]; rfl
        · rw [beq_eq_false_iff_ne.2 h3, decide_eq_false (by omega)]; rfl
      · rw [beq_eq_false_iff_ne.2 h2, decide_eq_false (by omega)]; rfl
    · rw [beq_eq_false_iff_ne.2 h1, decide_eq_false (by omega)]; rfl
  have e2 : (bif a.gLo != 0 then (bif b.gLo != 0 then some (true, true) else some (true, b.gHi != 0)) else (bif b.gLo != 0 then some (a.gHi != 0, true) else some (a.gHi != 0, b.gHi != 0))) = some (decide (a.gLo ≠ 0 ∨ a.gHi ≠ 0), decide (b.gLo ≠ 0 ∨ b.gHi ≠ 0)) := by
    have f : ∀ x y : Int, decide (x ≠ 0 ∨ y ≠ 0) = (x != 0 || y != 0) := fun x y => by
      by_cases h1 : x = 0
      · by_cases h2 : y = 0
        · subst h1; subst h2; rfl
        · rw [decide_eq_true (.inr h2), bne_iff_ne.2 h2, Bool.or_true]
      · rw [decide_eq_true (.inl h1), bne_iff_ne.2 h1, Bool.true_or]
    rw [f, f]
    cases (a.gLo != 0) <;> cases (b.gLo != 0) <;> rfl
  rw [rmeet_eq, Option.bind_some, e1, Option.bind_some, rhas_eq, Option.bind_some, rhas_eq, Option.bind_some, e2, Option.bind_some]
  refine bsplit (fun h => ?_) (fun h => ?_)
  · have := eq_of_beq h; subst this; rfl
  have n12 := ne_of_beq_false h
  refine bsplit (fun h => ?_) (fun h => ?_)
  · have := eq_of_beq h; subst this; rfl
  have n13 := ne_of_beq_false h
  refine bsplit (fun h => ?_) (fun h => ?_)
  · have := eq_of_beq h; subst this
    rw [rnone_eq, Option.bind_some, hM, Bool.not_not]; rfl
  have n14 := ne_of_beq_false h
  refine bsplit (fun h => ?_) (fun h => ?_)
  · have := eq_of_beq h; subst this
    rw [rnone_eq, Option.bind_some, hM, Bool.not_not]; rfl
  have n15 := ne_of_beq_false h
  refine bsplit (fun h => ?_) (fun h => ?_)
  · have := eq_of_beq h; subst this
    show _ = some ((decide (a.gLo ≠ 0 ∨ a.gHi ≠ 0) && decide (b.gLo ≠ 0 ∨ b.gHi ≠ 0)), (hasB a 0 || hasB b 0))
    cases decide (a.gLo ≠ 0 ∨ a.gHi ≠ 0) <;> cases hasB a 0 <;> rfl
  have n16 := ne_of_beq_false h
  have : op = 17 := by omega
  subst this
  show _ = some ((decide (a.gLo ≠ 0 ∨ a.gHi ≠ 0) || decide (b.gLo ≠ 0 ∨ b.gHi ≠ 0)), (hasB a 0 && hasB b 0))
  cases decide (a.gLo ≠ 0 ∨ a.gHi ≠ 0) <;> cases hasB a 0 <;> rfl
theorem wdoS {op : Int} {a b : TApiSpan} (ka : okS a) (kb : okS b) : reckon_Do op a b = some (doS op a b) := by
  unfold reckon_Do doS
  rw [none_eq, Option.bind_some, none_eq]
  cases ha : noneB a with
  | true => rfl
  | false =>
    cases hb : noneB b with
    | true => rfl
    | false =>
      rw [show (bif false then some true else (some false).bind fun x11 => some x11) = some false from rfl, Option.bind_some, cond_false]
      rw [if_neg (by simp)]
      have e : (bif op == 10 then some (op == 10) else Option.bind (α := Bool) (bif op == 11 then some (op == 11) else some (op == 7)) fun y35 => some y35) = some (decide (op = 7 ∨ op = 10 ∨ op = 11)) := by
        by_cases h1 : op = 10
        · subst h1; rfl
        · rw [beq_eq_false_iff_ne.2 h1]
          by_cases h2 : op = 11
          · subst h2; rfl
          · rw [beq_eq_false_iff_ne.2 h2]
            by_cases h3 : op = 7
            · subst h3; rfl
            · rw [beq_eq_false_iff_ne.2 h3, decide_eq_false (by omega)]; rfl
      rw [e, Option.bind_some]
      by_cases h : op = 7 ∨ op = 10 ∨ op = 11
      · rw [if_pos h, decide_eq_true h, cond_true, cornE_eq ka kb h, Option.bind_some, around_eq (corn_fits ka kb (by omega) (by omega)) (by simp [cornZ])]; rfl
      · rw [if_neg h, decide_eq_false h, cond_false]
        refine bsplit (fun h => ?_) (fun h => ?_)
        · have := eq_of_beq h; subst this
          rw [if_pos rfl, divide_eq ka kb]; rfl
        have n8 := ne_of_beq_false h
        rw [if_neg n8]
        refine bsplit (fun h => ?_) (fun h => ?_)
        · have := eq_of_beq h; subst this
          rw [if_pos rfl, wrest_eq ka kb hb]; rfl
        rw [if_neg (ne_of_beq_false h), compare_eq ha hb]; rfl
end Go.Proofs.Ytebnbajjenpldaa.Ab
/- Layer 4, plainly: the document's answer; operators of one operand; the laws Does and Ones. -/
namespace Go.Proofs.Ytebnbajjenpldaa.Ab
open Go Go.RowKit Go.Shelf Go.Proofs.Ytebnbajjenpldaa
set_option linter.all false
theorem rdoS {op : Int} {a b : TApiSpan} (ka : okS a) (kb : okS b) : r04_Do op a b = some (doS op a b) := by
  unfold r04_Do doS
  rw [rnone_eq, Option.bind_some, rnone_eq]
  cases ha : noneB a with
  | true => rfl
  | false =>
    cases hb : noneB b with
    | true => rfl
    | false =>
      have e0 : (bif false then some true else (some false).bind fun x12 => (bif x12 then some true else (bif (decide (op < (7 : Int))) then some true else some (decide ((17 : Int) < op))))) = some (decide (op < 7 ∨ 17 < op)) := by
        by_cases h : op < 7
        · rw [decide_eq_true (show op < 7 ∨ 17 < op from .inl h), decide_eq_true h]; rfl
        · by_cases k : 17 < op
          · rw [decide_eq_true (show op < 7 ∨ 17 < op from .inr k), decide_eq_false h, decide_eq_true k]; rfl
          · rw [decide_eq_false (show ¬ (op < 7 ∨ 17 < op) by omega), decide_eq_false h, decide_eq_false k]; rfl
      rw [e0, Option.bind_some, if_neg (show ¬ ((false || false) = true) by simp)]
      by_cases hr : op < 7 ∨ 17 < op
      · rw [decide_eq_true hr, cond_true, if_neg (by omega), if_neg (by omega), if_neg (by omega)]
        unfold cmpS; rw [if_neg (by omega)]; rfl
      · rw [decide_eq_false hr, cond_false]
        have e : (bif op == 7 then some (op == 7) else Option.bind (α := Bool) (bif op == 10 then some (op == 10) else some (op == 11)) fun y61 => some y61) = some (decide (op = 7 ∨ op = 10 ∨ op = 11)) := by
          by_cases h1 : op = 7
          · subst h1; rfl
          · rw [beq_eq_false_iff_ne.2 h1]
            by_cases h2 : op = 10
            · subst h2; rfl
            · rw [beq_eq_false_iff_ne.2 h2]
              by_cases h3 : op = 11
              · subst h3; rfl
              · rw [beq_eq_false_iff_ne.2 h3, decide_eq_false (by omega)]; rfl
        rw [e, Option.bind_some]
        by_cases h : op = 7 ∨ op = 10 ∨ op = 11
        · rw [if_pos h, decide_eq_true h, cond_true, rcorn_eq ka kb (by omega) (by omega) (by omega), Option.bind_some, raround_eq (corn_fits ka kb (by omega) (by omega)) (by simp [cornZ])]; rfl
        · rw [if_neg h, decide_eq_false h, cond_false]
          refine bsplit (fun h => ?_) (fun h => ?_)
          · have := eq_of_beq h; subst this
            rw [if_pos rfl, rmake_eq, Option.bind_some, rmeet_eq, Option.bind_some, rmake_eq, Option.bind_some, rmeet_eq, Option.bind_some, rnone_eq, Option.bind_some]
            have hf := divL_fits ka kb
            have hlen := divL_len a b
            have l1 : (Option.bind (α := List TApiWide) (bif !noneB (meetS b (mkS (-9223372036854775808) (-1))) then ((r04_corners 8 a (meetS b (mkS (-9223372036854775808) (-1)))).bind fun x140 => ((app 16 ([] : List TApiWide) x140).bind fun x142 => some x142)) else some []) fun y138 => some y138) = some ((if noneB (lowS b) = true then [] else cornZ 8 a (lowS b)).map ofW) := by
              show (Option.bind (α := List TApiWide) (bif !noneB (lowS b) then ((r04_corners 8 a (lowS b)).bind fun x140 => ((app 16 ([] : List TApiWide) x140).bind fun x142 => some x142)) else some []) fun y138 => some y138) = _
              cases hl : noneB (lowS b) with
              | true => rfl
              | false =>
                have k1 := low_some kb hl
                rw [rcorn_eq ka k1.1 (by omega) (fun _ => k1.2.1) (fun _ => k1.2.2)]
                rfl
            generalize (bif !noneB (meetS b (mkS (-9223372036854775808) (-1))) then ((r04_corners 8 a (meetS b (mkS (-9223372036854775808) (-1)))).bind fun x140 => ((app 16 ([] : List TApiWide) x140).bind fun x142 => some x142)) else some []) = L1 at l1 ⊢
            have l1' : L1 = some ((if noneB (lowS b) = true then [] else cornZ 8 a (lowS b)).map ofW) := by cases L1 <;> simpa using l1
            rw [l1', Option.bind_some, rnone_eq, Option.bind_some]
            have l2 : (bif !noneB (meetS b (mkS 1 9223372036854775807)) then ((r04_corners 8 a (meetS b (mkS 1 9223372036854775807))).bind fun x151 => ((app 16 ((if noneB (lowS b) = true then [] else cornZ 8 a (lowS b)).map ofW) x151).bind fun x153 => some x153)) else some ((if noneB (lowS b) = true then [] else cornZ 8 a (lowS b)).map ofW)) = some ((divL a b).map ofW) := by
              show (bif !noneB (highS b) then ((r04_corners 8 a (highS b)).bind fun x151 => ((app 16 ((if noneB (lowS b) = true then [] else cornZ 8 a (lowS b)).map ofW) x151).bind fun x153 => some x153)) else some ((if noneB (lowS b) = true then [] else cornZ 8 a (lowS b)).map ofW)) = _
              unfold divL
              cases hl : noneB (highS b) with
              | true => simp
              | false =>
                have k1 := high_some kb hl
                rw [rcorn_eq ka k1.1 (by omega) (fun _ => k1.2.1) (fun _ => k1.2.2)]
                rw [show (!false) = true from rfl, cond_true, Option.bind_some, app_of (by cases noneB (lowS b) <;> simp [cornZ])]
                simp
            rw [l2, Option.bind_some, raround_eq hf (by omega)]; rfl
          have n8 := ne_of_beq_false h
          rw [if_neg n8]
          refine bsplit (fun h => ?_) (fun h => ?_)
          · have := eq_of_beq h; subst this
            rw [if_pos rfl, rrest_eq ka kb hb]; rfl
          have n9 := ne_of_beq_false h
          rw [if_neg n9, may_eq ha hb (by omega), Option.bind_some, rtruth_eq]
          unfold cmpS; rw [if_pos (by omega)]; rfl
theorem i64_0 : I64 0 := by unfold I64; omega
theorem ok_mk {lo hi : Int} (h : I64 lo) (k : I64 hi) : okS (mkS lo hi) := by
  unfold mkS; split
  · exact ⟨i64_0, i64_0⟩
  · exact ⟨h, k⟩
def oneS (op : Int) (a : TApiSpan) : TApiSpan :=
  if noneB a = true then zS else if op = 5 then doS 11 ⟨true, 0, 0⟩ a else if op = 6 then truthS (hasB a 0) (decide (a.gLo ≠ 0 ∨ a.gHi ≠ 0)) else zS
theorem ok00 : okS ⟨true, 0, 0⟩ := ⟨i64_0, i64_0⟩
theorem woneS {op : Int} {a : TApiSpan} (ka : okS a) : reckon_One op a = some (oneS op a) := by
  unfold reckon_One oneS
  rw [none_eq, Option.bind_some]
  cases ha : noneB a with
  | true => rfl
  | false =>
    rw [cond_false, if_neg (by simp)]
    refine bsplit (fun h => ?_) (fun h => ?_)
    · have := eq_of_beq h; subst this
      rw [if_pos rfl, one_eq, Option.bind_some, show mkS 0 0 = ⟨true, 0, 0⟩ from rfl, wdoS ok00 ka]; rfl
    · rw [if_neg (ne_of_beq_false h)]
      refine bsplit (fun h => ?_) (fun h => ?_)
      · have := eq_of_beq h; subst this
        obtain ⟨sa, la⟩ := some_of ha
        rw [if_pos rfl, alone_eq, Option.bind_some, has_eq, Option.bind_some, wtruth_eq, Option.bind_some]
        have hA : hasB a 0 = decide (a.gLo ≤ 0 ∧ 0 ≤ a.gHi) := by unfold hasB; rw [sa]; simp
        congr 1
        show trW (decide (a.gLo = 0 ∧ a.gHi = 0)) (!hasB a 0) = _
        rw [hA]
        exact tr_same (dn (by omega)) rfl (dor (by omega))
      · rw [if_neg (ne_of_beq_false h)]; rfl
theorem roneS {op : Int} {a : TApiSpan} (ka : okS a) : r04_One op a = some (oneS op a) := by
  unfold r04_One oneS
  rw [rnone_eq, Option.bind_some]
  cases ha : noneB a with
  | true => rfl
  | false =>
    rw [cond_false, if_neg (by simp)]
    refine bsplit (fun h => ?_) (fun h => ?_)
    · have := eq_of_beq h; subst this
      rw [if_pos rfl, rmake_eq, Option.bind_some, show mkS 0 0 = ⟨true, 0, 0⟩ from rfl, rdoS ok00 ka]; rfl
    · rw [if_neg (ne_of_beq_false h)]
      refine bsplit (fun h => ?_) (fun h => ?_)
      · have := eq_of_beq h; subst this
        rw [if_pos rfl, rhas_eq, Option.bind_some]
        by_cases h1 : a.gLo = 0
        · rw [h1, show ((0 : Int) != 0) = false from rfl, cond_false, rtruth_eq]
          by_cases h2 : a.gHi = 0
          · rw [h2, decide_eq_false (by omega)]; rfl
          · rw [bne_iff_ne.2 h2, decide_eq_true (.inr h2)]; rfl
        · rw [bne_iff_ne.2 h1, cond_true, rtruth_eq, decide_eq_true (.inl h1)]; rfl
      · rw [if_neg (ne_of_beq_false h)]; rfl
theorem traps_eq (op : Int) (b : TApiSpan) : reckon_Traps op b = some ((op == 8 || op == 9) && hasB b 0) := by
  unfold reckon_Traps
  rw [has_eq]
  cases (op == 8) <;> cases (op == 9) <;> rfl
theorem span_beq (a : TApiSpan) : (a.gSome == a.gSome && (a.gLo == a.gLo && (a.gHi == a.gHi && true))) = true := by simp
theorem okS_of {lo hi : Int} (h : I64 lo) (k : I64 hi) (s : Bool) : okS ⟨s, lo, hi⟩ := ⟨h, k⟩
theorem lives_t : l04_lives = some true := by
  unfold l04_lives
  have o1 : okS (mkS (-2) 3) := ok_mk (by unfold I64; omega) (by unfold I64; omega)
  have o2 : okS (mkS 4 5) := ok_mk (by unfold I64; omega) (by unfold I64; omega)
  have o3 : okS (mkS 9223372036854775807 9223372036854775807) := ok_mk (by unfold I64; omega) (by unfold I64; omega)
  have o4 : okS (mkS 1 1) := ok_mk (by unfold I64; omega) (by unfold I64; omega)
  rw [of_eq, Option.bind_some, of_eq, Option.bind_some, wdoS o1 o2, Option.bind_some, of_eq, Option.bind_some, one_eq, Option.bind_some, one_eq, Option.bind_some, wdoS o3 o4, Option.bind_some]
  rw [show doS 7 (mkS (-2) 3) (mkS 4 5) = ⟨true, -10, 15⟩ from rfl, show doS 10 (mkS 9223372036854775807 9223372036854775807) (mkS 1 1) = ⟨true, -9223372036854775808, -9223372036854775808⟩ from rfl]
  rfl
theorem does4 {op : Int} {a b : TApiSpan} (ka : okS a) (kb : okS b) : l04_ReckonDoes op a b = some true := by
  unfold l04_ReckonDoes
  rw [wdoS ka kb, rdoS ka kb, Option.bind_some, Option.bind_some, span_beq, cond_true, traps_eq, Option.bind_some, rhas_eq, lives_t]
  cases (op == 8) <;> cases (op == 9) <;> cases hasB b 0 <;> rfl
theorem ones4 {op : Int} {a : TApiSpan} {w : T2ApiWide} (ka : okS a) (h1 : okW w.g0 = true) (h2 : okW w.g1 = true) : l04_ReckonOnes op a w = some true := by
  unfold l04_ReckonOnes
  rw [woneS ka, roneS ka, Option.bind_some, Option.bind_some, span_beq, cond_true, wwrap_eq h1 h2, rwrap_eq h1 h2, Option.bind_some, Option.bind_some, span_beq, cond_true, lives_t]
  rfl
end Go.Proofs.Ytebnbajjenpldaa.Ab
/- Layer 4, plainly: spans of one int; soundness; greater spans. -/
namespace Go.Proofs.Ytebnbajjenpldaa.Ab
open Go Go.RowKit Go.Shelf Go.Proofs.Ytebnbajjenpldaa
set_option linter.all false
def In (s : TApiSpan) (x : Int) : Prop := s.gLo ≤ x ∧ x ≤ s.gHi
def Sub (a b : TApiSpan) : Prop := b.gLo ≤ a.gLo ∧ a.gHi ≤ b.gHi
theorem In.sub {a b : TApiSpan} (h : Sub a b) {x : Int} (k : In a x) : In b x := ⟨Int.le_trans h.1 k.1, Int.le_trans k.2 h.2⟩
/-! ### Quotients -/
def absQ (x y : Int) : Nat := x.natAbs / y.natAbs
theorem tdiv_q {x y : Int} (h : y ≠ 0) : x.tdiv y = if (x < 0 ↔ y < 0) then (absQ x y : Int) else -(absQ x y : Int) := by
  rw [tdiv_abs h]; unfold absQ; rw [Int.natCast_ediv]
theorem tq_pos {x y : Int} (h : 0 < y) : x.tdiv y = if x < 0 then -(absQ x y : Int) else (absQ x y : Int) := by
  rw [tdiv_q (by omega)]
  by_cases k : x < 0
  · rw [if_pos k, if_neg (by omega)]
  · rw [if_neg k, if_pos (by omega)]
theorem quo_lo {a b c d x y : Int} (hc : 0 < c) (h1 : c ≤ y) (h2 : y ≤ d) (h3 : a ≤ x) (h4 : x ≤ b) : a.tdiv c ≤ x.tdiv y ∨ a.tdiv d ≤ x.tdiv y := by
  have q1 : absQ x y ≤ absQ x y := Nat.le_refl _
  rw [tq_pos (y := c) hc, tq_pos (y := d) (by omega), tq_pos (y := y) (by omega)]
  by_cases hx : x < 0
  · have : absQ x y ≤ absQ a c := Nat.div_le_div (by omega) (by omega) (by omega)
    left; rw [if_pos hx, if_pos (by omega)]; omega
  · by_cases ha : a < 0
    · right; rw [if_pos ha, if_neg hx]; omega
    · have : absQ a d ≤ absQ x y := Nat.div_le_div (by omega) (by omega) (by omega)
      right; rw [if_neg ha, if_neg hx]; omega
theorem quo_hi {a b c d x y : Int} (hc : 0 < c) (h1 : c ≤ y) (h2 : y ≤ d) (h3 : a ≤ x) (h4 : x ≤ b) : x.tdiv y ≤ b.tdiv c ∨ x.tdiv y ≤ b.tdiv d := by
  rw [tq_pos (y := c) hc, tq_pos (y := d) (by omega), tq_pos (y := y) (by omega)]
  by_cases hx : x < 0
  · by_cases hb : b < 0
    · have : absQ b d ≤ absQ x y := Nat.div_le_div (by omega) (by omega) (by omega)
      right; rw [if_pos hb, if_pos hx]; omega
    · right; rw [if_neg hb, if_pos hx]; omega
  · have : absQ x y ≤ absQ b c := Nat.div_le_div (by omega) (by omega) (by omega)
    left; rw [if_neg hx, if_neg (by omega)]; omega
/-- A quotient is between those of ends. -/
theorem quo_both {a b c d x y : Int} (hs : 0 < c ∨ d < 0) (h1 : c ≤ y) (h2 : y ≤ d) (h3 : a ≤ x) (h4 : x ≤ b) :
    (a.tdiv c ≤ x.tdiv y ∨ a.tdiv d ≤ x.tdiv y ∨ b.tdiv c ≤ x.tdiv y ∨ b.tdiv d ≤ x.tdiv y) ∧ (x.tdiv y ≤ a.tdiv c ∨ x.tdiv y ≤ a.tdiv d ∨ x.tdiv y ≤ b.tdiv c ∨ x.tdiv y ≤ b.tdiv d) := by
  rcases hs with hs | hs
  · have l := quo_lo hs h1 h2 h3 h4
    have u := quo_hi hs h1 h2 h3 h4
    omega
  · have l := quo_lo (c := -d) (d := -c) (y := -y) (by omega) (by omega) (by omega) h3 h4
    have u := quo_hi (c := -d) (d := -c) (y := -y) (by omega) (by omega) (by omega) h3 h4
    simp only [Int.tdiv_neg] at l u
    omega
/-! ### Products -/
theorem mul_le_end {a b x y : Int} (h1 : a ≤ x) (h2 : x ≤ b) : (x * y ≤ a * y ∨ x * y ≤ b * y) ∧ (a * y ≤ x * y ∨ b * y ≤ x * y) := by
  rcases Int.le_total 0 y with h | h
  · exact ⟨.inr (Int.mul_le_mul_of_nonneg_right h2 h), .inl (Int.mul_le_mul_of_nonneg_right h1 h)⟩
  · exact ⟨.inl (Int.mul_le_mul_of_nonpos_right h1 h), .inr (Int.mul_le_mul_of_nonpos_right h2 h)⟩
theorem mul_both {a b c d x y : Int} (h1 : c ≤ y) (h2 : y ≤ d) (h3 : a ≤ x) (h4 : x ≤ b) :
    (a * c ≤ x * y ∨ a * d ≤ x * y ∨ b * c ≤ x * y ∨ b * d ≤ x * y) ∧ (x * y ≤ a * c ∨ x * y ≤ a * d ∨ x * y ≤ b * c ∨ x * y ≤ b * d) := by
  have e1 := mul_le_end (y := y) h3 h4
  have e2 := mul_le_end (y := a) h1 h2
  have e3 := mul_le_end (y := b) h1 h2
  rw [Int.mul_comm y a, Int.mul_comm c a, Int.mul_comm d a] at e2
  rw [Int.mul_comm y b, Int.mul_comm c b, Int.mul_comm d b] at e3
  omega
/-! ### What ends say -/
def InZ (op : Int) (a b : TApiSpan) (z : Int) : Prop := ∃ x y, In a x ∧ In b y ∧ (op = 8 → y ≠ 0) ∧ z = exZ op x y
def listZ (op : Int) (a b : TApiSpan) : List Int := if op = 8 then divL a b else cornZ op a b
theorem corn_in {op : Int} {a b : TApiSpan} (ha : a.gLo ≤ a.gHi) (hb : b.gLo ≤ b.gHi) (h1 : op = 8 → b.gLo ≠ 0) (h2 : op = 8 → b.gHi ≠ 0) {z : Int} (hz : z ∈ cornZ op a b) : InZ op a b z := by
  simp only [cornZ, List.mem_cons, List.not_mem_nil, or_false] at hz
  rcases hz with rfl | rfl | rfl | rfl
  · exact ⟨_, _, ⟨Int.le_refl _, ha⟩, ⟨Int.le_refl _, hb⟩, h1, rfl⟩
  · exact ⟨_, _, ⟨Int.le_refl _, ha⟩, ⟨hb, Int.le_refl _⟩, h2, rfl⟩
  · exact ⟨_, _, ⟨ha, Int.le_refl _⟩, ⟨Int.le_refl _, hb⟩, h1, rfl⟩
  · exact ⟨_, _, ⟨ha, Int.le_refl _⟩, ⟨hb, Int.le_refl _⟩, h2, rfl⟩
theorem corn_out {op : Int} {a b : TApiSpan} (hs : op = 8 → 0 < b.gLo ∨ b.gHi < 0) {x y : Int} (hx : In a x) (hy : In b y) : (∃ u ∈ cornZ op a b, u ≤ exZ op x y) ∧ ∃ v ∈ cornZ op a b, exZ op x y ≤ v := by
  obtain ⟨x1, x2⟩ := hx
  obtain ⟨y1, y2⟩ := hy
  have key : (exZ op a.gLo b.gLo ≤ exZ op x y ∨ exZ op a.gLo b.gHi ≤ exZ op x y ∨ exZ op a.gHi b.gLo ≤ exZ op x y ∨ exZ op a.gHi b.gHi ≤ exZ op x y) ∧ (exZ op x y ≤ exZ op a.gLo b.gLo ∨ exZ op x y ≤ exZ op a.gLo b.gHi ∨ exZ op x y ≤ exZ op a.gHi b.gLo ∨ exZ op x y ≤ exZ op a.gHi b.gHi) := by
    unfold exZ
    by_cases h8 : op = 8
    · simp only [if_pos h8]; exact quo_both (hs h8) y1 y2 x1 x2
    · simp only [if_neg h8]
      by_cases h10 : op = 10
      · simp only [if_pos h10]; omega
      · simp only [if_neg h10]
        by_cases h11 : op = 11
        · simp only [if_pos h11]; omega
        · simp only [if_neg h11]; exact mul_both y1 y2 x1 x2
  obtain ⟨k1, k2⟩ := key
  constructor
  · rcases k1 with h | h | h | h
    · exact ⟨_, by simp [cornZ], h⟩
    · exact ⟨exZ op a.gLo b.gHi, by simp [cornZ], h⟩
    · exact ⟨exZ op a.gHi b.gLo, by simp [cornZ], h⟩
    · exact ⟨exZ op a.gHi b.gHi, by simp [cornZ], h⟩
  · rcases k2 with h | h | h | h
    · exact ⟨_, by simp [cornZ], h⟩
    · exact ⟨exZ op a.gLo b.gHi, by simp [cornZ], h⟩
    · exact ⟨exZ op a.gHi b.gLo, by simp [cornZ], h⟩
    · exact ⟨exZ op a.gHi b.gHi, by simp [cornZ], h⟩
theorem low_facts {b : TApiSpan} (k : okS b) (h : noneB (lowS b) = false) : (lowS b).gLo = b.gLo ∧ (lowS b).gHi = min b.gHi (-1) ∧ (lowS b).gLo ≤ (lowS b).gHi := by
  obtain ⟨_, _, _, h1, h2, h3⟩ := meet_some h
  unfold okS I64 at k
  unfold lowS at *
  rw [h1, h2]; dsimp only at *; omega
theorem high_facts {b : TApiSpan} (k : okS b) (h : noneB (highS b) = false) : (highS b).gLo = max b.gLo 1 ∧ (highS b).gHi = b.gHi ∧ (highS b).gLo ≤ (highS b).gHi := by
  obtain ⟨_, _, _, h1, h2, h3⟩ := meet_some h
  unfold okS I64 at k
  unfold highS at *
  rw [h1, h2]; dsimp only at *; omega
theorem low_none {b : TApiSpan} (k : okS b) (hb : noneB b = false) (h : noneB (lowS b) = true) : 0 ≤ b.gLo := by
  obtain ⟨_, lb⟩ := some_of hb
  unfold lowS meetS at h
  rw [hb] at h
  simp only [show noneB (⟨true, -9223372036854775808, -1⟩ : TApiSpan) = false from rfl, Bool.or_self, Bool.false_eq_true, if_false, noneB_mk, decide_eq_true_eq] at h
  unfold okS I64 at k; omega
theorem high_none {b : TApiSpan} (k : okS b) (hb : noneB b = false) (h : noneB (highS b) = true) : b.gHi ≤ 0 := by
  obtain ⟨_, lb⟩ := some_of hb
  unfold highS meetS at h
  rw [hb] at h
  simp only [show noneB (⟨true, 1, 9223372036854775807⟩ : TApiSpan) = false from rfl, Bool.or_self, Bool.false_eq_true, if_false, noneB_mk, decide_eq_true_eq] at h
  unfold okS I64 at k; omega
theorem InZ.mono {op : Int} {a b a' b' : TApiSpan} (ha : Sub a a') (hb : Sub b b') {z : Int} (h : InZ op a b z) : InZ op a' b' z := by
  obtain ⟨x, y, h1, h2, h3, h4⟩ := h
  exact ⟨x, y, h1.sub ha, h2.sub hb, h3, h4⟩
theorem list_in {op : Int} {a b : TApiSpan} (kb : okS b) (ha : a.gLo ≤ a.gHi) (hb : b.gLo ≤ b.gHi) {z : Int} (hz : z ∈ listZ op a b) : InZ op a b z := by
  unfold listZ at hz
  by_cases h8 : op = 8
  · subst h8
    rw [if_pos rfl] at hz
    unfold divL at hz
    rcases List.mem_append.1 hz with hz | hz
    · cases h : noneB (lowS b) with
      | true => rw [h] at hz; simp at hz
      | false =>
        rw [h] at hz
        have k := low_some kb h
        have f := low_facts kb h
        exact InZ.mono ⟨Int.le_refl _, Int.le_refl _⟩ ⟨by omega, by omega⟩ (corn_in ha f.2.2 (fun _ => k.2.1) (fun _ => k.2.2) (by simpa using hz))
    · cases h : noneB (highS b) with
      | true => rw [h] at hz; simp at hz
      | false =>
        rw [h] at hz
        have k := high_some kb h
        have f := high_facts kb h
        exact InZ.mono ⟨Int.le_refl _, Int.le_refl _⟩ ⟨by omega, by omega⟩ (corn_in ha f.2.2 (fun _ => k.2.1) (fun _ => k.2.2) (by simpa using hz))
  · rw [if_neg h8] at hz
    exact corn_in ha hb (fun h => absurd h h8) (fun h => absurd h h8) hz
theorem list_out {op : Int} {a b : TApiSpan} (kb : okS b) (hb : noneB b = false) {z : Int} (hz : InZ op a b z) : (∃ u ∈ listZ op a b, u ≤ z) ∧ ∃ v ∈ listZ op a b, z ≤ v := by
  obtain ⟨x, y, h1, h2, h3, rfl⟩ := hz
  unfold listZ
  by_cases h8 : op = 8
  · subst h8
    rw [if_pos rfl]
    have hy := h3 rfl
    unfold divL
    rcases Int.lt_or_gt_of_ne hy with hn | hp
    · cases h : noneB (lowS b) with
      | true => have := low_none kb hb h; unfold In at h2; omega
      | false =>
        have f := low_facts kb h
        obtain ⟨⟨u, u1, u2⟩, v, v1, v2⟩ := corn_out (op := 8) (a := a) (b := lowS b) (fun _ => .inr (by omega)) h1 (y := y) ⟨by unfold In at h2; omega, by unfold In at h2; omega⟩
        exact ⟨⟨u, List.mem_append_left _ (by simpa using u1), u2⟩, v, List.mem_append_left _ (by simpa using v1), v2⟩
    · cases h : noneB (highS b) with
      | true => have := high_none kb hb h; unfold In at h2; omega
      | false =>
        have f := high_facts kb h
        obtain ⟨⟨u, u1, u2⟩, v, v1, v2⟩ := corn_out (op := 8) (a := a) (b := highS b) (fun _ => .inl (by omega)) h1 (y := y) ⟨by unfold In at h2; omega, by unfold In at h2; omega⟩
        exact ⟨⟨u, List.mem_append_right _ (by simpa using u1), u2⟩, v, List.mem_append_right _ (by simpa using v1), v2⟩
  · rw [if_neg h8]
    exact corn_out (fun h => absurd h h8) h1 h2
/-- The least and the greatest of what there is. -/
theorem around_hull {op : Int} {a b : TApiSpan} (kb : okS b) (ha : noneB a = false) (hb : noneB b = false) : (listZ op a b = [] ∧ ∀ z, ¬ InZ op a b z) ∨ ∃ lo hi, aroundZ (listZ op a b) = wrapZ lo hi ∧ InZ op a b lo ∧ InZ op a b hi ∧ ∀ z, InZ op a b z → lo ≤ z ∧ z ≤ hi := by
  have la := (some_of ha).2
  have lb := (some_of hb).2
  have hi := fun z (hz : z ∈ listZ op a b) => list_in kb la lb hz
  have ho := fun z (hz : InZ op a b z) => list_out kb hb hz
  generalize listZ op a b = zs at hi ho ⊢
  cases zs with
  | nil =>
    left
    refine ⟨rfl, fun z hz => ?_⟩
    obtain ⟨⟨u, hu, _⟩, _⟩ := ho z hz
    cases hu
  | cons z zs =>
    right
    refine ⟨_, _, rfl, hi _ (fold_min_mem zs z), hi _ (fold_max_mem zs z), fun x hx => ?_⟩
    obtain ⟨⟨u, hu, u2⟩, v, hv, v2⟩ := ho x hx
    have m1 : zs.foldl min z ≤ u := by
      rcases List.mem_cons.1 hu with rfl | hu
      · exact (fold_min_le _ _).1
      · exact (fold_min_le _ _).2 u hu
    have m2 : v ≤ zs.foldl max z := by
      rcases List.mem_cons.1 hv with rfl | hv
      · exact (fold_max_le _ _).1
      · exact (fold_max_le _ _).2 v hv
    omega
theorem wi_def (z : Int) : wi z = (z + 9223372036854775808) % 18446744073709551616 - 9223372036854775808 := by unfold wi; rw [IntKind.wrap_i64]
theorem has_all (z : Int) : hasB allS (wi z) = true := by
  unfold hasB allS; rw [wi_def]; simp; omega
theorem has_wrapZ {lo hi z : Int} (h1 : lo ≤ z) (h2 : z ≤ hi) : hasB (wrapZ lo hi) (wi z) = true := by
  unfold wrapZ
  split
  · exact has_all z
  · split
    · exact has_all z
    · rename_i a b
      unfold hasB
      rw [wi_def, wi_def] at b
      rw [wi_def, wi_def, wi_def]
      simp; omega
theorem wrapZ_some (lo hi : Int) : noneB (wrapZ lo hi) = false := by
  unfold wrapZ
  split
  · rfl
  · split
    · rfl
    · rename_i h; unfold noneB; simp; omega
theorem wrapZ_mono {lo hi lo' hi' : Int} (h1 : lo' ≤ lo) (h2 : hi ≤ hi') (h : lo ≤ hi) : leqB (wrapZ lo hi) (wrapZ lo' hi') = true := by
  unfold leqB
  rw [wrapZ_some, Bool.false_or]
  by_cases c1 : 18446744073709551616 ≤ hi' - lo' ∨ wi hi' < wi lo'
  · have e : wrapZ lo' hi' = allS := by
      unfold wrapZ
      rcases c1 with c | c
      · rw [if_pos c]
      · rw [if_pos c]; split <;> rfl
    rw [e]
    unfold wrapZ
    split
    · rfl
    · split
      · rfl
      · simp only [has_all, Bool.and_self]
  · have c2 : ¬ 18446744073709551616 ≤ hi' - lo' := fun x => c1 (.inl x)
    have c3 : ¬ wi hi' < wi lo' := fun x => c1 (.inr x)
    have e : wrapZ lo' hi' = ⟨true, wi lo', wi hi'⟩ := by unfold wrapZ; rw [if_neg c2, if_neg c3]
    have c4 : ¬ 18446744073709551616 ≤ hi - lo := by omega
    have c5 : ¬ wi hi < wi lo := by
      rw [wi_def, wi_def] at c3 ⊢; omega
    have e2 : wrapZ lo hi = ⟨true, wi lo, wi hi⟩ := by unfold wrapZ; rw [if_neg c4, if_neg c5]
    rw [e, e2]
    unfold hasB
    simp only [wi_def] at c3 c5 ⊢
    simp; omega
end Go.Proofs.Ytebnbajjenpldaa.Ab
/- Layer 4, plainly: the laws Exact and Sound. -/
namespace Go.Proofs.Ytebnbajjenpldaa.Ab
open Go Go.RowKit Go.Shelf Go.Proofs.Ytebnbajjenpldaa
set_option linter.all false
theorem doS_list {op : Int} {a b : TApiSpan} (ha : noneB a = false) (hb : noneB b = false) (h : op = 7 ∨ op = 8 ∨ op = 10 ∨ op = 11) : doS op a b = aroundZ (listZ op a b) := by
  unfold doS listZ
  rw [ha, hb, if_neg (by simp)]
  by_cases h8 : op = 8
  · subst h8; rw [if_neg (by omega), if_pos rfl, if_pos rfl]
  · rw [if_pos (by omega), if_neg h8]
theorem doS_rest {a b : TApiSpan} (ha : noneB a = false) (hb : noneB b = false) : doS 9 a b = restS a b := by
  unfold doS; rw [ha, hb, if_neg (by simp), if_neg (by omega), if_neg (by omega), if_pos rfl]
theorem doS_cmp {op : Int} {a b : TApiSpan} (ha : noneB a = false) (hb : noneB b = false) (h1 : ¬ (op = 7 ∨ op = 8 ∨ op = 10 ∨ op = 11)) (h9 : ¬ op = 9) : doS op a b = cmpS op a b := by
  unfold doS; rw [ha, hb, if_neg (by simp), if_neg (by omega), if_neg (by omega), if_neg h9]
theorem doI_ex {op x y : Int} (h : op = 7 ∨ op = 8 ∨ op = 10 ∨ op = 11) (h0 : op = 8 → y ≠ 0) : doI op x y = (wi (exZ op x y), 0) := by
  unfold doI exZ
  rcases h with h | h | h | h
  · subst h; simp
  · subst h; simp [h0 rfl]
  · subst h; simp
  · subst h; simp
/-! ### Rests -/
theorem tmod_facts {x y : Int} (h : y ≠ 0) : (0 ≤ x → 0 ≤ x.tmod y ∧ x.tmod y ≤ x ∧ x.tmod y < y.natAbs) ∧ (x ≤ 0 → x.tmod y ≤ 0 ∧ x ≤ x.tmod y ∧ -(y.natAbs : Int) < x.tmod y) := by
  have e := Int.natAbs_tmod x y
  have l : x.natAbs % y.natAbs < y.natAbs := Nat.mod_lt _ (by omega)
  have m : x.natAbs % y.natAbs ≤ x.natAbs := Nat.mod_le _ _
  constructor
  · intro hx
    have := Int.tmod_nonneg y hx
    omega
  · intro hx
    have := Int.tmod_nonneg y (a := -x) (by omega)
    rw [Int.neg_tmod] at this
    omega
theorem rest_sound {a b : TApiSpan} {x y : Int} (ka : okS a) (kb : okS b) (hx : In a x) (hy : In b y) (h : y ≠ 0) : hasB (restS a b) (x.tmod y) = true := by
  unfold In at hx hy
  have hz : ¬ (b.gLo = 0 ∧ b.gHi = 0) := by omega
  unfold restS
  rw [if_neg hz]
  by_cases hs : a.gLo = a.gHi ∧ b.gLo = b.gHi
  · rw [if_pos hs]
    have e1 : x = a.gLo := by omega
    have e2 : y = b.gLo := by omega
    subst e1; subst e2
    unfold mkS hasB; simp
  · rw [if_neg hs]
    obtain ⟨f1, f2⟩ := tmod_facts (x := x) h
    unfold okS I64 at ka kb
    have hm : (y.natAbs : Int) ≤ max (b.gLo.natAbs : Int) b.gHi.natAbs := by omega
    have hM : max (b.gLo.natAbs : Int) b.gHi.natAbs ≤ 9223372036854775808 := by omega
    generalize max (b.gLo.natAbs : Int) b.gHi.natAbs = m at hm hM
    generalize x.tmod y = z at f1 f2 ⊢
    have lo1 : (if a.gLo < 0 then max a.gLo (-(min (m - 1) 9223372036854775807)) else 0) ≤ z := by split <;> omega
    have hi1 : z ≤ (if 0 < a.gHi then min a.gHi (min (m - 1) 9223372036854775807) else 0) := by split <;> omega
    generalize (if a.gLo < 0 then max a.gLo (-(min (m - 1) 9223372036854775807)) else 0) = L at lo1 ⊢
    generalize (if 0 < a.gHi then min a.gHi (min (m - 1) 9223372036854775807) else 0) = U at hi1 ⊢
    unfold mkS
    rw [if_neg (by omega)]
    unfold hasB; simp; omega
theorem leq_mk {L U : Int} {s : TApiSpan} (h1 : hasB s L = true) (h2 : hasB s U = true) : leqB (mkS L U) s = true := by
  unfold mkS leqB
  split
  · rfl
  · simp [h1, h2]
theorem leq_zS (s : TApiSpan) : leqB zS s = true := rfl
theorem rest_mono {a b a' b' : TApiSpan} (ka : okS a) (kb : okS b) (ka' : okS a') (kb' : okS b') (la : a.gLo ≤ a.gHi) (lb : b.gLo ≤ b.gHi) (ha : Sub a a') (hb : Sub b b') : leqB (restS a b) (restS a' b') = true := by
  by_cases hz : b.gLo = 0 ∧ b.gHi = 0
  · have : restS a b = zS := by unfold restS; rw [if_pos hz]
    rw [this]; exact leq_zS _
  · by_cases hs : a.gLo = a.gHi ∧ b.gLo = b.gHi
    · have e : restS a b = mkS (a.gLo.tmod b.gLo) (a.gLo.tmod b.gLo) := by unfold restS; rw [if_neg hz, if_pos hs]
      rw [e]
      have := rest_sound ka' kb' (x := a.gLo) (y := b.gLo) ⟨ha.1, by have := ha.2; omega⟩ ⟨hb.1, by have := hb.2; omega⟩ (by omega)
      exact leq_mk this this
    · unfold Sub at ha hb
      have hz' : ¬ (b'.gLo = 0 ∧ b'.gHi = 0) := by omega
      have hs' : ¬ (a'.gLo = a'.gHi ∧ b'.gLo = b'.gHi) := by omega
      unfold restS
      rw [if_neg hz, if_neg hs, if_neg hz', if_neg hs']
      unfold okS I64 at ka kb ka' kb'
      have hm : max (b.gLo.natAbs : Int) b.gHi.natAbs ≤ max (b'.gLo.natAbs : Int) b'.gHi.natAbs := by omega
      have hm1 : 1 ≤ max (b.gLo.natAbs : Int) b.gHi.natAbs := by omega
      have hM : max (b'.gLo.natAbs : Int) b'.gHi.natAbs ≤ 9223372036854775808 := by omega
      generalize max (b.gLo.natAbs : Int) b.gHi.natAbs = m at hm hm1 ⊢
      generalize max (b'.gLo.natAbs : Int) b'.gHi.natAbs = m' at hm hM ⊢
      have l1 : (if a'.gLo < 0 then max a'.gLo (-(min (m' - 1) 9223372036854775807)) else 0) ≤ (if a.gLo < 0 then max a.gLo (-(min (m - 1) 9223372036854775807)) else 0) := by split <;> split <;> omega
      have l2 : (if a.gLo < 0 then max a.gLo (-(min (m - 1) 9223372036854775807)) else 0) ≤ (if 0 < a.gHi then min a.gHi (min (m - 1) 9223372036854775807) else 0) := by split <;> split <;> omega
      have l3 : (if 0 < a.gHi then min a.gHi (min (m - 1) 9223372036854775807) else 0) ≤ (if 0 < a'.gHi then min a'.gHi (min (m' - 1) 9223372036854775807) else 0) := by split <;> split <;> omega
      generalize (if a.gLo < 0 then max a.gLo (-(min (m - 1) 9223372036854775807)) else 0) = L at l1 l2 ⊢
      generalize (if a'.gLo < 0 then max a'.gLo (-(min (m' - 1) 9223372036854775807)) else 0) = L' at l1 ⊢
      generalize (if 0 < a.gHi then min a.gHi (min (m - 1) 9223372036854775807) else 0) = U at l2 l3 ⊢
      generalize (if 0 < a'.gHi then min a'.gHi (min (m' - 1) 9223372036854775807) else 0) = U' at l3 ⊢
      have e : mkS L' U' = ⟨true, L', U'⟩ := by unfold mkS; rw [if_neg (by omega)]
      rw [e]
      refine leq_mk ?_ ?_ <;> (unfold hasB; simp; omega)
/-! ### Comparisons -/
theorem truth_has {y n c : Bool} (h1 : c = true → y = true) (h2 : c = false → n = true) : hasB (truthS y n) (b2i c) = true := by
  cases c
  · have := h2 rfl; subst this; cases y <;> rfl
  · have := h1 rfl; subst this; cases n <;> rfl
theorem truth_mono {y n y' n' : Bool} (h1 : y = true → y' = true) (h2 : n = true → n' = true) (h3 : (y || n) = true) : leqB (truthS y n) (truthS y' n') = true := by
  cases y <;> cases n <;> cases y' <;> cases n' <;> first | rfl | (exfalso; simp at h1; done) | (exfalso; simp at h2; done) | (exfalso; simp at h3; done)
theorem has_dec {s : TApiSpan} (h : noneB s = false) (n : Int) : hasB s n = decide (s.gLo ≤ n ∧ n ≤ s.gHi) := by
  unfold hasB; rw [(some_of h).1]; simp
def holdB (op x y : Int) : Bool := if op = 12 then decide (x < y) else if op = 13 then decide (x ≤ y) else if op = 14 then x == y else if op = 15 then x != y else if op = 16 then (x != 0) && (y != 0) else (x != 0) || (y != 0)
theorem doI_hold {op x y : Int} (h : 12 ≤ op ∧ op ≤ 17) : doI op x y = (b2i (holdB op x y), 0) := by
  have : op = 12 ∨ op = 13 ∨ op = 14 ∨ op = 15 ∨ op = 16 ∨ op = 17 := by omega
  rcases this with h | h | h | h | h | h <;> subst h <;> rfl
theorem hold_yes {op : Int} {a b : TApiSpan} {x y : Int} (ha : noneB a = false) (hb : noneB b = false) (h : 12 ≤ op ∧ op ≤ 17) (hx : In a x) (hy : In b y) : (holdB op x y = true → yesB op a b = true) ∧ (holdB op x y = false → noB op a b = true) := by
  unfold In at hx hy
  have : op = 12 ∨ op = 13 ∨ op = 14 ∨ op = 15 ∨ op = 16 ∨ op = 17 := by omega
  rcases this with h | h | h | h | h | h <;> subst h
  · show (decide (x < y) = true → decide (a.gLo < b.gHi) = true) ∧ (decide (x < y) = false → decide (b.gLo ≤ a.gHi) = true)
    simp only [decide_eq_true_eq, decide_eq_false_iff_not]; omega
  · show (decide (x ≤ y) = true → decide (a.gLo ≤ b.gHi) = true) ∧ (decide (x ≤ y) = false → decide (b.gLo < a.gHi) = true)
    simp only [decide_eq_true_eq, decide_eq_false_iff_not]; omega
  · show ((x == y) = true → decide (max a.gLo b.gLo ≤ min a.gHi b.gHi) = true) ∧ ((x == y) = false → (!decide (a.gLo = a.gHi ∧ b.gLo = b.gHi ∧ a.gLo = b.gLo)) = true)
    simp only [decide_eq_true_eq, decide_eq_false_iff_not, beq_iff_eq, beq_eq_false_iff_ne, Bool.not_eq_true']; omega
  · show ((x != y) = true → (!decide (a.gLo = a.gHi ∧ b.gLo = b.gHi ∧ a.gLo = b.gLo)) = true) ∧ ((x != y) = false → decide (max a.gLo b.gLo ≤ min a.gHi b.gHi) = true)
    simp only [decide_eq_true_eq, decide_eq_false_iff_not, bne_iff_ne, bne_eq_false_iff_eq, Bool.not_eq_true']; omega
  · show (((x != 0) && (y != 0)) = true → (decide (a.gLo ≠ 0 ∨ a.gHi ≠ 0) && decide (b.gLo ≠ 0 ∨ b.gHi ≠ 0)) = true) ∧ (((x != 0) && (y != 0)) = false → (hasB a 0 || hasB b 0) = true)
    rw [has_dec ha, has_dec hb]
    simp only [Bool.and_eq_true, Bool.or_eq_true, Bool.and_eq_false_iff, decide_eq_true_eq, bne_iff_ne, bne_eq_false_iff_eq]; omega
  · show (((x != 0) || (y != 0)) = true → (decide (a.gLo ≠ 0 ∨ a.gHi ≠ 0) || decide (b.gLo ≠ 0 ∨ b.gHi ≠ 0)) = true) ∧ (((x != 0) || (y != 0)) = false → (hasB a 0 && hasB b 0) = true)
    rw [has_dec ha, has_dec hb]
    simp only [Bool.and_eq_true, Bool.or_eq_true, Bool.or_eq_false_iff, decide_eq_true_eq, bne_iff_ne, bne_eq_false_iff_eq]; omega
theorem yes_mono {op : Int} {a b a' b' : TApiSpan} (na : noneB a = false) (nb : noneB b = false) (na' : noneB a' = false) (nb' : noneB b' = false) (h : 12 ≤ op ∧ op ≤ 17) (ha : Sub a a') (hb : Sub b b') : (yesB op a b = true → yesB op a' b' = true) ∧ (noB op a b = true → noB op a' b' = true) ∧ (yesB op a b || noB op a b) = true := by
  have la := (some_of na).2
  have lb := (some_of nb).2
  unfold Sub at ha hb
  have : op = 12 ∨ op = 13 ∨ op = 14 ∨ op = 15 ∨ op = 16 ∨ op = 17 := by omega
  rcases this with h | h | h | h | h | h <;> subst h
  · show (decide (a.gLo < b.gHi) = true → decide (a'.gLo < b'.gHi) = true) ∧ (decide (b.gLo ≤ a.gHi) = true → decide (b'.gLo ≤ a'.gHi) = true) ∧ (decide (a.gLo < b.gHi) || decide (b.gLo ≤ a.gHi)) = true
    simp only [decide_eq_true_eq, Bool.or_eq_true]; omega
  · show (decide (a.gLo ≤ b.gHi) = true → decide (a'.gLo ≤ b'.gHi) = true) ∧ (decide (b.gLo < a.gHi) = true → decide (b'.gLo < a'.gHi) = true) ∧ (decide (a.gLo ≤ b.gHi) || decide (b.gLo < a.gHi)) = true
    simp only [decide_eq_true_eq, Bool.or_eq_true]; omega
  · show (decide (max a.gLo b.gLo ≤ min a.gHi b.gHi) = true → decide (max a'.gLo b'.gLo ≤ min a'.gHi b'.gHi) = true) ∧ ((!decide (a.gLo = a.gHi ∧ b.gLo = b.gHi ∧ a.gLo = b.gLo)) = true → (!decide (a'.gLo = a'.gHi ∧ b'.gLo = b'.gHi ∧ a'.gLo = b'.gLo)) = true) ∧ (decide (max a.gLo b.gLo ≤ min a.gHi b.gHi) || !decide (a.gLo = a.gHi ∧ b.gLo = b.gHi ∧ a.gLo = b.gLo)) = true
    simp only [decide_eq_true_eq, decide_eq_false_iff_not, Bool.or_eq_true, Bool.not_eq_true']; omega
  · show ((!decide (a.gLo = a.gHi ∧ b.gLo = b.gHi ∧ a.gLo = b.gLo)) = true → (!decide (a'.gLo = a'.gHi ∧ b'.gLo = b'.gHi ∧ a'.gLo = b'.gLo)) = true) ∧ (decide (max a.gLo b.gLo ≤ min a.gHi b.gHi) = true → decide (max a'.gLo b'.gLo ≤ min a'.gHi b'.gHi) = true) ∧ ((!decide (a.gLo = a.gHi ∧ b.gLo = b.gHi ∧ a.gLo = b.gLo)) || decide (max a.gLo b.gLo ≤ min a.gHi b.gHi)) = true
    simp only [decide_eq_true_eq, decide_eq_false_iff_not, Bool.or_eq_true, Bool.not_eq_true']; omega
  · show ((decide (a.gLo ≠ 0 ∨ a.gHi ≠ 0) && decide (b.gLo ≠ 0 ∨ b.gHi ≠ 0)) = true → (decide (a'.gLo ≠ 0 ∨ a'.gHi ≠ 0) && decide (b'.gLo ≠ 0 ∨ b'.gHi ≠ 0)) = true) ∧ ((hasB a 0 || hasB b 0) = true → (hasB a' 0 || hasB b' 0) = true) ∧ ((decide (a.gLo ≠ 0 ∨ a.gHi ≠ 0) && decide (b.gLo ≠ 0 ∨ b.gHi ≠ 0)) || (hasB a 0 || hasB b 0)) = true
    rw [has_dec na, has_dec nb, has_dec na', has_dec nb']
    simp only [Bool.and_eq_true, Bool.or_eq_true, decide_eq_true_eq]; omega
  · show ((decide (a.gLo ≠ 0 ∨ a.gHi ≠ 0) || decide (b.gLo ≠ 0 ∨ b.gHi ≠ 0)) = true → (decide (a'.gLo ≠ 0 ∨ a'.gHi ≠ 0) || decide (b'.gLo ≠ 0 ∨ b'.gHi ≠ 0)) = true) ∧ ((hasB a 0 && hasB b 0) = true → (hasB a' 0 && hasB b' 0) = true) ∧ ((decide (a.gLo ≠ 0 ∨ a.gHi ≠ 0) || decide (b.gLo ≠ 0 ∨ b.gHi ≠ 0)) || (hasB a 0 && hasB b 0)) = true
    rw [has_dec na, has_dec nb, has_dec na', has_dec nb']
    simp only [Bool.and_eq_true, Bool.or_eq_true, decide_eq_true_eq]; omega
/-! ### Operators -/
theorem do_sound {op : Int} {a b : TApiSpan} {x y n : Int} (ka : okS a) (kb : okS b) (na : noneB a = false) (nb : noneB b = false) (hx : In a x) (hy : In b y) (h : doI op x y = (n, 0)) : hasB (doS op a b) n = true := by
  by_cases h1 : op = 7 ∨ op = 8 ∨ op = 10 ∨ op = 11
  · have h0 : op = 8 → y ≠ 0 := by
      intro e e2; subst e; subst e2
      simp [doI] at h
    rw [doI_ex h1 h0] at h
    have hn : n = wi (exZ op x y) := by injection h with h _; exact h.symm
    subst hn
    rw [doS_list na nb h1]
    have hz : InZ op a b (exZ op x y) := ⟨x, y, hx, hy, h0, rfl⟩
    rcases around_hull kb na nb (op := op) with ⟨_, k⟩ | ⟨lo, hi, e, _, _, k⟩
    · exact absurd hz (k _)
    · rw [e]; exact has_wrapZ (k _ hz).1 (k _ hz).2
  · by_cases h9 : op = 9
    · subst h9
      have h0 : y ≠ 0 := by
        intro e2; subst e2
        simp [doI] at h
      have hn : n = x.tmod y := by simp [doI, h0] at h; exact h.symm
      subst hn
      rw [doS_rest na nb]
      exact rest_sound ka kb hx hy h0
    · by_cases hc : 12 ≤ op ∧ op ≤ 17
      · rw [doI_hold hc] at h
        have hn : n = b2i (holdB op x y) := by injection h with h _; exact h.symm
        subst hn
        rw [doS_cmp na nb h1 h9]; unfold cmpS; rw [if_pos hc]
        have k := hold_yes na nb hc hx hy
        exact truth_has k.1 k.2
      · exfalso
        unfold doI at h
        rw [if_neg (by omega), if_neg (by omega), if_neg (by omega), if_neg (by omega), if_neg (by omega), if_neg (by omega), if_neg (by omega), if_neg (by omega), if_neg (by omega), if_neg (by omega), if_neg (by omega)] at h
        injection h with _ h; cases h
theorem do_mono {op : Int} {a b a' b' : TApiSpan} (ka : okS a) (kb : okS b) (ka' : okS a') (kb' : okS b') (na : noneB a = false) (nb : noneB b = false) (na' : noneB a' = false) (nb' : noneB b' = false) (ha : Sub a a') (hb : Sub b b') : leqB (doS op a b) (doS op a' b') = true := by
  by_cases h1 : op = 7 ∨ op = 8 ∨ op = 10 ∨ op = 11
  · rw [doS_list na nb h1, doS_list na' nb' h1]
    rcases around_hull kb na nb (op := op) with ⟨e, _⟩ | ⟨lo, hi, e, k1, k2, k0⟩
    · rw [e]; exact leq_zS _
    · rcases around_hull kb' na' nb' (op := op) with ⟨_, k⟩ | ⟨lo', hi', e', _, _, k⟩
      · exact absurd (k1.mono ha hb) (k _)
      · rw [e, e']
        have m1 := k _ (k1.mono ha hb)
        have m2 := k _ (k2.mono ha hb)
        have hle : lo ≤ hi := (k0 _ k2).1
        exact wrapZ_mono m1.1 m2.2 hle
  · by_cases h9 : op = 9
    · subst h9
      rw [doS_rest na nb, doS_rest na' nb']
      exact rest_mono ka kb ka' kb' (some_of na).2 (some_of nb).2 ha hb
    · rw [doS_cmp na nb h1 h9, doS_cmp na' nb' h1 h9]; unfold cmpS
      by_cases hc : 12 ≤ op ∧ op ≤ 17
      · rw [if_pos hc, if_pos hc]
        have k := yes_mono na nb na' nb' hc ha hb
        exact truth_mono k.1 k.2.1 k.2.2
      · rw [if_neg hc]; exact leq_zS _
end Go.Proofs.Ytebnbajjenpldaa.Ab
/- Layer 4: the laws, for what is read. -/
namespace Go.Proofs.Ytebnbajjenpldaa.Ab
open Go Go.RowKit Go.Shelf Go.Proofs.Ytebnbajjenpldaa
set_option linter.all false
def r1I (op x : Int) : Int × Int := if op = 5 then (wi (-x), 0) else if op = 6 then (b2i (x == 0), 0) else (0, 2)
theorem r1S {op x : Int} (kx : I64 x) : r02_One op x = some (r1I op x) := by
  unfold r02_One r1I
  have n1 : need (pI x) = some () := need_t (okI_of kx)
  have n2 : need (pW (rOf x)) = some () := need_t (okW_ofW _)
  refine bsplit (fun h => ?_) (fun h => ?_)
  · have := eq_of_beq h; subst this
    rw [n1, Option.bind_some, n2, Option.bind_some]
    unfold rNeg rOf
    rw [vW_of kx, rlow_any]; rfl
  · rw [if_neg (ne_of_beq_false h)]
    refine bsplit (fun h => ?_) (fun h => ?_)
    · have := eq_of_beq h; subst this
      rw [one_b]; rfl
    · rw [if_neg (ne_of_beq_false h)]
theorem point_some (x : Int) : noneB ⟨true, x, x⟩ = false := by unfold noneB; simp
theorem mk_point (x : Int) : mkS x x = ⟨true, x, x⟩ := by unfold mkS; rw [if_neg (by omega)]
theorem wrapZ_point (z : Int) : wrapZ z z = ⟨true, wi z, wi z⟩ := by unfold wrapZ; rw [if_neg (by omega), if_neg (by omega)]
theorem in_point {x z : Int} (h : In ⟨true, x, x⟩ z) : z = x := by unfold In at h; simp at h; omega
theorem do_point {op x y n e : Int} (kx : I64 x) (ky : I64 y) (h : doI op x y = (n, e)) : doS op ⟨true, x, x⟩ ⟨true, y, y⟩ = if e = 0 then ⟨true, n, n⟩ else zS := by
  have na := point_some x
  have nb := point_some y
  have kb : okS ⟨true, y, y⟩ := ⟨ky, ky⟩
  by_cases h1 : op = 7 ∨ op = 8 ∨ op = 10 ∨ op = 11
  · rw [doS_list na nb h1]
    by_cases h0 : op = 8 ∧ y = 0
    · obtain ⟨e1, e2⟩ := h0
      subst e1; subst e2
      have he : e = 10 := by simp [doI] at h; omega
      subst he
      rcases around_hull kb na nb (op := 8) with ⟨e, _⟩ | ⟨lo, hi, _, k1, _, _⟩
      · rw [e, if_neg (by omega)]; rfl
      · obtain ⟨x', y', _, h2, h3, _⟩ := k1
        exact absurd (in_point h2) (h3 rfl)
    · have h0' : op = 8 → y ≠ 0 := fun e1 e2 => h0 ⟨e1, e2⟩
      rw [doI_ex h1 h0'] at h
      injection h with e1 e2
      subst e1; subst e2
      rw [if_pos rfl]
      have hz : InZ op ⟨true, x, x⟩ ⟨true, y, y⟩ (exZ op x y) := ⟨x, y, ⟨Int.le_refl _, Int.le_refl _⟩, ⟨Int.le_refl _, Int.le_refl _⟩, h0', rfl⟩
      rcases around_hull kb na nb (op := op) with ⟨_, k⟩ | ⟨lo, hi, e, k1, k2, _⟩
      · exact absurd hz (k _)
      · obtain ⟨x1, y1, p1, p2, _, e1⟩ := k1
        obtain ⟨x2, y2, p3, p4, _, e2⟩ := k2
        rw [in_point p1, in_point p2] at e1
        rw [in_point p3, in_point p4] at e2
        rw [e, e1, e2, wrapZ_point]
  · by_cases h9 : op = 9
    · subst h9
      rw [doS_rest na nb]
      unfold restS
      by_cases hy : y = 0
      · subst hy
        have he : e = 10 := by simp [doI] at h; omega
        subst he
        rw [if_pos ⟨rfl, rfl⟩, if_neg (by omega)]
      · have e1 : n = x.tmod y ∧ e = 0 := by simp [doI, hy] at h; omega
        rw [e1.1, e1.2, if_neg (fun k => hy k.1), if_pos ⟨rfl, rfl⟩, if_pos rfl, mk_point]
    · rw [doS_cmp na nb h1 h9]
      unfold cmpS
      by_cases hc : 12 ≤ op ∧ op ≤ 17
      · rw [if_pos hc]
        rw [doI_hold hc] at h
        injection h with e1 e2
        subst e1; subst e2
        rw [if_pos rfl]
        have k := hold_yes na nb hc (x := x) (y := y) ⟨Int.le_refl _, Int.le_refl _⟩ ⟨Int.le_refl _, Int.le_refl _⟩
        have hop : op = 12 ∨ op = 13 ∨ op = 14 ∨ op = 15 ∨ op = 16 ∨ op = 17 := by omega
        have key : holdB op x y = true → noB op ⟨true, x, x⟩ ⟨true, y, y⟩ = false := by
          intro hh
          rcases hop with h | h | h | h | h | h <;> subst h
          · have hh : decide (x < y) = true := hh
            show decide (y ≤ x) = false
            simp only [decide_eq_true_eq, decide_eq_false_iff_not] at hh ⊢; omega
          · have hh : decide (x ≤ y) = true := hh
            show decide (y < x) = false
            simp only [decide_eq_true_eq, decide_eq_false_iff_not] at hh ⊢; omega
          · have hh : (x == y) = true := hh
            show (!decide (x = x ∧ y = y ∧ x = y)) = false
            simp only [beq_iff_eq] at hh; simp [hh]
          · have hh : (x != y) = true := hh
            show decide (max x y ≤ min x y) = false
            simp only [bne_iff_ne, decide_eq_false_iff_not] at hh ⊢; omega
          · have hh : ((x != 0) && (y != 0)) = true := hh
            show (hasB ⟨true, x, x⟩ 0 || hasB ⟨true, y, y⟩ 0) = false
            rw [has_dec na, has_dec nb]
            simp only [Bool.and_eq_true, bne_iff_ne, Bool.or_eq_false_iff, decide_eq_false_iff_not] at hh ⊢; omega
          · have hh : ((x != 0) || (y != 0)) = true := hh
            show (hasB ⟨true, x, x⟩ 0 && hasB ⟨true, y, y⟩ 0) = false
            rw [has_dec na, has_dec nb]
            simp only [Bool.or_eq_true, bne_iff_ne, Bool.and_eq_false_iff, decide_eq_false_iff_not] at hh ⊢; omega
        have key2 : holdB op x y = false → yesB op ⟨true, x, x⟩ ⟨true, y, y⟩ = false := by
          intro hh
          rcases hop with h | h | h | h | h | h <;> subst h
          · exact hh
          · exact hh
          · have hh : (x == y) = false := hh
            show decide (max x y ≤ min x y) = false
            simp only [beq_eq_false_iff_ne, decide_eq_false_iff_not] at hh ⊢; omega
          · have hh : (x != y) = false := hh
            show (!decide (x = x ∧ y = y ∧ x = y)) = false
            simp only [bne_eq_false_iff_eq] at hh; simp [hh]
          · have hh : ((x != 0) && (y != 0)) = false := hh
            show (decide (x ≠ 0 ∨ x ≠ 0) && decide (y ≠ 0 ∨ y ≠ 0)) = false
            simp only [Bool.and_eq_false_iff, bne_eq_false_iff_eq, decide_eq_false_iff_not] at hh ⊢; omega
          · have hh : ((x != 0) || (y != 0)) = false := hh
            show (decide (x ≠ 0 ∨ x ≠ 0) || decide (y ≠ 0 ∨ y ≠ 0)) = false
            simp only [Bool.or_eq_false_iff, bne_eq_false_iff_eq, decide_eq_false_iff_not] at hh ⊢; omega
        cases hh : holdB op x y with
        | true => rw [k.1 hh, key hh]; rfl
        | false => rw [k.2 hh, key2 hh]; rfl
      · rw [if_neg hc]
        unfold doI at h
        rw [if_neg (by omega), if_neg (by omega), if_neg (by omega), if_neg (by omega), if_neg (by omega), if_neg (by omega), if_neg (by omega), if_neg (by omega), if_neg (by omega), if_neg (by omega), if_neg (by omega)] at h
        injection h with _ h; subst h; rfl
theorem one_point {op x m f : Int} (kx : I64 x) (h : r1I op x = (m, f)) (hf : f = 0) : oneS op ⟨true, x, x⟩ = ⟨true, m, m⟩ := by
  subst hf
  unfold r1I at h
  unfold oneS
  rw [point_some, if_neg (by simp)]
  by_cases h5 : op = 5
  · rw [if_pos h5] at h ⊢
    injection h with h _; subst h
    have := do_point (op := 11) (x := 0) (y := x) (n := wi (0 - x)) (e := 0) i64_0 kx rfl
    rw [if_pos rfl] at this
    rw [this, Int.zero_sub]
  · rw [if_neg h5] at h ⊢
    by_cases h6 : op = 6
    · rw [if_pos h6] at h ⊢
      injection h with h _; subst h
      rw [has_dec (point_some x)]
      by_cases hx : x = 0
      · subst hx; rfl
      · rw [decide_eq_false (show ¬ (x ≤ 0 ∧ 0 ≤ x) by omega), decide_eq_true (show x ≠ 0 ∨ x ≠ 0 from .inl hx), beq_eq_false_iff_ne.2 hx]; rfl
    · rw [if_neg h6] at h
      injection h with _ h; cases h
theorem exact4 {op x y : Int} (kx : I64 x) (ky : I64 y) : l04_ReckonExact op x y = some true := by
  unfold l04_ReckonExact
  have ox : okS ⟨true, x, x⟩ := ⟨kx, kx⟩
  have oy : okS ⟨true, y, y⟩ := ⟨ky, ky⟩
  cases hd : doI op x y with
  | mk n e =>
    have hp := do_point kx ky hd
    rw [one_eq, Option.bind_some, one_eq, Option.bind_some, mk_point, mk_point, wdoS ox oy, Option.bind_some, rdo_eq kx ky, Option.bind_some, hd, hp, lives_t]
    by_cases he : e = 0
    · subst he
      cases ho : r1I op x with
      | mk m f =>
        rw [show ((0 : Int) != 0) = false from rfl, cond_false, if_pos rfl, r1S kx, ho, Option.bind_some, rmake_eq, Option.bind_some, mk_point, span_beq, cond_true]
        by_cases hf : f = 0
        · rw [hf, show ((0 : Int) != 0) = false from rfl, cond_false, Option.bind_some, woneS ox, Option.bind_some, rmake_eq, Option.bind_some, mk_point, one_point kx ho hf, span_beq]; rfl
        · rw [bne_iff_ne.2 hf]; rfl
    · rw [bne_iff_ne.2 he, if_neg he]; rfl
def withinI (s : TApiSpan) (n : Int) : Int := if hasB s n = true then n else if (bitI .and .i64 n 1 == 0) = true then s.gLo else s.gHi
theorem within_eq (s : TApiSpan) (n : Int) : l04_within s n = some (withinI s n) := by
  unfold l04_within withinI
  rw [rhas_eq, Option.bind_some]
  cases hasB s n <;> cases (bitI .and .i64 n 1 == 0) <;> rfl
theorem within_in {s : TApiSpan} (h : noneB s = false) (n : Int) : In s (withinI s n) := by
  have l := (some_of h).2
  unfold withinI
  split
  · rename_i k
    rw [has_dec h] at k; exact of_decide_eq_true (p := s.gLo ≤ n ∧ n ≤ s.gHi) k
  · split
    · exact ⟨Int.le_refl _, l⟩
    · exact ⟨l, Int.le_refl _⟩
theorem in_i64 {s : TApiSpan} {x : Int} (k : okS s) (h : In s x) : I64 x := by
  unfold okS I64 at k; unfold In at h; unfold I64; omega
theorem one_sound {op : Int} {a : TApiSpan} {x m f : Int} (ka : okS a) (na : noneB a = false) (hx : In a x) (h : r1I op x = (m, f)) (hf : f = 0) : hasB (oneS op a) m = true := by
  subst hf
  unfold r1I at h
  unfold oneS
  rw [na, if_neg (by simp)]
  by_cases h5 : op = 5
  · rw [if_pos h5] at h ⊢
    injection h with h _; subst h
    exact do_sound (op := 11) (x := 0) (y := x) ok00 ka rfl na ⟨Int.le_refl _, Int.le_refl _⟩ hx (by show (wi (0 - x), (0 : Int)) = _; rw [Int.zero_sub])
  · rw [if_neg h5] at h ⊢
    by_cases h6 : op = 6
    · rw [if_pos h6] at h ⊢
      injection h with h _; subst h
      unfold In at hx
      refine truth_has (fun e => ?_) (fun e => ?_)
      · have := eq_of_beq e; subst this
        rw [has_dec na]; simp; omega
      · have := ne_of_beq_false e
        simp; omega
    · rw [if_neg h6] at h
      injection h with _ h; cases h
theorem one_mono {op : Int} {a a' : TApiSpan} (ka : okS a) (ka' : okS a') (na : noneB a = false) (na' : noneB a' = false) (ha : Sub a a') : leqB (oneS op a) (oneS op a') = true := by
  have hf : ¬ (false = true) := by simp
  unfold oneS
  rw [na, na', if_neg hf, if_neg hf]
  by_cases h5 : op = 5
  · rw [if_pos h5, if_pos h5]
    exact do_mono ok00 ka ok00 ka' rfl na rfl na' ⟨Int.le_refl _, Int.le_refl _⟩ ha
  · rw [if_neg h5, if_neg h5]
    by_cases h6 : op = 6
    · rw [if_pos h6, if_pos h6]
      have l := (some_of na).2
      unfold Sub at ha
      refine truth_mono ?_ ?_ ?_
      · rw [has_dec na, has_dec na']; simp; omega
      · simp; omega
      · rw [has_dec na]; simp; omega
    · rw [if_neg h6, if_neg h6]; exact leq_zS _
theorem join_facts {a b : TApiSpan} (ka : okS a) (kb : okS b) (na : noneB a = false) : okS (joinS a b) ∧ noneB (joinS a b) = false ∧ Sub a (joinS a b) := by
  unfold joinS
  rw [na, if_neg (by simp)]
  cases nb : noneB b with
  | true => rw [if_pos rfl]; exact ⟨ka, na, Int.le_refl _, Int.le_refl _⟩
  | false =>
    rw [if_neg (by simp)]
    have la := (some_of na).2
    have e : mkS (min a.gLo b.gLo) (max a.gHi b.gHi) = ⟨true, min a.gLo b.gLo, max a.gHi b.gHi⟩ := by unfold mkS; rw [if_neg (by omega)]
    rw [e]
    refine ⟨?_, ?_, ?_⟩
    · unfold okS I64 at *; dsimp only; omega
    · unfold noneB; simp; omega
    · unfold Sub; dsimp only; omega
theorem sound4 {c : TSondagelaw04Case} {more : TApiSpan} (ka : okS c.gA) (kb : okS c.gB) (km : okS more) : l04_ReckonSound c more = some true := by
  unfold l04_ReckonSound
  rw [wdoS ka kb, Option.bind_some, rnone_eq, Option.bind_some, rnone_eq, lives_t]
  cases na : noneB c.gA with
  | true =>
    have : doS c.gOp c.gA c.gB = zS := by unfold doS; rw [na]; rfl
    rw [this]; rfl
  | false =>
    cases nb : noneB c.gB with
    | true =>
      have : doS c.gOp c.gA c.gB = zS := by unfold doS; rw [na, nb]; rfl
      rw [this]; rfl
    | false =>
      rw [show (bif false then some true else (some false).bind fun x11 => some x11) = some false from rfl, Option.bind_some, cond_false, within_eq, Option.bind_some, within_eq, Option.bind_some]
      have hx := within_in na c.gX
      have hy := within_in nb c.gY
      generalize withinI c.gA c.gX = x at hx ⊢
      generalize withinI c.gB c.gY = y at hy ⊢
      have kx := in_i64 ka hx
      have ky := in_i64 kb hy
      obtain ⟨kj, nj, sj⟩ := join_facts ka km na
      rw [rdo_eq kx ky, Option.bind_some, r1S kx, Option.bind_some]
      cases hd : doI c.gOp x y with
      | mk n e =>
        cases ho : r1I c.gOp x with
        | mk m f =>
          have e0 : (bif (n, e).2 == 0 then (span_Has (doS c.gOp c.gA c.gB) (n, e).1).bind fun x37 => (bif (!x37) then some true else (bif ((m, f).2 == (0 : Int)) then ((reckon_One c.gOp c.gA).bind fun x40 => ((span_Has x40 (m, f).1).bind fun x41 => some (!x41))) else some false)) else (bif ((m, f).2 == (0 : Int)) then ((reckon_One c.gOp c.gA).bind fun x43 => ((span_Has x43 (m, f).1).bind fun x44 => some (!x44))) else some false)) = some false := by
            have t : (bif ((m, f).2 == (0 : Int)) then ((reckon_One c.gOp c.gA).bind fun x40 => ((span_Has x40 (m, f).1).bind fun x41 => some (!x41))) else some false) = some false := by
              refine bsplit (fun h => ?_) (fun _ => rfl)
              have hf : f = 0 := eq_of_beq h
              rw [woneS ka, Option.bind_some, has_eq, Option.bind_some, one_sound ka na hx ho hf]; rfl
            refine bsplit (fun h => ?_) (fun _ => t)
            have he : e = 0 := eq_of_beq h
            subst he
            rw [has_eq, Option.bind_some, do_sound ka kb na nb hx hy hd]
            exact t
          rw [e0, Option.bind_some, cond_false, join_eq, Option.bind_some, wdoS kj kb, Option.bind_some, leq_eq, Option.bind_some]
          have m1 : leqB (doS c.gOp c.gA c.gB) (doS c.gOp (joinS c.gA more) c.gB) = true := do_mono ka kb kj kb na nb nj nb sj ⟨Int.le_refl _, Int.le_refl _⟩
          have m2 : leqB (doS c.gOp c.gB c.gA) (doS c.gOp c.gB (joinS c.gA more)) = true := do_mono kb ka kb kj nb na nb nj ⟨Int.le_refl _, Int.le_refl _⟩ sj
          have m3 : leqB (oneS c.gOp c.gA) (oneS c.gOp (joinS c.gA more)) = true := one_mono ka kj na nj sj
          rw [m1, cond_true, wdoS kb ka, Option.bind_some, wdoS kb kj, Option.bind_some, leq_eq, Option.bind_some, m2, cond_true, woneS ka, Option.bind_some, woneS kj, Option.bind_some, leq_eq, Option.bind_some, m3]
          rfl
end Go.Proofs.Ytebnbajjenpldaa.Ab
