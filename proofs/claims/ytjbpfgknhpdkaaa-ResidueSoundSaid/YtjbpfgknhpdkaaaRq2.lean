/- merged: Rp1, Rp2, Rp3, Rp4, Rp5, Rp6, Rp7, Rp9, Rp10, Rp11, Rp12, Rp13, Rp14, Rp15. -/
import Derived.Test.YtjbpfgknhpdkaaaRs2
import Derived.Test.YtjbpfgknhpdkaaaCp10
import Derived.Test.YtjbpfgknhpdkaaaRs3
/- Layer 2, plainly. -/
namespace Go.Proofs.Ytjbpfgknhpdkaaa.Ab
open Go Go.RowKit Go.Shelf Go.Proofs.Ytjbpfgknhpdkaaa
set_option linter.all false
def b2i (b : Bool) : Int := bif b then 1 else 0
abbrev wi (n : Int) : Int := IntKind.i64.wrap n
def exI (op a b : Int) : TApiWide × Bool :=
  if op = 10 then (ofW (a + b), true) else if op = 11 then (ofW (a - b), true) else if op = 7 then (ofW (a * b), true) else (⟨0, 0⟩, false)
def doI (op a b : Int) : Int × Int :=
  if op = 10 then (wi (a + b), 0) else if op = 11 then (wi (a - b), 0) else if op = 7 then (wi (a * b), 0)
  else if op = 8 then (if b = 0 then (0, 10) else (wi (a.tdiv b), 0))
  else if op = 9 then (if b = 0 then (0, 10) else (a.tmod b, 0))
  else if op = 12 then (b2i (decide (a < b)), 0) else if op = 13 then (b2i (decide (a ≤ b)), 0)
  else if op = 14 then (b2i (a == b), 0) else if op = 15 then (b2i (a != b), 0)
  else if op = 16 then (b2i ((a != 0) && (b != 0)), 0) else if op = 17 then (b2i ((a != 0) || (b != 0)), 0)
  else (0, 2)
theorem wlow_any (z : Int) : wLow (ofW z) = wi z := by
  unfold wLow ofW wi
  show wrap64 (loW z) = _
  rw [IntKind.wrap_i64]
  unfold wrap64 loW; omega
theorem rlow_any (z : Int) : r02_low (ofW z) = some (wi z) := by
  unfold r02_low ofW wi
  show some (IntKind.i64.wrap (loW z)) = _
  rw [IntKind.wrap_i64, IntKind.wrap_i64]
  unfold loW; congr 1; omega
theorem okI_both {a b : Int} (ka : I64 a) (kb : I64 b) : pII a b = true := by simp [pII, okI_of ka, okI_of kb]
theorem wexact_eq {op a b : Int} (ka : I64 a) (kb : I64 b) : wrap_Exact op a b = some (exI op a b) := by
  have p1 : pWW (wOf a) (wOf b) = true := by simp [pWW, wOf, okW_ofW]
  have e1 : vW (wOf a) = a := vW_of ka
  have e2 : vW (wOf b) = b := vW_of kb
  unfold wrap_Exact exI
  have n1 : need (pI a) = some () := need_t (okI_of ka)
  have n2 : need (pI b) = some () := need_t (okI_of kb)
  have n3 := need_t p1
  have n4 := need_t (okI_both ka kb)
  unfold wAdd wSub
  rw [e1, e2]
  simp only [n1, n2, n3, n4, Option.bind_some]
  by_cases h1 : op = 10
  · simp [h1]
  have g1 : (op == 10) = false := by simpa using h1
  by_cases h2 : op = 11
  · simp [h2]
  have g2 : (op == 11) = false := by simpa using h2
  by_cases h3 : op = 7
  · simp [h3, wMul]
  have g3 : (op == 7) = false := by simpa using h3
  rw [g1, g2, g3, if_neg h1, if_neg h2, if_neg h3]
  rfl
theorem rexact_eq {op a b : Int} (ka : I64 a) (kb : I64 b) : r02_Exact op a b = some (exI op a b) := by
  have p1 : pWW (rOf a) (rOf b) = true := by simp [pWW, rOf, okW_ofW]
  have e1 : vW (rOf a) = a := vW_of ka
  have e2 : vW (rOf b) = b := vW_of kb
  unfold r02_Exact exI
  have n1 : need (pI a) = some () := need_t (okI_of ka)
  have n2 : need (pI b) = some () := need_t (okI_of kb)
  have n3 := need_t p1
  have n4 := need_t (okI_both ka kb)
  unfold rAdd rSub
  rw [e1, e2]
  simp only [n1, n2, n3, n4, Option.bind_some]
  by_cases h1 : op = 10
  · simp [h1]
  have g1 : (op == 10) = false := by simpa using h1
  by_cases h2 : op = 11
  · simp [h2]
  have g2 : (op == 11) = false := by simpa using h2
  by_cases h3 : op = 7
  · simp [h3, rMul]
  have g3 : (op == 7) = false := by simpa using h3
  rw [g1, g2, g3, if_neg h1, if_neg h2, if_neg h3]
  rfl
theorem parts_eq {op a b : Int} (ka : I64 a) (kb : I64 b) (h : op = 8 ∨ op = 9) : wrap_parts op a b = some (doI op a b) := by
  unfold wrap_parts doI
  by_cases h0 : b = 0
  · subst h0; rcases h with rfl | rfl <;> simp
  have e0 : (b == 0) = false := by simpa using h0
  by_cases h1 : b = -1
  · subst h1
    rcases h with rfl | rfl
    · have : a.tdiv (-1) = 0 - a := by rw [Int.tdiv_neg, Int.tdiv_one]; omega
      simp [this]
    · have : a.tmod (-1) = 0 := by rw [Int.tmod_neg, Int.tmod_one]
      simp [this]
  · have e1 : (b == -1) = false := by simpa using h1
    rw [e0, e1, need_ne h0]
    rcases h with rfl | rfl <;> simp [h0]
theorem wdo_eq {op a b : Int} (ka : I64 a) (kb : I64 b) : wrap_Do op a b = some (doI op a b) := by
  unfold wrap_Do
  rw [wexact_eq ka kb]
  by_cases h10 : op = 10
  · subst h10; simp [exI, doI, pW, okW_ofW, need, wlow_any]
  by_cases h11 : op = 11
  · subst h11; simp [exI, doI, pW, okW_ofW, need, wlow_any]
  by_cases h7 : op = 7
  · subst h7; simp [exI, doI, pW, okW_ofW, need, wlow_any]
  have he : exI op a b = (⟨0, 0⟩, false) := by simp [exI, h10, h11, h7]
  rw [he]
  by_cases h8 : op = 8
  · subst h8; simp [parts_eq ka kb (.inl rfl)]
  by_cases h9 : op = 9
  · subst h9; simp [parts_eq ka kb (.inr rfl)]
  have e8 : (op == 8) = false := by simpa using h8
  have e9 : (op == 9) = false := by simpa using h9
  simp only [Option.bind_some, cond_false, e8, e9]
  unfold wrap_holds doI wrap_truth b2i
  simp only [if_neg h10, if_neg h11, if_neg h7, if_neg h8, if_neg h9]
  by_cases h12 : op = 12
  · subst h12; by_cases c : a < b <;> simp [c]
  by_cases h13 : op = 13
  · subst h13; by_cases c : a ≤ b <;> simp [c]
  by_cases h14 : op = 14
  · subst h14; cases hc : (a == b) <;> simp [hc]
  by_cases h15 : op = 15
  · subst h15; cases hc : (a != b) <;> simp [hc]
  by_cases h16 : op = 16
  · subst h16; cases hc : (a != 0) <;> cases hc2 : (b != 0) <;> simp [hc, hc2]
  by_cases h17 : op = 17
  · subst h17; cases hc : (a != 0) <;> cases hc2 : (b != 0) <;> simp [hc, hc2]
  have g12 : (op == 12) = false := by simpa using h12
  have g13 : (op == 13) = false := by simpa using h13
  have g14 : (op == 14) = false := by simpa using h14
  have g15 : (op == 15) = false := by simpa using h15
  have g16 : (op == 16) = false := by simpa using h16
  have g17 : (op == 17) = false := by simpa using h17
  rw [g12, g13, g14, g15, g16, g17]
  simp [h12, h13, h14, h15, h16, h17]
theorem rabs_eq {a : Int} (ka : I64 a) : r02_abs a = some (a.natAbs : Int) := by
  unfold r02_abs
  have e1 : vW (rOf a) = a := vW_of ka
  rw [need_bind (show pI a = true from okI_of ka), need_bind (show pW (rOf a) = true from okW_ofW _)]
  unfold rNeg
  rw [e1]
  unfold I64 at ka
  by_cases h : a < 0
  · rw [decide_eq_true h]
    show some (loW (-a)) = _
    unfold loW; congr 1; omega
  · rw [decide_eq_false h]
    show some (loW a) = _
    unfold loW; congr 1; omega
theorem V0 : vW ⟨0, 0⟩ = 0 := rfl
theorem quo_eq {a b : Int} (ka : I64 a) (kb : I64 b) (h : b ≠ 0) : r02_Quotient a b = some (wi (a.tdiv b)) := by
  unfold r02_Quotient
  rw [rabs_eq ka, rabs_eq kb]
  simp only [Option.bind_some]
  rw [need_ne (show (b.natAbs : Int) ≠ 0 by omega)]
  simp only [Option.bind_some]
  have na : (a.natAbs : Int) ≤ 9223372036854775808 := by unfold I64 at ka; omega
  have q0 : 0 ≤ (a.natAbs : Int) / (b.natAbs : Int) := Int.ediv_nonneg (by omega) (by omega)
  have q1 : (a.natAbs : Int) / (b.natAbs : Int) ≤ a.natAbs := Int.ediv_le_self _ (by omega)
  rw [ti_pos (by omega), u64w q0 (by omega)]
  have hw : (⟨0, (a.natAbs : Int) / (b.natAbs : Int)⟩ : TApiWide) = ofW ((a.natAbs : Int) / (b.natAbs : Int)) := by
    unfold ofW hiW loW
    rw [show (a.natAbs : Int) / (b.natAbs : Int) / 18446744073709551616 = 0 by omega, show (a.natAbs : Int) / (b.natAbs : Int) % 18446744073709551616 = (a.natAbs : Int) / (b.natAbs : Int) by omega, show wrap64 0 = 0 by unfold wrap64; omega]
  rw [hw, need_bind (show pW (ofW ((a.natAbs : Int) / (b.natAbs : Int))) = true from okW_ofW _), rlow_any]
  unfold rNeg
  rw [vW_ofW (by omega) (by omega), rlow_any]
  simp only [Option.bind_some]
  by_cases ha : a < 0
  · have ea : a = -(a.natAbs : Int) := by omega
    by_cases hb : b < 0
    · have eb : b = -(b.natAbs : Int) := by omega
      have hq : a.tdiv b = (a.natAbs : Int) / (b.natAbs : Int) := by
        conv => lhs; rw [ea, eb]
        rw [Int.neg_tdiv_neg, ti_pos (by omega)]
      rw [decide_eq_true ha, decide_eq_true hb, hq]; rfl
    · have eb : b = (b.natAbs : Int) := by omega
      have hq : a.tdiv b = -((a.natAbs : Int) / (b.natAbs : Int)) := by
        conv => lhs; rw [ea, eb]
        rw [Int.neg_tdiv, ti_pos (by omega)]
      rw [decide_eq_true ha, decide_eq_false hb, hq]; rfl
  · have ea : a = (a.natAbs : Int) := by omega
    by_cases hb : b < 0
    · have eb : b = -(b.natAbs : Int) := by omega
      have hq : a.tdiv b = -((a.natAbs : Int) / (b.natAbs : Int)) := by
        conv => lhs; rw [ea, eb]
        rw [Int.tdiv_neg, ti_pos (by omega)]
      rw [decide_eq_false ha, decide_eq_true hb, hq]; rfl
    · have eb : b = (b.natAbs : Int) := by omega
      have hq : a.tdiv b = (a.natAbs : Int) / (b.natAbs : Int) := by
        conv => lhs; rw [ea, eb]
        rw [ti_pos (by omega)]
      rw [decide_eq_false ha, decide_eq_false hb, hq]; rfl
theorem rem_eq {a b : Int} (ka : I64 a) (kb : I64 b) (hz : b ≠ 0) : wi (a - wi (a.tdiv b) * b) = a.tmod b := by
  have h := Int.mul_tdiv_add_tmod a b
  have h1 : (a - wi (a.tdiv b) * b) % 18446744073709551616 = a.tmod b % 18446744073709551616 := by
    have e : wi (a.tdiv b) = a.tdiv b + 18446744073709551616 * (-((a.tdiv b + 9223372036854775808) / 18446744073709551616)) := by unfold wi; rw [IntKind.wrap_i64]; omega
    rw [e, Int.add_mul, Int.mul_comm (a.tdiv b) b, Int.mul_assoc]
    omega
  have l1 : (a.tmod b).natAbs ≤ a.natAbs := by rw [Int.natAbs_tmod]; exact Nat.mod_le _ _
  have l2 : (a.tmod b).natAbs < b.natAbs := by rw [Int.natAbs_tmod]; exact Nat.mod_lt _ (by omega)
  unfold I64 at ka kb
  unfold wi at h1 ⊢
  rw [IntKind.wrap_i64]
  generalize a - IntKind.i64.wrap (a.tdiv b) * b = z at *
  omega
theorem wi_i (n : Int) : I64 (wi n) := by unfold wi I64; rw [IntKind.wrap_i64]; omega
theorem one_b (b : Bool) : r02_one b = some (b2i b) := by cases b <;> rfl
theorem rdo_eq {op a b : Int} (ka : I64 a) (kb : I64 b) : r02_Do op a b = some (doI op a b) := by
  unfold r02_Do
  rw [rexact_eq ka kb]
  by_cases h10 : op = 10
  · subst h10; simp [exI, doI, rlow_any]
  by_cases h11 : op = 11
  · subst h11; simp [exI, doI, rlow_any]
  by_cases h7 : op = 7
  · subst h7; simp [exI, doI, rlow_any]
  have he : exI op a b = (⟨0, 0⟩, false) := by simp [exI, h10, h11, h7]
  have e1 : vW (rOf a) = a := vW_of ka
  have e2 : vW (rOf b) = b := vW_of kb
  have e3 : rSub (rOf a) (rOf b) = ofW (a - b) := by unfold rSub; rw [e1, e2]
  have e4 : vW (ofW (a - b)) = a - b := vW_ofW (by unfold I64 at *; omega) (by unfold I64 at *; omega)
  have n1 : need (pI a) = some () := need_t (okI_of ka)
  have n2 : need (pI b) = some () := need_t (okI_of kb)
  have n3 : need (pWW (rOf a) (rOf b)) = some () := need_t (by simp [pWW, rOf, okW_ofW])
  have n4 : need (pWW (ofW (a - b)) ⟨0, 0⟩) = some () := need_t (by simp [pWW, okW_ofW]; rfl)
  have hc : rCmp (ofW (a - b)) ⟨0, 0⟩ = cmpI (a - b) 0 := by unfold rCmp; rw [e4]; rfl
  rw [he, e3]
  simp only [Option.bind_some, cond_false, n1, n2, n3, n4, hc, one_b]
  unfold doI
  simp only [if_neg h10, if_neg h11, if_neg h7]
  by_cases h8 : op = 8
  · subst h8
    by_cases h0 : b = 0
    · subst h0; simp
    · simp only [show ((8 : Int) == 8) = true from rfl, cond_false, cond_true, show (b == 0) = false by simpa using h0, Option.bind_some, quo_eq ka kb h0, h0, if_false, if_true]
  by_cases h9 : op = 9
  · subst h9
    by_cases h0 : b = 0
    · subst h0; simp
    · have n5 : need (pII (wi (a.tdiv b)) b) = some () := need_t (okI_both (wi_i _) kb)
      have hv : vW (rMul (wi (a.tdiv b)) b) = wi (a.tdiv b) * b := by
        have := mul_rng (wi_i (a.tdiv b)) kb
        unfold rMul; exact vW_ofW (by omega) (by omega)
      have n6 : need (pWW (rOf a) (rMul (wi (a.tdiv b)) b)) = some () := need_t (by simp [pWW, rOf, rMul, okW_ofW])
      have e5 : rSub (rOf a) (rMul (wi (a.tdiv b)) b) = ofW (a - wi (a.tdiv b) * b) := by unfold rSub; rw [e1, hv]
      simp only [show ((9 : Int) == 8) = false from rfl, show ((9 : Int) == 9) = true from rfl, cond_false, cond_true, show (b == 0) = false by simpa using h0, Option.bind_some, quo_eq ka kb h0, n5, n6, e5, rlow_any, rem_eq ka kb h0, h0, if_false]
      rfl
  have g8 : (op == 8) = false := by simpa using h8
  have g9 : (op == 9) = false := by simpa using h9
  simp only [g8, g9, cond_false, Option.bind_some, if_neg h8, if_neg h9]
  have c1 : decide (cmpI (a - b) 0 < 0) = decide (a < b) := by
    unfold cmpI; by_cases c : a < b
    · rw [if_pos (by omega), decide_eq_true c]; rfl
    · rw [if_neg (by omega), decide_eq_false c]; split <;> rfl
  have c2 : decide (cmpI (a - b) 0 ≤ 0) = decide (a ≤ b) := by
    unfold cmpI; by_cases c : a < b
    · rw [if_pos (by omega), decide_eq_true (show a ≤ b by omega)]; rfl
    · rw [if_neg (by omega)]
      by_cases c3 : a = b
      · rw [if_neg (by omega), decide_eq_true (show a ≤ b by omega)]; rfl
      · rw [if_pos (by omega), decide_eq_false (show ¬ a ≤ b by omega)]; rfl
  have c3 : (cmpI (a - b) 0 == 0) = (a == b) := by
    unfold cmpI; by_cases c : a < b
    · rw [if_pos (by omega), show (a == b) = false by rw [beq_eq_false_iff_ne]; omega]; rfl
    · rw [if_neg (by omega)]
      by_cases c3 : a = b
      · rw [if_neg (by omega), show (a == b) = true by rw [beq_iff_eq]; exact c3]; rfl
      · rw [if_pos (by omega), show (a == b) = false by rw [beq_eq_false_iff_ne]; omega]; rfl
  have c4 : (cmpI (a - b) 0 != 0) = (a != b) := by unfold bne; rw [c3]
  rw [c1, c2, c3, c4]
  by_cases h12 : op = 12
  · subst h12; simp
  by_cases h13 : op = 13
  · subst h13; simp
  by_cases h14 : op = 14
  · subst h14; simp
  by_cases h15 : op = 15
  · subst h15; simp
  by_cases h16 : op = 16
  · subst h16; cases hc : (a != 0) <;> simp [hc]
  by_cases h17 : op = 17
  · subst h17; cases hc : (a != 0) <;> simp [hc]
  have g12 : (op == 12) = false := by simpa using h12
  have g13 : (op == 13) = false := by simpa using h13
  have g14 : (op == 14) = false := by simpa using h14
  have g15 : (op == 15) = false := by simpa using h15
  have g16 : (op == 16) = false := by simpa using h16
  have g17 : (op == 17) = false := by simpa using h17
  rw [g12, g13, g14, g15, g16, g17]
  simp [h12, h13, h14, h15, h16, h17]
end Go.Proofs.Ytjbpfgknhpdkaaa.Ab
/- Layer 6: sizes, factors, what is left of a wide number. -/
namespace Go.Proofs.Ytjbpfgknhpdkaaa.Ab
open Go Go.RowKit Go.Shelf Go.Proofs.Ytjbpfgknhpdkaaa
set_option linter.all false
theorem emod_is {z m r : Int} (h0 : 0 ≤ r) (h1 : r < m) (k : m ∣ z - r) : z % m = r := by
  have h := Int.emod_eq_emod_iff_emod_sub_eq_zero.2 (Int.emod_eq_zero_of_dvd k)
  rw [h, Int.emod_eq_of_lt h0 h1]
def okM (m : Int) : Prop := 0 ≤ m ∧ m < 9223372036854775808
theorem okM_i {m : Int} (h : okM m) : I64 m := by unfold okM at h; unfold I64; omega
theorem gcd_okM {a b : Int} (ha : okM a) (hb : okM b) : okM (Int.gcd a b : Int) := by
  unfold okM at *
  refine ⟨by omega, ?_⟩
  by_cases h0 : a = 0
  · subst h0; rw [Int.gcd_zero_left]; omega
  · have := Int.le_of_dvd (show 0 < a by omega) (show (Int.gcd a b : Int) ∣ a from Int.gcd_dvd_left ..)
    omega
theorem pgcd_eq {a b : Int} (ha : okM a) (hb : okM b) : residue_gcd a b = some (Int.gcd a b : Int) := by
  have hg := gcd_okM ha hb
  unfold okM at *
  unfold residue_gcd
  rw [u64w ha.1 (by omega), u64w hb.1 (by omega), gcd_eq _ _ ha.1 hb.1]
  simp only [Option.bind_some]
  rw [w64 (by unfold I64; omega)]
theorem qgcd_eq {a b : Int} (ha : okM a) (hb : okM b) : r06_gcd a b = some (Int.gcd a b : Int) := by
  have hg := gcd_okM ha hb
  unfold okM at *
  unfold r06_gcd
  rw [u64w ha.1 (by omega), u64w hb.1 (by omega), rgcd_eq _ _ ha.1 hb.1 (by omega) (by omega)]
  simp only [Option.bind_some]
  rw [w64 (by unfold I64; omega)]
theorem psize_eq {n : Int} (h : I64 n) : residue_size n = some (n.natAbs : Int) := by
  unfold residue_size
  unfold I64 at h
  by_cases c : n < 0
  · rw [decide_eq_true c]
    simp only [cond_true]
    rw [IntKind.wrap_u64, IntKind.wrap_u64]
    congr 1; omega
  · rw [decide_eq_false c]
    simp only [cond_false]
    rw [IntKind.wrap_u64]
    congr 1; omega
theorem rapart_eq {a b : Int} (ha : I64 a) (hb : I64 b) : r05_Apart a b = some ((a - b).natAbs : Int) := by
  have e1 : vW (rOf a) = a := vW_of ha
  have e2 : vW (rOf b) = b := vW_of hb
  have n1 : need (pI a) = some () := need_t (okI_of ha)
  have n2 : need (pI b) = some () := need_t (okI_of hb)
  have n3 : need (pWW (rOf a) (rOf b)) = some () := need_t (by simp [pWW, rOf, okW_ofW])
  have n4 : need (pWW (rOf b) (rOf a)) = some () := need_t (by simp [pWW, rOf, okW_ofW])
  unfold r05_Apart
  simp only [n1, n2, n3, n4, Option.bind_some]
  unfold rSub
  rw [e1, e2]
  unfold I64 at *
  by_cases c : b ≤ a
  · rw [decide_eq_true c]
    show some (loW (a - b)) = _
    unfold loW; congr 1; omega
  · rw [decide_eq_false c]
    show some (loW (b - a)) = _
    unfold loW; congr 1; omega
theorem qsize_eq {n : Int} (h : I64 n) : r06_size n = some (n.natAbs : Int) := by
  unfold r06_size
  rw [rapart_eq h i64_0]
  simp
/-- A product of two ints. -/
def midZ (z : Int) : Prop := -85070591730234615865843651857942052864 ≤ z ∧ z ≤ 85070591730234615865843651857942052864
theorem hi_mid {z : Int} (h : midZ z) : hiW z = z / 18446744073709551616 := by
  unfold midZ at h
  unfold hiW wrap64; omega
theorem lo_mid {z : Int} : 0 ≤ loW z ∧ loW z < 18446744073709551616 := by unfold loW; omega
theorem ofW_parts (z : Int) : (ofW z).gHi = hiW z ∧ (ofW z).gLo = loW z := ⟨rfl, rfl⟩
theorem neg_left {z m r : Int} (hm : 0 < m) (hr : r = (-z) % m) : (bif decide (0 < r) then m - r else r) = z % m := by
  have h0 := Int.emod_nonneg (-z) (show m ≠ 0 by omega)
  have h1 := Int.emod_lt_of_pos (-z) hm
  have h2 := Int.emod_add_mul_ediv (-z) m
  rw [← hr] at h0 h1 h2
  generalize (-z) / m = q at *
  by_cases c : 0 < r
  · rw [decide_eq_true c, cond_true]
    exact (emod_is (by omega) (by omega) ⟨-q - 1, by rw [Int.mul_sub, Int.mul_neg, Int.mul_one]; omega⟩).symm
  · rw [decide_eq_false c, cond_false]
    exact (emod_is (by omega) (by omega) ⟨-q, by rw [Int.mul_neg]; omega⟩).symm
theorem pleft_eq {z m : Int} (hz : midZ z) (hm : 0 < m) (km : m < 9223372036854775808) : residue_left (ofW z) m = some (z % m) := by
  have core : ∀ y : Int, 0 ≤ y → midZ y → ∃ q, math_bits_Div64 ((IntKind.u64.wrap (hiW y)).tmod m) (loW y) m = some (q, y % m) := by
    intro y hy ky
    have hh := hi_mid ky
    have hl := lo_mid (z := y)
    have h0 : 0 ≤ y / 18446744073709551616 := Int.ediv_nonneg hy (by omega)
    rw [hh, u64w h0 (by unfold midZ at ky; omega), Int.tmod_eq_emod_of_nonneg h0]
    have g0 := Int.emod_nonneg (y / 18446744073709551616) (show m ≠ 0 by omega)
    have g1 := Int.emod_lt_of_pos (y / 18446744073709551616) hm
    obtain ⟨q, hq⟩ := div64_eq g0 g1 hl.1 hl.2 (by omega)
    refine ⟨q, ?_⟩
    rw [hq]
    have g2 := Int.emod_add_mul_ediv (y / 18446744073709551616) m
    have : y = y / 18446744073709551616 % m * 18446744073709551616 + loW y + m * (y / 18446744073709551616 / m * 18446744073709551616) := by
      rw [← Int.mul_assoc]; unfold loW; omega
    conv => rhs; rw [this, Int.add_mul_emod_self_left]
  unfold residue_left
  have wm : IntKind.u64.wrap m = m := u64w (by omega) (by omega)
  simp only [wm]
  show Option.bind (bif decide (hiW z < 0) then _ else some (hiW z, loW z)) _ = _
  have hh := hi_mid hz
  by_cases c : z < 0
  · have hc : hiW z < 0 := by rw [hh]; omega
    have nm : midZ (-z) := by unfold midZ at *; omega
    obtain ⟨q, hq⟩ := core (-z) (by omega) nm
    have hv : vW (ofW z) = z := vW_ofW (by unfold midZ at hz; omega) (by unfold midZ at hz; omega)
    have en : wNeg (ofW z) = ofW (-z) := by unfold wNeg; rw [hv]
    rw [decide_eq_true hc, cond_true, need_bind (show pW (ofW z) = true from okW_ofW _), en]
    simp only [Option.bind_some]
    show (need (m != 0)).bind (fun _ => (math_bits_Div64 ((IntKind.u64.wrap (hiW (-z))).tmod m) (loW (-z)) m).bind _) = _
    rw [need_ne (show m ≠ 0 by omega), hq]
    have hhz : decide ((ofW z).gHi < 0) = true := decide_eq_true hc
    simp only [Option.bind_some, hhz, cond_true]
    have hn := neg_left hm (z := z) rfl
    have r0 := Int.emod_nonneg (-z) (show m ≠ 0 by omega)
    have r1 := Int.emod_lt_of_pos (-z) hm
    rw [← hn]
    generalize (-z) % m = r at *
    by_cases cr : 0 < r
    · rw [decide_eq_true cr, cond_true, cond_true, u64w (by omega) (by omega), w64 (by unfold I64; omega)]
    · rw [decide_eq_false cr, cond_false, cond_false, w64 (by unfold I64; omega)]
  · have hc : ¬ hiW z < 0 := by rw [hh]; omega
    obtain ⟨q, hq⟩ := core z (by omega) hz
    rw [decide_eq_false hc, cond_false]
    simp only [Option.bind_some]
    rw [need_ne (show m ≠ 0 by omega), hq]
    have hhz : decide ((ofW z).gHi < 0) = false := decide_eq_false hc
    simp only [Option.bind_some, hhz, cond_false]
    have r0 := Int.emod_nonneg z (show m ≠ 0 by omega)
    have r1 := Int.emod_lt_of_pos z hm
    rw [w64 (by unfold I64; omega)]
end Go.Proofs.Ytjbpfgknhpdkaaa.Ab
/- Layer 6: the document's left, bit by bit. -/
namespace Go.Proofs.Ytjbpfgknhpdkaaa.Ab
open Go Go.RowKit Go.Shelf Go.Proofs.Ytjbpfgknhpdkaaa
set_option linter.all false
def digs (lo hi : Int) : T8Uint64 := ⟨lo % 65536, lo / 65536 % 65536, lo / 4294967296 % 65536, lo / 281474976710656 % 65536, hi % 65536, hi / 65536 % 65536, hi / 4294967296 % 65536, hi / 281474976710656 % 65536⟩
theorem u65 {x y : Int} (h : 0 ≤ x) (k : x < 18446744073709551616) (e : x / 65536 = y) : IntKind.u64.wrap (x.tdiv 65536) = y := by
  rw [Int.tdiv_eq_ediv_of_nonneg h, u64w (Int.ediv_nonneg h (by decide)) (by omega), e]
theorem m65 {x : Int} (h : 0 ≤ x) : x.tmod 65536 = x % 65536 := Int.tmod_eq_emod_of_nonneg h
theorem digits_eq {lo hi : Int} (h0 : 0 ≤ lo) (h1 : lo < 18446744073709551616) (k0 : 0 ≤ hi) (k1 : hi < 9223372036854775808) : r01_Digits ⟨hi, lo⟩ = some (digs lo hi) := by
  unfold r01_Digits
  have wh : IntKind.u64.wrap hi = hi := u64w k0 (by omega)
  have c1 : IntKind.i64.wrap 1 = 1 := by decide
  have c2 : IntKind.i64.wrap 2 = 2 := by decide
  have c3 : IntKind.i64.wrap 3 = 3 := by decide
  have c4 : IntKind.i64.wrap 4 = 4 := by decide
  have c5 : IntKind.i64.wrap 5 = 5 := by decide
  have c6 : IntKind.i64.wrap 6 = 6 := by decide
  have c7 : IntKind.i64.wrap 7 = 7 := by decide
  have l0 := u65 h0 h1 (y := lo / 65536) rfl
  have l1 := u65 (x := lo / 65536) (by omega) (by omega) (y := lo / 4294967296) (by omega)
  have l2 := u65 (x := lo / 4294967296) (by omega) (by omega) (y := lo / 281474976710656) (by omega)
  have g0 := u65 k0 (by omega) (y := hi / 65536) rfl
  have g1 := u65 (x := hi / 65536) (by omega) (by omega) (y := hi / 4294967296) (by omega)
  have g2 := u65 (x := hi / 4294967296) (by omega) (by omega) (y := hi / 281474976710656) (by omega)
  have ml0 := m65 h0
  have ml1 := m65 (x := lo / 65536) (by omega)
  have ml2 := m65 (x := lo / 4294967296) (by omega)
  have ml3 := m65 (x := lo / 281474976710656) (by omega)
  have mg0 := m65 k0
  have mg1 := m65 (x := hi / 65536) (by omega)
  have mg2 := m65 (x := hi / 4294967296) (by omega)
  have mg3 := m65 (x := hi / 281474976710656) (by omega)
  simp only [wh]
  rw [loopM_next (s' := (lo / 65536, hi / 65536, 1, lo % 65536, 0, 0, 0, hi % 65536, 0, 0, 0)) (by simp [inA, need, putA, c1, c4, l0, g0, ml0, mg0])]
  rw [loopM_next (s' := (lo / 4294967296, hi / 4294967296, 2, lo % 65536, lo / 65536 % 65536, 0, 0, hi % 65536, hi / 65536 % 65536, 0, 0)) (by simp [inA, need, putA, c2, c5, l1, g1, ml1, mg1])]
  rw [loopM_next (s' := (lo / 281474976710656, hi / 281474976710656, 3, lo % 65536, lo / 65536 % 65536, lo / 4294967296 % 65536, 0, hi % 65536, hi / 65536 % 65536, hi / 4294967296 % 65536, 0)) (by simp [inA, need, putA, c3, c6, l2, g2, ml2, mg2])]
  rw [loopM_next (s' := (IntKind.u64.wrap ((lo / 281474976710656).tdiv 65536), IntKind.u64.wrap ((hi / 281474976710656).tdiv 65536), 4, lo % 65536, lo / 65536 % 65536, lo / 4294967296 % 65536, lo / 281474976710656 % 65536, hi % 65536, hi / 65536 % 65536, hi / 4294967296 % 65536, hi / 281474976710656 % 65536)) (by simp [inA, need, putA, c4, c7, ml3, mg3])]
  rw [loopM_done (t := (lo % 65536, lo / 65536 % 65536, lo / 4294967296 % 65536, lo / 281474976710656 % 65536, hi % 65536, hi / 65536 % 65536, hi / 4294967296 % 65536, hi / 281474976710656 % 65536)) (by simp)]
  rfl
theorem digit_at {lo hi W : Int} (h0 : 0 ≤ lo) (h1 : lo < 18446744073709551616) (k0 : 0 ≤ hi) (k1 : hi < 9223372036854775808) (e : W = hi * 18446744073709551616 + lo) {k : Nat} (hk : k < 8) :
    idx [(digs lo hi).g0, (digs lo hi).g1, (digs lo hi).g2, (digs lo hi).g3, (digs lo hi).g4, (digs lo hi).g5, (digs lo hi).g6, (digs lo hi).g7] (k : Int) = some (W / 65536 ^ k % 65536) := by
  rw [idx_nat]
  unfold digs
  match k, hk with
  | 0, _ => simp; omega
  | 1, _ => simp; omega
  | 2, _ => simp; omega
  | 3, _ => simp; omega
  | 4, _ => simp; omega
  | 5, _ => simp; omega
  | 6, _ => simp; omega
  | 7, _ => simp; omega
theorem bit_in {x : Int} {j : Nat} (h : j < 16) : x % 65536 / 2 ^ j % 2 = x / 2 ^ j % 2 := by
  match j, h with
  | 0, _ => simp
  | 1, _ => simp; omega
  | 2, _ => simp; omega
  | 3, _ => simp; omega
  | 4, _ => simp; omega
  | 5, _ => simp; omega
  | 6, _ => simp; omega
  | 7, _ => simp; omega
  | 8, _ => simp; omega
  | 9, _ => simp; omega
  | 10, _ => simp; omega
  | 11, _ => simp; omega
  | 12, _ => simp; omega
  | 13, _ => simp; omega
  | 14, _ => simp; omega
  | 15, _ => simp; omega
  | n + 16, h => exact absurd h (by omega)
theorem bit_at {W : Int} (i : Nat) : W / 65536 ^ (i / 16) % 65536 / 2 ^ (i % 16) % 2 = W / 2 ^ i % 2 := by
  rw [bit_in (Nat.mod_lt _ (by decide))]
  have e1 : (65536 : Int) ^ (i / 16) = 2 ^ (16 * (i / 16)) := by rw [Int.pow_mul]; rfl
  have e2 : W / 65536 ^ (i / 16) / 2 ^ (i % 16) = W / 2 ^ i := by
    rw [e1, Int.ediv_ediv_of_nonneg (Int.le_of_lt (Int.pow_pos (by decide))), ← Int.pow_add, Nat.div_add_mod]
  rw [e2]
theorem half (W : Int) (i : Nat) : W / 2 ^ i = 2 * (W / 2 ^ (i + 1)) + W / 2 ^ i % 2 := by
  have : W / 2 ^ (i + 1) = W / 2 ^ i / 2 := by
    rw [Int.ediv_ediv_of_nonneg (Int.le_of_lt (Int.pow_pos (by decide))), Int.pow_succ]
  rw [this]; omega
theorem dbl {x b m : Int} (hm : 0 < m) (h0 : 0 ≤ b) (h1 : b ≤ 1) : (bif decide (m ≤ 2 * (x % m) + b) then 2 * (x % m) + b - m else 2 * (x % m) + b) = (2 * x + b) % m := by
  have r0 := Int.emod_nonneg x (show m ≠ 0 by omega)
  have r1 := Int.emod_lt_of_pos x hm
  have r2 := Int.emod_add_mul_ediv x m
  generalize x % m = r at *
  generalize x / m = q at *
  by_cases c : m ≤ 2 * r + b
  · rw [decide_eq_true c, cond_true]
    exact (emod_is (by omega) (by omega) ⟨2 * q + 1, by rw [Int.mul_add, Int.mul_one, Int.mul_left_comm]; omega⟩).symm
  · rw [decide_eq_false c, cond_false]
    exact (emod_is (by omega) (by omega) ⟨2 * q, by rw [Int.mul_left_comm]; omega⟩).symm
theorem qloop {lo hi W m : Int} (h0 : 0 ≤ lo) (h1 : lo < 18446744073709551616) (k0 : 0 ≤ hi) (k1 : hi < 9223372036854775808) (e : W = hi * 18446744073709551616 + lo) (hm : 0 < m) (km : m < 9223372036854775808) :
    loopM (fun (s28 : Int × Int) => (bif (decide ((0 : Int) ≤ s28.2)) then ((need (inA (IntKind.i64.wrap (s28.2.tdiv (16 : Int))) 8)).bind fun x40 => ((idx [(digs lo hi).g0, (digs lo hi).g1, (digs lo hi).g2, (digs lo hi).g3, (digs lo hi).g4, (digs lo hi).g5, (digs lo hi).g6, (digs lo hi).g7] (IntKind.i64.wrap (s28.2.tdiv (16 : Int)))).bind fun x41 => ((need (decide (0 ≤ (IntKind.u64.wrap (s28.2.tmod (16 : Int)))))).bind fun x42 => (bif (decide (m ≤ (IntKind.u64.wrap ((IntKind.u64.wrap ((2 : Int) * s28.1)) + ((shI .shr .u64 x41 (IntKind.u64.wrap (s28.2.tmod (16 : Int)))).tmod (2 : Int)))))) then some (.next ((IntKind.u64.wrap ((IntKind.u64.wrap ((IntKind.u64.wrap ((2 : Int) * s28.1)) + ((shI .shr .u64 x41 (IntKind.u64.wrap (s28.2.tmod (16 : Int)))).tmod (2 : Int)))) - m)), (IntKind.i64.wrap (s28.2 - (1 : Int))))) else some (.next ((IntKind.u64.wrap ((IntKind.u64.wrap ((2 : Int) * s28.1)) + ((shI .shr .u64 x41 (IntKind.u64.wrap (s28.2.tmod (16 : Int)))).tmod (2 : Int)))), (IntKind.i64.wrap (s28.2 - (1 : Int))))))))) else some (.done s28.1))) ((0 : Int), (127 : Int)) = some (W % m) := by
  have hW : 0 ≤ W ∧ W < 170141183460469231731687303715884105728 := by omega
  refine loopM_eq (fun s => ∃ n : Nat, s.2 = (n : Int) - 1 ∧ n ≤ 128 ∧ s.1 = W / 2 ^ n % m) (fun s => (s.2 + 1).toNat) (fun _ => W % m) ?_ _ ⟨128, rfl, Nat.le_refl _, ?_⟩
  · rintro ⟨r, i⟩ ⟨n, e1, e2, e3⟩
    simp only at e1 e2 e3 ⊢
    match n, e2 with
    | 0, _ =>
      right
      subst e1; subst e3
      simp
    | k + 1, e2 =>
      left
      have ei : i = (k : Int) := by omega
      subst ei
      have hb := bit_at (W := W) k
      have hh := half W k
      have hx := Int.emod_nonneg (W / 2 ^ (k + 1)) (show m ≠ 0 by omega)
      have hx2 := Int.emod_lt_of_pos (W / 2 ^ (k + 1)) hm
      have d0 : (k : Int).tdiv 16 = ((k / 16 : Nat) : Int) := by rw [Int.tdiv_eq_ediv_of_nonneg (by omega)]; omega
      have d1 : (k : Int).tmod 16 = ((k % 16 : Nat) : Int) := by rw [Int.tmod_eq_emod_of_nonneg (by omega)]; omega
      have w0 : IntKind.i64.wrap ((k / 16 : Nat) : Int) = ((k / 16 : Nat) : Int) := w64 (by unfold I64; omega)
      have w1 : IntKind.u64.wrap ((k % 16 : Nat) : Int) = ((k % 16 : Nat) : Int) := u64w (by omega) (by omega)
      have w2 : IntKind.i64.wrap ((k : Int) - 1) = (k : Int) - 1 := w64 (by unfold I64; omega)
      have hI : need (inA ((k / 16 : Nat) : Int) 8) = some () := need_t (inA_of (by omega) (by omega))
      have hJ : need (decide (0 ≤ ((k % 16 : Nat) : Int))) = some () := need_t (by simp only [decide_eq_true_eq]; omega)
      have hd := digit_at h0 h1 k0 k1 e (k := k / 16) (by omega)
      have hs : (shI .shr .u64 (W / 65536 ^ (k / 16) % 65536) ((k % 16 : Nat) : Int)).tmod 2 = W / 2 ^ k % 2 := by
        rw [shr_eq _ (by omega), Int.tmod_eq_emod_of_nonneg (Int.ediv_nonneg (Int.emod_nonneg _ (by decide)) (Int.le_of_lt (Int.pow_pos (by decide)))), hb]
      have hbit : 0 ≤ W / 2 ^ k % 2 ∧ W / 2 ^ k % 2 ≤ 1 := by omega
      have hdbl := dbl (x := W / 2 ^ (k + 1)) hm hbit.1 hbit.2
      rw [← hh] at hdbl
      subst e3
      rw [decide_eq_true (show (0 : Int) ≤ (k : Int) by omega)]
      simp only [cond_true, d0, d1, w0, w1, w2, hI, hJ, hd, hs, Option.bind_some]
      have v1 : IntKind.u64.wrap (2 * (W / 2 ^ (k + 1) % m)) = 2 * (W / 2 ^ (k + 1) % m) := u64w (by omega) (by omega)
      have v2 : IntKind.u64.wrap (2 * (W / 2 ^ (k + 1) % m) + W / 2 ^ k % 2) = 2 * (W / 2 ^ (k + 1) % m) + W / 2 ^ k % 2 := u64w (by omega) (by omega)
      rw [v1, v2]
      by_cases c : m ≤ 2 * (W / 2 ^ (k + 1) % m) + W / 2 ^ k % 2
      · rw [decide_eq_true c] at hdbl ⊢
        simp only [cond_true] at hdbl ⊢
        rw [u64w (by omega) (by omega)]
        exact ⟨_, rfl, ⟨k, by simp only, by omega, by simp only; exact hdbl⟩, by simp only; omega, trivial⟩
      · rw [decide_eq_false c] at hdbl ⊢
        simp only [cond_false] at hdbl ⊢
        exact ⟨_, rfl, ⟨k, by simp only, by omega, by simp only; exact hdbl⟩, by simp only; omega, trivial⟩
  · simp only
    have : W / 2 ^ 128 = 0 := Int.ediv_eq_zero_of_lt hW.1 (by have := hW.2; have e128 : (2 : Int) ^ 128 = 340282366920938463463374607431768211456 := by decide
                                                              omega)
    rw [this]; simp
end Go.Proofs.Ytjbpfgknhpdkaaa.Ab
/- Layer 6: what is left, by the document; the part that is a power of 2. -/
namespace Go.Proofs.Ytjbpfgknhpdkaaa.Ab
open Go Go.RowKit Go.Shelf Go.Proofs.Ytjbpfgknhpdkaaa
set_option linter.all false
theorem qleft_eq {z m : Int} (hz : midZ z) (hm : 0 < m) (km : m < 9223372036854775808) : r06_left (ofW z) m = some (z % m) := by
  have core : ∀ y : Int, 0 ≤ y → midZ y → 0 ≤ loW y ∧ loW y < 18446744073709551616 ∧ 0 ≤ hiW y ∧ hiW y < 9223372036854775808 ∧ y = hiW y * 18446744073709551616 + loW y := by
    intro y hy ky
    have hh := hi_mid ky
    have hl := lo_mid (z := y)
    unfold midZ at ky
    rw [hh]
    refine ⟨hl.1, hl.2, by omega, by omega, ?_⟩
    unfold loW; omega
  have hv : vW (ofW z) = z := vW_ofW (by unfold midZ at hz; omega) (by unfold midZ at hz; omega)
  have n1 : need (pWW (ofW z) ⟨0, 0⟩) = some () := need_t (by simp [pWW, okW_ofW]; rfl)
  have n2 : need (pW (ofW z)) = some () := need_t (okW_ofW _)
  have hc : rCmp (ofW z) ⟨0, 0⟩ = cmpI z 0 := by unfold rCmp; rw [hv]; rfl
  have wm : IntKind.u64.wrap m = m := u64w (by omega) (by omega)
  unfold r06_left
  simp only [n1, n2, hc, wm, Option.bind_some]
  by_cases c : z < 0
  · have en : rNeg (ofW z) = ofW (-z) := by unfold rNeg; rw [hv]
    have nm : midZ (-z) := by unfold midZ at *; omega
    obtain ⟨h0, h1, k0, k1, e⟩ := core (-z) (by omega) nm
    have hs : decide (cmpI z 0 < 0) = true := by unfold cmpI; rw [if_pos c]; rfl
    rw [hs, en]
    simp only [cond_true, Option.bind_some]
    show (r01_Digits ⟨hiW (-z), loW (-z)⟩).bind _ = _
    rw [digits_eq h0 h1 k0 k1]
    simp only [Option.bind_some]
    rw [qloop h0 h1 k0 k1 e hm km]
    simp only [Option.bind_some]
    have hn := neg_left hm (z := z) rfl
    have r0 := Int.emod_nonneg (-z) (show m ≠ 0 by omega)
    have r1 := Int.emod_lt_of_pos (-z) hm
    rw [← hn]
    generalize (-z) % m = r at *
    by_cases cr : 0 < r
    · rw [decide_eq_true cr, cond_true, cond_true, u64w (by omega) (by omega), w64 (by unfold I64; omega)]
    · rw [decide_eq_false cr, cond_false, cond_false, w64 (by unfold I64; omega)]
  · obtain ⟨h0, h1, k0, k1, e⟩ := core z (by omega) hz
    have hs : decide (cmpI z 0 < 0) = false := by unfold cmpI; rw [if_neg c]; split <;> rfl
    rw [hs]
    simp only [cond_false, Option.bind_some]
    show (r01_Digits ⟨hiW z, loW z⟩).bind _ = _
    rw [digits_eq h0 h1 k0 k1]
    simp only [Option.bind_some]
    rw [qloop h0 h1 k0 k1 e hm km]
    simp only [Option.bind_some]
    have r0 := Int.emod_nonneg z (show m ≠ 0 by omega)
    have r1 := Int.emod_lt_of_pos z hm
    rw [w64 (by unfold I64; omega)]
theorem two_odd : ∀ n : Nat, 0 < n → ∃ v t, n = 2 ^ v * (2 * t + 1) := by
  intro n
  induction n using Nat.strongRecOn with
  | _ n ih =>
    intro h
    by_cases c : n % 2 = 0
    · obtain ⟨v, t, e⟩ := ih (n / 2) (by omega) (by omega)
      refine ⟨v + 1, t, ?_⟩
      rw [Nat.pow_succ, Nat.mul_right_comm, ← e]; omega
    · exact ⟨0, n / 2, by rw [Nat.pow_zero]; omega⟩
theorem land_odd {t c : Nat} (h : t &&& c = 0) : (2 * t + 1) &&& (2 * c + 1) = 1 := by
  apply Nat.eq_of_testBit_eq
  intro i
  rw [Nat.testBit_and]
  cases i with
  | zero => simp [Nat.testBit_zero]
  | succ j =>
    rw [Nat.testBit_succ, Nat.testBit_succ, Nat.testBit_succ, show (2 * t + 1) / 2 = t by omega, show (2 * c + 1) / 2 = c by omega, ← Nat.testBit_and, h]
    all_goals simp
theorem land_compl {t n : Nat} (h : t < 2 ^ n) : t &&& (2 ^ n - (t + 1)) = 0 := by
  apply Nat.eq_of_testBit_eq
  intro i
  rw [Nat.testBit_and, Nat.testBit_two_pow_sub_succ h]
  cases t.testBit i <;> simp
theorem land_neg {v t n : Nat} (hv : v ≤ 63) (e : n = 2 ^ v * (2 * t + 1)) (h : n < 9223372036854775808) : n &&& (18446744073709551616 - n) = 2 ^ v := by
  have ht : t < 2 ^ (63 - v) := by
    have h1 : 2 ^ v * (2 * t + 1) < 2 ^ v * 2 ^ (63 - v) := by rw [← Nat.pow_add, show v + (63 - v) = 63 by omega, ← e]; exact h
    have := Nat.lt_of_mul_lt_mul_left h1
    omega
  have e2 : 18446744073709551616 - n = 2 ^ v * (2 * (2 ^ (63 - v) - (t + 1)) + 1) := by
    have h64 : 18446744073709551616 = 2 ^ v * (2 * 2 ^ (63 - v)) := by
      rw [← Nat.pow_succ', ← Nat.pow_add, show v + (63 - v + 1) = 64 by omega]
    rw [h64, e, ← Nat.mul_sub]
    congr 1; omega
  rw [e2, e]
  have := Nat.shiftLeft_and_distrib (a := 2 * t + 1) (b := 2 * (2 ^ (63 - v) - (t + 1)) + 1) (i := v)
  rw [land_odd (land_compl ht), Nat.shiftLeft_eq, Nat.shiftLeft_eq, Nat.shiftLeft_eq, Nat.one_mul] at this
  rw [Nat.mul_comm (2 ^ v), Nat.mul_comm (2 ^ v)]
  exact this.symm
theorem pow_v {v t n : Nat} (e : n = 2 ^ v * (2 * t + 1)) (h : n < 9223372036854775808) : v ≤ 62 ∧ 2 ^ v ≤ n := by
  have h1 : 2 ^ v ≤ n := by rw [e]; exact Nat.le_mul_of_pos_right _ (by omega)
  refine ⟨?_, h1⟩
  by_cases c : v ≤ 62
  · exact c
  · exfalso
    have : 2 ^ 63 ≤ 2 ^ v := Nat.pow_le_pow_right (by decide) (by omega)
    omega
theorem ppart_eq {v t n : Nat} (e : n = 2 ^ v * (2 * t + 1)) (h : n < 9223372036854775808) (hp : 0 < n) : residue_Part (n : Int) = some ((2 ^ v : Nat) : Int) := by
  obtain ⟨hv, hle⟩ := pow_v e h
  unfold residue_Part bitI
  have w : IntKind.i64.wrap (0 - (n : Int)) = -(n : Int) := by rw [IntKind.wrap_i64]; omega
  have b1 : (BitVec.ofInt IntKind.i64.bits (n : Int)).toNat = n := by
    rw [BitVec.toNat_ofInt, show IntKind.i64.bits = 64 by decide]; omega
  have b2 : (BitVec.ofInt IntKind.i64.bits (-(n : Int))).toNat = 18446744073709551616 - n := by
    rw [BitVec.toNat_ofInt, show IntKind.i64.bits = 64 by decide]; omega
  rw [w]
  show some (IntKind.i64.wrap _) = _
  rw [BitVec.toNat_and, b1, b2, land_neg (by omega) e h]
  clear e
  generalize 2 ^ v = q at *
  rw [w64 (by unfold I64; omega)]
theorem qpart_eq {v t n : Nat} (e : n = 2 ^ v * (2 * t + 1)) (h : n < 9223372036854775808) (hp : 0 < n) : r06_Part (n : Int) = some ((2 ^ v : Nat) : Int) := by
  obtain ⟨hv, hle⟩ := pow_v e h
  unfold r06_Part
  rw [show ((n : Int) == 0) = false by rw [beq_eq_false_iff_ne]; omega, u64w (n := (n : Int)) (by omega) (by omega)]
  simp only [cond_false]
  have hl : loopM (fun (s10 : Int × Int) => (bif ((s10.2.tmod (2 : Int)) == (0 : Int)) then some (.next ((IntKind.u64.wrap (s10.1 * (2 : Int))), (IntKind.u64.wrap (s10.2.tdiv (2 : Int))))) else some (.done s10.1))) ((1 : Int), (n : Int)) = some ((2 ^ v : Nat) : Int) := by
    refine loopM_eq (fun s => ∃ j : Nat, j ≤ v ∧ s.1 = ((2 ^ j : Nat) : Int) ∧ s.2 = ((2 ^ (v - j) * (2 * t + 1) : Nat) : Int)) (fun s => s.2.toNat) (fun _ => ((2 ^ v : Nat) : Int)) ?_ _ ⟨0, by omega, rfl, by simp only [Nat.sub_zero]; rw [← e]⟩
    rintro ⟨p, x⟩ ⟨j, j1, j2, j3⟩
    simp only at j2 j3 ⊢
    by_cases c : j = v
    · right
      subst c
      rw [Nat.sub_self, Nat.pow_zero, Nat.one_mul] at j3
      have : (x.tmod 2 == 0) = false := by rw [Int.tmod_eq_emod_of_nonneg (by omega), beq_eq_false_iff_ne]; omega
      rw [this, j2]; rfl
    · left
      have ex : (2 ^ (v - j) * (2 * t + 1) : Nat) = 2 * (2 ^ (v - (j + 1)) * (2 * t + 1)) := by
        rw [show v - j = v - (j + 1) + 1 by omega, Nat.pow_succ, Nat.mul_comm (2 ^ _) 2, Nat.mul_assoc]
      rw [ex] at j3
      have hx0 : 0 < 2 ^ (v - (j + 1)) * (2 * t + 1) := Nat.mul_pos (Nat.two_pow_pos _) (by omega)
      have hxn : 2 * (2 ^ (v - (j + 1)) * (2 * t + 1)) ≤ n := by
        rw [← ex, e]; exact Nat.mul_le_mul_right _ (Nat.pow_le_pow_right (by decide) (by omega))
      have pj : 2 ^ j * 2 ≤ 2 ^ v := by rw [← Nat.pow_succ]; exact Nat.pow_le_pow_right (by decide) (by omega)
      generalize hy : 2 ^ (v - (j + 1)) * (2 * t + 1) = y at *
      have c2 : (x.tmod 2 == 0) = true := by rw [Int.tmod_eq_emod_of_nonneg (by omega), beq_iff_eq]; omega
      have w1 : IntKind.u64.wrap (p * 2) = ((2 ^ (j + 1) : Nat) : Int) := by rw [Nat.pow_succ, j2, u64w (by omega) (by omega)]; omega
      have w2 : IntKind.u64.wrap (x.tdiv 2) = (y : Int) := by rw [Int.tdiv_eq_ediv_of_nonneg (by omega), u64w (by omega) (by omega)]; omega
      rw [c2, cond_true, w1, w2]
      exact ⟨_, rfl, ⟨j + 1, by omega, rfl, by simp only; rw [hy]⟩, by simp only; omega, trivial⟩
  rw [hl]
  simp only [Option.bind_some]
  clear hl e
  generalize 2 ^ v = q at *
  rw [w64 (by unfold I64; omega)]
/-- A number's part, as both have it. -/
theorem part_both {m : Int} (h : okM m) : ∃ p, residue_Part m = some p ∧ r06_Part m = some p ∧ okM p ∧ (0 < m → 0 < p) := by
  by_cases h0 : m = 0
  · subst h0
    exact ⟨0, by unfold residue_Part; decide, rfl, ⟨by decide, by decide⟩, fun q => absurd q (by decide)⟩
  · unfold okM at h
    obtain ⟨n, rfl⟩ := Int.eq_ofNat_of_zero_le h.1
    obtain ⟨v, t, e⟩ := two_odd n (by omega)
    have hp := pow_v e (by omega)
    have := Nat.two_pow_pos v
    exact ⟨_, ppart_eq e (by omega) (by omega), qpart_eq e (by omega) (by omega), ⟨by omega, by omega⟩, fun _ => by omega⟩
theorem part24 : residue_Part 24 = some 8 := ppart_eq (v := 3) (t := 1) (n := 24) (by decide) (by decide) (by decide)
end Go.Proofs.Ytjbpfgknhpdkaaa.Ab
/- Layer 6: both answers are one: sums, differences, products. -/
namespace Go.Proofs.Ytjbpfgknhpdkaaa.Ab
open Go Go.RowKit Go.Shelf Go.Proofs.Ytjbpfgknhpdkaaa
set_option linter.all false
theorem rof_eq {m r : Int} (hm : I64 m) : r06_of m r = some (ofC m r) := by
  unfold r06_of
  rw [rclean_eq _ hm]
  rfl
theorem rall_eq : r06_all = some (ofC 1 0) := by unfold r06_all; rw [rof_eq i64_1]; rfl
theorem call_eq : cong_All = some (ofC 1 0) := by unfold cong_All; rw [of_eq 1 0 i64_1]; rfl
theorem cone_eq (n : Int) : cong_One n = some (ofC 0 n) := by unfold cong_One; rw [of_eq 0 n i64_0]; rfl
theorem okM_0 : okM 0 := ⟨by decide, by decide⟩
theorem lin {op m : Int} {a b : TApiCong} {wr : Bool} {z : Int} (ka : I64 a.gR) (kb : I64 b.gR) (he : exI op a.gR b.gR = (ofW z, true)) (hz : midZ z) (hm : 0 < m) (km : okM m) :
    ∃ k, okM k ∧ 0 < k ∧ r06_cut m wr = some k ∧ residue_linear op m a b wr = some (ofC k (z % k)) ∧ r06_left (ofW z) k = some (z % k) := by
  obtain ⟨p, h1, h2, h3, h4⟩ := part_both km
  have key : ∀ k, okM k → 0 < k → (Option.bind (wrap_Exact op a.gR b.gR) fun x9 => (Option.bind (α := Bool) (bif (!x9.2) then some true else some (k == (0 : Int))) fun y12 => (bif y12 then (cong_All.bind fun x17 => some x17) else ((residue_left x9.1 k).bind fun x19 => ((cong_Of k x19).bind fun x20 => some x20))))) = some (ofC k (z % k)) := by
    intro k hk pk
    rw [wexact_eq ka kb, he]
    have e : (k == 0) = false := by rw [beq_eq_false_iff_ne]; omega
    simp only [Option.bind_some, Bool.not_true, cond_false, e]
    rw [pleft_eq hz pk hk.2]
    simp only [Option.bind_some]
    rw [of_eq _ _ (okM_i hk)]
    rfl
  cases wr
  · refine ⟨m, km, hm, by unfold r06_cut; rfl, ?_, qleft_eq hz hm km.2⟩
    unfold residue_linear
    simp only [cond_false, Option.bind_some]
    exact key m km hm
  · refine ⟨p, h3, h4 hm, by unfold r06_cut; rw [h2]; rfl, ?_, qleft_eq hz (h4 hm) h3.2⟩
    unfold residue_linear
    rw [h1]
    simp only [cond_true, Option.bind_some]
    exact key p h3 (h4 hm)
theorem mid_mul {a b : Int} (ha : I64 a) (hb : I64 b) : midZ (a * b) := by have := mul_rng ha hb; unfold midZ; omega
theorem mid_add {a b : Int} (ha : I64 a) (hb : I64 b) : midZ (a + b) ∧ midZ (a - b) := by unfold I64 at *; unfold midZ; omega
theorem rint_any {z : Int} (h : midZ z) : ∃ v, r01_Int (ofW z) = some (v, okI z) ∧ (okI z = true → v = z) := by
  have hv : vW (ofW z) = z := vW_ofW (by unfold midZ at h; omega) (by unfold midZ at h; omega)
  have l1 : vW (rOf (-9223372036854775808)) = -9223372036854775808 := vW_of (by unfold I64; omega)
  have l2 : vW (rOf 9223372036854775807) = 9223372036854775807 := vW_of (by unfold I64; omega)
  have n1 : need (pI (-9223372036854775808)) = some () := need_t (by decide)
  have n2 : need (pWW (ofW z) (rOf (-9223372036854775808))) = some () := need_t (by simp [pWW, rOf, okW_ofW])
  have n3 : need (pI 9223372036854775807) = some () := need_t (by decide)
  have n4 : need (pWW (ofW z) (rOf 9223372036854775807)) = some () := need_t (by simp [pWW, rOf, okW_ofW])
  unfold r01_Int
  simp only [n1, n2, n3, n4, Option.bind_some]
  unfold rCmp
  rw [hv, l1, l2]
  by_cases h1 : z < -9223372036854775808
  · refine ⟨0, ?_, fun q => ?_⟩
    · rw [cmpI_lt h1, show okI z = false by unfold okI; rw [decide_eq_false (show ¬ -9223372036854775808 ≤ z by omega)]; rfl]; rfl
    · have := okI_i q; unfold I64 at this; omega
  · have e1 : decide (cmpI z (-9223372036854775808) < 0) = false := by unfold cmpI; rw [if_neg h1]; split <;> rfl
    rw [e1]
    by_cases h2 : z ≤ 9223372036854775807
    · have e2 : decide (0 < cmpI z 9223372036854775807) = false := by
        unfold cmpI
        by_cases h3 : z < 9223372036854775807
        · rw [if_pos h3]; rfl
        · rw [if_neg h3, if_neg (by omega)]; rfl
      refine ⟨z, ?_, fun _ => rfl⟩
      rw [e2, okI_of (show I64 z by unfold I64; omega)]
      simp only [cond_false, Option.bind_some]
      congr 2
      show IntKind.i64.wrap (loW z) = z
      rw [IntKind.wrap_i64]; unfold loW; omega
    · have e2 : decide (0 < cmpI z 9223372036854775807) = true := by rw [cmpI_gt (by omega)]; rfl
      refine ⟨0, ?_, fun q => ?_⟩
      · rw [e2, show okI z = false by unfold okI; rw [decide_eq_false (show ¬ z < 9223372036854775808 by omega), Bool.and_false]]; rfl
      · have := okI_i q; unfold I64 at this; omega
theorem pint_any {z : Int} (h : midZ z) : ∃ v, wide_Int (ofW z) = some (v, okI z) ∧ (okI z = true → v = z) := by
  have hw : wLow (ofW z) = wi z := wlow_any z
  have hl : I64 (wi z) := wi_i z
  unfold wide_Int
  rw [need_bind (show pW (ofW z) = true from okW_ofW _), hw, need_bind (show pI (wi z) = true from okI_of hl)]
  have hv : vW (ofW z) = z := vW_ofW (by unfold midZ at h; omega) (by unfold midZ at h; omega)
  by_cases k : I64 z
  · have e : wi z = z := w64 k
    rw [e]
    refine ⟨z, ?_, fun _ => rfl⟩
    have e1 : (wOf z).gHi = (ofW z).gHi := rfl
    have e2 : (wOf z).gLo = (ofW z).gLo := rfl
    simp [e1, e2, okI_of k]
  · have hn : okI z = false := by rw [Bool.eq_false_iff]; exact fun q => k (okI_i q)
    refine ⟨0, ?_, fun q => by rw [hn] at q; cases q⟩
    have hne : ¬ ((wOf (wi z)).gHi = (ofW z).gHi ∧ (wOf (wi z)).gLo = (ofW z).gLo) := by
      rintro ⟨e1, e2⟩
      apply k
      have : vW (wOf (wi z)) = vW (ofW z) := by unfold vW; rw [e1, e2]
      rw [hv, show vW (wOf (wi z)) = wi z from vW_of hl] at this
      rw [← this]; exact hl
    have : ((wOf (wi z)).gHi == (ofW z).gHi && ((wOf (wi z)).gLo == (ofW z).gLo && true)) = false := by
      rw [Bool.eq_false_iff]
      intro q
      simp only [Bool.and_true, Bool.and_eq_true, beq_iff_eq] at q
      exact hne q
    rw [this, hn]; rfl
def scI (m c : Int) : Int := if okI (m * c.natAbs) = true then m * c.natAbs else m
theorem sc_ok {m c : Int} (hm : 0 < m) (km : okM m) (hc : c ≠ 0) : okM (scI m c) ∧ 0 < scI m c := by
  unfold scI
  by_cases h : okI (m * c.natAbs) = true
  · rw [if_pos h]
    have := okI_i h
    have h0 : 0 < m * c.natAbs := Int.mul_pos hm (by omega)
    exact ⟨⟨by omega, this.2⟩, h0⟩
  · rw [if_neg h]; exact ⟨km, hm⟩
theorem pscaled {m c : Int} (hm : 0 < m) (km : okM m) (kc : I64 c) (hc : c ≠ 0) : residue_scaled m c = some (scI m c) := by
  unfold residue_scaled scI
  rw [psize_eq kc]
  simp only [Option.bind_some]
  by_cases h : 9223372036854775807 < (c.natAbs : Int)
  · rw [decide_eq_true h, cond_true]
    have e : (c.natAbs : Int) = 9223372036854775808 := by unfold I64 at kc; omega
    have : ¬ okI (m * c.natAbs) = true := by
      intro q
      have := okI_i q
      rw [e] at this
      unfold I64 at this; omega
    rw [if_neg this]
  · have ic : I64 (c.natAbs : Int) := by unfold I64; omega
    obtain ⟨v, h1, h2⟩ := pint_any (mid_mul (okM_i km) ic)
    rw [decide_eq_false h, cond_false, w64 ic, need_bind (okI_both (okM_i km) ic)]
    show (wide_Int (ofW (m * c.natAbs))).bind _ = _
    rw [h1]
    simp only [Option.bind_some]
    by_cases q : okI (m * c.natAbs) = true
    · rw [if_pos q, q, h2 q]; rfl
    · rw [if_neg q, Bool.eq_false_iff.2 q]; rfl
theorem qscaled {m c : Int} (km : okM m) (kc : I64 c) (K : Int → Option TApiCong) :
    ((need (pII m c)).bind fun x28 => ((r01_Int (rMul m c)).bind fun x29 => (Option.bind (α := Int × Bool) (bif (decide (c < (0 : Int))) then ((need (pII m c)).bind fun x36 => ((need (pW (rMul m c))).bind fun x37 => ((r01_Int (rNeg (rMul m c))).bind fun x38 => some (x38.1, x38.2)))) else some (x29.1, x29.2)) fun y34 => (Option.bind (α := Int) (bif (!y34.2) then some m else some y34.1) fun y40 => K y40)))) = K (scI m c) := by
  have n1 : need (pII m c) = some () := need_t (okI_both (okM_i km) kc)
  have n2 : need (pW (rMul m c)) = some () := need_t (okW_ofW _)
  have mm := mid_mul (okM_i km) kc
  have mn : midZ (-(m * c)) := by unfold midZ at *; omega
  have hv : vW (rMul m c) = m * c := vW_ofW (by unfold midZ at mm; omega) (by unfold midZ at mm; omega)
  have en : rNeg (rMul m c) = ofW (-(m * c)) := by unfold rNeg; rw [hv]
  obtain ⟨v1, h1, h2⟩ := rint_any mm
  obtain ⟨v2, h3, h4⟩ := rint_any mn
  have hr : r01_Int (rMul m c) = some (v1, okI (m * c)) := h1
  simp only [n1, n2, hr, en, h3, Option.bind_some]
  unfold scI
  by_cases c0 : c < 0
  · rw [decide_eq_true c0]
    simp only [cond_true, Option.bind_some]
    have e : m * (c.natAbs : Int) = -(m * c) := by rw [show (c.natAbs : Int) = -c by omega, Int.mul_neg]
    rw [e]
    by_cases q : okI (-(m * c)) = true
    · rw [if_pos q, q, h4 q]; rfl
    · rw [if_neg q, Bool.eq_false_iff.2 q]; rfl
  · rw [decide_eq_false c0]
    simp only [cond_false, Option.bind_some]
    have e : m * (c.natAbs : Int) = m * c := by rw [show (c.natAbs : Int) = c by omega]
    rw [e]
    by_cases q : okI (m * c) = true
    · rw [if_pos q, q, h2 q]; rfl
    · rw [if_neg q, Bool.eq_false_iff.2 q]; rfl
theorem ex7 (a b : Int) : exI 7 a b = (ofW (a * b), true) := by simp [exI]
theorem product_both {x y : TApiCong} {wr : Bool} (kx : okC x) (ky : okC y) (mx : 0 ≤ x.gM) (my : 0 ≤ y.gM) (hn : ¬ (x.gM = 0 ∧ y.gM = 0)) : ∃ c, residue_product x y wr = some c ∧ r06_product x y wr = some c := by
  have ox : okM x.gM := ⟨mx, kx.1.2⟩
  have oy : okM y.gM := ⟨my, ky.1.2⟩
  unfold residue_product r06_product
  rw [need_bind (okI_both kx.2 ky.2)]
  by_cases h0 : x.gM = 0
  · have py : 0 < y.gM := by omega
    have e0 : (x.gM != 0) = false := by simp [h0]
    have e1 : (x.gM == 0) = true := by simp [h0]
    rw [decide_eq_false (show ¬ 0 < x.gM by omega)]
    simp only [e0, cond_false, Option.bind_some]
    unfold residue_alone
    simp only [e1, cond_true, Option.bind_some]
    by_cases r0 : x.gR = 0
    · have e2 : (x.gR == 0) = true := by simp [r0]
      simp only [e2, cond_true, cone_eq, rof_eq i64_0, Option.bind_some]
      exact ⟨_, rfl, rfl⟩
    · have e2 : (x.gR == 0) = false := by simpa using r0
      simp only [e2, cond_false]
      rw [pscaled py oy kx.2 r0, qscaled oy kx.2]
      simp only [Option.bind_some]
      obtain ⟨s1, s2⟩ := sc_ok py oy r0
      obtain ⟨k, l1, l2, l3, l4, l5⟩ := lin (op := 7) (m := scI y.gM x.gR) (a := x) (b := y) (wr := wr) kx.2 ky.2 (ex7 _ _) (mid_mul kx.2 ky.2) s2 s1
      rw [show (⟨x.gSome, x.gM, x.gR⟩ : TApiCong) = x from rfl, show (⟨y.gSome, y.gM, y.gR⟩ : TApiCong) = y from rfl, l3, l4]
      simp only [Option.bind_some]
      rw [show rMul x.gR y.gR = ofW (x.gR * y.gR) from rfl, l5]
      simp only [Option.bind_some]
      rw [rof_eq (okM_i l1)]
      exact ⟨_, rfl, rfl⟩
  · have px : 0 < x.gM := by omega
    have e0 : (x.gM != 0) = true := by simpa using h0
    have e1 : (x.gM == 0) = false := by simpa using h0
    rw [decide_eq_true px]
    by_cases h1 : y.gM = 0
    · have e2 : (y.gM == 0) = true := by simp [h1]
      rw [decide_eq_false (show ¬ 0 < y.gM by omega)]
      simp only [e0, e2, cond_true, cond_false, Option.bind_some]
      unfold residue_alone
      simp only [e2, cond_true, Option.bind_some]
      by_cases r0 : y.gR = 0
      · have e3 : (y.gR == 0) = true := by simp [r0]
        simp only [e3, cond_true, cone_eq, rof_eq i64_0, Option.bind_some]
        exact ⟨_, rfl, rfl⟩
      · have e3 : (y.gR == 0) = false := by simpa using r0
        simp only [e3, cond_false]
        rw [pscaled px ox ky.2 r0, qscaled ox ky.2]
        simp only [Option.bind_some]
        obtain ⟨s1, s2⟩ := sc_ok px ox r0
        obtain ⟨k, l1, l2, l3, l4, l5⟩ := lin (op := 7) (m := scI x.gM y.gR) (a := y) (b := x) (wr := wr) ky.2 kx.2 (ex7 _ _) (mid_mul ky.2 kx.2) s2 s1
        rw [show (⟨x.gSome, x.gM, x.gR⟩ : TApiCong) = x from rfl, show (⟨y.gSome, y.gM, y.gR⟩ : TApiCong) = y from rfl, l3, l4]
        simp only [Option.bind_some]
        rw [show rMul x.gR y.gR = ofW (y.gR * x.gR) by unfold rMul; rw [Int.mul_comm], l5]
        simp only [Option.bind_some]
        rw [rof_eq (okM_i l1)]
        exact ⟨_, rfl, rfl⟩
    · have py : 0 < y.gM := by omega
      have e2 : (y.gM == 0) = false := by simpa using h1
      rw [decide_eq_true py]
      simp only [e0, e2, cond_true, cond_false, Option.bind_some]
      unfold residue_alone
      simp only [e1, cond_false, Option.bind_some]
      rw [pgcd_eq ox oy, qgcd_eq ox oy]
      simp only [Option.bind_some]
      obtain ⟨k, l1, l2, l3, l4, l5⟩ := lin (op := 7) (m := (Int.gcd x.gM y.gM : Int)) (a := x) (b := y) (wr := wr) kx.2 ky.2 (ex7 _ _) (mid_mul kx.2 ky.2) (gcd_pos' px) (gcd_okM ox oy)
      rw [show (⟨x.gSome, x.gM, x.gR⟩ : TApiCong) = x from rfl, show (⟨y.gSome, y.gM, y.gR⟩ : TApiCong) = y from rfl, l3, l4]
      simp only [Option.bind_some]
      rw [show rMul x.gR y.gR = ofW (x.gR * y.gR) from rfl, l5]
      simp only [Option.bind_some]
      rw [rof_eq (okM_i l1)]
      exact ⟨_, rfl, rfl⟩
end Go.Proofs.Ytjbpfgknhpdkaaa.Ab
/- Layer 6: both answers are one. -/
namespace Go.Proofs.Ytjbpfgknhpdkaaa.Ab
open Go Go.RowKit Go.Shelf Go.Proofs.Ytjbpfgknhpdkaaa
set_option linter.all false
theorem alone_eq (c : TApiCong) (n : Int) : residue_alone c n = some ((c.gM == 0) && (c.gR == n)) := by
  unfold residue_alone; cases (c.gM == 0) <;> rfl
theorem tm {a b : Int} (h : 0 ≤ a) : a.tmod b = a % b := Int.tmod_eq_emod_of_nonneg h
theorem quotient_both {x y : TApiCong} {wr : Bool} (kx : okC x) (ky : okC y) (mx : 0 ≤ x.gM) (my : 0 ≤ y.gM) (hz : ¬ (y.gM = 0 ∧ y.gR = 0)) : ∃ c, residue_quotient x y wr = some c ∧
    (Option.bind (α := Bool) (bif (y.gM == (0 : Int)) then (bif (!wr) then ((need ((y.gR.natAbs : Int) != 0)).bind fun x105 => (bif (((IntKind.u64.wrap x.gM).tmod (y.gR.natAbs : Int)) == (0 : Int)) then ((r06_size x.gR).bind fun x107 => ((need ((y.gR.natAbs : Int) != 0)).bind fun x108 => some ((x107.tmod (y.gR.natAbs : Int)) == (0 : Int)))) else some false)) else some false) else some false) fun y102 => (bif y102 then ((need ((y.gR.natAbs : Int) != 0)).bind fun x110 => ((r02_Quotient x.gR y.gR).bind fun x111 => ((r06_of (IntKind.i64.wrap (IntKind.u64.wrap ((IntKind.u64.wrap x.gM).tdiv (y.gR.natAbs : Int)))) x111).bind fun x112 => some x112))) else (r06_all.bind fun x114 => some x114))) = some c := by
  have lx : x.gM < 9223372036854775808 := kx.1.2
  unfold residue_quotient
  rw [psize_eq ky.2, psize_eq kx.2, qsize_eq kx.2, alone_eq]
  have ha : ((y.gM == 0) && (y.gR == 0)) = false := by
    rw [Bool.eq_false_iff]; intro q; simp only [Bool.and_eq_true, beq_iff_eq] at q; exact hz q
  simp only [ha, cond_false, Option.bind_some, call_eq, rall_eq]
  by_cases h0 : y.gM = 0
  · have e0 : (y.gM == 0) = true := by simp [h0]
    have e1 : (y.gM != 0) = false := by simp [h0]
    have hr : y.gR ≠ 0 := fun q => hz ⟨h0, q⟩
    simp only [e0, e1, cond_true, cond_false, Option.bind_some]
    cases wr
    · simp only [Bool.not_false, cond_true, cond_false, need_ne (show (y.gR.natAbs : Int) ≠ 0 by omega), Option.bind_some]
      rw [u64w mx (by omega), tm mx, tm (show 0 ≤ (x.gR.natAbs : Int) by omega)]
      by_cases c1 : x.gM % (y.gR.natAbs : Int) = 0
      · have g1 : (x.gM % (y.gR.natAbs : Int) != 0) = false := by simp [c1]
        have g2 : (x.gM % (y.gR.natAbs : Int) == 0) = true := by simp [c1]
        simp only [g1, g2, cond_true, cond_false, Option.bind_some]
        by_cases c2 : (x.gR.natAbs : Int) % (y.gR.natAbs : Int) = 0
        · have g3 : ((x.gR.natAbs : Int) % (y.gR.natAbs : Int) != 0) = false := by rw [c2]; rfl
          have g4 : ((x.gR.natAbs : Int) % (y.gR.natAbs : Int) == 0) = true := by rw [c2]; rfl
          simp only [g3, g4, cond_true, cond_false, need_ne hr, Option.bind_some]
          rw [quo_eq kx.2 ky.2 hr]
          simp only [Option.bind_some]
          have hi : ∀ n : Int, I64 (IntKind.i64.wrap n) := fun n => wi_i n
          rw [of_eq _ _ (hi _), rof_eq (hi _)]
          exact ⟨_, rfl, rfl⟩
        · have g3 : ((x.gR.natAbs : Int) % (y.gR.natAbs : Int) != 0) = true := by rw [bne_iff_ne]; exact c2
          have g4 : ((x.gR.natAbs : Int) % (y.gR.natAbs : Int) == 0) = false := by rw [beq_eq_false_iff_ne]; exact c2
          simp only [g3, g4, cond_true, cond_false, Option.bind_some]
          exact ⟨_, rfl, rfl⟩
      · have g1 : (x.gM % (y.gR.natAbs : Int) != 0) = true := by rw [bne_iff_ne]; exact c1
        have g2 : (x.gM % (y.gR.natAbs : Int) == 0) = false := by rw [beq_eq_false_iff_ne]; exact c1
        simp only [g1, g2, cond_true, cond_false, Option.bind_some]
        exact ⟨_, rfl, rfl⟩
    · simp only [Bool.not_true, cond_true, cond_false, Option.bind_some]
      exact ⟨_, rfl, rfl⟩
  · have e0 : (y.gM == 0) = false := by simpa using h0
    have e1 : (y.gM != 0) = true := by simpa using h0
    simp only [e0, e1, cond_true, cond_false, Option.bind_some]
    exact ⟨_, rfl, rfl⟩
theorem rest_both {x y : TApiCong} (kx : okC x) (ky : okC y) (mx : 0 ≤ x.gM) (my : 0 ≤ y.gM) (hz : ¬ (y.gM = 0 ∧ y.gR = 0)) : ∃ c, residue_rest x y = some c ∧
    ((r06_gcd x.gM y.gM).bind fun x92 => ((r05_Gcd (IntKind.u64.wrap x92) (y.gR.natAbs : Int)).bind fun x93 => ((r06_of (IntKind.i64.wrap x93) x.gR).bind fun x94 => some x94))) = some c := by
  have ox : okM x.gM := ⟨mx, kx.1.2⟩
  have oy : okM y.gM := ⟨my, ky.1.2⟩
  have og := gcd_okM ox oy
  have lr : (y.gR.natAbs : Int) ≤ 9223372036854775808 := by have := ky.2; unfold I64 at this; omega
  unfold residue_rest
  rw [alone_eq, pgcd_eq ox oy, qgcd_eq ox oy, psize_eq ky.2]
  have ha : ((y.gM == 0) && (y.gR == 0)) = false := by
    rw [Bool.eq_false_iff]; intro q; simp only [Bool.and_eq_true, beq_iff_eq] at q; exact hz q
  simp only [ha, cond_false, Option.bind_some]
  unfold okM at og
  rw [u64w og.1 (by omega), gcd_eq _ _ og.1 (by omega), rgcd_eq _ _ og.1 (by omega) (by omega) (by omega)]
  simp only [Option.bind_some]
  rw [of_eq _ _ (wi_i _), rof_eq (wi_i _)]
  exact ⟨_, rfl, rfl⟩
theorem has_self {x : TApiCong} (cx : clean x) (hs : x.gSome = true) : hasC x x.gR = true := by
  have m0 := clean_m cx hs
  by_cases h : x.gM = 0
  · exact (has_lone hs h _).2 rfl
  · have := clean_r cx hs (by omega)
    exact (has_m hs (by omega) this _).2 ⟨0, by omega⟩
theorem has_some {c : TApiCong} {n : Int} (h : hasC c n = true) : c.gSome = true := by unfold hasC at h; cases e : c.gSome <;> simp [e] at h ⊢
theorem ofC_has {g r n : Int} (hg : 0 < g) (kg : I64 g) : hasC (ofC g r) n = true ↔ g ∣ n - r := by
  have e : (ofC g r).gM = g := by unfold ofC normM; simp only; rw [if_neg (by omega)]
  have hr : (ofC g r).gR = r % g := by
    unfold ofC; simp only
    rw [show normM g = g by unfold normM; rw [if_neg (by omega)]]
    unfold modI; rw [if_neg (by omega)]
  have h0 := Int.emod_nonneg r (show g ≠ 0 by omega)
  have h1 := Int.emod_lt_of_pos r hg
  have h2 := Int.emod_add_mul_ediv r g
  rw [has_m (x := ofC g r) rfl (by rw [e]; exact hg) (by rw [e, hr]; exact ⟨h0, h1⟩), e, hr]
  constructor
  · intro h
    have := Int.dvd_sub h (show g ∣ r - r % g from ⟨r / g, by omega⟩)
    rwa [show n - r % g - (r - r % g) = n - r by omega] at this
  · intro h
    have := Int.dvd_add h (show g ∣ r - r % g from ⟨r / g, by omega⟩)
    rwa [show n - r + (r - r % g) = n - r % g by omega] at this
theorem apart_both {x y : TApiCong} (kx : okC x) (ky : okC y) (mx : 0 ≤ x.gM) (my : 0 ≤ y.gM) (hn : ¬ (x.gM = 0 ∧ y.gM = 0)) :
    residue_apart x y = some ((((x.gR - y.gR).natAbs : Int) % (Int.gcd x.gM y.gM : Int)) != 0) := by
  have ox : okM x.gM := ⟨mx, kx.1.2⟩
  have oy : okM y.gM := ⟨my, ky.1.2⟩
  have og := gcd_okM ox oy
  have gp : 0 < (Int.gcd x.gM y.gM : Int) := by
    have : Int.gcd x.gM y.gM ≠ 0 := by rw [Ne, Int.gcd_eq_zero_iff]; exact hn
    omega
  have ig := okM_i og
  unfold residue_apart
  rw [pgcd_eq ox oy]
  simp only [Option.bind_some]
  rw [of_eq _ _ ig, cone_eq]
  simp only [Option.bind_some]
  generalize (Int.gcd x.gM y.gM : Int) = g at *
  have k1 : okC (ofC g x.gR) := by
    have := norm_ok (c := ⟨true, g, x.gR⟩) ⟨ig, kx.2⟩
    exact this
  have k2 : okC (ofC 0 y.gR) := by
    have := norm_ok (c := ⟨true, 0, y.gR⟩) ⟨i64_0, ky.2⟩
    exact this
  have c1 : clean (ofC g x.gR) := clean_ofC
  have c2 : clean (ofC 0 y.gR) := clean_ofC
  obtain ⟨c, hc, M⟩ := meet_eq k1 k2
  unfold clean at c1 c2
  rw [c1, c2] at M
  rw [hc]
  simp only [Option.bind_some]
  unfold cong_None
  simp only [Option.bind_some]
  have h2 : ∀ n, hasC (ofC 0 y.gR) n = true ↔ n = y.gR := fun n => has_lone (x := ofC 0 y.gR) rfl rfl n
  have h1 := fun n => ofC_has (r := x.gR) (n := n) gp ig
  congr 1
  by_cases hd : g ∣ x.gR - y.gR
  · have hh := M.lost y.gR ((h1 _).2 (by have := Int.dvd_neg.2 hd; rwa [Int.neg_sub] at this)) ((h2 _).2 rfl)
    rw [has_some hh, Int.emod_eq_zero_of_dvd ((dvd_abs _ _).2 hd)]; rfl
  · have hns : c.gSome = false := by
      cases e : c.gSome
      · rfl
      · exfalso
        have := (M.fit (fun _ h => absurd h (by show ¬ (0 : Int) < 0; omega))).2.2 _ (has_self M.cl e)
        have e2 := (h2 _).1 this.2
        have e3 := (h1 _).1 this.1
        rw [e2] at e3
        apply hd
        have := Int.dvd_neg.2 e3
        rwa [Int.neg_sub] at this
    have : ((((x.gR - y.gR).natAbs : Int) % g) != 0) = true := by
      rw [bne_iff_ne]
      intro e
      exact hd ((dvd_abs _ _).1 (Int.dvd_of_emod_eq_zero e))
    rw [hns, this]; rfl
end Go.Proofs.Ytjbpfgknhpdkaaa.Ab
/- Layer 6: the laws. -/
namespace Go.Proofs.Ytjbpfgknhpdkaaa.Ab
open Go Go.RowKit Go.Shelf Go.Proofs.Ytjbpfgknhpdkaaa
set_option linter.all false
theorem compare_both {op : Int} {x y : TApiCong} (kx : okC x) (ky : okC y) (cx : clean x) (cy : clean y) (mx : 0 ≤ x.gM) (my : 0 ≤ y.gM) (hn : ¬ (x.gM = 0 ∧ y.gM = 0)) (h1 : 12 ≤ op) (h2 : op ≤ 17) :
    ∃ c, residue_compare op x y = some c ∧ r06_truth op x y = some c := by
  have ox : okM x.gM := ⟨mx, kx.1.2⟩
  have oy : okM y.gM := ⟨my, ky.1.2⟩
  have og := gcd_okM ox oy
  have gp : 0 < (Int.gcd x.gM y.gM : Int) := by
    have : Int.gcd x.gM y.gM ≠ 0 := by rw [Ne, Int.gcd_eq_zero_iff]; exact hn
    omega
  unfold clean at cx cy
  have e9 : (bif (x.gM == (0 : Int)) then (bif (y.gM == (0 : Int)) then some ((x.gR == (0 : Int)), (y.gR == (0 : Int))) else some ((x.gR == (0 : Int)), false)) else (bif (y.gM == (0 : Int)) then some (false, (y.gR == (0 : Int))) else some (false, false))) = some ((x.gM == 0) && (x.gR == 0), (y.gM == 0) && (y.gR == 0)) := by
    cases (x.gM == 0) <;> cases (y.gM == 0) <;> rfl
  unfold residue_compare r06_truth
  simp only [rhas_eq kx, rhas_eq ky, has_eq kx, has_eq ky, cx, cy, e9, qgcd_eq ox oy, rapart_eq kx.2 ky.2, apart_both kx ky mx my hn, alone_eq, cone_eq, call_eq, rall_eq, rof_eq i64_0, Option.bind_some, u64w og.1 (by unfold okM at og; omega), need_ne (show (Int.gcd x.gM y.gM : Int) ≠ 0 by omega), tm (show 0 ≤ ((x.gR - y.gR).natAbs : Int) by omega)]
  generalize ((((x.gR - y.gR).natAbs : Int) % (Int.gcd x.gM y.gM : Int)) != 0) = ap
  generalize hasC x 0 = hx
  generalize hasC y 0 = hy
  generalize ((x.gM == 0) && (x.gR == 0)) = ax
  generalize ((y.gM == 0) && (y.gR == 0)) = ay
  have hop : op = 12 ∨ op = 13 ∨ op = 14 ∨ op = 15 ∨ op = 16 ∨ op = 17 := by omega
  rcases hop with rfl | rfl | rfl | rfl | rfl | rfl
  · exact ⟨_, rfl, rfl⟩
  · exact ⟨_, rfl, rfl⟩
  · cases ap <;> exact ⟨_, rfl, rfl⟩
  · cases ap <;> exact ⟨_, rfl, rfl⟩
  · cases ax <;> cases ay <;> cases hx <;> cases hy <;> exact ⟨_, rfl, rfl⟩
  · cases hx <;> cases hy <;> exact ⟨_, rfl, rfl⟩
theorem compare_no {op : Int} {x y : TApiCong} (h : op < 12 ∨ 17 < op) : residue_compare op x y = some ⟨false, 0, 0⟩ := by
  unfold residue_compare
  have g : ∀ n : Int, 12 ≤ n → n ≤ 17 → (op == n) = false := fun n a b => by rw [beq_eq_false_iff_ne]; omega
  simp only [g 15 (by decide) (by decide), g 14 (by decide) (by decide), g 16 (by decide) (by decide), g 17 (by decide) (by decide), g 12 (by decide) (by decide), g 13 (by decide) (by decide), cond_false, Option.bind_some]
theorem do_both {op : Int} {a b : TApiCong} {wr : Bool} (ka : okC a) (kb : okC b) : ∃ c, residue_Do op a b wr = some c ∧ r06_Do op a b wr = some c := by
  have kx := norm_ok ka
  have ky := norm_ok kb
  have cx : clean (norm a) := norm_norm a
  have cy : clean (norm b) := norm_norm b
  unfold residue_Do r06_Do
  rw [clean_eq a ka.1, clean_eq b kb.1, rclean_eq a ka.1, rclean_eq b kb.1]
  generalize norm a = x at *
  generalize norm b = y at *
  unfold cong_None
  simp only [Option.bind_some]
  cases hx : x.gSome
  · exact ⟨_, rfl, rfl⟩
  cases hy : y.gSome
  · exact ⟨_, rfl, rfl⟩
  have mx := clean_m cx hx
  have my := clean_m cy hy
  simp only [Bool.not_true, cond_false, Option.bind_some, wdo_eq kx.2 ky.2, rdo_eq kx.2 ky.2, cone_eq, rof_eq i64_0]
  have eM : (bif (x.gM == (0 : Int)) then some (y.gM == (0 : Int)) else some false) = some ((x.gM == 0) && (y.gM == 0)) := by cases (x.gM == 0) <;> rfl
  simp only [eM, Option.bind_some]
  by_cases hR : op < 7 ∨ 17 < op
  · have eR : (bif (decide (op < (7 : Int))) then some true else some (decide ((17 : Int) < op))) = some true := by
      rcases hR with h | h
      · rw [decide_eq_true h]; rfl
      · rw [decide_eq_true h]; cases decide (op < 7) <;> rfl
    rw [eR]
    simp only [Option.bind_some, cond_true]
    refine ⟨⟨false, 0, 0⟩, ?_, rfl⟩
    have g : ∀ n : Int, 7 ≤ n → n ≤ 17 → (op == n) = false := fun n a b => by rw [beq_eq_false_iff_ne]; omega
    have hd : doI op x.gR y.gR = (0, 2) := by
      unfold doI
      rw [if_neg (by omega), if_neg (by omega), if_neg (by omega), if_neg (by omega), if_neg (by omega), if_neg (by omega), if_neg (by omega), if_neg (by omega), if_neg (by omega), if_neg (by omega), if_neg (by omega)]
    rw [hd, compare_no (by omega)]
    simp only [g 10 (by decide) (by decide), g 11 (by decide) (by decide), g 7 (by decide) (by decide), g 8 (by decide) (by decide), g 9 (by decide) (by decide), cond_false, Option.bind_some]
    cases ((x.gM == 0) && (y.gM == 0)) <;> rfl
  · have eR : (bif (decide (op < (7 : Int))) then some true else some (decide ((17 : Int) < op))) = some false := by
      rw [decide_eq_false (show ¬ op < 7 by omega), decide_eq_false (show ¬ 17 < op by omega)]; rfl
    rw [eR]
    simp only [Option.bind_some, cond_false]
    by_cases hM : x.gM = 0 ∧ y.gM = 0
    · have : ((x.gM == 0) && (y.gM == 0)) = true := by simp [hM.1, hM.2]
      simp only [this, cond_true]
      cases ((doI op x.gR y.gR).2 != 0) <;> exact ⟨_, rfl, rfl⟩
    · have : ((x.gM == 0) && (y.gM == 0)) = false := by
        rw [Bool.eq_false_iff]; intro q; simp only [Bool.and_eq_true, beq_iff_eq] at q; exact hM q
      simp only [this, cond_false]
      have ox : okM x.gM := ⟨mx, kx.1.2⟩
      have oy : okM y.gM := ⟨my, ky.1.2⟩
      have og := gcd_okM ox oy
      have gp : 0 < (Int.gcd x.gM y.gM : Int) := by
        have : Int.gcd x.gM y.gM ≠ 0 := by rw [Ne, Int.gcd_eq_zero_iff]; exact hM
        omega
      have hop : op = 7 ∨ op = 10 ∨ op = 11 ∨ op = 8 ∨ op = 9 ∨ 12 ≤ op := by omega
      rcases hop with rfl | rfl | rfl | rfl | rfl | h12
      · obtain ⟨c, h1, h2⟩ := product_both (wr := wr) kx ky mx my hM
        refine ⟨c, ?_, ?_⟩
        · show ((residue_product x y wr).bind fun x65 => some x65) = _
          rw [h1]; rfl
        · show ((r06_product x y wr).bind fun x55 => some x55) = _
          rw [h2]; rfl
      · obtain ⟨k, l1, l2, l3, l4, l5⟩ := lin (op := 10) (m := (Int.gcd x.gM y.gM : Int)) (a := x) (b := y) (wr := wr) kx.2 ky.2 (z := x.gR + y.gR) (by simp [exI]) (mid_add kx.2 ky.2).1 gp og
        refine ⟨ofC k ((x.gR + y.gR) % k), ?_, ?_⟩
        · show ((residue_gcd x.gM y.gM).bind fun x55 => ((residue_linear 10 x55 x y wr).bind fun x56 => some x56)) = _
          rw [pgcd_eq ox oy]
          simp only [Option.bind_some]
          rw [l4]; rfl
        · show ((r02_Exact 10 x.gR y.gR).bind fun x68 => ((r06_gcd x.gM y.gM).bind fun x70 => ((r06_cut x70 wr).bind fun x71 => ((r06_left x68.1 x71).bind fun x72 => ((r06_of x71 x72).bind fun x73 => some x73))))) = _
          rw [rexact_eq kx.2 ky.2, show exI 10 x.gR y.gR = (ofW (x.gR + y.gR), true) by simp [exI], qgcd_eq ox oy]
          simp only [Option.bind_some]
          rw [l3]
          simp only [Option.bind_some]
          rw [l5]
          simp only [Option.bind_some]
          rw [rof_eq (okM_i l1)]; rfl
      · obtain ⟨k, l1, l2, l3, l4, l5⟩ := lin (op := 11) (m := (Int.gcd x.gM y.gM : Int)) (a := x) (b := y) (wr := wr) kx.2 ky.2 (z := x.gR - y.gR) (by simp [exI]) (mid_add kx.2 ky.2).2 gp og
        refine ⟨ofC k ((x.gR - y.gR) % k), ?_, ?_⟩
        · show ((residue_gcd x.gM y.gM).bind fun x55 => ((residue_linear 11 x55 x y wr).bind fun x56 => some x56)) = _
          rw [pgcd_eq ox oy]
          simp only [Option.bind_some]
          rw [l4]; rfl
        · show ((r02_Exact 11 x.gR y.gR).bind fun x68 => ((r06_gcd x.gM y.gM).bind fun x70 => ((r06_cut x70 wr).bind fun x71 => ((r06_left x68.1 x71).bind fun x72 => ((r06_of x71 x72).bind fun x73 => some x73))))) = _
          rw [rexact_eq kx.2 ky.2, show exI 11 x.gR y.gR = (ofW (x.gR - y.gR), true) by simp [exI], qgcd_eq ox oy]
          simp only [Option.bind_some]
          rw [l3]
          simp only [Option.bind_some]
          rw [l5]
          simp only [Option.bind_some]
          rw [rof_eq (okM_i l1)]; rfl
      · by_cases hz : y.gM = 0 ∧ y.gR = 0
        · refine ⟨⟨false, 0, 0⟩, ?_, ?_⟩
          · show ((residue_quotient x y wr).bind fun x72 => some x72) = _
            unfold residue_quotient
            rw [psize_eq ky.2, alone_eq, show ((y.gM == 0) && (y.gR == 0)) = true by simp [hz.1, hz.2]]; rfl
          · have e : (bif (y.gM == (0 : Int)) then some (y.gR == (0 : Int)) else some false) = some true := by rw [hz.1, hz.2]; rfl
            rw [e]; rfl
        · obtain ⟨c, h1, h2⟩ := quotient_both (wr := wr) kx ky mx my hz
          refine ⟨c, ?_, ?_⟩
          · show ((residue_quotient x y wr).bind fun x72 => some x72) = _
            rw [h1]; rfl
          · have e : (bif (y.gM == (0 : Int)) then some (y.gR == (0 : Int)) else some false) = some false := by
              cases e1 : (y.gM == 0)
              · rfl
              · cases e2 : (y.gR == 0)
                · rfl
                · exact absurd ⟨by simpa using e1, by simpa using e2⟩ hz
            rw [e, qsize_eq ky.2]
            exact h2
      · by_cases hz : y.gM = 0 ∧ y.gR = 0
        · refine ⟨⟨false, 0, 0⟩, ?_, ?_⟩
          · show ((residue_rest x y).bind fun x77 => some x77) = _
            unfold residue_rest
            rw [alone_eq, show ((y.gM == 0) && (y.gR == 0)) = true by simp [hz.1, hz.2]]; rfl
          · have e : (bif (y.gM == (0 : Int)) then some (y.gR == (0 : Int)) else some false) = some true := by rw [hz.1, hz.2]; rfl
            rw [e]; rfl
        · obtain ⟨c, h1, h2⟩ := rest_both kx ky mx my hz
          refine ⟨c, ?_, ?_⟩
          · show ((residue_rest x y).bind fun x77 => some x77) = _
            rw [h1]; rfl
          · have e : (bif (y.gM == (0 : Int)) then some (y.gR == (0 : Int)) else some false) = some false := by
              cases e1 : (y.gM == 0)
              · rfl
              · cases e2 : (y.gR == 0)
                · rfl
                · exact absurd ⟨by simpa using e1, by simpa using e2⟩ hz
            rw [e, qsize_eq ky.2]
            exact h2
      · obtain ⟨c, h1, h2⟩ := compare_both (op := op) kx ky cx cy mx my hM h12 (by omega)
        have g : ∀ n : Int, n < 12 → (op == n) = false := fun n a => by rw [beq_eq_false_iff_ne]; omega
        simp only [g 10 (by decide), g 11 (by decide), g 7 (by decide), g 8 (by decide), g 9 (by decide), cond_false, Option.bind_some, decide_eq_true (show 9 < op by omega), cond_true, h1, h2]
        exact ⟨_, rfl, rfl⟩
theorem lives06 : l06_lives = some true := by
  have hd : residue_Do 7 ⟨true, 1, 0⟩ ⟨true, 0, 4⟩ false = some ⟨true, 4, 0⟩ := by
    have k1 : okC ⟨true, 1, 0⟩ := ⟨i64_1, i64_0⟩
    have k4 : I64 4 := by unfold I64; omega
    have k2 : okC ⟨true, 0, 4⟩ := ⟨i64_0, k4⟩
    have c1 : cong_Clean ⟨true, 1, 0⟩ = some ⟨true, 1, 0⟩ := clean_eq _ i64_1
    have c2 : cong_Clean ⟨true, 0, 4⟩ = some ⟨true, 0, 4⟩ := clean_eq _ i64_0
    have hl : residue_linear 7 4 ⟨true, 0, 4⟩ ⟨true, 1, 0⟩ false = some ⟨true, 4, 0⟩ := by
      unfold residue_linear
      simp only [cond_false, Option.bind_some]
      rw [wexact_eq k4 i64_0]
      show (residue_left (ofW (4 * 0)) 4).bind _ = _
      rw [pleft_eq ⟨by decide, by decide⟩ (by decide) (by decide)]
      simp only [Option.bind_some]
      rw [of_eq _ _ k4]; rfl
    have hs : residue_scaled 1 4 = some 4 := by
      rw [pscaled (by decide) ⟨by decide, by decide⟩ k4 (by decide)]; rfl
    have hp : residue_product ⟨true, 1, 0⟩ ⟨true, 0, 4⟩ false = some ⟨true, 4, 0⟩ := by
      unfold residue_product
      simp [alone_eq, hs, hl]
    unfold residue_Do
    rw [c1, c2]
    simp [cong_None, hp]
  unfold l06_lives
  rw [hd, part24]
  rfl
theorem does {op : Int} {a b : TApiCong} {wr : Bool} (ka : okC a) (kb : okC b) : l06_ResidueDoes ⟨op, a, b, wr⟩ = some true := by
  obtain ⟨c, h1, h2⟩ := do_both (op := op) (wr := wr) ka kb
  unfold l06_ResidueDoes
  simp only [h1, h2, lives06, Option.bind_some, beq_self_eq_true, Bool.and_self, cond_true]
theorem exact {op x y : Int} (kx : I64 x) (ky : I64 y) : l06_ResidueExact op x y = some true := by
  have hd : ∀ wr, residue_Do op ⟨true, 0, x⟩ ⟨true, 0, y⟩ wr = some (bif (doI op x y).2 != 0 then ⟨false, 0, 0⟩ else ⟨true, 0, (doI op x y).1⟩) := by
    intro wr
    have c1 : cong_Clean ⟨true, 0, x⟩ = some ⟨true, 0, x⟩ := clean_eq _ i64_0
    have c2 : cong_Clean ⟨true, 0, y⟩ = some ⟨true, 0, y⟩ := clean_eq _ i64_0
    unfold residue_Do
    rw [c1, c2]
    show ((wrap_Do op x y).bind _) = _
    rw [wdo_eq kx ky]
    simp only [Option.bind_some, cone_eq]
    cases ((doI op x y).2 != 0) <;> rfl
  unfold l06_ResidueExact
  rw [rdo_eq kx ky]
  simp only [Option.bind_some, hd, lives06]
  cases h : ((doI op x y).2 != 0)
  · have : ((doI op x y).2 == 0) = true := by unfold bne at h; simpa using h
    rw [this]
    simp
  · have : ((doI op x y).2 == 0) = false := by unfold bne at h; simpa using h
    rw [this]
    simp
end Go.Proofs.Ytjbpfgknhpdkaaa.Ab
/- Layer 6: what is answered is sound: sums, differences, products. -/
namespace Go.Proofs.Ytjbpfgknhpdkaaa.Ab
open Go Go.RowKit Go.Shelf Go.Proofs.Ytjbpfgknhpdkaaa
set_option linter.all false
theorem part_more {m : Int} (h : okM m) (h0 : 0 < m) : ∃ p, residue_Part m = some p ∧ okM p ∧ 0 < p ∧ p ∣ m ∧ p ∣ 18446744073709551616 := by
  unfold okM at h
  obtain ⟨n, rfl⟩ := Int.eq_ofNat_of_zero_le h.1
  obtain ⟨v, t, e⟩ := two_odd n (by omega)
  have hp := pow_v e (by omega)
  have := Nat.two_pow_pos v
  refine ⟨_, ppart_eq e (by omega) (by omega), ⟨by omega, by omega⟩, by omega, ?_, ?_⟩
  · exact Int.natCast_dvd_natCast.2 ⟨2 * t + 1, e⟩
  · have h64 : (18446744073709551616 : Nat) = 2 ^ v * 2 ^ (64 - v) := by
      rw [← Nat.pow_add, show v + (64 - v) = 64 by omega]
    exact Int.natCast_dvd_natCast.2 ⟨2 ^ (64 - v), h64⟩
theorem lin2 {op m : Int} {a b : TApiCong} {wr : Bool} {z : Int} (ka : I64 a.gR) (kb : I64 b.gR) (he : exI op a.gR b.gR = (ofW z, true)) (hz : midZ z) (hm : 0 < m) (km : okM m) :
    ∃ k, okM k ∧ 0 < k ∧ k ∣ m ∧ (wr = true → k ∣ 18446744073709551616) ∧ residue_linear op m a b wr = some (ofC k (z % k)) := by
  obtain ⟨p, h1, h2, h3, h4, h5⟩ := part_more km hm
  have key : ∀ k, okM k → 0 < k → (Option.bind (wrap_Exact op a.gR b.gR) fun x9 => (Option.bind (α := Bool) (bif (!x9.2) then some true else some (k == (0 : Int))) fun y12 => (bif y12 then (cong_All.bind fun x17 => some x17) else ((residue_left x9.1 k).bind fun x19 => ((cong_Of k x19).bind fun x20 => some x20))))) = some (ofC k (z % k)) := by
    intro k hk pk
    rw [wexact_eq ka kb, he]
    have e : (k == 0) = false := by rw [beq_eq_false_iff_ne]; omega
    simp only [Option.bind_some, Bool.not_true, cond_false, e]
    rw [pleft_eq hz pk hk.2]
    simp only [Option.bind_some]
    rw [of_eq _ _ (okM_i hk)]
    rfl
  cases wr
  · refine ⟨m, km, hm, Int.dvd_refl _, (fun q => nomatch q), ?_⟩
    unfold residue_linear
    simp only [cond_false, Option.bind_some]
    exact key m km hm
  · refine ⟨p, h2, h3, h4, fun _ => h5, ?_⟩
    unfold residue_linear
    rw [h1]
    simp only [cond_true, Option.bind_some]
    exact key p h2 h3
theorem wi_dvd (z : Int) : (18446744073709551616 : Int) ∣ wi z - z := by
  unfold wi
  rw [IntKind.wrap_i64]
  exact ⟨-((z + 9223372036854775808) / 18446744073709551616), by omega⟩
/-- What an exact answer comes to is in the congruence. -/
theorem lin_has {k z z' : Int} {wr : Bool} (hk : okM k) (pk : 0 < k) (hw : wr = true → k ∣ 18446744073709551616) (ht : wr = true ∨ I64 z') (hd : k ∣ z' - z) : hasC (ofC k (z % k)) (wi z') = true := by
  refine (ofC_has pk (okM_i hk)).2 ?_
  have h1 : k ∣ wi z' - z' := by
    rcases ht with q | q
    · exact Int.dvd_trans (hw q) (wi_dvd z')
    · rw [show wi z' = z' from w64 q]; exact ⟨0, by omega⟩
  have h2 : k ∣ z - z % k := Int.dvd_self_sub_emod
  have := Int.dvd_add (Int.dvd_add h1 hd) h2
  rwa [show wi z' - z' + (z' - z) + (z - z % k) = wi z' - z % k by omega] at this
/-- An answer that is told well, and has an int. -/
def G (c : TApiCong) (n : Int) : Prop := okC c ∧ clean c ∧ hasC c n = true
theorem ofC_ok {k r : Int} (hk : I64 k) (hr : I64 r) : okC (ofC k r) := norm_ok (c := ⟨true, k, r⟩) ⟨hk, hr⟩
theorem lin_G {k z z' : Int} {wr : Bool} (hk : okM k) (pk : 0 < k) (hw : wr = true → k ∣ 18446744073709551616) (ht : wr = true ∨ I64 z') (hd : k ∣ z' - z) : G (ofC k (z % k)) (wi z') := by
  have r0 := Int.emod_nonneg z (show k ≠ 0 by omega)
  have r1 := Int.emod_lt_of_pos z pk
  have := hk.2
  exact ⟨ofC_ok (okM_i hk) (by unfold I64; omega), clean_ofC, lin_has hk pk hw ht hd⟩
theorem has_d {c : TApiCong} (cl : clean c) (hs : c.gSome = true) {n : Int} (h : hasC c n = true) : c.gM ∣ n - c.gR := by
  have m0 := clean_m cl hs
  by_cases h0 : c.gM = 0
  · have := (has_lone hs h0 n).1 h
    subst this; rw [h0]; exact ⟨0, by omega⟩
  · exact (has_m hs (by omega) (clean_r cl hs (by omega)) n).1 h
end Go.Proofs.Ytjbpfgknhpdkaaa.Ab
/- Layer 6: what is answered is sound, on. -/
namespace Go.Proofs.Ytjbpfgknhpdkaaa.Ab
open Go Go.RowKit Go.Shelf Go.Proofs.Ytjbpfgknhpdkaaa
set_option linter.all false
theorem gboth_dvd {a b : TApiCong} {x y : Int} (hx : a.gM ∣ x - a.gR) (hy : b.gM ∣ y - b.gR) : (Int.gcd a.gM b.gM : Int) ∣ x - a.gR ∧ (Int.gcd a.gM b.gM : Int) ∣ y - b.gR :=
  ⟨Int.dvd_trans (Int.gcd_dvd_left ..) hx, Int.dvd_trans (Int.gcd_dvd_right ..) hy⟩
theorem mul_d {g x y r s : Int} (h1 : g ∣ x - r) (h2 : g ∣ y - s) : g ∣ x * y - r * s := by
  obtain ⟨u, hu⟩ := h1
  obtain ⟨v, hv⟩ := h2
  have e1 : x = r + g * u := by omega
  have e2 : y = s + g * v := by omega
  clear hu hv
  subst e1 e2
  exact ⟨r * v + s * u + g * u * v, by grind⟩
theorem s10 {a b : TApiCong} {x y : Int} {wr : Bool} (ka : okC a) (kb : okC b) (ma : 0 ≤ a.gM) (mb : 0 ≤ b.gM) (hn : ¬ (a.gM = 0 ∧ b.gM = 0)) (hx : a.gM ∣ x - a.gR) (hy : b.gM ∣ y - b.gR) (ht : wr = true ∨ I64 (x + y)) :
    ∃ c, ((residue_gcd a.gM b.gM).bind fun x55 => ((residue_linear 10 x55 a b wr).bind fun x56 => some x56)) = some c ∧ G c (wi (x + y)) := by
  have ox : okM a.gM := ⟨ma, ka.1.2⟩
  have oy : okM b.gM := ⟨mb, kb.1.2⟩
  have gp : 0 < (Int.gcd a.gM b.gM : Int) := by
    have : Int.gcd a.gM b.gM ≠ 0 := by rw [Ne, Int.gcd_eq_zero_iff]; exact hn
    omega
  obtain ⟨k, k1, k2, k3, k4, k5⟩ := lin2 (op := 10) (a := a) (b := b) (wr := wr) ka.2 kb.2 (z := a.gR + b.gR) (by simp [exI]) (mid_add ka.2 kb.2).1 gp (gcd_okM ox oy)
  rw [pgcd_eq ox oy]
  simp only [Option.bind_some]
  rw [k5]
  refine ⟨_, rfl, lin_G k1 k2 k4 ht ?_⟩
  have h := gboth_dvd hx hy
  have := Int.dvd_add (Int.dvd_trans k3 h.1) (Int.dvd_trans k3 h.2)
  rwa [show x - a.gR + (y - b.gR) = x + y - (a.gR + b.gR) by omega] at this
theorem s11 {a b : TApiCong} {x y : Int} {wr : Bool} (ka : okC a) (kb : okC b) (ma : 0 ≤ a.gM) (mb : 0 ≤ b.gM) (hn : ¬ (a.gM = 0 ∧ b.gM = 0)) (hx : a.gM ∣ x - a.gR) (hy : b.gM ∣ y - b.gR) (ht : wr = true ∨ I64 (x - y)) :
    ∃ c, ((residue_gcd a.gM b.gM).bind fun x55 => ((residue_linear 11 x55 a b wr).bind fun x56 => some x56)) = some c ∧ G c (wi (x - y)) := by
  have ox : okM a.gM := ⟨ma, ka.1.2⟩
  have oy : okM b.gM := ⟨mb, kb.1.2⟩
  have gp : 0 < (Int.gcd a.gM b.gM : Int) := by
    have : Int.gcd a.gM b.gM ≠ 0 := by rw [Ne, Int.gcd_eq_zero_iff]; exact hn
    omega
  obtain ⟨k, k1, k2, k3, k4, k5⟩ := lin2 (op := 11) (a := a) (b := b) (wr := wr) ka.2 kb.2 (z := a.gR - b.gR) (by simp [exI]) (mid_add ka.2 kb.2).2 gp (gcd_okM ox oy)
  rw [pgcd_eq ox oy]
  simp only [Option.bind_some]
  rw [k5]
  refine ⟨_, rfl, lin_G k1 k2 k4 ht ?_⟩
  have h := gboth_dvd hx hy
  have := Int.dvd_sub (Int.dvd_trans k3 h.1) (Int.dvd_trans k3 h.2)
  rwa [show x - a.gR - (y - b.gR) = x - y - (a.gR - b.gR) by omega] at this
theorem sc_dvd {m c : Int} {r : Int} (h : m ∣ r) : scI m c ∣ c * r := by
  unfold scI
  split
  · obtain ⟨u, rfl⟩ := h
    rcases Int.natAbs_eq c with e | e
    · exact ⟨u, by rw [← e, ← Int.mul_assoc, Int.mul_comm c m]⟩
    · refine ⟨-u, ?_⟩
      generalize (c.natAbs : Int) = d at *
      subst e
      grind
  · exact Int.dvd_mul_of_dvd_right h
theorem s7 {a b : TApiCong} {x y : Int} {wr : Bool} (ka : okC a) (kb : okC b) (ma : 0 ≤ a.gM) (mb : 0 ≤ b.gM) (hn : ¬ (a.gM = 0 ∧ b.gM = 0)) (hx : a.gM ∣ x - a.gR) (hy : b.gM ∣ y - b.gR) (ht : wr = true ∨ I64 (x * y)) :
    ∃ c, residue_product a b wr = some c ∧ G c (wi (x * y)) := by
  have ox : okM a.gM := ⟨ma, ka.1.2⟩
  have oy : okM b.gM := ⟨mb, kb.1.2⟩
  have zero : G (ofC 0 0) (wi 0) := ⟨ofC_ok i64_0 i64_0, clean_ofC, by decide⟩
  unfold residue_product
  by_cases h0 : a.gM = 0
  · have py : 0 < b.gM := by omega
    have ex : x = a.gR := by rw [h0] at hx; have := Int.zero_dvd.1 hx; omega
    have e0 : (a.gM != 0) = false := by simp [h0]
    have e1 : (a.gM == 0) = true := by simp [h0]
    simp only [e0, cond_false, Option.bind_some]
    unfold residue_alone
    simp only [e1, cond_true, Option.bind_some]
    by_cases r0 : a.gR = 0
    · have e2 : (a.gR == 0) = true := by simp [r0]
      simp only [e2, cond_true, cone_eq, Option.bind_some]
      rw [ex, r0, Int.zero_mul]
      exact ⟨_, rfl, zero⟩
    · have e2 : (a.gR == 0) = false := by simpa using r0
      simp only [e2, cond_false]
      rw [pscaled py oy ka.2 r0]
      simp only [Option.bind_some]
      obtain ⟨s1, s2⟩ := sc_ok py oy r0
      obtain ⟨k, k1, k2, k3, k4, k5⟩ := lin2 (op := 7) (m := scI b.gM a.gR) (a := a) (b := b) (wr := wr) ka.2 kb.2 (ex7 _ _) (mid_mul ka.2 kb.2) s2 s1
      rw [show (⟨a.gSome, a.gM, a.gR⟩ : TApiCong) = a from rfl, show (⟨b.gSome, b.gM, b.gR⟩ : TApiCong) = b from rfl, k5]
      refine ⟨_, rfl, lin_G k1 k2 k4 ht ?_⟩
      rw [ex, ← Int.mul_sub]
      exact Int.dvd_trans k3 (sc_dvd hy)
  · have px : 0 < a.gM := by omega
    have e0 : (a.gM != 0) = true := by simpa using h0
    have e1 : (a.gM == 0) = false := by simpa using h0
    by_cases h1 : b.gM = 0
    · have ey : y = b.gR := by rw [h1] at hy; have := Int.zero_dvd.1 hy; omega
      have e2 : (b.gM == 0) = true := by simp [h1]
      simp only [e0, e2, cond_true, Option.bind_some]
      unfold residue_alone
      simp only [e2, cond_true, Option.bind_some]
      by_cases r0 : b.gR = 0
      · have e3 : (b.gR == 0) = true := by simp [r0]
        simp only [e3, cond_true, cone_eq, Option.bind_some]
        rw [ey, r0, Int.mul_zero]
        exact ⟨_, rfl, zero⟩
      · have e3 : (b.gR == 0) = false := by simpa using r0
        simp only [e3, cond_false]
        rw [pscaled px ox kb.2 r0]
        simp only [Option.bind_some]
        obtain ⟨s1, s2⟩ := sc_ok px ox r0
        obtain ⟨k, k1, k2, k3, k4, k5⟩ := lin2 (op := 7) (m := scI a.gM b.gR) (a := b) (b := a) (wr := wr) kb.2 ka.2 (ex7 _ _) (mid_mul kb.2 ka.2) s2 s1
        rw [show (⟨a.gSome, a.gM, a.gR⟩ : TApiCong) = a from rfl, show (⟨b.gSome, b.gM, b.gR⟩ : TApiCong) = b from rfl, k5]
        refine ⟨_, rfl, lin_G k1 k2 k4 ht ?_⟩
        rw [ey, Int.mul_comm x, ← Int.mul_sub]
        exact Int.dvd_trans k3 (sc_dvd hx)
    · have e2 : (b.gM == 0) = false := by simpa using h1
      simp only [e0, e2, cond_true, cond_false, Option.bind_some]
      unfold residue_alone
      simp only [e1, cond_false, Option.bind_some]
      rw [pgcd_eq ox oy]
      simp only [Option.bind_some]
      obtain ⟨k, k1, k2, k3, k4, k5⟩ := lin2 (op := 7) (m := (Int.gcd a.gM b.gM : Int)) (a := a) (b := b) (wr := wr) ka.2 kb.2 (ex7 _ _) (mid_mul ka.2 kb.2) (gcd_pos' px) (gcd_okM ox oy)
      rw [show (⟨a.gSome, a.gM, a.gR⟩ : TApiCong) = a from rfl, show (⟨b.gSome, b.gM, b.gR⟩ : TApiCong) = b from rfl, k5]
      have h := gboth_dvd hx hy
      exact ⟨_, rfl, lin_G k1 k2 k4 ht (mul_d (Int.dvd_trans k3 h.1) (Int.dvd_trans k3 h.2))⟩
end Go.Proofs.Ytjbpfgknhpdkaaa.Ab
/- Layer 6: what is answered is sound: rests, comparisons. -/
namespace Go.Proofs.Ytjbpfgknhpdkaaa.Ab
open Go Go.RowKit Go.Shelf Go.Proofs.Ytjbpfgknhpdkaaa
set_option linter.all false
theorem has_all (n : Int) : G (ofC 1 0) n := ⟨ofC_ok i64_1 i64_0, clean_ofC, (ofC_has (by decide) i64_1).2 ⟨n, by omega⟩⟩
theorem has_one {n : Int} (h : I64 n) : G (ofC 0 n) n := ⟨ofC_ok i64_0 h, clean_ofC, (has_lone (x := ofC 0 n) rfl rfl n).2 (by simp [ofC, normM, modI])⟩
theorem s9 {a b : TApiCong} {x y : Int} (ka : okC a) (kb : okC b) (ma : 0 ≤ a.gM) (mb : 0 ≤ b.gM) (hn : ¬ (a.gM = 0 ∧ b.gM = 0)) (hx : a.gM ∣ x - a.gR) (hy : b.gM ∣ y - b.gR) (h0 : y ≠ 0) :
    ∃ c, residue_rest a b = some c ∧ G c (x.tmod y) := by
  have ox : okM a.gM := ⟨ma, ka.1.2⟩
  have oy : okM b.gM := ⟨mb, kb.1.2⟩
  have gp : 0 < (Int.gcd a.gM b.gM : Int) := by
    have : Int.gcd a.gM b.gM ≠ 0 := by rw [Ne, Int.gcd_eq_zero_iff]; exact hn
    omega
  have og := gcd_okM ox oy
  have hz : ¬ (b.gM = 0 ∧ b.gR = 0) := fun q => by
    rw [q.1, q.2] at hy
    have := Int.zero_dvd.1 hy
    omega
  unfold residue_rest
  rw [alone_eq, pgcd_eq ox oy, psize_eq kb.2]
  have ha : ((b.gM == 0) && (b.gR == 0)) = false := by
    rw [Bool.eq_false_iff]; intro q; simp only [Bool.and_eq_true, beq_iff_eq] at q; exact hz q
  simp only [ha, cond_false, Option.bind_some]
  unfold okM at og
  rw [u64w og.1 (by omega), gcd_eq _ _ og.1 (by omega)]
  simp only [Option.bind_some]
  have g1 : (Int.gcd (Int.gcd a.gM b.gM : Int) (b.gR.natAbs : Int) : Int) ∣ (Int.gcd a.gM b.gM : Int) := Int.gcd_dvd_left ..
  have g2 : (Int.gcd (Int.gcd a.gM b.gM : Int) (b.gR.natAbs : Int) : Int) ∣ (b.gR.natAbs : Int) := Int.gcd_dvd_right ..
  have gq := gcd_pos' (N := (b.gR.natAbs : Int)) gp
  have gle := Int.le_of_dvd gp g1
  have hb := gboth_dvd hx hy
  generalize (Int.gcd (Int.gcd a.gM b.gM : Int) (b.gR.natAbs : Int) : Int) = g at *
  have ig : I64 g := by unfold I64; omega
  rw [w64 ig, of_eq _ _ ig]
  refine ⟨_, rfl, ofC_ok ig ka.2, clean_ofC, (ofC_has gq ig).2 ?_⟩
  have d1 := Int.dvd_trans g1 hb.1
  have d2 := Int.dvd_trans g1 hb.2
  have d3 : g ∣ b.gR := (dvd_abs _ _).1 g2
  have d4 := Int.dvd_add d2 d3
  rw [show y - b.gR + b.gR = y by omega] at d4
  have d5 : g ∣ y * x.tdiv y := Int.dvd_mul_of_dvd_left d4
  have e := Int.mul_tdiv_add_tmod x y
  have := Int.dvd_sub d1 d5
  rwa [show x - a.gR - y * x.tdiv y = x.tmod y - a.gR by omega] at this
theorem scmp {op : Int} {a b : TApiCong} {x y : Int} (ka : okC a) (kb : okC b) (ca : clean a) (cb : clean b) (ma : 0 ≤ a.gM) (mb : 0 ≤ b.gM) (hn : ¬ (a.gM = 0 ∧ b.gM = 0)) (ha : hasC a x = true) (hb : hasC b y = true) (sa : a.gSome = true) (sb : b.gSome = true) (h1 : 12 ≤ op) (h2 : op ≤ 17) :
    ∃ c, residue_compare op a b = some c ∧ G c (doI op x y).1 := by
  have hx := has_d ca sa ha
  have hy := has_d cb sb hb
  unfold clean at ca cb
  unfold residue_compare
  simp only [has_eq ka, has_eq kb, ca, cb, apart_both ka kb ma mb hn, alone_eq, cone_eq, call_eq, Option.bind_some]
  have hap : ((((a.gR - b.gR).natAbs : Int) % (Int.gcd a.gM b.gM : Int)) != 0) = true → x ≠ y := by
    intro q e
    rw [bne_iff_ne] at q
    apply q
    have h := gboth_dvd hx hy
    subst e
    have := Int.dvd_sub h.2 h.1
    rw [show x - b.gR - (x - a.gR) = a.gR - b.gR by omega] at this
    exact Int.emod_eq_zero_of_dvd ((dvd_abs _ _).2 this)
  have ax : ((a.gM == 0) && (a.gR == 0)) = true → x = 0 := by
    intro q; simp only [Bool.and_eq_true, beq_iff_eq] at q
    rw [q.1, q.2] at hx; have := Int.zero_dvd.1 hx; omega
  have ay : ((b.gM == 0) && (b.gR == 0)) = true → y = 0 := by
    intro q; simp only [Bool.and_eq_true, beq_iff_eq] at q
    rw [q.1, q.2] at hy; have := Int.zero_dvd.1 hy; omega
  have nx : hasC a 0 = false → x ≠ 0 := fun q e => by rw [e, q] at ha; cases ha
  have ny : hasC b 0 = false → y ≠ 0 := fun q e => by rw [e, q] at hb; cases hb
  generalize ((((a.gR - b.gR).natAbs : Int) % (Int.gcd a.gM b.gM : Int)) != 0) = ap at *
  generalize hasC a 0 = za at *
  generalize hasC b 0 = zb at *
  generalize ((a.gM == 0) && (a.gR == 0)) = oa at *
  generalize ((b.gM == 0) && (b.gR == 0)) = ob at *
  have hop : op = 12 ∨ op = 13 ∨ op = 14 ∨ op = 15 ∨ op = 16 ∨ op = 17 := by omega
  rcases hop with rfl | rfl | rfl | rfl | rfl | rfl
  · exact ⟨_, rfl, has_all _⟩
  · exact ⟨_, rfl, has_all _⟩
  · cases ap
    · exact ⟨_, rfl, has_all _⟩
    · have e : (x == y) = false := by rw [beq_eq_false_iff_ne]; exact hap rfl
      have : (doI 14 x y).1 = 0 := by simp [doI, b2i, e]
      rw [this]; exact ⟨_, rfl, has_one (by first | exact i64_0 | exact i64_1)⟩
  · cases ap
    · exact ⟨_, rfl, has_all _⟩
    · have e : (x != y) = true := by rw [bne_iff_ne]; exact hap rfl
      have : (doI 15 x y).1 = 1 := by simp [doI, b2i, e]
      rw [this]; exact ⟨_, rfl, has_one (by first | exact i64_0 | exact i64_1)⟩
  · cases oa
    · cases ob
      · cases za
        · cases zb
          · have e : (x != 0) = true := by rw [bne_iff_ne]; exact nx rfl
            have e' : (y != 0) = true := by rw [bne_iff_ne]; exact ny rfl
            have : (doI 16 x y).1 = 1 := by simp [doI, b2i, e, e']
            rw [this]; exact ⟨_, rfl, has_one (by first | exact i64_0 | exact i64_1)⟩
          · exact ⟨_, rfl, has_all _⟩
        · exact ⟨_, rfl, has_all _⟩
      · have : (doI 16 x y).1 = 0 := by simp [doI, b2i, ay rfl]
        rw [this]; exact ⟨_, rfl, has_one (by first | exact i64_0 | exact i64_1)⟩
    · have : (doI 16 x y).1 = 0 := by simp [doI, b2i, ax rfl]
      rw [this]; exact ⟨_, rfl, has_one (by first | exact i64_0 | exact i64_1)⟩
  · cases za
    · have e : (x != 0) = true := by rw [bne_iff_ne]; exact nx rfl
      have : (doI 17 x y).1 = 1 := by simp [doI, b2i, e]
      rw [this]; exact ⟨_, rfl, has_one (by first | exact i64_0 | exact i64_1)⟩
    · cases zb
      · have e : (y != 0) = true := by rw [bne_iff_ne]; exact ny rfl
        have : (doI 17 x y).1 = 1 := by simp [doI, b2i, e]
        rw [this]; exact ⟨_, rfl, has_one (by first | exact i64_0 | exact i64_1)⟩
      · exact ⟨_, rfl, has_all _⟩
end Go.Proofs.Ytjbpfgknhpdkaaa.Ab
/- Layer 6: what is answered is sound: quotients. -/
namespace Go.Proofs.Ytjbpfgknhpdkaaa.Ab
open Go Go.RowKit Go.Shelf Go.Proofs.Ytjbpfgknhpdkaaa
set_option linter.all false
theorem s8 {a b : TApiCong} {x y : Int} {wr : Bool} (ka : okC a) (kb : okC b) (ca : clean a) (sa : a.gSome = true) (ma : 0 ≤ a.gM) (mb : 0 ≤ b.gM) (hn : ¬ (a.gM = 0 ∧ b.gM = 0)) (hx : a.gM ∣ x - a.gR) (hy : b.gM ∣ y - b.gR) (h0 : y ≠ 0) (ht : wr = true ∨ I64 (x.tdiv y)) :
    ∃ c, residue_quotient a b wr = some c ∧ G c (wi (x.tdiv y)) := by
  have lx : a.gM < 9223372036854775808 := ka.1.2
  have hz : ¬ (b.gM = 0 ∧ b.gR = 0) := fun q => by
    rw [q.1, q.2] at hy
    have := Int.zero_dvd.1 hy
    omega
  unfold residue_quotient
  rw [psize_eq kb.2, psize_eq ka.2, alone_eq]
  have ha : ((b.gM == 0) && (b.gR == 0)) = false := by
    rw [Bool.eq_false_iff]; intro q; simp only [Bool.and_eq_true, beq_iff_eq] at q; exact hz q
  simp only [ha, cond_false, Option.bind_some, call_eq]
  by_cases hM : b.gM = 0
  · have e1 : (b.gM != 0) = false := by simp [hM]
    have hr : b.gR ≠ 0 := fun q => hz ⟨hM, q⟩
    have ey : y = b.gR := by rw [hM] at hy; have := Int.zero_dvd.1 hy; omega
    simp only [e1, cond_false, Option.bind_some]
    cases wr
    · simp only [cond_false, need_ne (show (b.gR.natAbs : Int) ≠ 0 by omega), Option.bind_some]
      rw [u64w ma (by omega), tm ma, tm (show 0 ≤ (a.gR.natAbs : Int) by omega)]
      by_cases c1 : a.gM % (b.gR.natAbs : Int) = 0
      · have g1 : (a.gM % (b.gR.natAbs : Int) != 0) = false := by simp [c1]
        simp only [g1, cond_false, Option.bind_some]
        by_cases c2 : (a.gR.natAbs : Int) % (b.gR.natAbs : Int) = 0
        · have g3 : ((a.gR.natAbs : Int) % (b.gR.natAbs : Int) != 0) = false := by rw [c2]; rfl
          simp only [g3, cond_false, need_ne hr, Option.bind_some]
          have pa : 0 < a.gM := by omega
          have ra := clean_r ca sa pa
          have hI : I64 (x.tdiv y) := by
            rcases ht with q | q
            · cases q
            · exact q
          obtain ⟨K, hK⟩ := Int.dvd_of_emod_eq_zero c1
          have d2 : b.gR ∣ a.gR := by
            have := Int.dvd_of_emod_eq_zero c2
            exact Int.natAbs_dvd_natAbs.1 (Int.natCast_dvd_natCast.1 this)
          obtain ⟨q1, hq⟩ := d2
          obtain ⟨t, htt⟩ := hx
          have np : 0 < (b.gR.natAbs : Int) := by omega
          have pK : 0 < K := by
            rw [hK, Int.mul_comm] at pa
            exact Int.pos_of_mul_pos_left pa np
          have hdiv : a.gM / (b.gR.natAbs : Int) = K := by rw [hK, Int.mul_ediv_cancel_left _ (by omega)]
          have kle : K ≤ a.gM := by rw [← hdiv]; exact Int.ediv_le_self _ ma
          have iK : I64 K := by unfold I64; omega
          rw [ti_pos ma, hdiv, u64w (by omega) (by omega), w64 iK]
          have hR : I64 (a.gR.tdiv b.gR) := by
            have := Int.natAbs_tdiv_le_natAbs a.gR b.gR
            unfold I64; omega
          rw [w64 hR, of_eq _ _ iK]
          refine ⟨_, rfl, ofC_ok iK hR, clean_ofC, (ofC_has pK iK).2 ?_⟩
          rw [show wi (x.tdiv y) = x.tdiv y from w64 hI, ey]
          have e2 : a.gR.tdiv b.gR = q1 := by rw [hq, Int.mul_tdiv_cancel_left _ hr]
          rw [e2]
          rcases Int.natAbs_eq b.gR with e | e
          · have ex : x = b.gR * (q1 + K * t) := by
              rw [← e] at hK
              have : x = a.gR + a.gM * t := by omega
              rw [this, hq, hK]; grind
            rw [ex, Int.mul_tdiv_cancel_left _ hr]
            exact ⟨t, by omega⟩
          · have ex : x = b.gR * (q1 - K * t) := by
              have hN : (b.gR.natAbs : Int) = -b.gR := by omega
              rw [hN] at hK
              have : x = a.gR + a.gM * t := by omega
              rw [this, hq, hK]; grind
            rw [ex, Int.mul_tdiv_cancel_left _ hr]
            exact ⟨-t, by rw [Int.mul_neg]; omega⟩
        · have g3 : ((a.gR.natAbs : Int) % (b.gR.natAbs : Int) != 0) = true := by rw [bne_iff_ne]; exact c2
          simp only [g3, cond_true, Option.bind_some]
          exact ⟨_, rfl, has_all _⟩
      · have g1 : (a.gM % (b.gR.natAbs : Int) != 0) = true := by rw [bne_iff_ne]; exact c1
        simp only [g1, cond_true, Option.bind_some]
        exact ⟨_, rfl, has_all _⟩
    · simp only [cond_true, Option.bind_some]
      exact ⟨_, rfl, has_all _⟩
  · have e1 : (b.gM != 0) = true := by simpa using hM
    simp only [e1, cond_true, Option.bind_some]
    exact ⟨_, rfl, has_all _⟩
end Go.Proofs.Ytjbpfgknhpdkaaa.Ab
/- Layer 6: what is answered is sound. -/
namespace Go.Proofs.Ytjbpfgknhpdkaaa.Ab
open Go Go.RowKit Go.Shelf Go.Proofs.Ytjbpfgknhpdkaaa
set_option linter.all false
theorem b2i_i (b : Bool) : I64 (b2i b) := by cases b <;> (unfold b2i I64; decide)
theorem doI_i {op x y : Int} (kx : I64 x) (ky : I64 y) : I64 (doI op x y).1 := by
  have l1 : (x.tmod y).natAbs ≤ x.natAbs := by rw [Int.natAbs_tmod]; exact Nat.mod_le _ _
  have hm : I64 (x.tmod y) := by
    have s := Int.tmod_nonneg (a := x) y
    unfold I64 at *
    by_cases c : 0 ≤ x
    · have := s c; omega
    · have h2 := Int.tmod_nonneg (a := -x) y (by omega)
      rw [Int.neg_tmod] at h2
      omega
  unfold doI
  repeat' split
  all_goals first | exact wi_i _ | exact b2i_i _ | exact i64_0 | exact hm
theorem snd_do {op : Int} {a0 b0 : TApiCong} {x y : Int} {wr : Bool} (ka : okC a0) (kb : okC b0) (kx : I64 x) (ky : I64 y) (ha : hasC (norm a0) x = true) (hb : hasC (norm b0) y = true) (he : (doI op x y).2 = 0)
    (hw : wr = true ∨ ((op = 10 → I64 (x + y)) ∧ (op = 11 → I64 (x - y)) ∧ (op = 7 → I64 (x * y)) ∧ (op = 8 → I64 (x.tdiv y)))) : ∃ c, residue_Do op a0 b0 wr = some c ∧ G c (doI op x y).1 := by
  have k1 := norm_ok ka
  have k2 := norm_ok kb
  have c1 : clean (norm a0) := norm_norm a0
  have c2 : clean (norm b0) := norm_norm b0
  unfold residue_Do
  rw [clean_eq a0 ka.1, clean_eq b0 kb.1]
  generalize norm a0 = a at *
  generalize norm b0 = b at *
  have sa : a.gSome = true := has_some ha
  have sb : b.gSome = true := has_some hb
  have ma := clean_m c1 sa
  have mb := clean_m c2 sb
  have hx := has_d c1 sa ha
  have hy := has_d c2 sb hb
  unfold cong_None
  simp only [Option.bind_some, sa, sb, Bool.not_true, cond_false, wdo_eq k1.2 k2.2, cone_eq]
  have eM : (bif (a.gM == (0 : Int)) then some (b.gM == (0 : Int)) else some false) = some ((a.gM == 0) && (b.gM == 0)) := by cases (a.gM == 0) <;> rfl
  simp only [eM, Option.bind_some]
  by_cases hM : a.gM = 0 ∧ b.gM = 0
  · have ex : x = a.gR := by have h := hx; rw [hM.1] at h; have := Int.zero_dvd.1 h; omega
    have ey : y = b.gR := by have h := hy; rw [hM.2] at h; have := Int.zero_dvd.1 h; omega
    have : ((a.gM == 0) && (b.gM == 0)) = true := by simp [hM.1, hM.2]
    rw [← ex, ← ey]
    have e2 : ((doI op x y).2 != 0) = false := by rw [he]; rfl
    simp only [this, cond_true, e2, cond_false]
    exact ⟨_, rfl, has_one (doI_i kx ky)⟩
  · have : ((a.gM == 0) && (b.gM == 0)) = false := by
      rw [Bool.eq_false_iff]; intro q; simp only [Bool.and_eq_true, beq_iff_eq] at q; exact hM q
    simp only [this, cond_false]
    have hop : op = 7 ∨ op = 10 ∨ op = 11 ∨ op = 8 ∨ op = 9 ∨ (12 ≤ op ∧ op ≤ 17) ∨ (op < 7 ∨ 17 < op) := by omega
    rcases hop with rfl | rfl | rfl | rfl | rfl | ⟨h1, h2⟩ | h
    · obtain ⟨c, q1, q2⟩ := s7 (wr := wr) k1 k2 ma mb hM hx hy (hw.imp id fun q => q.2.2.1 rfl)
      refine ⟨c, ?_, by simpa [doI] using q2⟩
      show ((residue_product a b wr).bind fun x65 => some x65) = _
      rw [q1]; rfl
    · obtain ⟨c, q1, q2⟩ := s10 (wr := wr) k1 k2 ma mb hM hx hy (hw.imp id fun q => q.1 rfl)
      exact ⟨c, q1, by simpa [doI] using q2⟩
    · obtain ⟨c, q1, q2⟩ := s11 (wr := wr) k1 k2 ma mb hM hx hy (hw.imp id fun q => q.2.1 rfl)
      exact ⟨c, q1, by simpa [doI] using q2⟩
    · have h0 : y ≠ 0 := fun q => by subst q; simp [doI] at he
      obtain ⟨c, q1, q2⟩ := s8 (wr := wr) k1 k2 c1 sa ma mb hM hx hy h0 (hw.imp id fun q => q.2.2.2 rfl)
      refine ⟨c, ?_, by simpa [doI, h0] using q2⟩
      show ((residue_quotient a b wr).bind fun x72 => some x72) = _
      rw [q1]; rfl
    · have h0 : y ≠ 0 := fun q => by subst q; simp [doI] at he
      obtain ⟨c, q1, q2⟩ := s9 k1 k2 ma mb hM hx hy h0
      refine ⟨c, ?_, by simpa [doI, h0] using q2⟩
      show ((residue_rest a b).bind fun x77 => some x77) = _
      rw [q1]; rfl
    · obtain ⟨c, q1, q2⟩ := scmp (op := op) k1 k2 c1 c2 ma mb hM ha hb sa sb h1 h2
      have g : ∀ n : Int, n < 12 → (op == n) = false := fun n a => by rw [beq_eq_false_iff_ne]; omega
      simp only [g 10 (by decide), g 11 (by decide), g 7 (by decide), g 8 (by decide), g 9 (by decide), cond_false, Option.bind_some, q1]
      exact ⟨_, rfl, q2⟩
    · exfalso
      unfold doI at he
      rw [if_neg (by omega), if_neg (by omega), if_neg (by omega), if_neg (by omega), if_neg (by omega), if_neg (by omega), if_neg (by omega), if_neg (by omega), if_neg (by omega), if_neg (by omega), if_neg (by omega)] at he
      exact absurd he (by decide)
end Go.Proofs.Ytjbpfgknhpdkaaa.Ab
/- Layer 6: the law of soundness. -/
namespace Go.Proofs.Ytjbpfgknhpdkaaa.Ab
open Go Go.RowKit Go.Shelf Go.Proofs.Ytjbpfgknhpdkaaa
set_option linter.all false
def oneI (op x : Int) : Int × Int := if op = 5 then (wi (-x), 0) else if op = 6 then (b2i (x == 0), 0) else (0, 2)
theorem rone_eq {op x : Int} (kx : I64 x) : r02_One op x = some (oneI op x) := by
  have e1 : vW (rOf x) = x := vW_of kx
  have n1 : need (pI x) = some () := need_t (okI_of kx)
  have n2 : need (pW (rOf x)) = some () := need_t (okW_ofW _)
  have en : rNeg (rOf x) = ofW (-x) := by unfold rNeg; rw [e1]
  unfold r02_One oneI
  simp only [n1, n2, en, rlow_any, one_b, Option.bind_some]
  by_cases h5 : op = 5
  · subst h5; rfl
  by_cases h6 : op = 6
  · subst h6; rfl
  have g5 : (op == 5) = false := by simpa using h5
  have g6 : (op == 6) = false := by simpa using h6
  rw [g5, g6, if_neg h5, if_neg h6]; rfl
theorem snd_one {op : Int} {a0 : TApiCong} {x : Int} {wr : Bool} (ka : okC a0) (kx : I64 x) (ha : hasC (norm a0) x = true) (he : (oneI op x).2 = 0) (hw : wr = true ∨ x ≠ -9223372036854775808) : ∃ c, residue_One op a0 wr = some c ∧ G c (oneI op x).1 := by
  have k1 := norm_ok ka
  have c1 : clean (norm a0) := norm_norm a0
  unfold residue_One
  rw [clean_eq a0 ka.1]
  generalize norm a0 = a at *
  have sa : a.gSome = true := has_some ha
  have hx := has_d c1 sa ha
  have cn : norm a = a := c1
  unfold cong_None
  simp only [Option.bind_some, sa, Bool.not_true, cond_false, cone_eq, call_eq, alone_eq, has_eq k1, cn]
  by_cases h5 : op = 5
  · subst h5
    have h0 : hasC (norm (ofC 0 0)) 0 = true := by decide
    obtain ⟨c, q1, q2⟩ := snd_do (op := 11) (wr := wr) (ofC_ok i64_0 i64_0) k1 i64_0 kx h0 (by rw [cn]; exact ha) (by simp [doI]) (by
      rcases hw with q | q
      · exact .inl q
      · refine .inr ⟨fun h => absurd h (by decide), fun _ => ?_, fun h => absurd h (by decide), fun h => absurd h (by decide)⟩
        unfold I64 at *; omega)
    refine ⟨c, ?_, by simpa [doI, oneI] using q2⟩
    show ((residue_Do 11 (ofC 0 0) a wr).bind fun x9 => some x9) = _
    rw [q1]; rfl
  · by_cases h6 : op = 6
    · subst h6
      simp only [show ((6 : Int) == 5) = false from rfl, show ((6 : Int) != 6) = false from rfl, cond_false]
      cases ho : ((a.gM == 0) && (a.gR == 0))
      · cases hz : hasC a 0
        · have : x ≠ 0 := fun e => by rw [e, hz] at ha; cases ha
          have e : (oneI 6 x).1 = 0 := by simp [oneI, b2i, show (x == 0) = false by rw [beq_eq_false_iff_ne]; exact this]
          rw [e]; exact ⟨_, rfl, has_one i64_0⟩
        · exact ⟨_, rfl, has_all _⟩
      · simp only [Bool.and_eq_true, beq_iff_eq] at ho
        have hz : x = 0 := by rw [ho.1, ho.2] at hx; have := Int.zero_dvd.1 hx; omega
        have e : (oneI 6 x).1 = 1 := by simp [oneI, b2i, hz]
        rw [e]; exact ⟨_, rfl, has_one i64_1⟩
    · exfalso
      unfold oneI at he
      rw [if_neg h5, if_neg h6] at he
      exact absurd he (by decide)
end Go.Proofs.Ytjbpfgknhpdkaaa.Ab
/- Layer 6: the law of soundness, on. -/
namespace Go.Proofs.Ytjbpfgknhpdkaaa.Ab
open Go Go.RowKit Go.Shelf Go.Proofs.Ytjbpfgknhpdkaaa
set_option linter.all false
theorem tdiv_i {x y : Int} (kx : I64 x) (h : ¬ (x = -9223372036854775808 ∧ y = -1)) : I64 (x.tdiv y) := by
  have hn : (x.tdiv y).natAbs = x.natAbs / y.natAbs := Int.natAbs_tdiv x y
  unfold I64 at *
  by_cases c : y = -1
  · subst c
    have : x.tdiv (-1) = 0 - x := by rw [Int.tdiv_neg, Int.tdiv_one]; omega
    omega
  · by_cases c1 : y = 1
    · subst c1; rw [Int.tdiv_one]; omega
    · by_cases c0 : y = 0
      · subst c0; rw [Int.tdiv_zero]; omega
      · have : x.natAbs / y.natAbs ≤ x.natAbs / 2 := Nat.div_le_div_left (by omega) (by decide)
        omega
theorem wraps_eq {op x y : Int} (kx : I64 x) (ky : I64 y) : ∃ w, l06_wraps op x y = some w ∧ (w = false → (op = 10 → I64 (x + y)) ∧ (op = 11 → I64 (x - y)) ∧ (op = 7 → I64 (x * y)) ∧ (op = 8 → I64 (x.tdiv y))) := by
  unfold l06_wraps
  by_cases h8 : op = 8
  · subst h8
    refine ⟨(x == -9223372036854775808) && (y == -1), ?_, fun q => ⟨fun h => absurd h (by decide), fun h => absurd h (by decide), fun h => absurd h (by decide), fun _ => tdiv_i kx fun r => ?_⟩⟩
    · simp only [show ((8 : Int) == 8) = true from rfl, cond_true]
      cases (x == -9223372036854775808) <;> rfl
    · rw [r.1, r.2] at q; cases q
  have g8 : (op == 8) = false := by simpa using h8
  rw [g8, rexact_eq kx ky]
  simp only [cond_false, Option.bind_some]
  have fin : ∀ z : Int, midZ z → exI op x y = (ofW z, true) → (I64 z → (op = 10 → I64 (x + y)) ∧ (op = 11 → I64 (x - y)) ∧ (op = 7 → I64 (x * y)) ∧ (op = 8 → I64 (x.tdiv y))) → ∃ w, ((r01_Int (exI op x y).1).bind fun x10 => (bif (exI op x y).2 then some (!x10.2) else some false)) = some w ∧ (w = false → (op = 10 → I64 (x + y)) ∧ (op = 11 → I64 (x - y)) ∧ (op = 7 → I64 (x * y)) ∧ (op = 8 → I64 (x.tdiv y))) := by
    intro z hz he hi
    obtain ⟨v, h1, _⟩ := rint_any hz
    rw [he]
    simp only [h1, Option.bind_some, cond_true]
    refine ⟨_, rfl, fun q => hi (okI_i (by simpa using q))⟩
  by_cases h10 : op = 10
  · exact fin (x + y) (mid_add kx ky).1 (by simp [exI, h10]) fun h => ⟨fun _ => h, fun q => by omega, fun q => by omega, fun q => by omega⟩
  by_cases h11 : op = 11
  · exact fin (x - y) (mid_add kx ky).2 (by simp [exI, h11]) fun h => ⟨fun q => by omega, fun _ => h, fun q => by omega, fun q => by omega⟩
  by_cases h7 : op = 7
  · exact fin (x * y) (mid_mul kx ky) (by simp [exI, h7]) fun h => ⟨fun q => by omega, fun q => by omega, fun _ => h, fun q => by omega⟩
  have he : exI op x y = (⟨0, 0⟩, false) := by simp [exI, h10, h11, h7]
  have e0 : (⟨0, 0⟩ : TApiWide) = ofW 0 := by
    unfold ofW hiW loW
    rw [show (0 : Int) / 18446744073709551616 = 0 by decide, show wrap64 0 = 0 by unfold wrap64; omega]; rfl
  obtain ⟨v, h1, _⟩ := rint_any (z := 0) ⟨by decide, by decide⟩
  rw [he]
  simp only [e0, h1, Option.bind_some, cond_false]
  exact ⟨_, rfl, fun _ => ⟨fun q => absurd q h10, fun q => absurd q h11, fun q => absurd q h7, fun q => absurd q h8⟩⟩
theorem sound {op x y : Int} {a b : TApiCong} {t : Bool} (ka : okC a) (kb : okC b) (kx : I64 x) (ky : I64 y) : l06_ResidueSound ⟨⟨op, a, b⟩, x, y, t⟩ = some true := by
  unfold l06_ResidueSound
  simp only [rhas_eq ka, rhas_eq kb, lives06, rdo_eq kx ky, rone_eq kx, Option.bind_some]
  cases ha : hasC (norm a) x
  · rfl
  cases hb : hasC (norm b) y
  · rfl
  simp only [Bool.not_true, cond_false, Option.bind_some]
  have rh : ∀ {c : TApiCong} {n : Int}, G c n → r05_Has c n = some true := fun {c n} g => by
    have := g.2.1
    unfold clean at this
    rw [rhas_eq g.1, this, g.2.2]
  have h1 : (bif ((doI op x y).2 == (0 : Int)) then (bif t then ((residue_Do op a b t).bind fun x27 => ((r05_Has x27 (doI op x y).1).bind fun x28 => some (!x28))) else ((l06_wraps op x y).bind fun x29 => (bif (!x29) then ((residue_Do op a b t).bind fun x31 => ((r05_Has x31 (doI op x y).1).bind fun x32 => some (!x32))) else some false))) else some false) = some false := by
    cases he : ((doI op x y).2 == 0)
    · rfl
    · have he' : (doI op x y).2 = 0 := by simpa using he
      simp only [cond_true]
      cases t
      · obtain ⟨w, w1, w2⟩ := wraps_eq (op := op) kx ky
        rw [w1]
        simp only [cond_false, Option.bind_some]
        cases w
        · obtain ⟨c, q1, q2⟩ := snd_do (op := op) (wr := false) ka kb kx ky ha hb he' (.inr (w2 rfl))
          simp only [q1, rh q2, Bool.not_false, cond_true, Option.bind_some, Bool.not_true]
        · rfl
      · obtain ⟨c, q1, q2⟩ := snd_do (op := op) (wr := true) ka kb kx ky ha hb he' (.inl rfl)
        simp only [cond_true, q1, rh q2, Option.bind_some, Bool.not_true]
  rw [h1]
  simp only [Option.bind_some, cond_false]
  cases he : ((oneI op x).2 != 0)
  · have he' : (oneI op x).2 = 0 := by unfold bne at he; simpa using he
    cases t
    · simp only [Bool.not_false, cond_true, cond_false]
      cases hx : (x == -9223372036854775808)
      · obtain ⟨c, q1, q2⟩ := snd_one (op := op) (wr := false) ka kx ha he' (.inr (by simpa using hx))
        simp only [cond_false, q1, rh q2, Option.bind_some, cond_true]
      · rfl
    · obtain ⟨c, q1, q2⟩ := snd_one (op := op) (wr := true) ka kx ha he' (.inl rfl)
      simp only [Bool.not_true, cond_false, q1, rh q2, Option.bind_some, cond_true]
  · rfl
end Go.Proofs.Ytjbpfgknhpdkaaa.Ab
