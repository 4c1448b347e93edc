/- Layer 5: what is in both. -/
import Derived.Test.YtjbpfgknhpdkaaaCp9
namespace Go.Proofs.Ytjbpfgknhpdkaaa.Ab
open Go Go.RowKit Go.Shelf Go.Proofs.Ytjbpfgknhpdkaaa
set_option linter.all false
theorem has_eq {c : TApiCong} (h : okC c) (n : Int) : cong_Has c n = some (hasC (norm c) n) := by
  have k := norm_ok h
  have cl : clean (norm c) := norm_norm c
  unfold cong_Has
  rw [clean_eq c h.1]
  generalize norm c = x at *
  simp only [Option.bind_some, hasC]
  cases hx : x.gSome
  · simp
  · have mx := clean_m cl hx
    rw [mod_eq _ _ k.1]
    unfold modI
    by_cases h0 : x.gM = 0
    · simp [h0]
    · simp [h0, show ¬ x.gM ≤ 0 by omega]
/-- The common multiple is an int. -/
def fitsC (x y : TApiCong) : Prop := 0 < x.gM → 0 < y.gM → x.gM * (y.gM / (Int.gcd x.gM y.gM : Int)) < 9223372036854775808
structure MeetC (x y c : TApiCong) : Prop where
  cl : clean c
  ok : okC c
  lost : ∀ n, hasC x n = true → hasC y n = true → hasC c n = true
  one : leqC c x = true ∨ leqC c y = true
  fit : fitsC x y → leqC c x = true ∧ leqC c y = true ∧ ∀ n, hasC c n = true → hasC x n = true ∧ hasC y n = true
  nofit : ¬ fitsC x y → c = x ∨ c = y ∨ c.gSome = false
theorem leq_refl {x : TApiCong} (h : clean x) : leqC x x = true := by
  unfold leqC
  cases hs : x.gSome
  · rfl
  · by_cases h0 : x.gM = 0
    · simp [h0]
    · have m0 := clean_m h hs
      have := clean_r h hs (by omega)
      simp [h0, hasC, hs, Int.emod_eq_of_lt this.1 this.2]
theorem has_m {x : TApiCong} (hs : x.gSome = true) (h0 : 0 < x.gM) (r : 0 ≤ x.gR ∧ x.gR < x.gM) (n : Int) : hasC x n = true ↔ x.gM ∣ n - x.gR := by
  unfold hasC
  rw [hs, if_neg (by omega)]
  simp only [Bool.true_and, beq_iff_eq]
  constructor
  · intro e; rw [← e]
    exact Int.dvd_self_sub_emod
  · intro e
    have := Int.emod_emod_of_dvd
    have h1 := Int.emod_eq_emod_iff_emod_sub_eq_zero.2 (Int.emod_eq_zero_of_dvd e)
    rw [h1, Int.emod_eq_of_lt r.1 r.2]
theorem none_has (n : Int) : hasC noneC n = false := rfl
theorem meet_none {x y : TApiCong} (hl : ∀ n, hasC x n = true → hasC y n = true → False) : MeetC x y noneC :=
  ⟨rfl, ⟨i64_0, i64_0⟩, fun n a b => (hl n a b).elim, .inl rfl, fun _ => ⟨rfl, rfl, fun n h => by cases h⟩, fun _ => .inr (.inr rfl)⟩
theorem has_lone {x : TApiCong} (hs : x.gSome = true) (h0 : x.gM = 0) (n : Int) : hasC x n = true ↔ n = x.gR := by
  unfold hasC; rw [hs, if_pos h0]; simp
theorem leq_lone {x y : TApiCong} (cy : clean y) (hs : x.gSome = true) (h0 : x.gM = 0) (h : hasC y x.gR = true) : leqC x y = true := by
  have hy : y.gSome = true := by unfold hasC at h; cases e : y.gSome <;> simp [e] at h ⊢
  unfold leqC
  rw [hs, hy]
  by_cases hm : y.gM = 0
  · have := (has_lone hy hm _).1 h
    simp [hm, h0, this]
  · simp [hm, h0, h]
theorem meet_lone {x y : TApiCong} (cx : clean x) (cy : clean y) (kx : okC x) (hs : x.gSome = true) (h0 : x.gM = 0) (h : hasC y x.gR = true) : MeetC x y x ∧ MeetC y x x := by
  have l := leq_lone cy hs h0 h
  have r := leq_refl cx
  have a : ∀ n, hasC x n = true → hasC x n = true ∧ hasC y n = true := fun n k => ⟨k, by rw [(has_lone hs h0 n).1 k]; exact h⟩
  exact ⟨⟨cx, kx, fun n k _ => k, .inl r, fun _ => ⟨r, l, a⟩, fun _ => .inl rfl⟩, ⟨cx, kx, fun n _ k => k, .inr r, fun _ => ⟨l, r, fun n k => ⟨(a n k).2, k⟩⟩, fun _ => .inr (.inl rfl)⟩⟩
theorem low_wMul {a b : Int} (h : I64 (a * b)) : wLow (wMul a b) = a * b := low_of h
theorem mul_rng {a b : Int} (ha : I64 a) (hb : I64 b) : a * b ≤ 85070591730234615865843651857942052864 ∧ -85070591730234615865843651857942052864 ≤ a * b := by
  have h1 : (a * b).natAbs ≤ 9223372036854775808 * 9223372036854775808 := by
    rw [Int.natAbs_mul]
    exact Nat.mul_le_mul (by unfold I64 at ha; omega) (by unfold I64 at hb; omega)
  omega
theorem int_eq {a b : Int} (ha : I64 a) (hb : I64 b) : ∃ v, wide_Int (wMul a b) = some (v, okI (a * b)) ∧ (I64 (a * b) → v = a * b) := by
  have hw : wLow (wMul a b) = wrap64 (loW (a * b)) := rfl
  have hl : I64 (wLow (wMul a b)) := by rw [hw]; unfold wrap64 I64; omega
  unfold wide_Int
  rw [need_bind (show pW (wMul a b) = true from okW_ofW _), need_bind (show pI (wLow (wMul a b)) = true from okI_of hl)]
  by_cases h : I64 (a * b)
  · rw [low_wMul h]
    have e1 : (wOf (a * b)).gHi = (wMul a b).gHi := rfl
    have e2 : (wOf (a * b)).gLo = (wMul a b).gLo := rfl
    refine ⟨a * b, ?_, fun _ => rfl⟩
    simp [e1, e2, okI_of h]
  · refine ⟨0, ?_, fun k => absurd k h⟩
    have hv : vW (wMul a b) = a * b := by
      unfold wMul
      have ma : a * b ≤ 85070591730234615865843651857942052864 ∧ -85070591730234615865843651857942052864 ≤ a * b := mul_rng ha hb
      exact vW_ofW (by omega) (by omega)
    have hne : ¬ ((wOf (wLow (wMul a b))).gHi = (wMul a b).gHi ∧ (wOf (wLow (wMul a b))).gLo = (wMul a b).gLo) := by
      rintro ⟨e1, e2⟩
      apply h
      have : vW (wOf (wLow (wMul a b))) = vW (wMul a b) := by unfold vW; rw [e1, e2]
      rw [hv, show vW (wOf (wLow (wMul a b))) = wLow (wMul a b) from vW_of hl] at this
      rw [← this]; exact hl
    have : ((wOf (wLow (wMul a b))).gHi == (wMul a b).gHi && ((wOf (wLow (wMul a b))).gLo == (wMul a b).gLo && true)) = false := by
      rw [Bool.eq_false_iff]
      intro q
      simp only [Bool.and_true, Bool.and_eq_true, beq_iff_eq] at q
      exact hne q
    rw [this, show okI (a * b) = false by rw [Bool.eq_false_iff]; exact fun q => h (okI_i q)]
    rfl
theorem rint_eq {a b : Int} (ha : I64 a) (hb : I64 b) : ∃ v, r01_Int (rMul a b) = some (v, okI (a * b)) := by
  have ma := mul_rng ha hb
  have hv : vW (rMul a b) = a * b := by
    unfold rMul
    exact vW_ofW (by omega) (by omega)
  have l1 : vW (rOf (-9223372036854775808)) = -9223372036854775808 := vW_of (by unfold I64; omega)
  have l2 : vW (rOf 9223372036854775807) = 9223372036854775807 := vW_of (by unfold I64; omega)
  unfold r01_Int
  rw [need_bind (show pI (-9223372036854775808) = true by decide), need_bind (show pWW (rMul a b) (rOf (-9223372036854775808)) = true by simp [pWW, rMul, rOf, okW_ofW]), need_bind (show pI 9223372036854775807 = true by decide), need_bind (show pWW (rMul a b) (rOf 9223372036854775807) = true by simp [pWW, rMul, rOf, okW_ofW])]
  unfold rCmp
  rw [hv, l1, l2]
  unfold cmpI okI
  by_cases h1 : a * b < -9223372036854775808
  · refine ⟨0, ?_⟩
    rw [if_pos h1]
    simp [show ¬ -9223372036854775808 ≤ a * b by omega]
  · rw [if_neg h1]
    by_cases h2 : a * b ≤ 9223372036854775807
    · refine ⟨IntKind.i64.wrap (rMul a b).gLo, ?_⟩
      have e1 : decide ((if a * b > -9223372036854775808 then (1 : Int) else 0) < 0) = false := by split <;> decide
      have e2 : decide ((0 : Int) < (if a * b < 9223372036854775807 then (-1 : Int) else if a * b > 9223372036854775807 then 1 else 0)) = false := by
        by_cases h3 : a * b < 9223372036854775807
        · rw [if_pos h3]; decide
        · rw [if_neg h3, if_neg (by omega)]; decide
      simp only [e1, e2, cond_false, Option.bind_some]
      rw [decide_eq_true (show -9223372036854775808 ≤ a * b by omega), decide_eq_true (show a * b < 9223372036854775808 by omega)]
      rfl
    · refine ⟨0, ?_⟩
      have e1 : decide ((if a * b > -9223372036854775808 then (1 : Int) else 0) < 0) = false := by split <;> decide
      have e2 : decide ((0 : Int) < (if a * b < 9223372036854775807 then (-1 : Int) else if a * b > 9223372036854775807 then 1 else 0)) = true := by
        rw [if_neg (by omega), if_pos (by omega)]; decide
      simp only [e1, e2, cond_false, cond_true, Option.bind_some]
      rw [decide_eq_false (show ¬ a * b < 9223372036854775808 by omega), Bool.and_false]
theorem gcd_pos' {M N : Int} (h : 0 < M) : 0 < (Int.gcd M N : Int) := by
  have : Int.gcd M N ≠ 0 := by rw [Ne, Int.gcd_eq_zero_iff]; omega
  omega
theorem dvd_abs (g z : Int) : g ∣ ((z.natAbs : Nat) : Int) ↔ g ∣ z := by
  rcases Int.natAbs_eq z with e | e
  · rw [← e]
  · constructor
    · intro h; rw [e]; exact Int.dvd_neg.2 h
    · intro h; rw [e] at h; exact Int.dvd_neg.1 h
/-- The least common multiple. -/
theorem gcd_mul_lcm' {M N : Int} (hM : 0 < M) (hN : 0 < N) : M ∣ M * (N / (Int.gcd M N : Int)) ∧ N ∣ M * (N / (Int.gcd M N : Int)) ∧ ∀ z, M ∣ z → N ∣ z → M * (N / (Int.gcd M N : Int)) ∣ z := by
  have gp := gcd_pos' (N := N) hM
  have g1 : (Int.gcd M N : Int) ∣ M := Int.gcd_dvd_left ..
  have g2 : (Int.gcd M N : Int) ∣ N := Int.gcd_dvd_right ..
  have cop : Int.gcd (M / (Int.gcd M N : Int)) (N / (Int.gcd M N : Int)) = 1 := by
    obtain ⟨m, rfl⟩ := Int.eq_ofNat_of_zero_le (Int.le_of_lt hM)
    obtain ⟨n, rfl⟩ := Int.eq_ofNat_of_zero_le (Int.le_of_lt hN)
    have := Nat.gcd_div_gcd_div_gcd_of_pos_left (n := m) (m := n) (by omega)
    exact this
  generalize (Int.gcd M N : Int) = g at *
  obtain ⟨p, rfl⟩ := g1
  obtain ⟨n, rfl⟩ := g2
  rw [Int.mul_ediv_cancel_left _ (by omega), Int.mul_ediv_cancel_left _ (by omega)] at cop
  rw [Int.mul_ediv_cancel_left _ (by omega)]
  refine ⟨⟨n, rfl⟩, ⟨p, by grind⟩, ?_⟩
  rintro z ⟨u, rfl⟩ ⟨v, hv⟩
  have h1 : p * u = n * v := by
    have : g * (p * u) = g * (n * v) := by rw [← Int.mul_assoc, ← Int.mul_assoc]; exact hv
    exact Int.eq_of_mul_eq_mul_left (by omega) this
  have h2 : n ∣ p * u := ⟨v, h1⟩
  have h3 : n ∣ u := by
    have k1 := Int.natAbs_dvd_natAbs.2 h2
    rw [Int.natAbs_mul] at k1
    exact Int.natAbs_dvd_natAbs.1 (Nat.Coprime.dvd_of_dvd_mul_left (show Nat.gcd n.natAbs p.natAbs = 1 by rw [Nat.gcd_comm]; exact cop) k1)
  obtain ⟨t, rfl⟩ := h3
  exact ⟨t, by grind⟩
theorem meet_eq {a b : TApiCong} (ha : okC a) (hb : okC b) : ∃ c, cong_Meet a b = some c ∧ MeetC (norm a) (norm b) c := by
  have ka := norm_ok ha
  have kb := norm_ok hb
  have ca : clean (norm a) := norm_norm a
  have cb : clean (norm b) := norm_norm b
  unfold cong_Meet
  rw [clean_eq a ha.1, clean_eq b hb.1]
  generalize norm a = x at *
  generalize norm b = y at *
  simp only [Option.bind_some]
  unfold cong_None
  cases hx : x.gSome
  · refine ⟨noneC, by simp [noneC], ?_⟩
    exact meet_none fun n h _ => by unfold hasC at h; simp [hx] at h
  cases hy : y.gSome
  · refine ⟨noneC, by simp [noneC], ?_⟩
    exact meet_none fun n _ h => by unfold hasC at h; simp [hy] at h
  have mx := clean_m ca hx
  have my := clean_m cb hy
  simp only [Bool.not_true, Option.bind_some, cond_false]
  by_cases h0 : x.gM = 0
  · have e0 : (x.gM == 0) = true := by simpa using h0
    have e1 : (x.gM != 0) = false := by simpa using h0
    simp only [e0, e1, cond_true, cond_false, Option.bind_some]
    rw [show (⟨true, y.gM, y.gR⟩ : TApiCong) = y by rw [← hy], has_eq kb, cb]
    simp only [Option.bind_some]
    cases hh : hasC y x.gR
    · refine ⟨noneC, by simp [noneC], meet_none fun n h k => ?_⟩
      rw [(has_lone hx h0 n).1 h, hh] at k; cases k
    · refine ⟨x, ?_, (meet_lone ca cb ka hx h0 hh).1⟩
      simp only [Bool.not_true, cond_false]
      rw [← hx]
  have e0 : (x.gM == 0) = false := by simpa using h0
  by_cases h1 : y.gM = 0
  · have e2 : (x.gM != 0) = true := by simpa using h0
    have e1 : (y.gM == 0) = true := by simpa using h1
    simp only [e0, e1, e2, cond_true, cond_false, Option.bind_some]
    rw [show (⟨true, x.gM, x.gR⟩ : TApiCong) = x by rw [← hx], has_eq ka, ca]
    simp only [Option.bind_some]
    cases hh : hasC x y.gR
    · refine ⟨noneC, by simp [noneC], meet_none fun n h k => ?_⟩
      rw [(has_lone hy h1 n).1 k, hh] at h; cases h
    · refine ⟨y, ?_, (meet_lone cb ca kb hy h1 hh).2⟩
      simp only [Bool.not_true, cond_false]
      rw [← hy]
  have e1 : (y.gM == 0) = false := by simpa using h1
  simp only [e0, e1, cond_false, Option.bind_some]
  have px : 0 < x.gM := by omega
  have py : 0 < y.gM := by omega
  have rx := clean_r ca hx px
  have ry := clean_r cb hy py
  have lx : x.gM < 9223372036854775808 := ka.1.2
  have ly : y.gM < 9223372036854775808 := kb.1.2
  have gp := gcd_pos' (N := y.gM) px
  have gl : (Int.gcd x.gM y.gM : Int) ∣ x.gM := Int.gcd_dvd_left ..
  have gr : (Int.gcd x.gM y.gM : Int) ∣ y.gM := Int.gcd_dvd_right ..
  have gle : (Int.gcd x.gM y.gM : Int) ≤ x.gM := Int.le_of_dvd px gl
  rw [u64w (n := x.gM) (by omega) (by omega), u64w (n := y.gM) (by omega) (by omega), gcd_eq _ _ mx my, apart_eq ka.2 kb.2]
  simp only [Option.bind_some]
  rw [need_ne (show (Int.gcd x.gM y.gM : Int) ≠ 0 by omega)]
  simp only [Option.bind_some]
  by_cases hd : (Int.gcd x.gM y.gM : Int) ∣ x.gR - y.gR
  · have ht : (((((x.gR - y.gR).natAbs : Nat) : Int).tmod (Int.gcd x.gM y.gM : Int)) != 0) = false := by
      rw [Int.tmod_eq_emod_of_nonneg (by omega), Int.emod_eq_zero_of_dvd ((dvd_abs _ _).2 hd)]; rfl
    have ig : I64 (Int.gcd x.gM y.gM : Int) := by unfold I64; omega
    have q0 : 0 ≤ y.gM / (Int.gcd x.gM y.gM : Int) := Int.ediv_nonneg (by omega) (by omega)
    have q1 : y.gM / (Int.gcd x.gM y.gM : Int) ≤ y.gM := Int.ediv_le_self _ (by omega)
    have iq : I64 (y.gM / (Int.gcd x.gM y.gM : Int)) := by unfold I64; omega
    rw [ht, w64 ig]
    simp only [cond_false]
    rw [need_ne (show (Int.gcd x.gM y.gM : Int) ≠ 0 by omega), ti_pos (by omega)]
    simp only [Option.bind_some]
    rw [w64 iq, need_bind (show pII x.gM (y.gM / (Int.gcd x.gM y.gM : Int)) = true by simp [pII, okI_of ka.1, okI_of iq])]
    obtain ⟨v, hv, hv2⟩ := int_eq ka.1 iq
    rw [hv]
    simp only [Option.bind_some]
    have L0 : 0 ≤ x.gM * (y.gM / (Int.gcd x.gM y.gM : Int)) := Int.mul_nonneg (by omega) q0
    cases hf : okI (x.gM * (y.gM / (Int.gcd x.gM y.gM : Int)))
    · have nf : ¬ fitsC x y := by
        intro f
        have := f px py
        have : okI (x.gM * (y.gM / (Int.gcd x.gM y.gM : Int))) = true := okI_of (by unfold I64; omega)
        rw [hf] at this; cases this
      simp only [cond_false]
      by_cases hlt : x.gM < y.gM
      · rw [decide_eq_true hlt]
        exact ⟨y, rfl, cb, kb, fun n _ k => k, .inr (leq_refl cb), fun f => (nf f).elim, fun _ => .inr (.inl rfl)⟩
      · rw [decide_eq_false hlt]
        exact ⟨x, rfl, ca, ka, fun n k _ => k, .inl (leq_refl ca), fun f => (nf f).elim, fun _ => .inl rfl⟩
    · have iL := okI_i hf
      have ft : fitsC x y := fun _ _ => iL.2
      obtain ⟨w, hw, w0, w1, w2, w3⟩ := both_eq ka kb px py rx ry hd iL.2
      rw [hv2 iL, hw]
      simp only [cond_true, Option.bind_some]
      rw [of_eq _ _ iL]
      simp only [Option.bind_some]
      have hq := gcd_mul_lcm' px py
      generalize x.gM * (y.gM / (Int.gcd x.gM y.gM : Int)) = L at *
      have pL : 0 < L := by omega
      have eo : ofC L w = ⟨true, L, w⟩ := by
        unfold ofC
        rw [show normM L = L by unfold normM; rw [if_neg (by omega)]]
        unfold modI
        rw [if_neg (by omega), Int.emod_eq_of_lt w0 w1]
      rw [eo]
      have cl : clean ⟨true, L, w⟩ := by rw [← eo]; exact clean_ofC
      have hc := has_m (x := ⟨true, L, w⟩) rfl pL ⟨w0, w1⟩
      have hxm := has_m hx px rx
      have hym := has_m hy py ry
      have lq : ∀ z : TApiCong, z.gSome = true → 0 < z.gM → z.gM ∣ L → hasC z w = true → leqC ⟨true, L, w⟩ z = true := by
        intro z z1 z2 z3 z4
        unfold leqC
        simp [z1, z4, show z.gM ≠ 0 by omega, Int.emod_eq_zero_of_dvd z3]
      have l1 := lq x hx px hq.1 ((hxm w).2 w2)
      have l2 := lq y hy py hq.2.1 ((hym w).2 w3)
      have sub : ∀ {p n r : Int}, p ∣ n - w → p ∣ w - r → p ∣ n - r := fun {p n r} h k => by
        have := Int.dvd_add h k
        rwa [show n - w + (w - r) = n - r by omega] at this
      refine ⟨_, rfl, cl, ⟨iL, show I64 w by unfold I64; have := iL.2; omega⟩, fun n h k => ?_, .inl l1, fun _ => ⟨l1, l2, fun n h => ?_⟩, fun nf => (nf ft).elim⟩
      · refine (hc n).2 (hq.2.2 _ ?_ ?_)
        · have := Int.dvd_sub ((hxm n).1 h) w2
          rwa [show n - x.gR - (w - x.gR) = n - w by omega] at this
        · have := Int.dvd_sub ((hym n).1 k) w3
          rwa [show n - y.gR - (w - y.gR) = n - w by omega] at this
      · have := (hc n).1 h
        exact ⟨(hxm n).2 (sub (Int.dvd_trans hq.1 this) w2), (hym n).2 (sub (Int.dvd_trans hq.2.1 this) w3)⟩
  · have ht : (((((x.gR - y.gR).natAbs : Nat) : Int).tmod (Int.gcd x.gM y.gM : Int)) != 0) = true := by
      rw [Int.tmod_eq_emod_of_nonneg (by omega)]
      simp only [bne_iff_ne, ne_eq]
      intro e
      exact hd ((dvd_abs _ _).1 (Int.dvd_of_emod_eq_zero e))
    rw [ht]
    refine ⟨noneC, rfl, meet_none fun n h k => hd ?_⟩
    have h1 := Int.dvd_trans gl ((has_m hx px rx n).1 h)
    have h2 := Int.dvd_trans gr ((has_m hy py ry n).1 k)
    have := Int.dvd_sub h2 h1
    rwa [show n - y.gR - (n - x.gR) = x.gR - y.gR by omega] at this
end Go.Proofs.Ytjbpfgknhpdkaaa.Ab
