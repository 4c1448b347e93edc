/- Layer 5: the laws of what is in both. -/
import Derived.Test.YtcjgacmoemiifaaCp10
import Derived.Test.YtcjgacmoemiifaaCp6
import Derived.Test.YtcjgacmoemiifaaCg4
namespace Go.Proofs.Ytcjgacmoemiifaa.Ab
open Go Go.RowKit Go.Shelf Go.Proofs.Ytcjgacmoemiifaa
set_option linter.all false
theorem same_self (c : TApiCong) : (c.gSome == c.gSome && (c.gM == c.gM && (c.gR == c.gR && true))) = true := by simp
theorem same_iff {a b : TApiCong} : (a.gSome == b.gSome && (a.gM == b.gM && (a.gR == b.gR && true))) = true ↔ a = b := by
  constructor
  · intro q
    simp only [Bool.and_true, Bool.and_eq_true, beq_iff_eq] at q
    exact ceq q.1 q.2.1 q.2.2
  · rintro rfl; exact same_self _
theorem none_m {x : TApiCong} (h : clean x) (k : 0 < x.gM) : x.gSome = true := by
  cases e : x.gSome
  · rw [clean_none h e] at k; exact absurd k (by decide)
  · rfl
theorem meets (a0 a1 : TApiCong) (a2 : Int) (k0 : okC a0) (k1 : okC a1) (hv : l05_lives = some true) : l05_CongMeets a0 a1 a2 = some true := by
  obtain ⟨c, hc, M⟩ := meet_eq k0 k1
  have o0 := norm_ok k0
  have o1 := norm_ok k1
  have c0 : clean (norm a0) := norm_norm a0
  have c1 : clean (norm a1) := norm_norm a1
  have nc : norm c = c := M.cl
  unfold l05_CongMeets
  rw [hc, rclean_eq a0 k0.1, rclean_eq a1 k1.1, rhas_eq k0, rhas_eq k1]
  simp only [Option.bind_some]
  rw [rhas_eq M.ok, rclean_eq c M.ok.1, rleq_eq M.ok k0, rleq_eq M.ok k1, nc, hv]
  generalize norm a0 = x at *
  generalize norm a1 = y at *
  clear hc
  simp only [Option.bind_some]
  have e1 : (bif hasC x a2 then some (hasC y a2) else some false) = some (hasC x a2 && hasC y a2) := by cases hasC x a2 <;> rfl
  rw [e1]
  simp only [Option.bind_some]
  rw [same_self c]
  have e2 : (bif !leqC c x then some (!leqC c y) else some false) = some false := by
    rcases M.one with h | h
    · rw [h]; rfl
    · rw [h]; cases leqC c x <;> rfl
  have e3 : (bif (hasC x a2 && hasC y a2) then (bif !hasC c a2 then some true else (bif !true then some true else (bif !leqC c x then some (!leqC c y) else some false))) else (bif !true then some true else (bif !leqC c x then some (!leqC c y) else some false))) = some false := by
    rw [e2]
    cases h : (hasC x a2 && hasC y a2)
    · rfl
    · rw [Bool.and_eq_true] at h
      rw [M.lost a2 h.1 h.2]; rfl
  rw [e3]
  simp only [Option.bind_some, cond_false]
  have fin1 : fitsC x y → (bif leqC c x then (bif leqC c y then (bif hasC c a2 == (hasC x a2 && hasC y a2) then some true else some false) else some false) else some false) = some true := by
    intro f
    obtain ⟨f1, f2, f3⟩ := M.fit f
    rw [f1, f2]
    have : hasC c a2 = (hasC x a2 && hasC y a2) := by
      cases h : hasC c a2
      · cases h2 : (hasC x a2 && hasC y a2)
        · rfl
        · rw [Bool.and_eq_true] at h2
          rw [M.lost a2 h2.1 h2.2] at h; cases h
      · have := f3 a2 h
        rw [this.1, this.2]; rfl
    rw [this]; simp
  have fin2 : ¬ fitsC x y → (bif (c.gSome == x.gSome && (c.gM == x.gM && (c.gR == x.gR && true))) then some true else (bif (c.gSome == y.gSome && (c.gM == y.gM && (c.gR == y.gR && true))) then some true else (bif !c.gSome then some true else some false))) = some true := by
    intro f
    rcases M.nofit f with h | h | h
    · rw [same_iff.2 h]; rfl
    · rw [same_iff.2 h]
      cases (c.gSome == x.gSome && (c.gM == x.gM && (c.gR == x.gR && true))) <;> rfl
    · rw [h]
      cases (false == x.gSome && (c.gM == x.gM && (c.gR == x.gR && true))) <;> cases (false == y.gSome && (c.gM == y.gM && (c.gR == y.gR && true))) <;> rfl
  by_cases hx : 0 < x.gM
  · by_cases hy : 0 < y.gM
    · rw [decide_eq_true hx, decide_eq_true hy]
      simp only [cond_true, Option.bind_some]
      have gp := gcd_pos' (N := y.gM) hx
      have gle : (Int.gcd x.gM y.gM : Int) ≤ x.gM := Int.le_of_dvd hx (Int.gcd_dvd_left ..)
      have lx : x.gM < 9223372036854775808 := o0.1.2
      have ly : y.gM < 9223372036854775808 := o1.1.2
      have q0 : 0 ≤ y.gM / (Int.gcd x.gM y.gM : Int) := Int.ediv_nonneg (by omega) (by omega)
      have q1 : y.gM / (Int.gcd x.gM y.gM : Int) ≤ y.gM := Int.ediv_le_self _ (by omega)
      have iq : I64 (y.gM / (Int.gcd x.gM y.gM : Int)) := by unfold I64; omega
      have L0 : 0 ≤ x.gM * (y.gM / (Int.gcd x.gM y.gM : Int)) := Int.mul_nonneg (by omega) q0
      rw [u64w (n := x.gM) (by omega) (by omega), u64w (n := y.gM) (by omega) (by omega), rgcd_eq _ _ (by omega) (by omega) (by omega) (by omega)]
      simp only [Option.bind_some]
      rw [w64 (show I64 (Int.gcd x.gM y.gM : Int) by unfold I64; omega), need_ne (show (Int.gcd x.gM y.gM : Int) ≠ 0 by omega), ti_pos (by omega), w64 iq]
      simp only [Option.bind_some]
      rw [need_bind (show pII x.gM (y.gM / (Int.gcd x.gM y.gM : Int)) = true by simp [pII, okI_of o0.1, okI_of iq])]
      obtain ⟨v, hv'⟩ := rint_eq o0.1 iq
      rw [hv']
      simp only [Option.bind_some]
      cases hf : okI (x.gM * (y.gM / (Int.gcd x.gM y.gM : Int)))
      · have nf : ¬ fitsC x y := by
          intro f
          have := f hx hy
          have : okI (x.gM * (y.gM / (Int.gcd x.gM y.gM : Int))) = true := okI_of (by unfold I64; omega)
          rw [hf] at this; cases this
        simp only [Bool.not_false, cond_true]
        rw [fin2 nf]; rfl
      · simp only [Bool.not_true, cond_false]
        exact fin1 fun _ _ => (okI_i hf).2
    · rw [decide_eq_true hx, decide_eq_false hy]
      simp only [cond_true, cond_false, Option.bind_some, Bool.not_true]
      exact fin1 fun _ h => absurd h hy
  · rw [decide_eq_false hx]
    simp only [cond_false, Option.bind_some, Bool.not_true]
    exact fin1 fun h => absurd h hx
theorem CongMeets_true (a0 a1 : TApiCong) (a2 : Int) (k0 : wfTApiCong a0) (k1 : wfTApiCong a1) (k2 : (Lit.int .i64 a2).wf = true) : l05_CongMeets a0 a1 a2 = some true :=
  meets a0 a1 a2 (okC_wf k0) (okC_wf k1) lives05
/-! ### What is found -/
theorem has_norm {m n : Int} (b : Bool) (hb : b = true) : hasC (norm ⟨b, m, n⟩) n = true := by
  subst hb
  unfold norm
  rw [if_pos rfl]
  unfold ofC hasC
  simp only [Bool.true_and]
  by_cases h : normM m = 0
  · rw [if_pos h]; unfold modI; rw [if_pos (by omega)]; simp
  · rw [if_neg h]
    have : 0 < normM m := by unfold normM at *; split <;> simp_all <;> omega
    unfold modI; rw [if_neg (by omega)]; simp
theorem lone_leq {n : Int} {c : TApiCong} (h : hasC c n = true) : leqC ⟨true, 0, n⟩ c = true := by
  have hs : c.gSome = true := by unfold hasC at h; cases e : c.gSome <;> simp [e] at h ⊢
  unfold leqC
  unfold hasC at h ⊢
  rw [hs] at h ⊢
  by_cases hm : c.gM = 0 <;> simp [hm] at h ⊢ <;> exact h
theorem has_some {c : TApiCong} {n : Int} (h : hasC c n = true) : c.gSome = true := by unfold hasC at h; cases e : c.gSome <;> simp [e] at h ⊢
theorem has_self {x : TApiCong} (cx : clean x) (hs : x.gSome = true) : hasC x x.gR = true := by
  have m0 := clean_m cx hs
  by_cases h : x.gM = 0
  · exact (has_lone hs h _).2 rfl
  · have := clean_r cx hs (by omega)
    exact (has_m hs (by omega) this _).2 ⟨0, by omega⟩
theorem set_eq {x d : TApiCong} (cx : clean x) (cd : clean d) (hl : leqC d x = true) (hh : ∀ n, hasC x n = true → hasC d n = true) : d = x := by
  cases hs : x.gSome
  · have hd : d.gSome = false := by
      unfold leqC at hl; rw [hs] at hl
      cases e : d.gSome
      · rfl
      · rw [e] at hl; cases hl
    rw [clean_none cx hs, clean_none cd hd]
  · have h1 := hh _ (has_self cx hs)
    have ds := has_some h1
    have mx := clean_m cx hs
    have md := clean_m cd ds
    unfold leqC at hl
    rw [hs, ds] at hl
    by_cases h0 : x.gM = 0
    · simp only [h0, if_true, Bool.not_true, Bool.false_or, Bool.true_and, Bool.and_eq_true, beq_iff_eq] at hl
      exact ceq (by rw [ds, hs]) (by rw [hl.1, h0]) hl.2
    · simp only [h0, if_false, Bool.not_true, Bool.false_or, Bool.true_and, Bool.and_eq_true, beq_iff_eq] at hl
      have rx := clean_r cx hs (by omega)
      have hm := has_m hs (show 0 < x.gM by omega) rx
      have h2 := hh _ ((hm (x.gR + x.gM)).2 ⟨1, by omega⟩)
      by_cases hd0 : d.gM = 0
      · have e1 := (has_lone ds hd0 _).1 h1
        have e2 := (has_lone ds hd0 _).1 h2
        omega
      · have rd := clean_r cd ds (by omega)
        have hmd := has_m ds (show 0 < d.gM by omega) rd
        have d1 := (hmd _).1 h1
        have d2 := (hmd _).1 h2
        have d3 := Int.dvd_sub d2 d1
        rw [show x.gR + x.gM - d.gR - (x.gR - d.gR) = x.gM by omega] at d3
        have em : d.gM = x.gM := Int.le_antisymm (Int.le_of_dvd (by omega) d3) (Int.le_of_dvd (by omega) (Int.dvd_of_emod_eq_zero hl.1))
        refine ceq (by rw [ds, hs]) em ?_
        have := (hm _).1 hl.2
        obtain ⟨t, ht⟩ := this
        have : t = 0 := by
          by_cases h3 : t ≤ -1
          · have : x.gM * t ≤ x.gM * (-1) := Int.mul_le_mul_of_nonneg_left h3 mx
            omega
          · by_cases h4 : 1 ≤ t
            · have : x.gM * 1 ≤ x.gM * t := Int.mul_le_mul_of_nonneg_left h4 mx
              omega
            · omega
        subst this; omega
theorem fits_self (x : TApiCong) (k : okC x) : fitsC x x := by
  intro h _
  rw [Int.gcd_self, show (x.gM.natAbs : Int) = x.gM by omega, Int.ediv_self (by omega), Int.mul_one]
  exact k.1.2
theorem leq_of_none {d x : TApiCong} (hs : x.gSome = false) (hl : leqC d x = true) : d.gSome = false := by
  unfold leqC at hl; rw [hs] at hl
  cases e : d.gSome
  · rfl
  · rw [e] at hl; cases hl
theorem norm_s (c : TApiCong) : (norm c).gSome = c.gSome := by
  unfold norm; cases h : c.gSome <;> simp [ofC, noneC]
theorem none_gM {x : TApiCong} (h : clean x) (k : x.gSome = false) : x.gM = 0 := by rw [clean_none h k]; rfl
theorem CongFinds_true (a0 a1 : TApiCong) (a2 : Int) (k0' : wfTApiCong a0) (k1' : wfTApiCong a1) (k2 : (Lit.int .i64 a2).wf = true) : l05_CongFinds a0 a1 a2 = some true := by
  have k0 := okC_wf k0'
  have k1 := okC_wf k1'
  have i2 : I64 a2 := i64_wf k2
  have kx : okC ⟨a0.gSome, a0.gM, a2⟩ := ⟨k0.1, i2⟩
  have ky : okC ⟨a1.gSome, a1.gM, a2⟩ := ⟨k1.1, i2⟩
  have kn : okC ⟨true, 0, a2⟩ := ⟨i64_0, i2⟩
  obtain ⟨c, hc, M⟩ := meet_eq kx ky
  obtain ⟨d, hd, D⟩ := meet_eq k0 k0
  have ed : d = norm a0 := set_eq (norm_norm a0) D.cl (D.fit (fits_self _ (norm_ok k0))).1 fun n h => D.lost n h h
  subst ed
  have nc : norm c = c := M.cl
  have nl : norm ⟨true, 0, a2⟩ = ⟨true, 0, a2⟩ := by simp [norm, ofC, normM, modI]
  unfold l05_CongFinds
  rw [hc, hd]
  simp only [Option.bind_some]
  rw [rhas_eq M.ok, rleq_eq kn M.ok, nc, nl, rleq_eq D.ok k0, norm_norm, leq_refl (norm_norm a0)]
  have hsame : cong_Same (norm a0) a0 = some true := by
    unfold cong_Same
    rw [clean_eq _ D.ok.1, clean_eq _ k0.1, norm_norm]
    simp
  rw [hsame, lives05]
  simp only [Option.bind_some, cond_true]
  have hnone : ∀ z : TApiCong, clean z → z.gSome = false → ∀ u, fitsC z u ∧ fitsC u z := fun z cz hz u =>
    ⟨fun h => by rw [none_gM cz hz] at h; exact absurd h (by decide), fun _ h => by rw [none_gM cz hz] at h; exact absurd h (by decide)⟩
  cases h0 : a0.gSome
  · have s0 : (norm ⟨a0.gSome, a0.gM, a2⟩).gSome = false := by rw [norm_s]; exact h0
    have f := M.fit (hnone _ (norm_norm _) s0 _).1
    have : c.gSome = false := leq_of_none s0 f.1
    simp [this]
  · cases h1 : a1.gSome
    · have s1 : (norm ⟨a1.gSome, a1.gM, a2⟩).gSome = false := by rw [norm_s]; exact h1
      have f := M.fit (hnone _ (norm_norm _) s1 _).2
      have : c.gSome = false := leq_of_none s1 f.2.1
      simp [this]
    · have hn := M.lost a2 (has_norm _ h0) (has_norm _ h1)
      have cs := has_some hn
      simp [hn, cs, lone_leq hn]
end Go.Proofs.Ytcjgacmoemiifaa.Ab
