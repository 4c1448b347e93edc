/- Layer 5: joining, plainly. -/
import Derived.Test.YtjbpfgknhpdkaaaCp1
namespace Go.Proofs.Ytjbpfgknhpdkaaa.Ab
open Go Go.RowKit Go.Shelf Go.Proofs.Ytjbpfgknhpdkaaa
set_option linter.all false
theorem i64_0 : I64 0 := by unfold I64; omega
theorem i64_1 : I64 1 := by unfold I64; omega
theorem best1 {a x : TApiWide} (ha : okW a = true) (hx : okW x = true) (sg : Int) : wide_best a sg [x] = some (if wCmp x a = sg then x else a) := by
  unfold wide_best
  have w1 : IntKind.i64.wrap (1 : Int) = 1 := by rw [IntKind.wrap_i64]; rfl
  have hp : pWW x a = true := by simp [pWW, ha, hx]
  have hn : need (pWW x a) = some () := need_t hp
  by_cases hc : wCmp x a = sg
  · rw [loopM_next (s' := (1, x.gHi, x.gLo))]
    · rw [loopM_done (t := (x.gHi, x.gLo))]
      · simp [hc]
      · simp
    · have hb : (wCmp x a == sg) = true := by simpa using hc
      simp only [List.length_cons, List.length_nil, idx]
      simp [hn, hb, w1]
  · rw [loopM_next (s' := (1, a.gHi, a.gLo))]
    · rw [loopM_done (t := (a.gHi, a.gLo))]
      · simp [hc]
      · simp
    · have hb : (wCmp x a == sg) = false := by simpa using hc
      simp only [List.length_cons, List.length_nil, idx]
      simp [hn, hb, w1]
theorem vW_of {z : Int} (h : I64 z) : vW (ofW z) = z := vW_ofW (by unfold I64 at h; omega) (by unfold I64 at h; omega)
theorem apart_eq {a b : Int} (ha : I64 a) (hb : I64 b) : cong_apart a b = some ((a - b).natAbs : Int) := by
  have h1 := okI_of ha
  have h2 := okI_of hb
  have e1 : vW (wOf a) = a := vW_of ha
  have e2 : vW (wOf b) = b := vW_of hb
  have e3 : wSub (wOf a) (wOf b) = ofW (a - b) := by unfold wSub; rw [e1, e2]
  have e4 : vW (ofW (a - b)) = a - b := vW_ofW (by unfold I64 at *; omega) (by unfold I64 at *; omega)
  have e5 : wNeg (ofW (a - b)) = ofW (-(a - b)) := by unfold wNeg; rw [e4]
  have e6 : vW (ofW (-(a - b))) = -(a - b) := vW_ofW (by unfold I64 at *; omega) (by unfold I64 at *; omega)
  unfold cong_apart
  rw [need_bind (show pI a = true from h1), need_bind (show pI b = true from h2), need_bind (show pWW (wOf a) (wOf b) = true by simp [pWW, wOf, okW_ofW]), e3, need_bind (show pW (ofW (a - b)) = true from okW_ofW _), e5]
  unfold wide_Max
  rw [best1 (okW_ofW _) (okW_ofW _)]
  simp only [Option.bind_some, wCmp, e4, e6, Option.some.injEq]
  unfold cmpI
  by_cases h : a - b < 0
  · rw [if_pos]
    · show loW (-(a - b)) = _
      unfold loW; unfold I64 at *; omega
    · rw [if_neg (by omega), if_pos (by omega)]
  · rw [if_neg]
    · show loW (a - b) = _
      unfold loW; unfold I64 at *; omega
    · by_cases h0 : a - b = 0
      · rw [if_neg (by omega), if_neg (by omega)]; decide
      · rw [if_pos (by omega)]; decide
/-- A congruence that is told well. -/
def okC (c : TApiCong) : Prop := I64 c.gM ∧ I64 c.gR
theorem norm_ok {c : TApiCong} (h : okC c) : okC (norm c) := by
  obtain ⟨h1, h2⟩ := h
  unfold norm
  split
  · refine ⟨normM_i h1, ?_⟩
    show I64 (modI c.gR (normM c.gM))
    by_cases h3 : 0 < normM c.gM
    · have := modI_range (n := c.gR) h3
      have := normM_i h1
      unfold I64 at *; omega
    · unfold modI; rw [if_pos (by omega)]; exact h2
  · exact ⟨i64_0, i64_0⟩
/-- As it is told. -/
def clean (c : TApiCong) : Prop := norm c = c
theorem norm_norm (c : TApiCong) : norm (norm c) = norm c := by
  unfold norm
  cases h : c.gSome
  · simp [noneC]
  · simp only [if_true, ofC]
    have h1 : normM (normM c.gM) = normM c.gM := by unfold normM; split <;> (try split) <;> omega
    have h2 : modI (modI c.gR (normM c.gM)) (normM c.gM) = modI c.gR (normM c.gM) := by
      unfold modI
      split
      · rfl
      · exact Int.emod_emod _ _
    rw [h1, h2]
/-- What has all of both, of congruences as they are told. -/
def joinG (x y : TApiCong) : Int := (Int.gcd (Int.gcd x.gM y.gM) ((x.gR - y.gR).natAbs : Int) : Int)
def joinC (x y : TApiCong) : TApiCong :=
  if x.gSome = false then y else if y.gSome = false then x else if 9223372036854775807 < joinG x y then ⟨true, 1, 0⟩ else ofC (joinG x y) x.gR
theorem clean_m {c : TApiCong} (h : clean c) (hs : c.gSome = true) : 0 ≤ c.gM := by
  unfold clean norm at h
  rw [if_pos hs] at h
  have : (ofC c.gM c.gR).gM = c.gM := congrArg TApiCong.gM h
  simp only [ofC, normM] at this
  split at this <;> omega
end Go.Proofs.Ytjbpfgknhpdkaaa.Ab
