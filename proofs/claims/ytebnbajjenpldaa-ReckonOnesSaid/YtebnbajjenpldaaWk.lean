/- Layer 1: its contracts, as functions of plain data. -/
import Derived.Test.YtebnbajjenpldaaWd7
import Derived.Test.YtebnbajjenpldaaTr4
import Derived.Test.YtebnbajjenpldaaTb
import Derived.Test.YtebnbajjenpldaaAb8
namespace Go.Proofs.Ytebnbajjenpldaa.Ab
open Go Go.RowKit Go.Shelf Go.Proofs.Ytebnbajjenpldaa
set_option linter.all false
structure TApiWide where
  gHi : Int
  gLo : Int
def eTApiWide (x : TApiWide) : D := .agg [.v (.int .i64 x.gHi), .v (.int .u64 x.gLo)]
def okI (n : Int) : Bool := decide (-9223372036854775808 ≤ n) && decide (n < 9223372036854775808)
def okW (x : TApiWide) : Bool := okI x.gHi && (decide (0 ≤ x.gLo) && decide (x.gLo < 18446744073709551616))
def vW (x : TApiWide) : Int := V x.gHi x.gLo
def ofW (z : Int) : TApiWide := ⟨hiW z, loW z⟩
theorem okI_i {n : Int} (h : okI n = true) : I64 n := by
  simp only [okI, Bool.and_eq_true, decide_eq_true_eq] at h
  exact h
theorem okI_of {n : Int} (h : I64 n) : okI n = true := by
  simp only [okI, Bool.and_eq_true, decide_eq_true_eq]
  exact h
theorem okW_i {x : TApiWide} (h : okW x = true) : Ok2 x.gHi x.gLo := by
  simp only [okW, okI, Bool.and_eq_true, decide_eq_true_eq] at h
  exact ⟨h.1.1, h.1.2, h.2.1, h.2.2⟩
theorem okW_of {x : TApiWide} (h : Ok2 x.gHi x.gLo) : okW x = true := by
  simp only [okW, okI, Bool.and_eq_true, decide_eq_true_eq]
  exact ⟨⟨h.1, h.2.1⟩, h.2.2.1, h.2.2.2⟩
theorem okW_ofW (z : Int) : okW (ofW z) = true := okW_of (ok2 z)
theorem vW_ofW {z : Int} (h : -170141183460469231731687303715884105728 ≤ z) (k : z < 170141183460469231731687303715884105728) : vW (ofW z) = z := V_W_id h k
theorem rep_ofW {H : Hp} (z : Int) : Rep H (eTApiWide (ofW z)) (.agg #[.int .i64 (hiW z), .int .u64 (loW z)]) := rep_agg (us := [.int .i64 (hiW z), .int .u64 (loW z)]) (reps_vals [.int .i64 (hiW z), .int .u64 (loW z)] (by simp [one]))
def pW (a0 : TApiWide) : Bool := okW a0
def pWW (a0 a1 : TApiWide) : Bool := okW a0 && okW a1
def pI (a0 : Int) : Bool := okI a0
def pII (a0 a1 : Int) : Bool := okI a0 && okI a1
def wAdd (a0 : TApiWide) (a1 : TApiWide) : TApiWide := ofW (vW a0 + vW a1)
theorem wAdd_ok (a0 : TApiWide) (a1 : TApiWide) (h : pWW a0 a1 = true) : CallsD Try.prog 58 [eTApiWide a0, eTApiWide a1] [] [] (fun d h k => d = eTApiWide (wAdd a0 a1) ∧ h = [] ∧ k = []) :=
  of_calls (us := #[.agg #[.int .i64 a0.gHi, .int .u64 a0.gLo], .agg #[.int .i64 a1.gHi, .int .u64 a1.gLo]]) (v := .agg #[.int .i64 (hiW (vW a0 + vW a1)), .int .u64 (loW (vW a0 + vW a1))]) ⟨_, Try.func58, rfl, rfl⟩ rfl (fun _ => rep_ofW _) fun w => by
    have hh : okW a0 = true ∧ okW a1 = true := by simpa [pWW] using h
    have h0 := okW_i hh.1
    have h1 := okW_i hh.2
    exact wadd_any a0.gHi a0.gLo a1.gHi a1.gLo w h0 h1
def wSub (a0 : TApiWide) (a1 : TApiWide) : TApiWide := ofW (vW a0 - vW a1)
theorem wSub_ok (a0 : TApiWide) (a1 : TApiWide) (h : pWW a0 a1 = true) : CallsD Try.prog 43 [eTApiWide a0, eTApiWide a1] [] [] (fun d h k => d = eTApiWide (wSub a0 a1) ∧ h = [] ∧ k = []) :=
  of_calls (us := #[.agg #[.int .i64 a0.gHi, .int .u64 a0.gLo], .agg #[.int .i64 a1.gHi, .int .u64 a1.gLo]]) (v := .agg #[.int .i64 (hiW (vW a0 - vW a1)), .int .u64 (loW (vW a0 - vW a1))]) ⟨_, Try.func43, rfl, rfl⟩ rfl (fun _ => rep_ofW _) fun w => by
    have hh : okW a0 = true ∧ okW a1 = true := by simpa [pWW] using h
    have h0 := okW_i hh.1
    have h1 := okW_i hh.2
    exact wsub_any a0.gHi a0.gLo a1.gHi a1.gLo w h0 h1
def wNeg (a0 : TApiWide) : TApiWide := ofW (-(vW a0))
theorem wNeg_ok (a0 : TApiWide) (h : pW a0 = true) : CallsD Try.prog 79 [eTApiWide a0] [] [] (fun d h k => d = eTApiWide (wNeg a0) ∧ h = [] ∧ k = []) :=
  of_calls (us := #[.agg #[.int .i64 a0.gHi, .int .u64 a0.gLo]]) (v := .agg #[.int .i64 (hiW (-(vW a0))), .int .u64 (loW (-(vW a0)))]) ⟨_, Try.func79, rfl, rfl⟩ rfl (fun _ => rep_ofW _) fun w => by
    have h0 := okW_i h
    exact wneg_any a0.gHi a0.gLo w h0
def wOf (a0 : Int) : TApiWide := ofW a0
theorem wOf_ok (a0 : Int) (h : pI a0 = true) : CallsD Try.prog 59 [.v (.int .i64 a0)] [] [] (fun d h k => d = eTApiWide (wOf a0) ∧ h = [] ∧ k = []) :=
  of_calls (us := #[.int .i64 a0]) (v := .agg #[.int .i64 (hiW (a0)), .int .u64 (loW (a0))]) ⟨_, Try.func59, rfl, rfl⟩ rfl (fun _ => rep_ofW _) fun w => by
    have h0 := okI_i h
    exact wof_any a0 w h0
def wMul (a0 : Int) (a1 : Int) : TApiWide := ofW (a0 * a1)
theorem wMul_ok (a0 : Int) (a1 : Int) (h : pII a0 a1 = true) : CallsD Try.prog 60 [.v (.int .i64 a0), .v (.int .i64 a1)] [] [] (fun d h k => d = eTApiWide (wMul a0 a1) ∧ h = [] ∧ k = []) :=
  of_calls (us := #[.int .i64 a0, .int .i64 a1]) (v := .agg #[.int .i64 (hiW (a0 * a1)), .int .u64 (loW (a0 * a1))]) ⟨_, Try.func60, rfl, rfl⟩ rfl (fun _ => rep_ofW _) fun w => by
    have hh : okI a0 = true ∧ okI a1 = true := by simpa [pII] using h
    have h0 := okI_i hh.1
    have h1 := okI_i hh.2
    exact wmul_any a0 a1 w h0 h1
def wCmp (a0 : TApiWide) (a1 : TApiWide) : Int := cmpI (vW a0) (vW a1)
theorem wCmp_ok (a0 : TApiWide) (a1 : TApiWide) (h : pWW a0 a1 = true) : CallsD Try.prog 44 [eTApiWide a0, eTApiWide a1] [] [] (fun d h k => d = .v (.int .i64 (wCmp a0 a1)) ∧ h = [] ∧ k = []) :=
  of_calls (us := #[.agg #[.int .i64 a0.gHi, .int .u64 a0.gLo], .agg #[.int .i64 a1.gHi, .int .u64 a1.gLo]]) (v := .int .i64 (cmpI (vW a0) (vW a1))) ⟨_, Try.func44, rfl, rfl⟩ rfl (fun _ => rep_v rfl) fun w => by
    have hh : okW a0 = true ∧ okW a1 = true := by simpa [pWW] using h
    have h0 := okW_i hh.1
    have h1 := okW_i hh.2
    exact wcmp_any a0.gHi a0.gLo a1.gHi a1.gLo w h0 h1
def wSign (a0 : TApiWide) : Int := cmpI (vW a0) (V 0 0)
def wLow (a0 : TApiWide) : Int := wrap64 a0.gLo
theorem wLow_ok (a0 : TApiWide) (h : pW a0 = true) : CallsD Try.prog 46 [eTApiWide a0] [] [] (fun d h k => d = .v (.int .i64 (wLow a0)) ∧ h = [] ∧ k = []) :=
  of_calls (us := #[.agg #[.int .i64 a0.gHi, .int .u64 a0.gLo]]) (v := .int .i64 (wrap64 a0.gLo)) ⟨_, Try.func46, rfl, rfl⟩ rfl (fun _ => rep_v rfl) fun w => by
    have h0 := okW_i h
    exact wlow_any a0.gHi a0.gLo w h0
def wClamp (a0 : TApiWide) : Int := clampI (vW a0)
theorem wClamp_ok (a0 : TApiWide) (h : pW a0 = true) : CallsD Try.prog 66 [eTApiWide a0] [] [] (fun d h k => d = .v (.int .i64 (wClamp a0)) ∧ h = [] ∧ k = []) :=
  of_calls (us := #[.agg #[.int .i64 a0.gHi, .int .u64 a0.gLo]]) (v := .int .i64 (clampI (vW a0))) ⟨_, Try.func66, rfl, rfl⟩ rfl (fun _ => rep_v rfl) fun w => by
    have h0 := okW_i h
    exact wclamp_any a0.gHi a0.gLo w h0
def rAdd (a0 : TApiWide) (a1 : TApiWide) : TApiWide := ofW (vW a0 + vW a1)
theorem rAdd_ok (a0 : TApiWide) (a1 : TApiWide) (h : pWW a0 a1 = true) : CallsD Try.prog 73 [eTApiWide a0, eTApiWide a1] [] [] (fun d h k => d = eTApiWide (rAdd a0 a1) ∧ h = [] ∧ k = []) :=
  of_calls (us := #[.agg #[.int .i64 a0.gHi, .int .u64 a0.gLo], .agg #[.int .i64 a1.gHi, .int .u64 a1.gLo]]) (v := .agg #[.int .i64 (hiW (vW a0 + vW a1)), .int .u64 (loW (vW a0 + vW a1))]) ⟨_, Try.func73, rfl, rfl⟩ rfl (fun _ => rep_ofW _) fun w => by
    have hh : okW a0 = true ∧ okW a1 = true := by simpa [pWW] using h
    have h0 := okW_i hh.1
    have h1 := okW_i hh.2
    exact radd_any a0.gHi a0.gLo a1.gHi a1.gLo w h0 h1
def rSub (a0 : TApiWide) (a1 : TApiWide) : TApiWide := ofW (vW a0 - vW a1)
theorem rSub_ok (a0 : TApiWide) (a1 : TApiWide) (h : pWW a0 a1 = true) : CallsD Try.prog 48 [eTApiWide a0, eTApiWide a1] [] [] (fun d h k => d = eTApiWide (rSub a0 a1) ∧ h = [] ∧ k = []) :=
  of_calls (us := #[.agg #[.int .i64 a0.gHi, .int .u64 a0.gLo], .agg #[.int .i64 a1.gHi, .int .u64 a1.gLo]]) (v := .agg #[.int .i64 (hiW (vW a0 - vW a1)), .int .u64 (loW (vW a0 - vW a1))]) ⟨_, Try.func48, rfl, rfl⟩ rfl (fun _ => rep_ofW _) fun w => by
    have hh : okW a0 = true ∧ okW a1 = true := by simpa [pWW] using h
    have h0 := okW_i hh.1
    have h1 := okW_i hh.2
    exact rsub_any a0.gHi a0.gLo a1.gHi a1.gLo w h0 h1
def rNeg (a0 : TApiWide) : TApiWide := ofW (-(vW a0))
theorem rNeg_ok (a0 : TApiWide) (h : pW a0 = true) : CallsD Try.prog 56 [eTApiWide a0] [] [] (fun d h k => d = eTApiWide (rNeg a0) ∧ h = [] ∧ k = []) :=
  of_calls (us := #[.agg #[.int .i64 a0.gHi, .int .u64 a0.gLo]]) (v := .agg #[.int .i64 (hiW (-(vW a0))), .int .u64 (loW (-(vW a0)))]) ⟨_, Try.func56, rfl, rfl⟩ rfl (fun _ => rep_ofW _) fun w => by
    have h0 := okW_i h
    exact rneg_any a0.gHi a0.gLo w h0
def rOf (a0 : Int) : TApiWide := ofW a0
theorem rOf_ok (a0 : Int) (h : pI a0 = true) : CallsD Try.prog 52 [.v (.int .i64 a0)] [] [] (fun d h k => d = eTApiWide (rOf a0) ∧ h = [] ∧ k = []) :=
  of_calls (us := #[.int .i64 a0]) (v := .agg #[.int .i64 (hiW (a0)), .int .u64 (loW (a0))]) ⟨_, Try.func52, rfl, rfl⟩ rfl (fun _ => rep_ofW _) fun w => by
    have h0 := okI_i h
    exact rof_any a0 w h0
def rMul (a0 : Int) (a1 : Int) : TApiWide := ofW (a0 * a1)
theorem rMul_ok (a0 : Int) (a1 : Int) (h : pII a0 a1 = true) : CallsD Try.prog 54 [.v (.int .i64 a0), .v (.int .i64 a1)] [] [] (fun d h k => d = eTApiWide (rMul a0 a1) ∧ h = [] ∧ k = []) :=
  of_calls (us := #[.int .i64 a0, .int .i64 a1]) (v := .agg #[.int .i64 (hiW (a0 * a1)), .int .u64 (loW (a0 * a1))]) ⟨_, Try.func54, rfl, rfl⟩ rfl (fun _ => rep_ofW _) fun w => by
    have hh : okI a0 = true ∧ okI a1 = true := by simpa [pII] using h
    have h0 := okI_i hh.1
    have h1 := okI_i hh.2
    exact rmul_any a0 a1 w h0 h1
def rCmp (a0 : TApiWide) (a1 : TApiWide) : Int := cmpI (vW a0) (vW a1)
theorem rCmp_ok (a0 : TApiWide) (a1 : TApiWide) (h : pWW a0 a1 = true) : CallsD Try.prog 47 [eTApiWide a0, eTApiWide a1] [] [] (fun d h k => d = .v (.int .i64 (rCmp a0 a1)) ∧ h = [] ∧ k = []) :=
  of_calls (us := #[.agg #[.int .i64 a0.gHi, .int .u64 a0.gLo], .agg #[.int .i64 a1.gHi, .int .u64 a1.gLo]]) (v := .int .i64 (cmpI (vW a0) (vW a1))) ⟨_, Try.func47, rfl, rfl⟩ rfl (fun _ => rep_v rfl) fun w => by
    have hh : okW a0 = true ∧ okW a1 = true := by simpa [pWW] using h
    have h0 := okW_i hh.1
    have h1 := okW_i hh.2
    exact rcmp_any a0.gHi a0.gLo a1.gHi a1.gLo w h0 h1
def rClamp (a0 : TApiWide) : Int := clampI (vW a0)
theorem rClamp_ok (a0 : TApiWide) (h : pW a0 = true) : CallsD Try.prog 70 [eTApiWide a0] [] [] (fun d h k => d = .v (.int .i64 (rClamp a0)) ∧ h = [] ∧ k = []) :=
  of_calls (us := #[.agg #[.int .i64 a0.gHi, .int .u64 a0.gLo]]) (v := .int .i64 (clampI (vW a0))) ⟨_, Try.func70, rfl, rfl⟩ rfl (fun _ => rep_v rfl) fun w => by
    have h0 := okW_i h
    exact rclamp_any a0.gHi a0.gLo w h0
end Go.Proofs.Ytebnbajjenpldaa.Ab
