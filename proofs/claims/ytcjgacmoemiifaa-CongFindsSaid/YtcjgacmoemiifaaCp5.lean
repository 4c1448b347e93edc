/- Layer 5: a small case; the laws, for what is read. -/
import Derived.Test.YtcjgacmoemiifaaCp4
import Derived.Test.YtcjgacmoemiifaaFa
import Derived.Test.YtcjgacmoemiifaaFr
namespace Go.Proofs.Ytcjgacmoemiifaa.Ab
open Go Go.RowKit Go.Shelf Go.Proofs.Ytcjgacmoemiifaa
set_option linter.all false
def wfTApiCong (x : TApiCong) : Prop := (Lit.int .i64 x.gM).wf = true ∧ (Lit.int .i64 x.gR).wf = true
theorem goodTApiCong {n : Nat} {d : D} (g : GoodT tab n 25 d) : ∃ x : TApiCong, d = eTApiCong x ∧ wfTApiCong x := by
  obtain ⟨n', ds, _, rfl, hl, h⟩ := good_struct ti25 rfl g
  match ds, hl with
  | [d0, d1, d2], _ =>
    obtain ⟨x1, rfl⟩ := good_bool ti4 rfl (h 0 _ _ rfl rfl)
    obtain ⟨x2, rfl, w2⟩ := good_int ti3 rfl (h 1 _ _ rfl rfl)
    obtain ⟨x3, rfl, w3⟩ := good_int ti3 rfl (h 2 _ _ rfl rfl)
    exact ⟨⟨x1, x2, x3⟩, rfl, w2, w3⟩
def wfL43 : List TApiCong → Prop := (fun y => (y.length ≤ maxLen ∧ ∀ z ∈ y, wfTApiCong z))
theorem goodL43 {n : Nat} {d : D} (g : GoodT tab n 43 d) : ∃ x : List TApiCong, d = .lst 3 (x.map eTApiCong) .no ∧ wfL43 x := by
  obtain ⟨n1, zs1, _, rfl, hl1, hz1⟩ := good_slice ti43 rfl ti25 (g)
  obtain ⟨x1, rfl, w1⟩ := good_list (f := eTApiCong) (K := (fun y => wfTApiCong y)) (p := fun x => GoodT tab n1 25 x) (fun x hx => by obtain ⟨x2, rfl, w2⟩ := goodTApiCong (hx); exact ⟨x2, rfl, w2⟩) zs1 hz1
  exact ⟨x1, rfl, ⟨by simpa using hl1, w1⟩⟩
theorem okC_wf {c : TApiCong} (h : wfTApiCong c) : okC c := ⟨i64_wf h.1, i64_wf h.2⟩
theorem meet35 : cong_Meet ⟨true, 3, 2⟩ ⟨true, 5, 3⟩ = some ⟨true, 15, 8⟩ := by
  have k3 : I64 3 := by unfold I64; omega
  have k5 : I64 5 := by unfold I64; omega
  have k2 : I64 2 := by unfold I64; omega
  have w : ∀ n : Int, 0 ≤ n → n < 100 → IntKind.u64.wrap n = n := fun n h k => u64w h (by omega)
  have w' : ∀ n : Int, 0 ≤ n → n < 100 → IntKind.i64.wrap n = n := fun n h k => w64 (by unfold I64; omega)
  have c1 : cong_Clean ⟨true, 3, 2⟩ = some ⟨true, 3, 2⟩ := clean_eq _ k3
  have c2 : cong_Clean ⟨true, 5, 3⟩ = some ⟨true, 5, 3⟩ := clean_eq _ k5
  have g1 : cong_Gcd 3 5 = some 1 := gcd_eq 3 5 (by decide) (by decide)
  have a1 : cong_apart 2 3 = some 1 := apart_eq k2 k3
  have t1 : cong_times 1 2 5 = some 2 := times_small (by decide) (by decide) (by decide) (by decide) (by decide) (by decide)
  have m1 : cong_Mod 2 5 = some 2 := mod_eq 2 5 k5
  have m2 : cong_Mod 1 5 = some 1 := mod_eq 1 5 k5
  have v1 : vW (wOf 2) = 2 := vW_of k2
  have v2 : vW (wMul 3 2) = 6 := vW_of (z := 6) (by unfold I64; omega)
  have s1 : wAdd (wOf 2) (wMul 3 2) = ofW 8 := by unfold wAdd; rw [v1, v2]; rfl
  have l1 : wLow (ofW 8) = 8 := by show wrap64 (8 % 18446744073709551616) = 8; rw [wrap64_def]; rfl
  have wi1 := w' 1 (by decide) (by decide)
  have wi2 := w' 2 (by decide) (by decide)
  have wi5 := w' 5 (by decide) (by decide)
  have wu1 := w 1 (by decide) (by decide)
  have wu3 := w 3 (by decide) (by decide)
  have wu5 := w 5 (by decide) (by decide)
  have b1 : cong_both ⟨true, 3, 2⟩ ⟨true, 5, 3⟩ 1 = some 8 := by
    unfold cong_both
    simp only [m1, need_ne (show (1 : Int) ≠ 0 by decide), Option.bind_some, show (3 : Int) - 2 = 1 from rfl, wi1, m2, wu5, wu3, wu1, show (5 : Int).tdiv 1 = 5 from rfl, show (3 : Int).tdiv 1 = 3 from rfl, show (1 : Int).tdiv 1 = 1 from rfl, show (1 : Int).tmod 5 = 1 from rfl, inv35, t1, need_ne (show (5 : Int) ≠ 0 by decide), wi2]
    rw [need_t (show pI 2 = true by decide), need_t (show pII 3 2 = true by decide), s1, need_t (show pWW (wOf 2) (wMul 3 2) = true by simp [pWW, wOf, wMul, okW_ofW]), need_t (show pW (ofW 8) = true from okW_ofW _), l1]
    rfl
  have i1 : wide_Int (wMul 3 5) = some (15, true) := by
    unfold wide_Int
    have e : wLow (wMul 3 5) = 15 := by show wrap64 (15 % 18446744073709551616) = 15; rw [wrap64_def]; rfl
    rw [need_t (show pW (wMul 3 5) = true from okW_ofW _), e, need_t (show pI 15 = true by decide)]
    show (bif !(hiW 15 == hiW 15 && (loW 15 == loW 15 && true)) then _ else _) = _
    simp
  have o1 : cong_Of 15 8 = some ⟨true, 15, 8⟩ := of_eq 15 8 (by unfold I64; omega)
  unfold cong_Meet
  simp only [c1, c2, Option.bind_some, cong_None, Bool.not_true, cond_false, show ((3 : Int) == 0) = false from rfl, show ((5 : Int) == 0) = false from rfl]
  simp only [wu5, wu3, g1, a1, Option.bind_some, need_ne (show (1 : Int) ≠ 0 by decide), show (1 : Int).tmod 1 = 0 from rfl, show ((0 : Int) != 0) = false from rfl, cond_false, wi1, show (5 : Int).tdiv 1 = 5 from rfl, wi5]
  rw [need_t (show pII 3 5 = true by decide), i1]
  simp only [Option.bind_some, cond_true, b1, o1]
theorem lives05 : l05_lives = some true := by
  have j1 : cong_Join ⟨true, 0, 3⟩ ⟨true, 0, 11⟩ = some ⟨true, 8, 3⟩ := join_eq ⟨i64_0, by unfold I64; decide⟩ ⟨i64_0, by unfold I64; decide⟩
  have o1 : cong_Of 3 2 = some ⟨true, 3, 2⟩ := of_eq 3 2 (by unfold I64; omega)
  have o2 : cong_Of 5 3 = some ⟨true, 5, 3⟩ := of_eq 5 3 (by unfold I64; omega)
  unfold l05_lives
  simp [one_eq, j1, o1, o2, meet35]
theorem CongClimbs_true (a0 : List TApiCong) (k0 : wfL43 a0) : l05_CongClimbs a0 = some true :=
  climbs a0 (fun c h => okC_wf (k0.2 c h)) (by have := k0.1; unfold maxLen at this; omega) lives05
end Go.Proofs.Ytcjgacmoemiifaa.Ab
