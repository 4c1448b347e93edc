/- The texts that grammarTokens_holds leans on, part 5. -/
import Derived.Test.YtmgklehakmdiiaaGh4
set_option maxRecDepth 100000
set_option maxHeartbeats 2000000
namespace Go.Proofs.Ytmgklehakmdiiaa.Ab
open Go
set_option linter.all false
noncomputable def Ket (g0 : (Kd) → (Int) → Option (List Kj × Kd)) (g1 : (Kd) → (Int) → Option (Kj × Kd)) (g2 : (Kd) → (Int) → Option (List Kj × Kd)) (m0 : Kd) (a1 : Int) : Option (List Kj × Kd) :=
 (Option.bind (α := List Kj × List Kt × Int × Int) (loopM (fun (s31 : List Kj × List Kt × Int × Int) => (Option.bind (α := Bool × List Kt × Int × Int) (bif (s31.2.2.2 == (0 : Int)) then ((Kbr (⟨s31.2.1, s31.2.2.1, s31.2.2.2⟩ : Kd) (ByteArray.mk #[125])).bind fun x55 => some ((!x55.1), x55.2.gL, x55.2.gAt, x55.2.gE)) else some (false, s31.2.1, s31.2.2.1, s31.2.2.2)) fun y53 => (bif y53.1 then ((g1 (⟨y53.2.1, y53.2.2.1, y53.2.2.2⟩ : Kd) a1).bind fun x57 => ((app 120 s31.1 ([x57.1] : List Kj)).bind fun x58 => some (.next (x58, x57.2.gL, x57.2.gAt, x57.2.gE)))) else some (.done (s31.1, y53.2.1, y53.2.2.1, y53.2.2.2))))) (([] : List Kj), m0.gL, m0.gAt, m0.gE)) fun y30 => some (y30.1, (⟨y30.2.1, y30.2.2.1, y30.2.2.2⟩ : Kd)))
theorem Kkc (g0 : (Kd) → (Int) → Option (List Kj × Kd)) (g1 : (Kd) → (Int) → Option (Kj × Kd)) (g2 : (Kd) → (Int) → Option (List Kj × Kd)) (hg0 : ∀ (m0 : Kd) (a1 : Int) (o0 : Nat) (T0 : TypeId) (c0_0 : Cap) (r : List Kj × Kd) (h0 : g0 m0 a1 = some r), CallsD Try.prog 30 [.ptr o0 0, iD a1] [(o0, Blk.cells [.lst 4 (m0.gL.map Kc) c0_0, iD m0.gAt, iD m0.gE] T0)] [] (fun d h k => ∃ y0, d = .lst 7 (r.1.map Ki) (.cur y0) ∧ h = [(o0, Blk.cells [.lst 4 (r.2.gL.map Kc) .no, iD r.2.gAt, iD r.2.gE] T0)] ∧ k = [(7, y0)])) (hg1 : ∀ (m0 : Kd) (a1 : Int) (o0 : Nat) (T0 : TypeId) (c0_0 : Cap) (r : Kj × Kd) (h0 : g1 m0 a1 = some r), CallsD Try.prog 50 [.ptr o0 0, iD a1] [(o0, Blk.cells [.lst 4 (m0.gL.map Kc) c0_0, iD m0.gAt, iD m0.gE] T0)] [] (fun d h k => d = Ki r.1 ∧ h = [(o0, Blk.cells [.lst 4 (r.2.gL.map Kc) .no, iD r.2.gAt, iD r.2.gE] T0)] ∧ k = [])) (hg2 : ∀ (m0 : Kd) (a1 : Int) (o0 : Nat) (T0 : TypeId) (c0_0 : Cap) (r : List Kj × Kd) (h0 : g2 m0 a1 = some r), CallsD Try.prog 63 [.ptr o0 0, iD a1] [(o0, Blk.cells [.lst 4 (m0.gL.map Kc) c0_0, iD m0.gAt, iD m0.gE] T0)] [] (fun d h k => ∃ y0, d = .lst 7 (r.1.map Ki) (.cur y0) ∧ h = [(o0, Blk.cells [.lst 4 (r.2.gL.map Kc) .no, iD r.2.gAt, iD r.2.gE] T0)] ∧ k = [(7, y0)])) (m0 : Kd) (a1 : Int) (o0 : Nat) (T0 : TypeId) (c0_0 : Cap) (r : List Kj × Kd) (h0 : Ket g0 g1 g2 m0 a1 = some r) : CallsD Try.prog 30 [.ptr o0 0, iD a1] [(o0, Blk.cells [.lst 4 (m0.gL.map Kc) c0_0, iD m0.gAt, iD m0.gE] T0)] [] (fun d h k => ∃ y0, d = .lst 7 (r.1.map Ki) (.cur y0) ∧ h = [(o0, Blk.cells [.lst 4 (r.2.gL.map Kc) .no, iD r.2.gAt, iD r.2.gE] T0)] ∧ k = [(7, y0)]) := by
 have hm := KE h0
 unfold Ket at hm
 clear h0
 refine KW htab Try.func30 rfl rfl rfl rfl rfl (fun C => ?_)
 refine Kl ?_
 refine pu ?_
 refine Kv ?_
 refine pu ?_
 refine Kh ?_
 refine Kq ?_
 obtain ⟨y30, q30, ho30⟩ := Kf hm
 refine K6 (Y := Value) (fun z30 => (⟨[(5, .lst 7 (y30.1.map Ki) (.cur z30))], [(o0, Blk.cells [.lst 4 (y30.2.1.map Kc) .no, iD y30.2.2.1, iD y30.2.2.2] T0)], [(7, z30)]⟩ : S)) ?_ ?_
 ·clear hm; have hm := KE q30
  refine KL ?_
  obtain ⟨u31, hl31, hq31⟩ := yes_m hm
  refine Kbe (Y := Value) hl31 (fun s31 z31 => (⟨[(0, .ptr o0 0), (1, iD a1), (5, .lst 7 (s31.1.map Ki) (.cur z31))], [(o0, Blk.cells [.lst 4 (s31.2.1.map Kc) .no, iD s31.2.2.1, iD s31.2.2.2] T0)], [(7, z31)]⟩ : S)) ?_ ?_
  ·skip
   refine WkX.tokN (i := 5) 7 rfl (fun w50 => ?_)
   refine WkX.wk (WkS.bl0 (ds' := [.lst 4 (m0.gL.map Kc) .no, iD m0.gAt, iD m0.gE]) (rO (rC (rC WkR.nil)))) ?_
   exact WkX.of w50 (WkS.perm (WkS.cons rfl (Wk.refl _) (WkS.cons rfl (Wk.refl _) (WkS.cons rfl (Wk.refl _) (WkS.nil)))) Pf Pf)
  ·intro G31 s31 z31 hm
   refine Kq ?_
   refine Kq ?_
   obtain ⟨y53, q53, ho53⟩ := Kf hm
   refine K6 (Y := Unit) (fun z53 => (⟨[(0, .ptr o0 0), (1, iD a1), (5, .lst 7 (s31.1.map Ki) (.cur z31)), (15, .v (.bool y53.1))], [(o0, Blk.cells [.lst 4 (y53.2.1.map Kc) .no, iD y53.2.2.1, iD y53.2.2.2] T0)], [(7, z31)]⟩ : S)) ?_ ?_
   ·clear hm; have hm := KE q53
    refine KC ?_
    iterate 3 refine pu ?_
    refine pL 0 ?_
    refine pu ?_
    refine pu ?_
    refine K9 (i := 11) rfl (fun hg54 => ?_) (fun hg54 => ?_)
    ·replace hm := yes_t hg54 hm
     refine pu ?_
     obtain ⟨x55, q55, hm⟩ := Kf hm
     refine pG (Kch (⟨s31.2.1, s31.2.2.1, s31.2.2.2⟩ : Kd) (ByteArray.mk #[125]) o0 T0 .no x55 q55) Wl Pf Pf ?_
     rintro _ _ _ ⟨rfl, rfl, rfl⟩
     refine pu ?_
     refine KS rfl rfl rfl rfl rfl rfl ?_
     refine KB ?_
     have e53 := Kn hm; subst e53
     refine ⟨rfl, ?_⟩
     exact WkX.of () (WkS.perm (WkS.cons rfl (Wk.refl _) (WkS.cons rfl (Wk.refl _) (WkS.cons rfl (Wk.refl _) (WkS.cons rfl (Wk.refl _) (WkS.nil))))) Pf Pf)
    ·replace hm := yes_f hg54 hm
     iterate 3 refine pK ?_
     refine KH rfl rfl rfl rfl rfl rfl ?_
     refine KB ?_
     have e53 := Kn hm; subst e53
     refine ⟨rfl, ?_⟩
     exact WkX.of () (WkS.perm (WkS.cons rfl (Wk.refl _) (WkS.cons rfl (Wk.refl _) (WkS.cons rfl (Wk.refl _) (WkS.cons rfl (Wk.refl _) (WkS.nil))))) Pf Pf)
   ·intro s53 hw53; clear hm; have hm := ho53; clear q53 ho53
    refine Km ?_
    refine K3 hw53 (fun z53 => ?_)
    refine Ku rfl (fun hc56 => ?_) (fun hc56 => ?_)
    ·replace hm := yes_t hc56 hm
     refine Ky ?_
     refine Km ?_
     refine KL ?_
     refine KC ?_
     iterate 3 refine pu ?_
     obtain ⟨x57, q57, hm⟩ := Kf hm
     refine pG (hg1 (⟨y53.2.1, y53.2.2.1, y53.2.2.2⟩ : Kd) a1 o0 T0 .no x57 q57) Wl Pf Pf ?_
     rintro _ _ _ ⟨rfl, rfl, rfl⟩
     refine p_eq (i := 19) rfl (Wk.of_eq (Kp x57.1)) ?_
     refine p_lit htab rfl rfl rfl rfl rfl rfl rfl rfl rfl rfl rfl rfl rfl rfl ?_
     refine p_eq (i := 20) (d' := .lst 7 (([x57.1] : List Kj).map Ki) .full) rfl (Wk.lst0 (.cons (WkC.trans (WkC.agg (WkR.refl _)) (WkC.of_eq (Kp x57.1).symm)) (.nil))) ?_
     obtain ⟨x58, q58, hm⟩ := Kf hm
     refine KcS 0 htab rfl rfl rfl rfl rfl rfl rfl rfl rfl rfl rfl rfl rfl rfl rfl rfl rfl (Kbi q58) (fun v58 => ?_)
     refine KcT (i := 21) q58 rfl ?_
     refine pu ?_
     refine KB ?_
     refine KI ?_
     refine Km ⟨_, KaR hm, ?_⟩
     exact WkX.of v58 (WkS.perm (WkS.cons rfl (Wk.refl _) (WkS.cons rfl (Wk.refl _) (WkS.cons rfl (Wk.refl _) (WkS.nil)))) Pf Pf)
    ·replace hm := yes_f hc56 hm
     refine Kay ?_
     refine KN ?_
     have e31 := Kaq hm; subst e31; clear hm; have hm := hq31
     refine KN ?_
     refine Kao ?_
     have e30 := Kn hm; subst e30
     refine ⟨rfl, ?_⟩
     exact WkX.of z31 (WkS.perm (WkS.cons rfl (Wk.refl _) (WkS.nil)) Pf Pf)
 ·intro s30 hw30; clear hm; have hm := ho30; clear q30 ho30
  refine Km ?_
  refine K3 hw30 (fun z30 => ?_)
  refine Kl ?_
  refine pu ?_
  refine pu ?_
  refine Kh ?_
  refine Ks ?_
  have er59 := Kn hm; subst er59
  refine rP (t' := [(4, .lst 7 (y30.1.map Ki) (.cur z30))]) [0] [0] 1 (wC wN) (lT lN) ?_
  exact ⟨z30, rfl, rfl, rfl⟩
noncomputable def Kcs (g0 : (Kd) → (Int) → Option (List Kj × Kd)) (g1 : (Kd) → (Int) → Option (Kj × Kd)) (g2 : (Kd) → (Int) → Option (List Kj × Kd)) (m0 : Kd) (a1 : Int) : Option (Kj × Kd) :=
 ((Kbc m0).bind fun x2 => (bif (x2.gKind == (1 : Int)) then ((KeR m0 (⟨(0 : Int), ByteArray.empty, ByteArray.empty, [], [], [], x2.gAt⟩ : Kj)).bind fun x8 => some (x8.1, x8.2)) else (Option.bind (α := ByteArray) (bif (x2.gKind == (3 : Int)) then some x2.gText else some (ByteArray.mk #[])) fun y11 => (bif (decide (y11 = (ByteArray.mk #[42]))) then ((Kbo (⟨m0.gL, (IntKind.i64.wrap (m0.gAt + (1 : Int))), m0.gE⟩ : Kd)).bind fun x14 => ((Kae x14.2 (ByteArray.mk #[61])).bind fun x15 => ((KaL x15).bind fun x16 => ((Kae x16.2 (ByteArray.mk #[59])).bind fun x17 => some ((⟨(3 : Int), x14.1, ByteArray.empty, ([x16.1] : List Ka), [], [], x2.gAt⟩ : Kj), x17))))) else (bif (decide (y11 = (ByteArray.mk #[105, 102]))) then ((KeK (⟨m0.gL, (IntKind.i64.wrap (m0.gAt + (1 : Int))), m0.gE⟩ : Kd)).bind fun x21 => ((g2 x21.2 a1).bind fun x23 => ((Kbr x23.2 (ByteArray.mk #[101, 108, 115, 101])).bind fun x24 => (bif x24.1 then ((g2 x24.2 a1).bind fun x27 => some ((⟨(6 : Int), ByteArray.empty, ByteArray.empty, x21.1, x23.1, x27.1, x2.gAt⟩ : Kj), x27.2)) else some ((⟨(6 : Int), ByteArray.empty, ByteArray.empty, x21.1, x23.1, [], x2.gAt⟩ : Kj), x24.2))))) else (bif (decide (y11 = (ByteArray.mk #[119, 104, 105, 108, 101]))) then ((KeK (⟨m0.gL, (IntKind.i64.wrap (m0.gAt + (1 : Int))), m0.gE⟩ : Kd)).bind fun x32 => ((g2 x32.2 a1).bind fun x34 => some ((⟨(7 : Int), ByteArray.empty, ByteArray.empty, x32.1, x34.1, [], x2.gAt⟩ : Kj), x34.2))) else (bif (decide (y11 = (ByteArray.mk #[114, 101, 116, 117, 114, 110]))) then ((KaL (⟨m0.gL, (IntKind.i64.wrap (m0.gAt + (1 : Int))), m0.gE⟩ : Kd)).bind fun x37 => ((Kae x37.2 (ByteArray.mk #[59])).bind fun x38 => some ((⟨(8 : Int), ByteArray.empty, ByteArray.empty, ([x37.1] : List Ka), [], [], x2.gAt⟩ : Kj), x38))) else (bif (decide (y11 = (ByteArray.mk #[97, 115, 115, 101, 114, 116]))) then ((KeK (⟨m0.gL, (IntKind.i64.wrap (m0.gAt + (1 : Int))), m0.gE⟩ : Kd)).bind fun x42 => ((Kae x42.2 (ByteArray.mk #[59])).bind fun x43 => some ((⟨(9 : Int), ByteArray.empty, ByteArray.empty, x42.1, [], [], x2.gAt⟩ : Kj), x43))) else ((Kbn m0 m0.gAt (3 : Int)).bind fun x45 => some ((⟨(0 : Int), ByteArray.empty, ByteArray.empty, [], [], [], x2.gAt⟩ : Kj), x45))))))))))
theorem Kkd (g0 : (Kd) → (Int) → Option (List Kj × Kd)) (g1 : (Kd) → (Int) → Option (Kj × Kd)) (g2 : (Kd) → (Int) → Option (List Kj × Kd)) (hg0 : ∀ (m0 : Kd) (a1 : Int) (o0 : Nat) (T0 : TypeId) (c0_0 : Cap) (r : List Kj × Kd) (h0 : g0 m0 a1 = some r), CallsD Try.prog 30 [.ptr o0 0, iD a1] [(o0, Blk.cells [.lst 4 (m0.gL.map Kc) c0_0, iD m0.gAt, iD m0.gE] T0)] [] (fun d h k => ∃ y0, d = .lst 7 (r.1.map Ki) (.cur y0) ∧ h = [(o0, Blk.cells [.lst 4 (r.2.gL.map Kc) .no, iD r.2.gAt, iD r.2.gE] T0)] ∧ k = [(7, y0)])) (hg1 : ∀ (m0 : Kd) (a1 : Int) (o0 : Nat) (T0 : TypeId) (c0_0 : Cap) (r : Kj × Kd) (h0 : g1 m0 a1 = some r), CallsD Try.prog 50 [.ptr o0 0, iD a1] [(o0, Blk.cells [.lst 4 (m0.gL.map Kc) c0_0, iD m0.gAt, iD m0.gE] T0)] [] (fun d h k => d = Ki r.1 ∧ h = [(o0, Blk.cells [.lst 4 (r.2.gL.map Kc) .no, iD r.2.gAt, iD r.2.gE] T0)] ∧ k = [])) (hg2 : ∀ (m0 : Kd) (a1 : Int) (o0 : Nat) (T0 : TypeId) (c0_0 : Cap) (r : List Kj × Kd) (h0 : g2 m0 a1 = some r), CallsD Try.prog 63 [.ptr o0 0, iD a1] [(o0, Blk.cells [.lst 4 (m0.gL.map Kc) c0_0, iD m0.gAt, iD m0.gE] T0)] [] (fun d h k => ∃ y0, d = .lst 7 (r.1.map Ki) (.cur y0) ∧ h = [(o0, Blk.cells [.lst 4 (r.2.gL.map Kc) .no, iD r.2.gAt, iD r.2.gE] T0)] ∧ k = [(7, y0)])) (m0 : Kd) (a1 : Int) (o0 : Nat) (T0 : TypeId) (c0_0 : Cap) (r : Kj × Kd) (h0 : Kcs g0 g1 g2 m0 a1 = some r) : CallsD Try.prog 50 [.ptr o0 0, iD a1] [(o0, Blk.cells [.lst 4 (m0.gL.map Kc) c0_0, iD m0.gAt, iD m0.gE] T0)] [] (fun d h k => d = Ki r.1 ∧ h = [(o0, Blk.cells [.lst 4 (r.2.gL.map Kc) .no, iD r.2.gAt, iD r.2.gE] T0)] ∧ k = []) := by
 have hm := KE h0
 unfold Kcs at hm
 clear h0
 refine KW htab Try.func50 rfl rfl rfl rfl rfl (fun C => ?_)
 refine Kl ?_
 refine KP htab rfl rfl rfl rfl rfl rfl rfl (fun b1 => ?_)
 refine Kv ?_
 refine pu ?_
 obtain ⟨x2, q2, hm⟩ := Kf hm
 refine pG (KbI m0 o0 T0 c0_0 x2 q2) Wl Pf Pf ?_
 rintro _ _ _ ⟨rfl, rfl, rfl⟩
 refine KP htab rfl rfl rfl rfl rfl rfl rfl (fun b3 => ?_)
 refine pS2 (ds' := [iD x2.gKind, tD x2.gText, iD x2.gN, iD x2.gAt]) ?_
 refine Kv ?_
 refine pu ?_
 refine pL 2 ?_
 refine Kal (r := [iD (0 : Int), tD ByteArray.empty, tD ByteArray.empty, .lst 1 [] .full, .lst 1 [] .full, .lst 1 [] .full, iD x2.gAt]) htab rfl rfl rfl rfl rfl rfl rfl rfl rfl ?_
 refine KP htab rfl rfl rfl rfl rfl rfl rfl (fun b4 => ?_)
 refine pS3 (ds' := [iD (0 : Int), tD ByteArray.empty, tD ByteArray.empty, .lst 1 [] .full, .lst 1 [] .full, .lst 1 [] .full, iD x2.gAt]) ?_
 refine Kh ?_
 refine Kq ?_
 refine Kl ?_
 refine pu ?_
 refine pL 2 ?_
 refine pu ?_
 refine Kh ?_
 refine Ku rfl (fun hc7 => ?_) (fun hc7 => ?_)
 ·replace hm := yes_t hc7 hm
  refine Kl ?_
  refine pu ?_
  refine K7 (d := .agg [iD (0 : Int), tD ByteArray.empty, tD ByteArray.empty, .lst 1 [] .full, .lst 1 [] .full, .lst 1 [] .full, iD x2.gAt]) 3 htab rfl rfl rfl rfl rfl rfl rfl rfl ?_
  obtain ⟨x8, q8, hm⟩ := Kf hm
  refine Kam (Kkq m0 (⟨(0 : Int), ByteArray.empty, ByteArray.empty, [], [], [], x2.gAt⟩ : Kj) o0 T0 c0_0 x8 q8) rfl rfl rfl rfl rfl (WkL.cons (Wk.refl _) (WkL.cons (Wk.trans (Wk.agg (rC (rC (rC (WkR.cons (WkC.nil) rfl (WkR.cons (WkC.nil) rfl (WkR.cons (WkC.nil) rfl (rC WkR.nil)))))))) (Wk.of_eq (Kp (⟨(0 : Int), ByteArray.empty, ByteArray.empty, [], [], [], x2.gAt⟩ : Kj)).symm)) Wl)) Pf Pf ?_
  rintro _ _ _ ⟨rfl, rfl, rfl⟩
  refine p_eq (i := 18) rfl (Wk.of_eq (Kp x8.1)) ?_
  refine pS1 (ds' := [iD x8.1.gOp, tD x8.1.gName, tD x8.1.gFunc, .lst 5 (x8.1.gExps.map Kg) .no, .lst 7 (x8.1.gKids.map Ki) .no, .lst 7 (x8.1.gElse.map Ki) .no, iD x8.1.gAt]) ?_
  refine Kh ?_
  refine Ks ?_
  refine KD ?_
  have er9 := Kn hm; subst er9
  refine rP (t' := [(4, .ptr b1 0)]) [0,0] [] 1 (wC wN) (lC 1 lN) ?_
  exact ⟨by first | rfl | (simp only [wrapD, Kp]; done) | (simp only [wrapD, Kp]; rfl), rfl, rfl⟩
 ·replace hm := yes_f hc7 hm
  refine Ky ?_
  refine Km ?_
  refine Kl ?_
  refine pu ?_
  refine Kh ?_
  refine Kq ?_
  refine Kl ?_
  refine pu ?_
  refine pL 2 ?_
  refine pu ?_
  refine Kh ?_
  obtain ⟨y11, q11, ho11⟩ := Kf hm
  refine K6 (Y := Unit) (fun z11 => (⟨[(0, .ptr o0 0), (1, iD a1), (4, .ptr b1 0), (6, .ptr b4 0), (7, tD y11)], [(o0, Blk.cells [.lst 4 (m0.gL.map Kc) c0_0, iD m0.gAt, iD m0.gE] T0), (b1, Blk.cells [iD (0 : Int), tD ByteArray.empty, tD ByteArray.empty, .lst 1 [] .full, .lst 1 [] .full, .lst 1 [] .full, iD (0 : Int)] 58), (b4, Blk.cells [iD (0 : Int), tD ByteArray.empty, tD ByteArray.empty, .lst 1 [] .full, .lst 1 [] .full, .lst 1 [] .full, iD x2.gAt] 58)], []⟩ : S)) ?_ ?_
  ·clear hm; have hm := KE q11
   refine Ku rfl (fun hc12 => ?_) (fun hc12 => ?_)
   ·replace hm := yes_t hc12 hm
    refine KC ?_
    refine pu ?_
    refine pL 2 ?_
    refine pu ?_
    refine KB ?_
    have e11 := Kn hm; subst e11
    refine ⟨rfl, ?_⟩
    exact WkX.of () (WkS.perm (WkS.cons rfl (Wk.refl _) (WkS.cons rfl (Wk.refl _) (WkS.cons rfl (Wk.refl _) (WkS.cons rfl (Wk.refl _) (WkS.cons rfl (Wk.refl _) (WkS.nil)))))) ((Kap (j := 0) rfl).trans (List.Perm.cons _ ((Kap (j := 0) rfl).trans (List.Perm.cons _ ((Kap (j := 1) rfl).trans (List.Perm.cons _ Pf)))))) Pf)
   ·replace hm := yes_f hc12 hm
    refine Ky ?_
    have e11 := Kn hm; subst e11
    refine ⟨rfl, ?_⟩
    exact WkX.of () (WkS.perm (WkS.cons rfl (Wk.refl _) (WkS.cons rfl (Wk.refl _) (WkS.cons rfl (Wk.refl _) (WkS.cons rfl (Wk.refl _) (WkS.cons rfl (Wk.refl _) (WkS.nil)))))) ((Kap (j := 0) rfl).trans (List.Perm.cons _ ((Kap (j := 0) rfl).trans (List.Perm.cons _ ((Kap (j := 1) rfl).trans (List.Perm.cons _ Pf)))))) Pf)
  ·intro s11 hw11; clear hm; have hm := ho11; clear q11 ho11
   refine Km ?_
   refine K3 hw11 (fun z11 => ?_)
   refine Kq ?_
   refine Kl ?_
   refine pu ?_
   refine Kh ?_
   refine KL ?_
   refine Kl ?_
   refine pu ?_
   refine pu ?_
   refine Kh ?_
   refine Ku rfl (fun hc13 => ?_) (fun hc13 => ?_)
   ·replace hm := yes_t hc13 hm
    refine Kl ?_
    iterate 3 refine pu ?_
    refine pL 0 ?_
    iterate 3 refine pu ?_
    refine pS0 (ds' := [.lst 4 (m0.gL.map Kc) c0_0, iD (IntKind.i64.wrap (m0.gAt + (1 : Int))), iD m0.gE]) ?_
    refine Kv ?_
    refine pu ?_
    refine pS2 (ds' := [iD (3 : Int), tD ByteArray.empty, tD ByteArray.empty, .lst 1 [] .full, .lst 1 [] .full, .lst 1 [] .full, iD x2.gAt]) ?_
    refine Kv ?_
    refine pu ?_
    obtain ⟨x14, q14, hm⟩ := Kf hm
    refine pG (KcK (⟨m0.gL, (IntKind.i64.wrap (m0.gAt + (1 : Int))), m0.gE⟩ : Kd) o0 T0 c0_0 x14 q14) Wl Pf Pf ?_
    rintro _ _ _ ⟨rfl, rfl, rfl⟩
    refine pu ?_
    refine pS2 (ds' := [iD (3 : Int), tD x14.1, tD ByteArray.empty, .lst 1 [] .full, .lst 1 [] .full, .lst 1 [] .full, iD x2.gAt]) ?_
    refine Kv ?_
    refine pu ?_
    obtain ⟨x15, q15, hm⟩ := Kf hm
    refine pG (Kat x14.2 (ByteArray.mk #[61]) o0 T0 c0_0 x15 q15) Wl Pf Pf ?_
    rintro _ _ _ ⟨rfl, rfl, rfl⟩
    refine Kv ?_
    refine pu ?_
    obtain ⟨x16, q16, hm⟩ := Kf hm
    refine pG (KcL x15 o0 T0 c0_0 x16 q16) Wl Pf Pf ?_
    rintro _ _ _ ⟨rfl, rfl, rfl⟩
    refine p_eq (i := 47) rfl (Wk.of_eq (Kk x16.1)) ?_
    refine p_lit htab rfl rfl rfl rfl rfl rfl rfl rfl rfl rfl rfl rfl rfl rfl ?_
    refine p_eq (i := 48) (d' := .lst 5 (([x16.1] : List Ka).map Kg) .full) rfl (Wk.lst0 (.cons (WkC.trans (WkC.agg (WkR.refl _)) (WkC.of_eq (Kk x16.1).symm)) (.nil))) ?_
    refine pu ?_
    refine pS2 (ds' := [iD (3 : Int), tD x14.1, tD ByteArray.empty, .lst 5 (([x16.1] : List Ka).map Kg) .full, .lst 1 [] .full, .lst 1 [] .full, iD x2.gAt]) ?_
    refine Kh ?_
    refine KC ?_
    refine pu ?_
    obtain ⟨x17, q17, hm⟩ := Kf hm
    refine pG (Kat x16.2 (ByteArray.mk #[59]) o0 T0 .no x17 q17) Wl Pf Pf ?_
    rintro _ _ _ ⟨rfl, rfl, rfl⟩
    refine KB ?_
    refine KI ?_
    refine Km ?_
    refine Kl ?_
    refine K7 (d := .agg [iD (3 : Int), tD x14.1, tD ByteArray.empty, .lst 5 (([x16.1] : List Ka).map Kg) .full, .lst 1 [] .full, .lst 1 [] .full, iD x2.gAt]) 2 htab rfl rfl rfl rfl rfl rfl rfl rfl ?_
    refine pS1 (ds' := [iD (3 : Int), tD x14.1, tD ByteArray.empty, .lst 5 (([x16.1] : List Ka).map Kg) .full, .lst 1 [] .full, .lst 1 [] .full, iD x2.gAt]) ?_
    refine Kh ?_
    refine Ks ?_
    have er18 := Kn hm; subst er18
    refine retX.wk (WkS.bl1 (ds' := [iD (3 : Int), tD x14.1, tD ByteArray.empty, .lst 5 (([x16.1] : List Ka).map Kg) .no, .lst 7 (([] : List Kj).map Ki) .no, .lst 7 (([] : List Kj).map Ki) .no, iD x2.gAt]) (rC (rC (rC (rO (WkR.cons (WkC.nil) rfl (WkR.cons (WkC.nil) rfl (rC WkR.nil)))))))) ?_
    refine rP (t' := [(4, .ptr b1 0)]) [0,0] [] 1 (wC wN) (lC 1 lN) ?_
    exact ⟨by first | rfl | (simp only [wrapD, Kp]; done) | (simp only [wrapD, Kp]; rfl), rfl, rfl⟩
   ·replace hm := yes_f hc13 hm
    refine Kl ?_
    refine pu ?_
    refine pu ?_
    refine Kh ?_
    refine Ku rfl (fun hc19 => ?_) (fun hc19 => ?_)
    ·replace hm := yes_t hc19 hm
     refine Kl ?_
     iterate 3 refine pu ?_
     refine pL 0 ?_
     iterate 3 refine pu ?_
     refine pS0 (ds' := [.lst 4 (m0.gL.map Kc) c0_0, iD (IntKind.i64.wrap (m0.gAt + (1 : Int))), iD m0.gE]) ?_
     refine Kv ?_
     refine pu ?_
     refine pS2 (ds' := [iD (6 : Int), tD ByteArray.empty, tD ByteArray.empty, .lst 1 [] .full, .lst 1 [] .full, .lst 1 [] .full, iD x2.gAt]) ?_
     refine Kv ?_
     refine pu ?_
     obtain ⟨x21, q21, hm⟩ := Kf hm
     refine pG (Kg0 (⟨m0.gL, (IntKind.i64.wrap (m0.gAt + (1 : Int))), m0.gE⟩ : Kd) o0 T0 c0_0 x21 q21) Wl Pf Pf ?_
     rintro _ _ _ ⟨w20, rfl, rfl, rfl⟩
     refine pu ?_
     refine pS2 (ds' := [iD (6 : Int), tD ByteArray.empty, tD ByteArray.empty, .lst 5 (x21.1.map Kg) (.cur w20), .lst 1 [] .full, .lst 1 [] .full, iD x2.gAt]) ?_
     refine Kv ?_
     refine pu ?_
     refine pu ?_
     obtain ⟨x23, q23, hm⟩ := Kf hm
     refine pG (hg2 x21.2 a1 o0 T0 .no x23 q23) Wl Pf Pf ?_
     rintro _ _ _ ⟨w22, rfl, rfl, rfl⟩
     refine pu ?_
     refine pS2 (ds' := [iD (6 : Int), tD ByteArray.empty, tD ByteArray.empty, .lst 5 (x21.1.map Kg) (.cur w20), .lst 7 (x23.1.map Ki) (.cur w22), .lst 1 [] .full, iD x2.gAt]) ?_
     refine Kv ?_
     refine pu ?_
     obtain ⟨x24, q24, hm⟩ := Kf hm
     refine pG (Kch x23.2 (ByteArray.mk #[101, 108, 115, 101]) o0 T0 .no x24 q24) Wl Pf Pf ?_
     rintro _ _ _ ⟨rfl, rfl, rfl⟩
     refine Kh ?_
     refine Ku rfl (fun hc25 => ?_) (fun hc25 => ?_)
     ·replace hm := yes_t hc25 hm
      refine KC ?_
      refine pu ?_
      refine pu ?_
      obtain ⟨x27, q27, hm⟩ := Kf hm
      refine pG (hg2 x24.2 a1 o0 T0 .no x27 q27) Wl Pf Pf ?_
      rintro _ _ _ ⟨w26, rfl, rfl, rfl⟩
      refine pu ?_
      refine pS2 (ds' := [iD (6 : Int), tD ByteArray.empty, tD ByteArray.empty, .lst 5 (x21.1.map Kg) (.cur w20), .lst 7 (x23.1.map Ki) (.cur w22), .lst 7 (x27.1.map Ki) (.cur w26), iD x2.gAt]) ?_
      refine KB ?_
      refine KI ?_
      refine Km ?_
      refine Kl ?_
      refine K7 (d := .agg [iD (6 : Int), tD ByteArray.empty, tD ByteArray.empty, .lst 5 (x21.1.map Kg) (.cur w20), .lst 7 (x23.1.map Ki) (.cur w22), .lst 7 (x27.1.map Ki) (.cur w26), iD x2.gAt]) 2 htab rfl rfl rfl rfl rfl rfl rfl rfl ?_
      refine pS1 (ds' := [iD (6 : Int), tD ByteArray.empty, tD ByteArray.empty, .lst 5 (x21.1.map Kg) (.cur w20), .lst 7 (x23.1.map Ki) (.cur w22), .lst 7 (x27.1.map Ki) (.cur w26), iD x2.gAt]) ?_
      refine Kh ?_
      refine Ks ?_
      have er28 := Kn hm; subst er28
      refine retX.wk (WkS.bl1 (ds' := [iD (6 : Int), tD ByteArray.empty, tD ByteArray.empty, .lst 5 (x21.1.map Kg) .no, .lst 7 (x23.1.map Ki) .no, .lst 7 (x27.1.map Ki) .no, iD x2.gAt]) (rC (rC (rC (rO (rO (rO (rC WkR.nil)))))))) ?_
      refine rP (t' := [(4, .ptr b1 0)]) [0,0] [] 1 (wC wN) (lC 1 lN) ?_
      exact ⟨by first | rfl | (simp only [wrapD, Kp]; done) | (simp only [wrapD, Kp]; rfl), rfl, rfl⟩
     ·replace hm := yes_f hc25 hm
      refine Ky ?_
      refine KI ?_
      refine Km ?_
      refine Kl ?_
      refine K7 (d := .agg [iD (6 : Int), tD ByteArray.empty, tD ByteArray.empty, .lst 5 (x21.1.map Kg) (.cur w20), .lst 7 (x23.1.map Ki) (.cur w22), .lst 1 [] .full, iD x2.gAt]) 2 htab rfl rfl rfl rfl rfl rfl rfl rfl ?_
      refine pS1 (ds' := [iD (6 : Int), tD ByteArray.empty, tD ByteArray.empty, .lst 5 (x21.1.map Kg) (.cur w20), .lst 7 (x23.1.map Ki) (.cur w22), .lst 1 [] .full, iD x2.gAt]) ?_
      refine Kh ?_
      refine Ks ?_
      have er29 := Kn hm; subst er29
      refine retX.wk (WkS.bl1 (ds' := [iD (6 : Int), tD ByteArray.empty, tD ByteArray.empty, .lst 5 (x21.1.map Kg) .no, .lst 7 (x23.1.map Ki) .no, .lst 7 (([] : List Kj).map Ki) .no, iD x2.gAt]) (rC (rC (rC (rO (rO (WkR.cons (WkC.nil) rfl (rC WkR.nil)))))))) ?_
      refine rP (t' := [(4, .ptr b1 0)]) [0,0] [] 1 (wC wN) (lC 1 lN) ?_
      exact ⟨by first | rfl | (simp only [wrapD, Kp]; done) | (simp only [wrapD, Kp]; rfl), rfl, rfl⟩
    ·replace hm := yes_f hc19 hm
     refine Kl ?_
     refine pu ?_
     refine pu ?_
     refine Kh ?_
     refine Ku rfl (fun hc30 => ?_) (fun hc30 => ?_)
     ·replace hm := yes_t hc30 hm
      refine Kl ?_
      iterate 3 refine pu ?_
      refine pL 0 ?_
      iterate 3 refine pu ?_
      refine pS0 (ds' := [.lst 4 (m0.gL.map Kc) c0_0, iD (IntKind.i64.wrap (m0.gAt + (1 : Int))), iD m0.gE]) ?_
      refine Kv ?_
      refine pu ?_
      refine pS2 (ds' := [iD (7 : Int), tD ByteArray.empty, tD ByteArray.empty, .lst 1 [] .full, .lst 1 [] .full, .lst 1 [] .full, iD x2.gAt]) ?_
      refine Kv ?_
      refine pu ?_
      obtain ⟨x32, q32, hm⟩ := Kf hm
      refine pG (Kg0 (⟨m0.gL, (IntKind.i64.wrap (m0.gAt + (1 : Int))), m0.gE⟩ : Kd) o0 T0 c0_0 x32 q32) Wl Pf Pf ?_
      rintro _ _ _ ⟨w31, rfl, rfl, rfl⟩
      refine pu ?_
      refine pS2 (ds' := [iD (7 : Int), tD ByteArray.empty, tD ByteArray.empty, .lst 5 (x32.1.map Kg) (.cur w31), .lst 1 [] .full, .lst 1 [] .full, iD x2.gAt]) ?_
      refine Kh ?_
      refine KC ?_
      refine pu ?_
      refine pu ?_
      obtain ⟨x34, q34, hm⟩ := Kf hm
      refine pG (hg2 x32.2 a1 o0 T0 .no x34 q34) Wl Pf Pf ?_
      rintro _ _ _ ⟨w33, rfl, rfl, rfl⟩
      refine pu ?_
      refine pS2 (ds' := [iD (7 : Int), tD ByteArray.empty, tD ByteArray.empty, .lst 5 (x32.1.map Kg) (.cur w31), .lst 7 (x34.1.map Ki) (.cur w33), .lst 1 [] .full, iD x2.gAt]) ?_
      refine KB ?_
      refine KI ?_
      refine Km ?_
      refine Kl ?_
      refine K7 (d := .agg [iD (7 : Int), tD ByteArray.empty, tD ByteArray.empty, .lst 5 (x32.1.map Kg) (.cur w31), .lst 7 (x34.1.map Ki) (.cur w33), .lst 1 [] .full, iD x2.gAt]) 2 htab rfl rfl rfl rfl rfl rfl rfl rfl ?_
      refine pS1 (ds' := [iD (7 : Int), tD ByteArray.empty, tD ByteArray.empty, .lst 5 (x32.1.map Kg) (.cur w31), .lst 7 (x34.1.map Ki) (.cur w33), .lst 1 [] .full, iD x2.gAt]) ?_
      refine Kh ?_
      refine Ks ?_
      have er35 := Kn hm; subst er35
      refine retX.wk (WkS.bl1 (ds' := [iD (7 : Int), tD ByteArray.empty, tD ByteArray.empty, .lst 5 (x32.1.map Kg) .no, .lst 7 (x34.1.map Ki) .no, .lst 7 (([] : List Kj).map Ki) .no, iD x2.gAt]) (rC (rC (rC (rO (rO (WkR.cons (WkC.nil) rfl (rC WkR.nil)))))))) ?_
      refine rP (t' := [(4, .ptr b1 0)]) [0,0] [] 1 (wC wN) (lC 1 lN) ?_
      exact ⟨by first | rfl | (simp only [wrapD, Kp]; done) | (simp only [wrapD, Kp]; rfl), rfl, rfl⟩
     ·replace hm := yes_f hc30 hm
      refine Kl ?_
      refine pu ?_
      refine pu ?_
      refine Kh ?_
      refine Ku rfl (fun hc36 => ?_) (fun hc36 => ?_)
      ·replace hm := yes_t hc36 hm
       refine Kl ?_
       iterate 3 refine pu ?_
       refine pL 0 ?_
       iterate 3 refine pu ?_
       refine pS0 (ds' := [.lst 4 (m0.gL.map Kc) c0_0, iD (IntKind.i64.wrap (m0.gAt + (1 : Int))), iD m0.gE]) ?_
       refine Kv ?_
       refine pu ?_
       refine pS2 (ds' := [iD (8 : Int), tD ByteArray.empty, tD ByteArray.empty, .lst 1 [] .full, .lst 1 [] .full, .lst 1 [] .full, iD x2.gAt]) ?_
       refine Kv ?_
       refine pu ?_
       obtain ⟨x37, q37, hm⟩ := Kf hm
       refine pG (KcL (⟨m0.gL, (IntKind.i64.wrap (m0.gAt + (1 : Int))), m0.gE⟩ : Kd) o0 T0 c0_0 x37 q37) Wl Pf Pf ?_
       rintro _ _ _ ⟨rfl, rfl, rfl⟩
       refine p_eq (i := 103) rfl (Wk.of_eq (Kk x37.1)) ?_
       refine p_lit htab rfl rfl rfl rfl rfl rfl rfl rfl rfl rfl rfl rfl rfl rfl ?_
       refine p_eq (i := 104) (d' := .lst 5 (([x37.1] : List Ka).map Kg) .full) rfl (Wk.lst0 (.cons (WkC.trans (WkC.agg (WkR.refl _)) (WkC.of_eq (Kk x37.1).symm)) (.nil))) ?_
       refine pu ?_
       refine pS2 (ds' := [iD (8 : Int), tD ByteArray.empty, tD ByteArray.empty, .lst 5 (([x37.1] : List Ka).map Kg) .full, .lst 1 [] .full, .lst 1 [] .full, iD x2.gAt]) ?_
       refine Kh ?_
       refine KC ?_
       refine pu ?_
       obtain ⟨x38, q38, hm⟩ := Kf hm
       refine pG (Kat x37.2 (ByteArray.mk #[59]) o0 T0 .no x38 q38) Wl Pf Pf ?_
       rintro _ _ _ ⟨rfl, rfl, rfl⟩
       refine KB ?_
       refine KI ?_
       refine Km ?_
       refine Kl ?_
       refine K7 (d := .agg [iD (8 : Int), tD ByteArray.empty, tD ByteArray.empty, .lst 5 (([x37.1] : List Ka).map Kg) .full, .lst 1 [] .full, .lst 1 [] .full, iD x2.gAt]) 2 htab rfl rfl rfl rfl rfl rfl rfl rfl ?_
       refine pS1 (ds' := [iD (8 : Int), tD ByteArray.empty, tD ByteArray.empty, .lst 5 (([x37.1] : List Ka).map Kg) .full, .lst 1 [] .full, .lst 1 [] .full, iD x2.gAt]) ?_
       refine Kh ?_
       refine Ks ?_
       have er39 := Kn hm; subst er39
       refine retX.wk (WkS.bl1 (ds' := [iD (8 : Int), tD ByteArray.empty, tD ByteArray.empty, .lst 5 (([x37.1] : List Ka).map Kg) .no, .lst 7 (([] : List Kj).map Ki) .no, .lst 7 (([] : List Kj).map Ki) .no, iD x2.gAt]) (rC (rC (rC (rO (WkR.cons (WkC.nil) rfl (WkR.cons (WkC.nil) rfl (rC WkR.nil)))))))) ?_
       refine rP (t' := [(4, .ptr b1 0)]) [0,0] [] 1 (wC wN) (lC 1 lN) ?_
       exact ⟨by first | rfl | (simp only [wrapD, Kp]; done) | (simp only [wrapD, Kp]; rfl), rfl, rfl⟩
      ·replace hm := yes_f hc36 hm
       refine Kl ?_
       refine pu ?_
       refine pu ?_
       refine Kh ?_
       refine Ku rfl (fun hc40 => ?_) (fun hc40 => ?_)
       ·replace hm := yes_t hc40 hm
        refine Kl ?_
        iterate 3 refine pu ?_
        refine pL 0 ?_
        iterate 3 refine pu ?_
        refine pS0 (ds' := [.lst 4 (m0.gL.map Kc) c0_0, iD (IntKind.i64.wrap (m0.gAt + (1 : Int))), iD m0.gE]) ?_
        refine Kv ?_
        refine pu ?_
        refine pS2 (ds' := [iD (9 : Int), tD ByteArray.empty, tD ByteArray.empty, .lst 1 [] .full, .lst 1 [] .full, .lst 1 [] .full, iD x2.gAt]) ?_
        refine Kv ?_
        refine pu ?_
        obtain ⟨x42, q42, hm⟩ := Kf hm
        refine pG (Kg0 (⟨m0.gL, (IntKind.i64.wrap (m0.gAt + (1 : Int))), m0.gE⟩ : Kd) o0 T0 c0_0 x42 q42) Wl Pf Pf ?_
        rintro _ _ _ ⟨w41, rfl, rfl, rfl⟩
        refine pu ?_
        refine pS2 (ds' := [iD (9 : Int), tD ByteArray.empty, tD ByteArray.empty, .lst 5 (x42.1.map Kg) (.cur w41), .lst 1 [] .full, .lst 1 [] .full, iD x2.gAt]) ?_
        refine Kh ?_
        refine KC ?_
        refine pu ?_
        obtain ⟨x43, q43, hm⟩ := Kf hm
        refine pG (Kat x42.2 (ByteArray.mk #[59]) o0 T0 .no x43 q43) Wl Pf Pf ?_
        rintro _ _ _ ⟨rfl, rfl, rfl⟩
        refine KB ?_
        refine KI ?_
        refine Km ?_
        refine Kl ?_
        refine K7 (d := .agg [iD (9 : Int), tD ByteArray.empty, tD ByteArray.empty, .lst 5 (x42.1.map Kg) (.cur w41), .lst 1 [] .full, .lst 1 [] .full, iD x2.gAt]) 2 htab rfl rfl rfl rfl rfl rfl rfl rfl ?_
        refine pS1 (ds' := [iD (9 : Int), tD ByteArray.empty, tD ByteArray.empty, .lst 5 (x42.1.map Kg) (.cur w41), .lst 1 [] .full, .lst 1 [] .full, iD x2.gAt]) ?_
        refine Kh ?_
        refine Ks ?_
        have er44 := Kn hm; subst er44
        refine retX.wk (WkS.bl1 (ds' := [iD (9 : Int), tD ByteArray.empty, tD ByteArray.empty, .lst 5 (x42.1.map Kg) .no, .lst 7 (([] : List Kj).map Ki) .no, .lst 7 (([] : List Kj).map Ki) .no, iD x2.gAt]) (rC (rC (rC (rO (WkR.cons (WkC.nil) rfl (WkR.cons (WkC.nil) rfl (rC WkR.nil)))))))) ?_
        refine rP (t' := [(4, .ptr b1 0)]) [0,0] [] 1 (wC wN) (lC 1 lN) ?_
        exact ⟨by first | rfl | (simp only [wrapD, Kp]; done) | (simp only [wrapD, Kp]; rfl), rfl, rfl⟩
       ·replace hm := yes_f hc40 hm
        refine KC ?_
        iterate 4 refine pu ?_
        refine pL 0 ?_
        obtain ⟨x45, q45, hm⟩ := Kf hm
        refine pG (Kb7 m0 m0.gAt (3 : Int) o0 T0 c0_0 x45 q45) Wl Pf Pf ?_
        rintro _ _ _ ⟨rfl, rfl, rfl⟩
        refine KB ?_
        refine KI ?_
        refine Km ?_
        refine Kl ?_
        refine K7 (d := .agg [iD (0 : Int), tD ByteArray.empty, tD ByteArray.empty, .lst 1 [] .full, .lst 1 [] .full, .lst 1 [] .full, iD x2.gAt]) 2 htab rfl rfl rfl rfl rfl rfl rfl rfl ?_
        refine pS1 (ds' := [iD (0 : Int), tD ByteArray.empty, tD ByteArray.empty, .lst 1 [] .full, .lst 1 [] .full, .lst 1 [] .full, iD x2.gAt]) ?_
        refine Kh ?_
        refine Ks ?_
        have er46 := Kn hm; subst er46
        refine retX.wk (WkS.bl1 (ds' := [iD (0 : Int), tD ByteArray.empty, tD ByteArray.empty, .lst 5 (([] : List Ka).map Kg) .no, .lst 7 (([] : List Kj).map Ki) .no, .lst 7 (([] : List Kj).map Ki) .no, iD x2.gAt]) (rC (rC (rC (WkR.cons (WkC.nil) rfl (WkR.cons (WkC.nil) rfl (WkR.cons (WkC.nil) rfl (rC WkR.nil)))))))) ?_
        refine retX.wk (WkS.bl0 (ds' := [.lst 4 (x45.gL.map Kc) .no, iD x45.gAt, iD x45.gE]) (rO (rC (rC WkR.nil)))) ?_
        refine rP (t' := [(4, .ptr b1 0)]) [0,0] [] 1 (wC wN) (lC 1 lN) ?_
        exact ⟨by first | rfl | (simp only [wrapD, Kp]; done) | (simp only [wrapD, Kp]; rfl), rfl, rfl⟩
noncomputable def KcM (g0 : (Kd) → (Int) → Option (List Kj × Kd)) (g1 : (Kd) → (Int) → Option (Kj × Kd)) (g2 : (Kd) → (Int) → Option (List Kj × Kd)) (m0 : Kd) (a1 : Int) : Option (List Kj × Kd) :=
 ((Kdf m0 a1).bind fun x1 => ((g0 x1 (IntKind.i64.wrap (a1 + (1 : Int)))).bind fun x3 => some (x3.1, x3.2)))
theorem Kjr (g0 : (Kd) → (Int) → Option (List Kj × Kd)) (g1 : (Kd) → (Int) → Option (Kj × Kd)) (g2 : (Kd) → (Int) → Option (List Kj × Kd)) (hg0 : ∀ (m0 : Kd) (a1 : Int) (o0 : Nat) (T0 : TypeId) (c0_0 : Cap) (r : List Kj × Kd) (h0 : g0 m0 a1 = some r), CallsD Try.prog 30 [.ptr o0 0, iD a1] [(o0, Blk.cells [.lst 4 (m0.gL.map Kc) c0_0, iD m0.gAt, iD m0.gE] T0)] [] (fun d h k => ∃ y0, d = .lst 7 (r.1.map Ki) (.cur y0) ∧ h = [(o0, Blk.cells [.lst 4 (r.2.gL.map Kc) .no, iD r.2.gAt, iD r.2.gE] T0)] ∧ k = [(7, y0)])) (hg1 : ∀ (m0 : Kd) (a1 : Int) (o0 : Nat) (T0 : TypeId) (c0_0 : Cap) (r : Kj × Kd) (h0 : g1 m0 a1 = some r), CallsD Try.prog 50 [.ptr o0 0, iD a1] [(o0, Blk.cells [.lst 4 (m0.gL.map Kc) c0_0, iD m0.gAt, iD m0.gE] T0)] [] (fun d h k => d = Ki r.1 ∧ h = [(o0, Blk.cells [.lst 4 (r.2.gL.map Kc) .no, iD r.2.gAt, iD r.2.gE] T0)] ∧ k = [])) (hg2 : ∀ (m0 : Kd) (a1 : Int) (o0 : Nat) (T0 : TypeId) (c0_0 : Cap) (r : List Kj × Kd) (h0 : g2 m0 a1 = some r), CallsD Try.prog 63 [.ptr o0 0, iD a1] [(o0, Blk.cells [.lst 4 (m0.gL.map Kc) c0_0, iD m0.gAt, iD m0.gE] T0)] [] (fun d h k => ∃ y0, d = .lst 7 (r.1.map Ki) (.cur y0) ∧ h = [(o0, Blk.cells [.lst 4 (r.2.gL.map Kc) .no, iD r.2.gAt, iD r.2.gE] T0)] ∧ k = [(7, y0)])) (m0 : Kd) (a1 : Int) (o0 : Nat) (T0 : TypeId) (c0_0 : Cap) (r : List Kj × Kd) (h0 : KcM g0 g1 g2 m0 a1 = some r) : CallsD Try.prog 63 [.ptr o0 0, iD a1] [(o0, Blk.cells [.lst 4 (m0.gL.map Kc) c0_0, iD m0.gAt, iD m0.gE] T0)] [] (fun d h k => ∃ y0, d = .lst 7 (r.1.map Ki) (.cur y0) ∧ h = [(o0, Blk.cells [.lst 4 (r.2.gL.map Kc) .no, iD r.2.gAt, iD r.2.gE] T0)] ∧ k = [(7, y0)]) := by
 have hm := KE h0
 unfold KcM at hm
 clear h0
 refine KW htab Try.func63 rfl rfl rfl rfl rfl (fun C => ?_)
 refine Kl ?_
 refine pu ?_
 refine Kv ?_
 refine pu ?_
 refine pu ?_
 obtain ⟨x1, q1, hm⟩ := Kf hm
 refine pG (Kii m0 a1 o0 T0 c0_0 x1 q1) Wl Pf Pf ?_
 rintro _ _ _ ⟨rfl, rfl, rfl⟩
 refine Kv ?_
 iterate 3 refine pu ?_
 obtain ⟨x3, q3, hm⟩ := Kf hm
 refine pG (hg0 x1 (IntKind.i64.wrap (a1 + (1 : Int))) o0 T0 c0_0 x3 q3) Wl Pf Pf ?_
 rintro _ _ _ ⟨w2, rfl, rfl, rfl⟩
 refine pu ?_
 refine Kh ?_
 refine Ks ?_
 have er4 := Kn hm; subst er4
 refine rP (t' := [(4, .lst 7 (x3.1.map Ki) (.cur w2))]) [0] [0] 1 (wC wN) (lT lN) ?_
 exact ⟨w2, rfl, rfl, rfl⟩
noncomputable def K4 : Nat → ((Kd) → (Int) → Option (List Kj × Kd)) × ((Kd) → (Int) → Option (Kj × Kd)) × ((Kd) → (Int) → Option (List Kj × Kd))
 | 0 => (fun _ _ => none, fun _ _ => none, fun _ _ => none)
 | n + 1 => (Ket ((K4 n).1) ((K4 n).2.1) ((K4 n).2.2), Kcs ((K4 n).1) ((K4 n).2.1) ((K4 n).2.2), KcM ((K4 n).1) ((K4 n).2.1) ((K4 n).2.2))
theorem KhZ : ∀ n, (∀ (m0 : Kd) (a1 : Int) (o0 : Nat) (T0 : TypeId) (c0_0 : Cap) (r : List Kj × Kd) (h0 : (K4 n).1 m0 a1 = some r), CallsD Try.prog 30 [.ptr o0 0, iD a1] [(o0, Blk.cells [.lst 4 (m0.gL.map Kc) c0_0, iD m0.gAt, iD m0.gE] T0)] [] (fun d h k => ∃ y0, d = .lst 7 (r.1.map Ki) (.cur y0) ∧ h = [(o0, Blk.cells [.lst 4 (r.2.gL.map Kc) .no, iD r.2.gAt, iD r.2.gE] T0)] ∧ k = [(7, y0)])) ∧ (∀ (m0 : Kd) (a1 : Int) (o0 : Nat) (T0 : TypeId) (c0_0 : Cap) (r : Kj × Kd) (h0 : (K4 n).2.1 m0 a1 = some r), CallsD Try.prog 50 [.ptr o0 0, iD a1] [(o0, Blk.cells [.lst 4 (m0.gL.map Kc) c0_0, iD m0.gAt, iD m0.gE] T0)] [] (fun d h k => d = Ki r.1 ∧ h = [(o0, Blk.cells [.lst 4 (r.2.gL.map Kc) .no, iD r.2.gAt, iD r.2.gE] T0)] ∧ k = [])) ∧ (∀ (m0 : Kd) (a1 : Int) (o0 : Nat) (T0 : TypeId) (c0_0 : Cap) (r : List Kj × Kd) (h0 : (K4 n).2.2 m0 a1 = some r), CallsD Try.prog 63 [.ptr o0 0, iD a1] [(o0, Blk.cells [.lst 4 (m0.gL.map Kc) c0_0, iD m0.gAt, iD m0.gE] T0)] [] (fun d h k => ∃ y0, d = .lst 7 (r.1.map Ki) (.cur y0) ∧ h = [(o0, Blk.cells [.lst 4 (r.2.gL.map Kc) .no, iD r.2.gAt, iD r.2.gE] T0)] ∧ k = [(7, y0)]))
  | 0 => ⟨(fun _ _ _ _ _ _ h0 => by cases h0), (fun _ _ _ _ _ _ h0 => by cases h0), (fun _ _ _ _ _ _ h0 => by cases h0)⟩
  | n + 1 => by
    have ih := KhZ n
    exact ⟨Kkc ((K4 n).1) ((K4 n).2.1) ((K4 n).2.2) (ih.1) (ih.2.1) (ih.2.2), Kkd ((K4 n).1) ((K4 n).2.1) ((K4 n).2.2) (ih.1) (ih.2.1) (ih.2.2), Kjr ((K4 n).1) ((K4 n).2.1) ((K4 n).2.2) (ih.1) (ih.2.1) (ih.2.2)⟩
theorem Kh0 : ∀ n, (∀ (m0 : Kd) (a1 : Int), Le ((K4 n).1 m0 a1) ((K4 (n + 1)).1 m0 a1)) ∧ (∀ (m0 : Kd) (a1 : Int), Le ((K4 n).2.1 m0 a1) ((K4 (n + 1)).2.1 m0 a1)) ∧ (∀ (m0 : Kd) (a1 : Int), Le ((K4 n).2.2 m0 a1) ((K4 (n + 1)).2.2 m0 a1))
  | 0 => ⟨fun _ _ => Le.none _, fun _ _ => Le.none _, fun _ _ => Le.none _⟩
  | n + 1 => by
    have ih := Kh0 n
    exact ⟨fun m0 a1 => by show Le (Ket ((K4 n).1) ((K4 n).2.1) ((K4 n).2.2) m0 a1) (Ket ((K4 (n + 1)).1) ((K4 (n + 1)).2.1) ((K4 (n + 1)).2.2) m0 a1); unfold Ket; repeat (first | exact Le.refl _ | exact ih.1 _ _ | exact ih.2.1 _ _ | exact ih.2.2 _ _ | assumption | (refine Le.bind ?_ (fun _ => ?_)) | (refine Le.cond ?_ ?_) | (refine Le.loop (fun _ => ?_)) | (refine Le.elim (fun _ => ?_) (fun _ => ?_))), fun m0 a1 => by show Le (Kcs ((K4 n).1) ((K4 n).2.1) ((K4 n).2.2) m0 a1) (Kcs ((K4 (n + 1)).1) ((K4 (n + 1)).2.1) ((K4 (n + 1)).2.2) m0 a1); unfold Kcs; repeat (first | exact Le.refl _ | exact ih.1 _ _ | exact ih.2.1 _ _ | exact ih.2.2 _ _ | assumption | (refine Le.bind ?_ (fun _ => ?_)) | (refine Le.cond ?_ ?_) | (refine Le.loop (fun _ => ?_)) | (refine Le.elim (fun _ => ?_) (fun _ => ?_))), fun m0 a1 => by show Le (KcM ((K4 n).1) ((K4 n).2.1) ((K4 n).2.2) m0 a1) (KcM ((K4 (n + 1)).1) ((K4 (n + 1)).2.1) ((K4 (n + 1)).2.2) m0 a1); unfold KcM; repeat (first | exact Le.refl _ | exact ih.1 _ _ | exact ih.2.1 _ _ | exact ih.2.2 _ _ | assumption | (refine Le.bind ?_ (fun _ => ?_)) | (refine Le.cond ?_ ?_) | (refine Le.loop (fun _ => ?_)) | (refine Le.elim (fun _ => ?_) (fun _ => ?_)))⟩
noncomputable def Kef (m0 : Kd) (a1 : Int) : Option (List Kj × Kd) := anyN fun n => (K4 n).1 m0 a1
theorem KiI (m0 : Kd) (a1 : Int) {r : List Kj × Kd} (n : Nat) (h : (K4 n).1 m0 a1 = some r) : Kef m0 a1 = some r := Kc8 (fun m => (Kh0 m).1 m0 a1) h
theorem KkC (m0 : Kd) (a1 : Int) (o0 : Nat) (T0 : TypeId) (c0_0 : Cap) (r : List Kj × Kd) (h0 : Kef m0 a1 = some r) : CallsD Try.prog 30 [.ptr o0 0, iD a1] [(o0, Blk.cells [.lst 4 (m0.gL.map Kc) c0_0, iD m0.gAt, iD m0.gE] T0)] [] (fun d h k => ∃ y0, d = .lst 7 (r.1.map Ki) (.cur y0) ∧ h = [(o0, Blk.cells [.lst 4 (r.2.gL.map Kc) .no, iD r.2.gAt, iD r.2.gE] T0)] ∧ k = [(7, y0)]) :=
 let ⟨n, hn⟩ := KcB h0; (KhZ n).1 m0 a1 o0 T0 c0_0 r hn
noncomputable def KcN (g0 : (List Kj) → Option (List Kj)) (a0 : List Kj) : Option (List Kj) :=
 (Option.bind (α := List Kj) (loopM (fun (s40 : List Kj × Int) => (bif (decide (s40.2 < (a0.length : Int))) then ((idx a0 s40.2).bind fun x67 => ((app 120 s40.1 ([x67] : List Kj)).bind fun x68 => ((idx a0 s40.2).bind fun x69 => ((g0 x69.gKids).bind fun x71 => ((app 120 x68 x71).bind fun x72 => ((idx a0 s40.2).bind fun x73 => ((g0 x73.gElse).bind fun x75 => ((app 120 x72 x75).bind fun x76 => some (.next (x76, (IntKind.i64.wrap (s40.2 + (1 : Int))))))))))))) else some (.done s40.1))) (([] : List Kj), (0 : Int))) fun y39 => some y39)
theorem Kjs (g0 : (List Kj) → Option (List Kj)) (hg0 : ∀ (a0 : List Kj) (r : List Kj) (h0 : g0 a0 = some r), CallsD Try.prog 31 [.lst 7 (a0.map Ki) .no] [] [] (fun d h k => ∃ y0, d = .lst 7 (r.map Ki) (.cur y0) ∧ h = [] ∧ k = [(7, y0)])) (a0 : List Kj) (r : List Kj) (h0 : KcN g0 a0 = some r) : CallsD Try.prog 31 [.lst 7 (a0.map Ki) .no] [] [] (fun d h k => ∃ y0, d = .lst 7 (r.map Ki) (.cur y0) ∧ h = [] ∧ k = [(7, y0)]) := by
 have hm := KE h0
 unfold KcN at hm
 clear h0
 refine KW htab Try.func31 rfl rfl rfl rfl rfl (fun C => ?_)
 refine Kl ?_
 refine pu ?_
 refine Kv ?_
 refine pu ?_
 refine Kh ?_
 refine Kq ?_
 refine Kl ?_
 refine pu ?_
 refine Kh ?_
 obtain ⟨y39, q39, ho39⟩ := Kf hm
 refine K6 (Y := Value) (fun z39 => (⟨[(3, .lst 7 (y39.map Ki) (.cur z39))], [], [(7, z39)]⟩ : S)) ?_ ?_
 ·clear hm; have hm := KE q39
  refine KL ?_
  obtain ⟨u40, hl40, hq40⟩ := yes_m hm
  refine Kbe (Y := Value) hl40 (fun s40 z40 => (⟨[(0, .lst 7 (a0.map Ki) .no), (3, .lst 7 (s40.1.map Ki) (.cur z40)), (4, iD s40.2)], [], [(7, z40)]⟩ : S)) ?_ ?_
  ·skip
   refine WkX.tokN (i := 3) 7 rfl (fun w65 => ?_)
   exact WkX.of w65 (WkS.perm (WkS.cons rfl (Wk.refl _) (WkS.cons rfl (Wk.refl _) (WkS.cons rfl (Wk.refl _) (WkS.nil)))) Pf Pf)
  ·intro G40 s40 z40 hm
   refine Kq ?_
   refine Kl ?_
   refine pu ?_
   refine pu ?_
   refine KaP htab rfl rfl rfl rfl rfl rfl rfl (by first | exact Kaf | rfl) ?_
   refine pu ?_
   refine Kh ?_
   refine Ku rfl (fun hc66 => ?_) (fun hc66 => ?_)
   ·replace hm := yes_t hc66 hm
    refine Ky ?_
    refine Km ?_
    refine Kq ?_
    refine KL ?_
    refine Kl ?_
    iterate 3 refine pu ?_
    obtain ⟨x67, q67, hm⟩ := Kf hm
    refine Ka8 htab rfl rfl rfl rfl rfl rfl rfl rfl rfl rfl (Kr q67) (Kz q67) ?_
    refine p_eq (i := 14) rfl (Wk.of_eq (congrArg D.el (Kp x67))) ?_
    refine KaE (d := .agg [iD x67.gOp, tD x67.gName, tD x67.gFunc, .lst 5 (x67.gExps.map Kg) .no, .lst 7 (x67.gKids.map Ki) .no, .lst 7 (x67.gElse.map Ki) .no, iD x67.gAt]) htab rfl rfl rfl rfl rfl rfl rfl rfl ?_
    refine p_lit htab rfl rfl rfl rfl rfl rfl rfl rfl rfl rfl rfl rfl rfl rfl ?_
    refine p_eq (i := 16) (d' := .lst 7 (([x67] : List Kj).map Ki) .full) rfl (Wk.lst0 (.cons (WkC.trans (WkC.agg (WkR.refl _)) (WkC.of_eq (Kp x67).symm)) (.nil))) ?_
    obtain ⟨x68, q68, hm⟩ := Kf hm
    refine KcS 0 htab rfl rfl rfl rfl rfl rfl rfl rfl rfl rfl rfl rfl rfl rfl rfl rfl rfl (Kbi q68) (fun v68 => ?_)
    refine KcT (i := 17) q68 rfl ?_
    refine pu ?_
    refine Kv ?_
    iterate 3 refine pu ?_
    obtain ⟨x69, q69, hm⟩ := Kf hm
    refine Ka8 htab rfl rfl rfl rfl rfl rfl rfl rfl rfl rfl (Kr q69) (Kz q69) ?_
    refine p_eq (i := 21) rfl (Wk.of_eq (congrArg D.el (Kp x69))) ?_
    refine pu ?_
    refine KaE htab rfl rfl rfl rfl rfl rfl rfl rfl ?_
    obtain ⟨x71, q71, hm⟩ := Kf hm
    refine pG (hg0 x69.gKids x71 q71) Wl Pf Pf ?_
    rintro _ _ _ ⟨w70, rfl, rfl, rfl⟩
    obtain ⟨x72, q72, hm⟩ := Kf hm
    refine KcS 1 htab rfl rfl rfl rfl rfl rfl rfl rfl rfl rfl rfl rfl rfl rfl rfl rfl rfl (Kbi q72) (fun v72 => ?_)
    refine KcT (i := 25) q72 rfl ?_
    refine pu ?_
    refine Kh ?_
    refine KC ?_
    iterate 3 refine pu ?_
    obtain ⟨x73, q73, hm⟩ := Kf hm
    refine Ka8 htab rfl rfl rfl rfl rfl rfl rfl rfl rfl rfl (Kr q73) (Kz q73) ?_
    refine p_eq (i := 29) rfl (Wk.of_eq (congrArg D.el (Kp x73))) ?_
    refine pu ?_
    refine KaE htab rfl rfl rfl rfl rfl rfl rfl rfl ?_
    obtain ⟨x75, q75, hm⟩ := Kf hm
    refine pG (hg0 x73.gElse x75 q75) Wl Pf Pf ?_
    rintro _ _ _ ⟨w74, rfl, rfl, rfl⟩
    obtain ⟨x76, q76, hm⟩ := Kf hm
    refine KcS 1 htab rfl rfl rfl rfl rfl rfl rfl rfl rfl rfl rfl rfl rfl rfl rfl rfl rfl (Kbi q76) (fun v76 => ?_)
    refine KcT (i := 33) q76 rfl ?_
    refine pu ?_
    refine KB ?_
    refine KI ?_
    refine Km ?_
    refine KC ?_
    iterate 3 refine pu ?_
    refine KB ?_
    refine Km ⟨_, KaR hm, ?_⟩
    exact WkX.of v76 (WkS.perm (WkS.cons rfl (Wk.refl _) (WkS.cons rfl (Wk.refl _) (WkS.cons rfl (Wk.refl _) (WkS.nil)))) Pf Pf)
   ·replace hm := yes_f hc66 hm
    refine Kay ?_
    refine KN ?_
    have e40 := Kaq hm; subst e40; clear hm; have hm := hq40
    refine KN ?_
    refine Kao ?_
    have e39 := Kn hm; subst e39
    refine ⟨rfl, ?_⟩
    exact WkX.of z40 (WkS.perm (WkS.cons rfl (Wk.refl _) (WkS.nil)) Pf Pf)
 ·intro s39 hw39; clear hm; have hm := ho39; clear q39 ho39
  refine Km ?_
  refine K3 hw39 (fun z39 => ?_)
  refine Kl ?_
  refine pu ?_
  refine pu ?_
  refine Kh ?_
  refine Ks ?_
  have er77 := Kn hm; subst er77
  refine rP (t' := [(2, .lst 7 (y39.map Ki) (.cur z39))]) [] [0] 0 (wC wN) (lT lN) ?_
  exact ⟨z39, rfl, rfl, rfl⟩
noncomputable def KbU : Nat → ((List Kj) → Option (List Kj))
 | 0 => (fun _ => none)
 | n + 1 => (KcN ((KbU n)))
theorem Khj : ∀ n, (∀ (a0 : List Kj) (r : List Kj) (h0 : (KbU n) a0 = some r), CallsD Try.prog 31 [.lst 7 (a0.map Ki) .no] [] [] (fun d h k => ∃ y0, d = .lst 7 (r.map Ki) (.cur y0) ∧ h = [] ∧ k = [(7, y0)]))
  | 0 => fun _ _ h0 => by cases h0
  | n + 1 => by
    have ih := Khj n
    exact Kjs (KbU n) ih
theorem Khk : ∀ n, (∀ (a0 : List Kj), Le ((KbU n) a0) ((KbU (n + 1)) a0))
  | 0 => fun _ => Le.none _
  | n + 1 => by
    have ih := Khk n
    exact fun a0 => by show Le (KcN ((KbU n)) a0) (KcN ((KbU (n + 1))) a0); unfold KcN; repeat (first | exact Le.refl _ | exact ih _ | assumption | (refine Le.bind ?_ (fun _ => ?_)) | (refine Le.cond ?_ ?_) | (refine Le.loop (fun _ => ?_)) | (refine Le.elim (fun _ => ?_) (fun _ => ?_)))
noncomputable def KeS (a0 : List Kj) : Option (List Kj) := anyN fun n => (KbU n) a0
theorem Kkr (a0 : List Kj) {r : List Kj} (n : Nat) (h : (KbU n) a0 = some r) : KeS a0 = some r := Kc8 (fun m => (Khk m) a0) h
theorem Kik (a0 : List Kj) (r : List Kj) (h0 : KeS a0 = some r) : CallsD Try.prog 31 [.lst 7 (a0.map Ki) .no] [] [] (fun d h k => ∃ y0, d = .lst 7 (r.map Ki) (.cur y0) ∧ h = [] ∧ k = [(7, y0)]) :=
 let ⟨n, hn⟩ := KcB h0; (Khj n) a0  r hn
noncomputable def KdJ (g0 : (Ka) → Option (List Ka)) (a0 : Ka) : Option (List Ka) :=
 (Option.bind (α := List Ka) (loopM (fun (s23 : List Ka × Int) => (bif (decide (s23.2 < (a0.gKids.length : Int))) then ((idx a0.gKids s23.2).bind fun x38 => ((g0 x38).bind fun x40 => ((app 64 s23.1 x40).bind fun x41 => some (.next (x41, (IntKind.i64.wrap (s23.2 + (1 : Int)))))))) else some (.done s23.1))) (([a0] : List Ka), (0 : Int))) fun y22 => some y22)
theorem Kks (g0 : (Ka) → Option (List Ka)) (hg0 : ∀ (a0 : Ka) (r : List Ka) (h0 : g0 a0 = some r), CallsD Try.prog 51 [Kg a0] [] [] (fun d h k => ∃ y0, d = .lst 5 (r.map Kg) (.cur y0) ∧ h = [] ∧ k = [(5, y0)])) (a0 : Ka) (r : List Ka) (h0 : KdJ g0 a0 = some r) : CallsD Try.prog 51 [Kg a0] [] [] (fun d h k => ∃ y0, d = .lst 5 (r.map Kg) (.cur y0) ∧ h = [] ∧ k = [(5, y0)]) := by
 have hm := KE h0
 unfold KdJ at hm
 clear h0
 refine KW htab Try.func51 rfl rfl rfl rfl rfl (fun C => ?_)
 refine w_eq (i := 0) rfl (Wk.of_eq (Kk a0)) ?_
 refine Kl ?_
 refine p_box rfl rfl rfl rfl rfl rfl rfl (fun b1 => ?_)
 refine pu ?_
 refine Kv ?_
 refine K7 (d := .agg [iD a0.gOp, iD a0.gN, tD a0.gName, .lst 5 (a0.gKids.map Kg) .no, iD a0.gAt]) 0 htab rfl rfl rfl rfl rfl rfl rfl rfl ?_
 refine p_lit htab rfl rfl rfl rfl rfl rfl rfl rfl rfl rfl rfl rfl rfl rfl ?_
 refine p_eq (i := 6) (d' := .lst 5 (([a0] : List Ka).map Kg) .full) rfl (Wk.lst0 (.cons (WkC.trans (WkC.agg (WkR.refl _)) (WkC.of_eq (Kk a0).symm)) (.nil))) ?_
 refine pu ?_
 refine Kh ?_
 refine Kq ?_
 refine Kl ?_
 refine pu ?_
 refine Kh ?_
 obtain ⟨y22, q22, ho22⟩ := Kf hm
 refine K6 (Y := Value) (fun z22 => (⟨[(3, .lst 5 (y22.map Kg) (.cur z22))], [], [(5, z22)]⟩ : S)) ?_ ?_
 ·clear hm; have hm := KE q22
  refine KL ?_
  obtain ⟨u23, hl23, hq23⟩ := yes_m hm
  refine Kbe (Y := Value) hl23 (fun s23 z23 => (⟨[(1, .ptr b1 0), (3, .lst 5 (s23.1.map Kg) (.cur z23)), (4, iD s23.2)], [(b1, Blk.cells [iD a0.gOp, iD a0.gN, tD a0.gName, .lst 5 (a0.gKids.map Kg) .no, iD a0.gAt] 100)], [(5, z23)]⟩ : S)) ?_ ?_
  ·skip
   refine WkX.tokF (i := 3) rfl (fun w36 => ?_)
   exact WkX.of w36 (WkS.perm (WkS.cons rfl (Wk.refl _) (WkS.cons rfl (Wk.refl _) (WkS.cons rfl (Wk.refl _) (WkS.nil)))) Pf Pf)
  ·intro G23 s23 z23 hm
   refine Kq ?_
   refine Kl ?_
   refine pu ?_
   refine pu ?_
   refine pL 0 ?_
   refine KaP htab rfl rfl rfl rfl rfl rfl rfl (by first | exact Kaf | rfl) ?_
   refine pu ?_
   refine Kh ?_
   refine Ku rfl (fun hc37 => ?_) (fun hc37 => ?_)
   ·replace hm := yes_t hc37 hm
    refine Ky ?_
    refine Km ?_
    refine Kq ?_
    refine KL ?_
    refine KC ?_
    refine pu ?_
    refine pu ?_
    refine pL 0 ?_
    refine pu ?_
    obtain ⟨x38, q38, hm⟩ := Kf hm
    refine Ka8 htab rfl rfl rfl rfl rfl rfl rfl rfl rfl rfl (Kr q38) (Kz q38) ?_
    refine p_eq (i := 18) rfl (Wk.of_eq (congrArg D.el (Kk x38))) ?_
    refine KaE (d := .agg [iD x38.gOp, iD x38.gN, tD x38.gName, .lst 5 (x38.gKids.map Kg) .no, iD x38.gAt]) htab rfl rfl rfl rfl rfl rfl rfl rfl ?_
    obtain ⟨x40, q40, hm⟩ := Kf hm
    refine Kam (hg0 x38 x40 q40) rfl rfl rfl rfl rfl (WkL.cons (Wk.trans (Wk.agg (WkR.refl _)) (Wk.of_eq (Kk x38).symm)) Wl) Pf Pf ?_
    rintro _ _ _ ⟨w39, rfl, rfl, rfl⟩
    obtain ⟨x41, q41, hm⟩ := Kf hm
    refine KcS 1 htab rfl rfl rfl rfl rfl rfl rfl rfl rfl rfl rfl rfl rfl rfl rfl rfl rfl (Kbi q41) (fun v41 => ?_)
    refine KcT (i := 21) q41 rfl ?_
    refine pu ?_
    refine KB ?_
    refine KI ?_
    refine Km ?_
    refine KC ?_
    iterate 3 refine pu ?_
    refine KB ?_
    refine Km ⟨_, KaR hm, ?_⟩
    exact WkX.of v41 (WkS.perm (WkS.cons rfl (Wk.refl _) (WkS.cons rfl (Wk.refl _) (WkS.cons rfl (Wk.refl _) (WkS.nil)))) Pf Pf)
   ·replace hm := yes_f hc37 hm
    refine Kay ?_
    refine KN ?_
    have e23 := Kaq hm; subst e23; clear hm; have hm := hq23
    refine KN ?_
    refine Kao ?_
    have e22 := Kn hm; subst e22
    refine ⟨rfl, ?_⟩
    exact WkX.of z23 (WkS.perm (WkS.cons rfl (Wk.refl _) (WkS.nil)) Pf Pf)
 ·intro s22 hw22; clear hm; have hm := ho22; clear q22 ho22
  refine Km ?_
  refine K3 hw22 (fun z22 => ?_)
  refine Kl ?_
  refine pu ?_
  refine pu ?_
  refine Kh ?_
  refine Ks ?_
  have er42 := Kn hm; subst er42
  refine rP (t' := [(2, .lst 5 (y22.map Kg) (.cur z22))]) [] [0] 0 (wC wN) (lT lN) ?_
  exact ⟨z22, rfl, rfl, rfl⟩
noncomputable def Kct : Nat → ((Ka) → Option (List Ka))
 | 0 => (fun _ => none)
 | n + 1 => (KdJ ((Kct n)))
theorem Kil : ∀ n, (∀ (a0 : Ka) (r : List Ka) (h0 : (Kct n) a0 = some r), CallsD Try.prog 51 [Kg a0] [] [] (fun d h k => ∃ y0, d = .lst 5 (r.map Kg) (.cur y0) ∧ h = [] ∧ k = [(5, y0)]))
  | 0 => fun _ _ h0 => by cases h0
  | n + 1 => by
    have ih := Kil n
    exact Kks (Kct n) ih
theorem Kim : ∀ n, (∀ (a0 : Ka), Le ((Kct n) a0) ((Kct (n + 1)) a0))
  | 0 => fun _ => Le.none _
  | n + 1 => by
    have ih := Kim n
    exact fun a0 => by show Le (KdJ ((Kct n)) a0) (KdJ ((Kct (n + 1))) a0); unfold KdJ; repeat (first | exact Le.refl _ | exact ih _ | assumption | (refine Le.bind ?_ (fun _ => ?_)) | (refine Le.cond ?_ ?_) | (refine Le.loop (fun _ => ?_)) | (refine Le.elim (fun _ => ?_) (fun _ => ?_)))
noncomputable def Kiu (a0 : Ka) : Option (List Ka) := anyN fun n => (Kct n) a0
theorem r11_All_of (a0 : Ka) {r : List Ka} (n : Nat) (h : (Kct n) a0 = some r) : Kiu a0 = some r := Kc8 (fun m => (Kim m) a0) h
theorem r11_All_ok (a0 : Ka) (r : List Ka) (h0 : Kiu a0 = some r) : CallsD Try.prog 51 [Kg a0] [] [] (fun d h k => ∃ y0, d = .lst 5 (r.map Kg) (.cur y0) ∧ h = [] ∧ k = [(5, y0)]) :=
 let ⟨n, hn⟩ := KcB h0; (Kil n) a0  r hn
noncomputable def KeT (a0 : List Kj) : Option (List Ka) :=
 ((KeS a0).bind fun x2 => (Option.bind (α := List Ka) (loopM (fun (s162 : List Ka × Int) => (bif (decide (s162.2 < (x2.length : Int))) then (Option.bind (α := List Ka) (loopM (fun (s294 : List Ka × Int) => ((idx x2 s162.2).bind fun x311 => (bif (decide (s294.2 < (x311.gExps.length : Int))) then ((idx x2 s162.2).bind fun x313 => ((idx x313.gExps s294.2).bind fun x314 => ((Kiu x314).bind fun x316 => ((app 64 s294.1 x316).bind fun x317 => some (.next (x317, (IntKind.i64.wrap (s294.2 + (1 : Int))))))))) else some (.done s294.1)))) (s162.1, (0 : Int))) fun y293 => some (.next (y293, (IntKind.i64.wrap (s162.2 + (1 : Int)))))) else some (.done s162.1))) (([] : List Ka), (0 : Int))) fun y161 => some y161))
theorem Kkt (a0 : List Kj) (r : List Ka) (h0 : KeT a0 = some r) : CallsD Try.prog 32 [.lst 7 (a0.map Ki) .no] [] [] (fun d h k => ∃ y0, d = .lst 5 (r.map Kg) (.cur y0) ∧ h = [] ∧ k = [(5, y0)]) := by
 have hm := KE h0
 unfold KeT at hm
 clear h0
 refine KW htab Try.func32 rfl rfl rfl rfl rfl (fun C => ?_)
 refine Kl ?_
 refine pu ?_
 refine Kv ?_
 refine pu ?_
 refine Kv ?_
 refine pu ?_
 obtain ⟨x2, q2, hm⟩ := Kf hm
 refine pG (Kik a0 x2 q2) Wl Pf Pf ?_
 rintro _ _ _ ⟨w1, rfl, rfl, rfl⟩
 refine pu ?_
 refine Kh ?_
 refine Kq ?_
 refine Kl ?_
 refine pu ?_
 refine Kh ?_
 obtain ⟨y161, q161, ho161⟩ := Kf hm
 refine K6 (Y := Value) (fun z161 => (⟨[(3, .lst 5 (y161.map Kg) (.cur z161))], [], [(5, z161)]⟩ : S)) ?_ ?_
 ·clear hm; have hm := KE q161
  refine KL ?_
  obtain ⟨u162, hl162, hq162⟩ := yes_m hm
  refine Kbe (Y := Value) hl162 (fun s162 z162 => (⟨[(3, .lst 5 (s162.1.map Kg) (.cur z162)), (4, .lst 7 (x2.map Ki) (.cur w1)), (5, iD s162.2)], [], [(5, z162), (7, w1)]⟩ : S)) ?_ ?_
  ·skip
   refine WkX.tokN (i := 3) 5 rfl (fun w267 => ?_)
   exact WkX.of w267 (WkS.perm (WkS.cons rfl (Wk.refl _) (WkS.cons rfl (Wk.refl _) (WkS.cons rfl (Wk.refl _) (WkS.nil)))) Pf Pf)
  ·intro G162 s162 z162 hm
   refine Kq ?_
   refine Kl ?_
   refine pu ?_
   refine pu ?_
   refine KaP htab rfl rfl rfl rfl rfl rfl rfl (by first | exact Kaf | rfl) ?_
   refine pu ?_
   refine Kh ?_
   refine Ku rfl (fun hc268 => ?_) (fun hc268 => ?_)
   ·replace hm := yes_t hc268 hm
    refine Ky ?_
    refine Km ?_
    refine Kq ?_
    refine KL ?_
    refine Kl ?_
    refine pu ?_
    refine Kh ?_
    obtain ⟨y293, q293, ho293⟩ := Kf hm
    refine K6 (Y := Value) (fun z293 => (⟨[(3, .lst 5 (y293.map Kg) (.cur z293)), (4, .lst 7 (x2.map Ki) (.cur w1)), (5, iD s162.2)], [], [(5, z293), (7, w1)]⟩ : S)) ?_ ?_
    ·clear hm; have hm := KE q293
     refine KL ?_
     obtain ⟨u294, hl294, hq294⟩ := yes_m hm
     refine Kbe (Y := Value) hl294 (fun s294 z294 => (⟨[(3, .lst 5 (s294.1.map Kg) (.cur z294)), (4, .lst 7 (x2.map Ki) (.cur w1)), (5, iD s162.2), (6, iD s294.2)], [], [(5, z294), (7, w1)]⟩ : S)) ?_ ?_
     ·skip
      exact WkX.of z162 (WkS.perm (WkS.cons rfl (Wk.refl _) (WkS.cons rfl (Wk.refl _) (WkS.cons rfl (Wk.refl _) (WkS.cons rfl (Wk.refl _) (WkS.nil))))) Pf Pf)
     ·intro G294 s294 z294 hm
      refine Kq ?_
      refine Kl ?_
      iterate 3 refine pu ?_
      obtain ⟨x311, q311, hm⟩ := Kf hm
      refine Ka8 htab rfl rfl rfl rfl rfl rfl rfl rfl rfl rfl (Kr q311) (Kz q311) ?_
      refine p_eq (i := 18) rfl (Wk.of_eq (congrArg D.el (Kp x311))) ?_
      refine pu ?_
      refine KaE htab rfl rfl rfl rfl rfl rfl rfl rfl ?_
      refine KaP htab rfl rfl rfl rfl rfl rfl rfl (by first | exact Kaf | rfl) ?_
      refine pu ?_
      refine Kh ?_
      refine Ku rfl (fun hc312 => ?_) (fun hc312 => ?_)
      ·replace hm := yes_t hc312 hm
       refine Ky ?_
       refine Km ?_
       refine Kq ?_
       refine KL ?_
       refine KC ?_
       iterate 3 refine pu ?_
       obtain ⟨x313, q313, hm⟩ := Kf hm
       refine Ka8 htab rfl rfl rfl rfl rfl rfl rfl rfl rfl rfl (Kr q313) (Kz q313) ?_
       refine p_eq (i := 28) rfl (Wk.of_eq (congrArg D.el (Kp x313))) ?_
       refine pu ?_
       refine KaE htab rfl rfl rfl rfl rfl rfl rfl rfl ?_
       refine pu ?_
       obtain ⟨x314, q314, hm⟩ := Kf hm
       refine Ka8 htab rfl rfl rfl rfl rfl rfl rfl rfl rfl rfl (Kr q314) (Kz q314) ?_
       refine p_eq (i := 32) rfl (Wk.of_eq (congrArg D.el (Kk x314))) ?_
       refine KaE (d := .agg [iD x314.gOp, iD x314.gN, tD x314.gName, .lst 5 (x314.gKids.map Kg) .no, iD x314.gAt]) htab rfl rfl rfl rfl rfl rfl rfl rfl ?_
       obtain ⟨x316, q316, hm⟩ := Kf hm
       refine Kam (r11_All_ok x314 x316 q316) rfl rfl rfl rfl rfl (WkL.cons (Wk.trans (Wk.agg (WkR.refl _)) (Wk.of_eq (Kk x314).symm)) Wl) Pf Pf ?_
       rintro _ _ _ ⟨w315, rfl, rfl, rfl⟩
       obtain ⟨x317, q317, hm⟩ := Kf hm
       refine KcS 1 htab rfl rfl rfl rfl rfl rfl rfl rfl rfl rfl rfl rfl rfl rfl rfl rfl rfl (Kbi q317) (fun v317 => ?_)
       refine KcT (i := 35) q317 rfl ?_
       refine pu ?_
       refine KB ?_
       refine KI ?_
       refine Km ?_
       refine KC ?_
       iterate 3 refine pu ?_
       refine KB ?_
       refine Km ⟨_, KaR hm, ?_⟩
       exact WkX.of v317 (WkS.perm (WkS.cons rfl (Wk.refl _) (WkS.cons rfl (Wk.refl _) (WkS.cons rfl (Wk.refl _) (WkS.cons rfl (Wk.refl _) (WkS.nil))))) Pf ((Kap (j := 0) rfl).trans (List.Perm.cons _ ((Kap (j := 1) rfl).trans (List.Perm.cons _ Pf)))))
      ·replace hm := yes_f hc312 hm
       refine Kay ?_
       refine KN ?_
       have e294 := Kaq hm; subst e294; clear hm; have hm := hq294
       refine KN ?_
       refine Kao ?_
       have e293 := Kn hm; subst e293
       refine ⟨rfl, ?_⟩
       exact WkX.of z294 (WkS.perm (WkS.cons rfl (Wk.refl _) (WkS.cons rfl (Wk.refl _) (WkS.cons rfl (Wk.refl _) (WkS.nil)))) Pf Pf)
    ·intro s293 hw293; clear hm; have hm := ho293; clear q293 ho293
     refine KI ?_
     refine Km ?_
     refine K3 hw293 (fun z293 => ?_)
     refine KC ?_
     iterate 3 refine pu ?_
     refine KB ?_
     refine Km ⟨_, KaR hm, ?_⟩
     exact WkX.of z293 (WkS.perm (WkS.cons rfl (Wk.refl _) (WkS.cons rfl (Wk.refl _) (WkS.cons rfl (Wk.refl _) (WkS.nil)))) Pf Pf)
   ·replace hm := yes_f hc268 hm
    refine Kay ?_
    refine KN ?_
    have e162 := Kaq hm; subst e162; clear hm; have hm := hq162
    refine KN ?_
    refine Kao ?_
    have e161 := Kn hm; subst e161
    refine ⟨rfl, ?_⟩
    exact WkX.of z162 (WkS.perm (WkS.cons rfl (Wk.refl _) (WkS.nil)) Pf Pf)
 ·intro s161 hw161; clear hm; have hm := ho161; clear q161 ho161
  refine Km ?_
  refine K3 hw161 (fun z161 => ?_)
  refine Kl ?_
  refine pu ?_
  refine pu ?_
  refine Kh ?_
  refine Ks ?_
  have er318 := Kn hm; subst er318
  refine rP (t' := [(2, .lst 5 (y161.map Kg) (.cur z161))]) [] [0] 0 (wC wN) (lT lN) ?_
  exact ⟨z161, rfl, rfl, rfl⟩
abbrev nlGm1_9 : List (List Nat) := nlD [] [(0,[]),(0,[0]),(0,[]),(0,[]),(0,[3]),(5,[4]),(0,[]),(0,[6]),(8,[7]),(6,[5,6,7,8]),(0,[2,3,4,5,6,7,8,9]),(11,[10]),(2,[1,2,3,4,5,6,7,8,9,10,11]),(13,[12]),(14,[13])]
abbrev nlGm1_10 : List (List Nat) := nlD [] [(0,[]),(0,[0]),(2,[1]),(3,[2]),(4,[3]),(5,[4]),(6,[5]),(7,[6]),(8,[7]),(9,[8]),(7,[]),(7,[10]),(10,[10,11]),(13,[12]),(10,[9,10,11,12,13]),(15,[14]),(16,[15])]
noncomputable def Keg (a0 : List Kt) (a1 : Int) : Option (KQ × Int × Int) :=
 (Option.bind (α := Bool) (bif (decide (a1 < (0 : Int))) then some true else some (decide ((a0.length : Int) < a1))) fun y3 => (bif y3 then some ((⟨ByteArray.empty, [], [], [], (0 : Int)⟩ : KQ), (0 : Int), (2 : Int)) else ((Kbc (⟨a0, a1, (0 : Int)⟩ : Kd)).bind fun x12 => ((Kae (⟨a0, a1, (0 : Int)⟩ : Kd) (ByteArray.mk #[105, 110, 116])).bind fun x14 => ((Kbo x14).bind fun x15 => ((Kci x15.2).bind fun x17 => ((Kdf x17.2 (0 : Int)).bind fun x18 => (Option.bind (α := List Kt × Int × Int × List KR) (loopM (fun (s52 : List Kt × Int × Int × List KR) => (Option.bind (α := Bool) (bif (s52.2.2.1 == (0 : Int)) then ((Kec (⟨s52.1, s52.2.1, s52.2.2.1⟩ : Kd) (ByteArray.mk #[105, 110, 116])).bind fun x78 => some x78) else some false) fun y76 => (bif y76 then ((KbD (⟨s52.1, s52.2.1, s52.2.2.1⟩ : Kd) (IntKind.i64.wrap ((x17.1.length : Int) + (s52.2.2.2.length : Int)))).bind fun x80 => ((app 24 s52.2.2.2 ([x80.1] : List KR)).bind fun x81 => ((Kae x80.2 (ByteArray.mk #[59])).bind fun x82 => some (.next (x82.gL, x82.gAt, x82.gE, x81))))) else some (.done (s52.1, s52.2.1, s52.2.2.1, s52.2.2.2))))) (x18.gL, x18.gAt, x18.gE, ([] : List KR))) fun y51 => ((Kef (⟨y51.1, y51.2.1, y51.2.2.1⟩ : Kd) (1 : Int)).bind fun x84 => (Option.bind (α := Bool) (bif (x84.2.gE == (0 : Int)) then ((KeS x84.1).bind fun x101 => ((KeT x84.1).bind fun x103 => some (decide ((800 : Int) < (IntKind.i64.wrap ((x101.length : Int) + (x103.length : Int))))))) else some false) fun y98 => (Option.bind (α := List Kt × Int × Int) (bif y98 then ((Kbn x84.2 x14.gAt (6 : Int)).bind fun x116 => some (x116.gL, x116.gAt, x116.gE)) else some (x84.2.gL, x84.2.gAt, x84.2.gE)) fun y114 => (bif (y114.2.2 != (0 : Int)) then some ((⟨ByteArray.empty, [], [], [], (0 : Int)⟩ : KQ), y114.2.1, y114.2.2) else some ((⟨x15.1, x17.1, y51.2.2.2, x84.1, x12.gAt⟩ : KQ), y114.2.1, (0 : Int))))))))))))))
theorem KkD (a0 : List Kt) (a1 : Int) (r : KQ × Int × Int) (h0 : Keg a0 a1 = some r) : CallsD Try.prog 11 [.lst 4 (a0.map Kc) .no, iD a1] [] [] (fun d h k => ∃ y0 y1 y2, d = .tup [.agg [tD r.1.gName, .lst 2 (r.1.gParams.map Kw) (.cur y0), .lst 2 (r.1.gLocals.map Kw) (.cur y1), .lst 7 (r.1.gBody.map Ki) (.cur y2), iD r.1.gAt], iD r.2.1, iD r.2.2] ∧ h = [] ∧ k = [(2, y0), (2, y1), (7, y2)]) := by
 have hm := KE h0
 unfold Keg at hm
 clear h0
 refine KW htab Try.func11 rfl rfl rfl rfl rfl (fun C => ?_)
 refine Kl ?_
 refine KP htab rfl rfl rfl rfl rfl rfl rfl (fun b1 => ?_)
 refine pu ?_
 refine pu ?_
 refine Kh ?_
 refine Kq ?_
 refine Kq ?_
 obtain ⟨y3, q3, ho3⟩ := Kf hm
 refine K6 (Y := Unit) (fun z3 => (⟨[(0, .lst 4 (a0.map Kc) .no), (1, iD a1), (4, .ptr b1 0), (17, .v (.bool y3))], [(b1, Blk.cells [tD ByteArray.empty, .lst 1 [] .full, .lst 1 [] .full, .lst 1 [] .full, iD (0 : Int)] 26)], []⟩ : S)) ?_ ?_
 ·clear hm; have hm := KE q3
  refine KC ?_
  iterate 3 refine pu ?_
  refine K9 (i := 12) rfl (fun hg4 => ?_) (fun hg4 => ?_)
  ·replace hm := yes_t hg4 hm
   iterate 4 refine pK ?_
   refine KS rfl rfl rfl rfl rfl rfl ?_
   refine KB ?_
   have e3 := Kn hm; subst e3
   refine ⟨rfl, ?_⟩
   exact WkX.of () (WkS.perm (WkS.cons rfl (Wk.refl _) (WkS.cons rfl (Wk.refl _) (WkS.cons rfl (Wk.refl _) (WkS.cons rfl (Wk.refl _) (WkS.nil))))) Pf Pf)
  ·replace hm := yes_f hg4 hm
   refine pu ?_
   refine pu ?_
   refine KaP htab rfl rfl rfl rfl rfl rfl rfl (by first | exact Kaf | rfl) ?_
   refine pu ?_
   refine KH rfl rfl rfl rfl rfl rfl ?_
   refine KB ?_
   have e3 := Kn hm; subst e3
   refine ⟨rfl, ?_⟩
   exact WkX.of () (WkS.perm (WkS.cons rfl (Wk.refl _) (WkS.cons rfl (Wk.refl _) (WkS.cons rfl (Wk.refl _) (WkS.cons rfl (Wk.refl _) (WkS.nil))))) Pf Pf)
 ·intro s3 hw3; clear hm; have hm := ho3; clear q3 ho3
  refine Km ?_
  refine K3 hw3 (fun z3 => ?_)
  refine Ku rfl (fun hc6 => ?_) (fun hc6 => ?_)
  ·replace hm := yes_t hc6 hm
   refine Kl ?_
   refine Kal (r := [tD ByteArray.empty, .lst 1 [] .full, .lst 1 [] .full, .lst 1 [] .full, iD (0 : Int)]) htab rfl rfl rfl rfl rfl rfl rfl rfl rfl ?_
   refine pS0 (ds' := [tD ByteArray.empty, .lst 1 [] .full, .lst 1 [] .full, .lst 1 [] .full, iD (0 : Int)]) ?_
   refine pu ?_
   refine pu ?_
   refine Kh ?_
   refine Ks ?_
   refine KD ?_
   have er7 := Kn hm; subst er7
   refine retX.cellF (off := 1) 2 0 rfl rfl (by first | exact Or.inl rfl | exact Or.inr rfl) (fun w8 => ?_)
   refine retX.cellF (off := 2) 2 0 rfl rfl (by first | exact Or.inl rfl | exact Or.inr rfl) (fun w9 => ?_)
   refine retX.cellF (off := 3) 7 0 rfl rfl (by first | exact Or.inl rfl | exact Or.inr rfl) (fun w10 => ?_)
   refine rP (t' := [(4, .ptr b1 0), (5, iD (0 : Int)), (6, iD (2 : Int))]) [0] [2,1,0] 0 (wC (wC (wC wN))) (lC 0 (lT (lT lN))) ?_
   exact ⟨w8, w9, w10, rfl, rfl, rfl⟩
  ·replace hm := yes_f hc6 hm
   refine Ky ?_
   refine Km ?_
   refine Kl ?_
   refine pu ?_
   refine pu ?_
   refine Kal (r := [.lst 4 (a0.map Kc) .no, iD a1, iD (0 : Int)]) htab rfl rfl rfl rfl rfl rfl rfl rfl rfl ?_
   refine p_box rfl rfl rfl rfl rfl rfl rfl (fun b11 => ?_)
   refine pu ?_
   refine Kv ?_
   refine pu ?_
   obtain ⟨x12, q12, hm⟩ := Kf hm
   refine pG (KbI (⟨a0, a1, (0 : Int)⟩ : Kd) b11 67 .no x12 q12) Wl ((Kap (j := 1) rfl).trans (List.Perm.cons _ Pf)) Pf ?_
   rintro _ _ _ ⟨rfl, rfl, rfl⟩
   refine pu ?_
   refine Kal (r := [tD ByteArray.empty, .lst 1 [] .full, .lst 1 [] .full, .lst 1 [] .full, iD x12.gAt]) htab rfl rfl rfl rfl rfl rfl rfl rfl rfl ?_
   refine KP htab rfl rfl rfl rfl rfl rfl rfl (fun b13 => ?_)
   refine pS2 (ds' := [tD ByteArray.empty, .lst 1 [] .full, .lst 1 [] .full, .lst 1 [] .full, iD x12.gAt]) ?_
   refine Kv ?_
   refine pu ?_
   obtain ⟨x14, q14, hm⟩ := Kf hm
   refine pG (Kat (⟨a0, a1, (0 : Int)⟩ : Kd) (ByteArray.mk #[105, 110, 116]) b11 67 .no x14 q14) Wl Pf Pf ?_
   rintro _ _ _ ⟨rfl, rfl, rfl⟩
   refine Kv ?_
   iterate 3 refine pu ?_
   refine pL 0 ?_
   refine pu ?_
   refine Kv ?_
   refine pu ?_
   obtain ⟨x15, q15, hm⟩ := Kf hm
   refine pG (KcK x14 b11 67 .no x15 q15) Wl Pf Pf ?_
   rintro _ _ _ ⟨rfl, rfl, rfl⟩
   refine pu ?_
   refine pS2 (ds' := [tD x15.1, .lst 1 [] .full, .lst 1 [] .full, .lst 1 [] .full, iD x12.gAt]) ?_
   refine Kv ?_
   refine pu ?_
   obtain ⟨x17, q17, hm⟩ := Kf hm
   refine pG (Kj9 x15.2 b11 67 .no x17 q17) Wl Pf Pf ?_
   rintro _ _ _ ⟨w16, rfl, rfl, rfl⟩
   refine pu ?_
   refine pS2 (ds' := [tD x15.1, .lst 2 (x17.1.map Kw) (.cur w16), .lst 1 [] .full, .lst 1 [] .full, iD x12.gAt]) ?_
   refine Kv ?_
   refine pu ?_
   obtain ⟨x18, q18, hm⟩ := Kf hm
   refine pG (Kii x17.2 (0 : Int) b11 67 .no x18 q18) Wl Pf Pf ?_
   rintro _ _ _ ⟨rfl, rfl, rfl⟩
   refine Kh ?_
   refine Kq ?_
   obtain ⟨y51, q51, ho51⟩ := Kf hm
   refine K6 (Y := Value) (fun z51 => (⟨[(4, .ptr b1 0), (7, .ptr b11 0), (8, .ptr b13 0), (9, iD x14.gAt)], [(b11, Blk.cells [.lst 4 (y51.1.map Kc) .no, iD y51.2.1, iD y51.2.2.1] 67), (b1, Blk.cells [tD ByteArray.empty, .lst 1 [] .full, .lst 1 [] .full, .lst 1 [] .full, iD (0 : Int)] 26), (b13, Blk.cells [tD x15.1, .lst 2 (x17.1.map Kw) (.cur w16), .lst 2 (y51.2.2.2.map Kw) (.cur z51), .lst 1 [] .full, iD x12.gAt] 26)], [(2, z51), (2, w16)]⟩ : S)) ?_ ?_
   ·clear hm; have hm := KE q51
    refine KL ?_
    obtain ⟨u52, hl52, hq52⟩ := yes_m hm
    refine Kbe (Y := Value) hl52 (fun s52 z52 => (⟨[(4, .ptr b1 0), (7, .ptr b11 0), (8, .ptr b13 0), (9, iD x14.gAt)], [(b11, Blk.cells [.lst 4 (s52.1.map Kc) .no, iD s52.2.1, iD s52.2.2.1] 67), (b1, Blk.cells [tD ByteArray.empty, .lst 1 [] .full, .lst 1 [] .full, .lst 1 [] .full, iD (0 : Int)] 26), (b13, Blk.cells [tD x15.1, .lst 2 (x17.1.map Kw) (.cur w16), .lst 2 (s52.2.2.2.map Kw) (.cur z52), .lst 1 [] .full, iD x12.gAt] 26)], [(2, z52), (2, w16)]⟩ : S)) ?_ ?_
    ·skip
     refine WkX.cellF (off := 2) 2 2 rfl rfl (by first | exact Or.inl rfl | exact Or.inr rfl) (fun w73 => ?_)
     exact WkX.of w73 (WkS.perm (WkS.cons rfl (Wk.refl _) (WkS.cons rfl (Wk.refl _) (WkS.cons rfl (Wk.refl _) (WkS.cons rfl (Wk.refl _) (WkS.nil))))) Pf Pf)
    ·intro G52 s52 z52 hm
     refine Kq ?_
     refine Kq ?_
     obtain ⟨y76, q76, ho76⟩ := Kf hm
     refine K6 (Y := Unit) (fun z76 => (⟨[(4, .ptr b1 0), (7, .ptr b11 0), (8, .ptr b13 0), (9, iD x14.gAt), (49, .v (.bool y76))], [(b11, Blk.cells [.lst 4 (s52.1.map Kc) .no, iD s52.2.1, iD s52.2.2.1] 67), (b1, Blk.cells [tD ByteArray.empty, .lst 1 [] .full, .lst 1 [] .full, .lst 1 [] .full, iD (0 : Int)] 26), (b13, Blk.cells [tD x15.1, .lst 2 (x17.1.map Kw) (.cur w16), .lst 2 (s52.2.2.2.map Kw) (.cur z52), .lst 1 [] .full, iD x12.gAt] 26)], [(2, z52), (2, w16)]⟩ : S)) ?_ ?_
     ·clear hm; have hm := KE q76
      refine KC ?_
      iterate 3 refine pu ?_
      refine pL 0 ?_
      refine pu ?_
      refine pu ?_
      refine K9 (i := 46) rfl (fun hg77 => ?_) (fun hg77 => ?_)
      ·replace hm := yes_t hg77 hm
       refine pu ?_
       obtain ⟨x78, q78, hm⟩ := Kf hm
       refine pG (KgO (⟨s52.1, s52.2.1, s52.2.2.1⟩ : Kd) (ByteArray.mk #[105, 110, 116]) b11 67 .no x78 q78) Wl Pf Pf ?_
       rintro _ _ _ ⟨rfl, rfl, rfl⟩
       refine KS rfl rfl rfl rfl rfl rfl ?_
       refine KB ?_
       have e76 := Kn hm; subst e76
       refine ⟨rfl, ?_⟩
       exact WkX.of () (WkS.perm (WkS.cons rfl (Wk.refl _) (WkS.cons rfl (Wk.refl _) (WkS.cons rfl (Wk.refl _) (WkS.cons rfl (Wk.refl _) (WkS.cons rfl (Wk.refl _) (WkS.nil)))))) Pf Pf)
      ·replace hm := yes_f hg77 hm
       refine pK ?_
       refine pK ?_
       refine KH rfl rfl rfl rfl rfl rfl ?_
       refine KB ?_
       have e76 := Kn hm; subst e76
       refine ⟨rfl, ?_⟩
       exact WkX.of () (WkS.perm (WkS.cons rfl (Wk.refl _) (WkS.cons rfl (Wk.refl _) (WkS.cons rfl (Wk.refl _) (WkS.cons rfl (Wk.refl _) (WkS.cons rfl (Wk.refl _) (WkS.nil)))))) Pf Pf)
     ·intro s76 hw76; clear hm; have hm := ho76; clear q76 ho76
      refine Km ?_
      refine K3 hw76 (fun z76 => ?_)
      refine Ku rfl (fun hc79 => ?_) (fun hc79 => ?_)
      ·replace hm := yes_t hc79 hm
       refine Ky ?_
       refine Km ?_
       refine KL ?_
       refine Kq ?_
       obtain ⟨x80, q80, hm⟩ := Kf hm
       refine KdM (X := BK) 12 [] [[],[0],[],[],[3],[3,4],[],[6],[6,7],[3,4,6,7],[2,3,4,6,7],[2,3,4,6,7,10]] [0,1,2,3,4,6,7,10,11] nlGm1_9 ⟨10, fun x => x.1 ++ [(b1, Blk.cells [tD ByteArray.empty, .lst 1 [] .full, .lst 1 [] .full, .lst 1 [] .full, iD (0 : Int)] 26), (b13, Blk.cells [tD x15.1, .lst 2 (x17.1.map Kw) (.cur w16), .lst 2 (s52.2.2.2.map Kw) (.cur z52), .lst 1 [] .full, iD x12.gAt] 26)], fun x => x.2 ++ [(2, z52), (2, w16)], fun x => x.1 = [(b11, Blk.cells [.lst 4 (x80.2.gL.map Kc) .no, iD x80.2.gAt, iD x80.2.gE] 67)] ∧ x.2 = []⟩ ([], []) (by kernel_rfl) (by kernel_rfl) (by kernel_rfl) (by rfl) (by rfl) (by kernel_rfl) ?_
       iterate 9 apply Exists.intro
       intro bs
       refine zx_e rfl rfl (KT htab rfl) rfl rfl rfl rfl rfl rfl rfl rfl ?_
       refine zx_M rfl rfl (fun _ => KF 2 htab rfl rfl rfl rfl rfl) (fun _ ⟨x1, x2⟩ ⟨e1, e2⟩ => by cases e1; cases e2; exact KF 2 htab rfl rfl rfl rfl rfl) rfl rfl rfl rfl rfl rfl rfl rfl ?_
       refine zx_e rfl rfl (KT htab rfl) rfl rfl rfl rfl rfl rfl rfl rfl ?_
       refine zx_e rfl rfl (KT htab rfl) rfl rfl rfl rfl rfl rfl rfl rfl ?_
       refine zx_M rfl rfl (fun _ => KF 2 htab rfl rfl rfl rfl rfl) (offB rfl) rfl rfl rfl rfl rfl rfl rfl rfl ?_
       refine zx_q rfl rfl (KdT htab rfl rfl rfl rfl (by first | exact Kaf | rfl)) rfl rfl rfl rfl rfl rfl ?_
       refine zx_e rfl rfl (KT htab rfl) rfl rfl rfl rfl rfl rfl rfl rfl ?_
       refine zx_M rfl rfl (fun _ => KF 2 htab rfl rfl rfl rfl rfl) (offB rfl) rfl rfl rfl rfl rfl rfl rfl rfl ?_
       refine zx_q rfl rfl (KdT htab rfl rfl rfl rfl (by first | exact Kaf | rfl)) rfl rfl rfl rfl rfl rfl ?_
       refine zx_q rfl rfl (KT htab rfl) rfl rfl rfl rfl rfl rfl ?_
       refine KeJ (h1 := [(b11, Blk.cells [.lst 4 (s52.1.map Kc) .no, iD s52.2.1, iD s52.2.2.1] 67)]) (k1 := []) (d := Kw x80.1) rfl rfl rfl (Ke6 (⟨s52.1, s52.2.1, s52.2.2.1⟩ : Kd) (IntKind.i64.wrap ((x17.1.length : Int) + (s52.2.2.2.length : Int))) b11 67 .no x80 q80) rfl rfl Wl Pf Pf (fun _ => rfl) (fun _ => rfl) (fun d' h' k' ⟨e1, e2, e3⟩ => ⟨⟨e2, e3⟩, by subst e1; exact Wk.refl _⟩) rfl rfl rfl rfl rfl rfl ?_
       refine zx_E rfl rfl (ExE.wk (x_lit htab rfl rfl rfl rfl rfl rfl rfl rfl rfl rfl rfl) (show Wk _ (.lst 2 (([x80.1] : List KR).map Kw) .full) from Wk.lst0 (.cons (WkC.refl _) (.nil)))) rfl rfl rfl rfl rfl rfl rfl rfl ?_
       refine Kfk (h2 := [(b1, Blk.cells [tD ByteArray.empty, .lst 1 [] .full, .lst 1 [] .full, .lst 1 [] .full, iD (0 : Int)] 26), (b13, Blk.cells [tD x15.1, .lst 2 (x17.1.map Kw) (.cur w16), .lst 2 (s52.2.2.2.map Kw) (.cur z52), .lst 1 [] .full, iD x12.gAt] 26)]) (hz := [(b1, Blk.cells [tD ByteArray.empty, .lst 1 [] .full, .lst 1 [] .full, .lst 1 [] .full, iD (0 : Int)] 26), (b13, Blk.cells [tD x15.1, .lst 2 (x17.1.map Kw) (.cur w16), .lst 2 (s52.2.2.2.map Kw) (.cur z52), .lst 1 [] .full, iD x12.gAt] 26)]) rfl rfl (fun _ => rfl) (fun _ => rfl) rfl (fun e he => by simp [isAl] at he) ?_
       rintro _ _ ⟨rfl, rfl⟩
       obtain ⟨x81, q81, hm⟩ := Kf hm
       refine KcS 0 htab rfl rfl rfl rfl rfl rfl rfl rfl rfl rfl rfl rfl rfl rfl rfl rfl rfl (Kbi q81) (fun v81 => ?_)
       refine KcT (i := 62) q81 rfl ?_
       refine pu ?_
       refine pS2 (ds' := [tD x15.1, .lst 2 (x17.1.map Kw) (.cur w16), .lst 2 (x81.map Kw) (.cur v81), .lst 1 [] .full, iD x12.gAt]) ?_
       refine Kh ?_
       refine KC ?_
       refine pu ?_
       obtain ⟨x82, q82, hm⟩ := Kf hm
       refine pG (Kat x80.2 (ByteArray.mk #[59]) b11 67 .no x82 q82) Wl Pf Pf ?_
       rintro _ _ _ ⟨rfl, rfl, rfl⟩
       refine KB ?_
       refine KI ?_
       refine Km ⟨_, KaR hm, ?_⟩
       exact WkX.of v81 (WkS.perm (WkS.cons rfl (Wk.refl _) (WkS.cons rfl (Wk.refl _) (WkS.cons rfl (Wk.refl _) (WkS.cons rfl (Wk.refl _) (WkS.nil))))) Pf Pf)
      ·replace hm := yes_f hc79 hm
       refine Kay ?_
       refine KN ?_
       have e52 := Kaq hm; subst e52; clear hm; have hm := hq52
       refine KN ?_
       refine Kao ?_
       have e51 := Kn hm; subst e51
       refine ⟨rfl, ?_⟩
       exact WkX.of z52 (WkS.perm (WkS.cons rfl (Wk.refl _) (WkS.cons rfl (Wk.refl _) (WkS.cons rfl (Wk.refl _) (WkS.cons rfl (Wk.refl _) (WkS.nil))))) Pf Pf)
   ·intro s51 hw51; clear hm; have hm := ho51; clear q51 ho51
    refine Km ?_
    refine K3 hw51 (fun z51 => ?_)
    refine Kl ?_
    refine pu ?_
    obtain ⟨x84, q84, hm⟩ := Kf hm
    refine pG (KkC (⟨y51.1, y51.2.1, y51.2.2.1⟩ : Kd) (1 : Int) b11 67 .no x84 q84) Wl Pf Pf ?_
    rintro _ _ _ ⟨w83, rfl, rfl, rfl⟩
    refine pu ?_
    refine pS2 (ds' := [tD x15.1, .lst 2 (x17.1.map Kw) (.cur w16), .lst 2 (y51.2.2.2.map Kw) (.cur z51), .lst 7 (x84.1.map Ki) (.cur w83), iD x12.gAt]) ?_
    refine Kh ?_
    refine Kq ?_
    refine Kq ?_
    obtain ⟨y98, q98, ho98⟩ := Kf hm
    refine K6 (Y := Unit) (fun z98 => (⟨[(4, .ptr b1 0), (7, .ptr b11 0), (8, .ptr b13 0), (9, iD x14.gAt), (85, .v (.bool y98))], [(b11, Blk.cells [.lst 4 (x84.2.gL.map Kc) .no, iD x84.2.gAt, iD x84.2.gE] 67), (b1, Blk.cells [tD ByteArray.empty, .lst 1 [] .full, .lst 1 [] .full, .lst 1 [] .full, iD (0 : Int)] 26), (b13, Blk.cells [tD x15.1, .lst 2 (x17.1.map Kw) (.cur w16), .lst 2 (y51.2.2.2.map Kw) (.cur z51), .lst 7 (x84.1.map Ki) (.cur w83), iD x12.gAt] 26)], [(7, w83), (2, z51), (2, w16)]⟩ : S)) ?_ ?_
    ·clear hm; have hm := KE q98
     refine bycB (x84.2.gE == (0 : Int)) (fun hs99 => ?_) (fun hs99 => ?_)
     ·replace hm := yes_t hs99 hm
      obtain ⟨x101, q101, hm⟩ := Kf hm
      obtain ⟨x103, q103, hm⟩ := Kf hm
      refine wpD_drawsT 14 [] [(8, 7), (12, 5)] [[],[0],[0,1],[0,1,2],[0,1,2],[0,1,2],[0,1,2],[0,1,2,6],[0,1,2,6,7],[0,1,2,6,7,8],[0,1,2],[0,1,2,10],[0,1,2,6,7,8,10,11],[0,1,2,6,7,8,10,11,12]] [0,1,2,6,7,8,10,11,12] nlGm1_10 (by kernel_rfl) (by kernel_rfl) (by kernel_rfl) (by rfl) (by rfl) (by kernel_rfl) ?_
      iterate 9 apply Exists.intro
      intro bs
      iterate 3 refine zt_e rfl rfl (KT htab rfl) rfl rfl rfl rfl rfl rfl rfl ?_
      refine zt_qM rfl rfl (KF 0 htab rfl rfl rfl rfl rfl) rfl rfl rfl rfl rfl rfl ?_
      refine zt_q rfl rfl (KT htab rfl) rfl rfl rfl rfl rfl rfl ?_
      refine zt_q rfl rfl (KT htab rfl) rfl rfl rfl rfl rfl rfl ?_
      refine zt_known (j := 74) (b' := true) rfl hs99 ?_
      refine zt_e rfl rfl (KT htab rfl) rfl rfl rfl rfl rfl rfl rfl ?_
      refine zt_eM rfl rfl (KF 2 htab rfl rfl rfl rfl rfl) rfl rfl rfl rfl rfl rfl rfl ?_
      refine zt_callT rfl rfl (Kik x84.1 x101 q101) rfl rfl (WkL.cons (Wk.no) Wl) rfl rfl rfl rfl rfl (by simp) (by decide) rfl ?_
      refine zt_q rfl rfl (KdT htab rfl rfl rfl rfl (by first | exact Kaf | rfl)) rfl rfl rfl rfl rfl rfl ?_
      refine zt_e rfl rfl (KT htab rfl) rfl rfl rfl rfl rfl rfl rfl ?_
      refine zt_eM rfl rfl (KF 2 htab rfl rfl rfl rfl rfl) rfl rfl rfl rfl rfl rfl rfl ?_
      refine zt_callT rfl rfl (Kkt x84.1 x103 q103) rfl rfl (WkL.cons (Wk.no) Wl) rfl rfl rfl rfl rfl (by simp) (by decide) rfl ?_
      refine zt_q rfl rfl (KdT htab rfl rfl rfl rfl (by first | exact Kaf | rfl)) rfl rfl rfl rfl rfl rfl ?_
      refine zt_nil (k' := [(7, w83), (2, z51), (2, w16), (7, (bs 8)), (5, (bs 12))]) rfl (fun e he => by simp [isT] at he; rcases he with rfl | rfl <;> rfl) rfl rfl (fun e he => by simp [isAl] at he) ?_
      obtain ⟨w110, hw110⟩ : ∃ y, bs 8 = y := ⟨_, rfl⟩
      obtain ⟨w111, hw111⟩ : ∃ y, bs 12 = y := ⟨_, rfl⟩
      simp only [hw110, hw111]
      clear hw110 hw111
      refine pu ?_
      refine pu ?_
      refine KS rfl rfl rfl rfl rfl rfl ?_
      refine KB ?_
      have e98 := Kn hm; subst e98
      refine ⟨rfl, ?_⟩
      exact WkX.of () (WkS.perm (WkS.cons rfl (Wk.refl _) (WkS.cons rfl (Wk.refl _) (WkS.cons rfl (Wk.refl _) (WkS.cons rfl (Wk.refl _) (WkS.cons rfl (Wk.refl _) (WkS.nil)))))) Pf Pf)
     ·replace hm := yes_f hs99 hm
      refine Kaj 14 [] [[],[0],[0,1],[0,1,2],[0,1,2],[0,1,2],[0,1,2],[0,1,2],[0,1,2],[0,1,2],[0,1,2],[0,1,2],[0,1,2],[0,1,2]] [0,1,2] nlGm1_10 (by kernel_rfl) (by kernel_rfl) (by kernel_rfl) (by rfl) (by rfl) (by kernel_rfl) ?_
      iterate 3 apply Exists.intro
      intro bs
      iterate 3 refine zep ?_
      refine z_qM rfl rfl (KF 0 htab rfl rfl rfl rfl rfl) rfl rfl rfl rfl rfl rfl ?_
      refine zqp ?_
      refine zqp ?_
      refine K1 (j := 74) (b' := false) rfl hs99 ?_
      iterate 8 refine zK ?_
      refine z_nil rfl rfl (fun e he => by simp [isAl] at he) ?_
      refine pK ?_
      refine pK ?_
      refine KH rfl rfl rfl rfl rfl rfl ?_
      refine KB ?_
      have e98 := Kn hm; subst e98
      refine ⟨rfl, ?_⟩
      exact WkX.of () (WkS.perm (WkS.cons rfl (Wk.refl _) (WkS.cons rfl (Wk.refl _) (WkS.cons rfl (Wk.refl _) (WkS.cons rfl (Wk.refl _) (WkS.cons rfl (Wk.refl _) (WkS.nil)))))) Pf Pf)
    ·intro s98 hw98; clear hm; have hm := ho98; clear q98 ho98
     refine Km ?_
     refine K3 hw98 (fun z98 => ?_)
     obtain ⟨y114, q114, ho114⟩ := Kf hm
     refine K6 (Y := Unit) (fun z114 => (⟨[(4, .ptr b1 0), (7, .ptr b11 0), (8, .ptr b13 0)], [(b11, Blk.cells [.lst 4 (y114.1.map Kc) .no, iD y114.2.1, iD y114.2.2] 67), (b1, Blk.cells [tD ByteArray.empty, .lst 1 [] .full, .lst 1 [] .full, .lst 1 [] .full, iD (0 : Int)] 26), (b13, Blk.cells [tD x15.1, .lst 2 (x17.1.map Kw) (.cur w16), .lst 2 (y51.2.2.2.map Kw) (.cur z51), .lst 7 (x84.1.map Ki) (.cur w83), iD x12.gAt] 26)], [(7, w83), (2, z51), (2, w16)]⟩ : S)) ?_ ?_
     ·clear hm; have hm := KE q114
      refine Ku rfl (fun hc115 => ?_) (fun hc115 => ?_)
      ·replace hm := yes_t hc115 hm
       refine KC ?_
       refine pu ?_
       refine pu ?_
       obtain ⟨x116, q116, hm⟩ := Kf hm
       refine pG (Kb7 x84.2 x14.gAt (6 : Int) b11 67 .no x116 q116) Wl Pf Pf ?_
       rintro _ _ _ ⟨rfl, rfl, rfl⟩
       refine KB ?_
       have e114 := Kn hm; subst e114
       refine ⟨rfl, ?_⟩
       exact WkX.of () (WkS.perm (WkS.cons rfl (Wk.refl _) (WkS.cons rfl (Wk.refl _) (WkS.cons rfl (Wk.refl _) (WkS.nil)))) Pf Pf)
      ·replace hm := yes_f hc115 hm
       refine Ky ?_
       have e114 := Kn hm; subst e114
       refine ⟨rfl, ?_⟩
       exact WkX.of () (WkS.perm (WkS.cons rfl (Wk.refl _) (WkS.cons rfl (Wk.refl _) (WkS.cons rfl (Wk.refl _) (WkS.nil)))) Pf Pf)
     ·intro s114 hw114; clear hm; have hm := ho114; clear q114 ho114
      refine Km ?_
      refine K3 hw114 (fun z114 => ?_)
      refine Kq ?_
      refine Kl ?_
      iterate 3 refine pu ?_
      refine pL 0 ?_
      refine pu ?_
      refine Kh ?_
      refine Ku rfl (fun hc119 => ?_) (fun hc119 => ?_)
      ·replace hm := yes_t hc119 hm
       refine Kq ?_
       refine Kcm 11 [] [[],[],[1],[1,2],[1,2,3],[],[5],[5,6],[5,6,7],[0],[0,1,2,3,4,9]] [0,1,2,3,4,5,6,7,8,9] [[],[],[1],[1,2],[1,2,3],[],[5],[5,6],[5,6,7],[0],[0,1,2,3,4,9],[0,1,2,3,4,5,6,7,8,9,10]] 9 (by kernel_rfl) (by kernel_rfl) (by kernel_rfl) (by rfl) (by rfl) (by kernel_rfl) ?_
       refine ⟨[(b11, Blk.cells [.lst 4 (y114.1.map Kc) .no, iD y114.2.1, iD y114.2.2] 67), (b1, Blk.cells [tD ByteArray.empty, .lst 1 [] .full, .lst 1 [] .full, .lst 1 [] .full, iD (0 : Int)] 26), (b13, Blk.cells [tD x15.1, .lst 2 (x17.1.map Kw) (.cur w16), .lst 2 (y51.2.2.2.map Kw) (.cur z51), .lst 7 (x84.1.map Ki) (.cur w83), iD x12.gAt] 26)], ?_⟩
       iterate 9 apply Exists.intro
       refine ⟨.any, ?_⟩
       intro bs v120
       refine zh_e rfl rfl (KdY (r := [tD ByteArray.empty, .lst 1 [] .full, .lst 1 [] .full, .lst 1 [] .full, iD (0 : Int)]) htab rfl rfl rfl rfl rfl rfl) rfl rfl rfl rfl rfl rfl rfl rfl ?_
       iterate 3 refine zh_e rfl rfl (KT htab rfl) rfl rfl rfl rfl rfl rfl rfl rfl ?_
       refine zh_M rfl rfl (fun _ => KF 0 htab rfl rfl rfl rfl rfl) (fun _ => KF 0 htab rfl rfl rfl rfl rfl) rfl rfl rfl rfl rfl rfl rfl rfl ?_
       iterate 3 refine zh_e rfl rfl (KT htab rfl) rfl rfl rfl rfl rfl rfl rfl rfl ?_
       refine zh_M rfl rfl (fun _ => KF 0 htab rfl rfl rfl rfl rfl) (fun _ => KF 0 htab rfl rfl rfl rfl rfl) rfl rfl rfl rfl rfl rfl rfl rfl ?_
       refine KcA 1 htab rfl rfl rfl rfl rfl rfl rfl rfl rfl rfl rfl rfl rfl rfl rfl rfl ?_
       refine zh_q rfl rfl (KT htab rfl) rfl rfl rfl rfl rfl rfl ?_
       refine KdE rfl rfl rfl rfl (fun e he => by simp [isAl] at he) ?_
       refine pu ?_
       refine Kh ?_
       refine Ks ?_
       refine KD ?_
       have er121 := Kn hm; subst er121
       refine retX.cellF (off := 1) 2 1 rfl rfl (by first | exact Or.inl rfl | exact Or.inr rfl) (fun w122 => ?_)
       refine retX.cellF (off := 2) 2 1 rfl rfl (by first | exact Or.inl rfl | exact Or.inr rfl) (fun w123 => ?_)
       refine retX.cellF (off := 3) 7 1 rfl rfl (by first | exact Or.inl rfl | exact Or.inr rfl) (fun w124 => ?_)
       refine rP (t' := [(4, .ptr b1 0), (5, iD y114.2.1), (6, iD y114.2.2)]) [1] [2,1,0] 0 (wC (wC (wC wN))) (lC 0 (lT (lT lN))) ?_
       exact ⟨w122, w123, w124, rfl, rfl, rfl⟩
      ·replace hm := yes_f hc119 hm
       refine Ky ?_
       refine Km ?_
       refine Kq ?_
       refine Kcm 6 [] [[],[],[1],[1,2],[1,2,3],[0]] [0,1,2,3,4,5] [[],[],[1],[1,2],[1,2,3],[0],[0,1,2,3,4,5],[0,1,2,3,4,5,6]] 5 (by kernel_rfl) (by kernel_rfl) (by kernel_rfl) (by rfl) (by rfl) (by kernel_rfl) ?_
       refine ⟨[(b11, Blk.cells [.lst 4 (y114.1.map Kc) .no, iD y114.2.1, iD y114.2.2] 67), (b1, Blk.cells [tD x15.1, .lst 2 (x17.1.map Kw) (.cur w16), .lst 2 (y51.2.2.2.map Kw) (.cur z51), .lst 7 (x84.1.map Ki) (.cur w83), iD x12.gAt] 26), (b13, Blk.cells [tD x15.1, .lst 2 (x17.1.map Kw) (.cur w16), .lst 2 (y51.2.2.2.map Kw) (.cur z51), .lst 7 (x84.1.map Ki) (.cur w83), iD x12.gAt] 26)], ?_⟩
       iterate 5 apply Exists.intro
       refine ⟨.any, ?_⟩
       intro bs v125
       refine zh_M rfl rfl (fun _ => KF (d := .agg [tD x15.1, .lst 2 (x17.1.map Kw) (.cur w16), .lst 2 (y51.2.2.2.map Kw) (.cur z51), .lst 7 (x84.1.map Ki) (.cur w83), iD x12.gAt]) 2 htab rfl rfl rfl rfl rfl) (offB rfl) rfl rfl rfl rfl rfl rfl rfl rfl ?_
       iterate 3 refine zh_e rfl rfl (KT htab rfl) rfl rfl rfl rfl rfl rfl rfl rfl ?_
       refine zh_M rfl rfl (fun _ => KF 0 htab rfl rfl rfl rfl rfl) (fun _ => KF 0 htab rfl rfl rfl rfl rfl) rfl rfl rfl rfl rfl rfl rfl rfl ?_
       refine KcA 1 htab rfl rfl rfl rfl rfl rfl rfl rfl rfl rfl rfl rfl rfl rfl rfl rfl ?_
       refine KdE rfl rfl rfl rfl (fun e he => by simp [isAl] at he) ?_
       refine pu ?_
       refine pu ?_
       refine Kh ?_
       refine Ks ?_
       have er126 := Kn hm; subst er126
       refine rP (t' := [(4, .ptr b1 0), (5, iD y114.2.1), (6, iD (0 : Int))]) [1] [2,1,0] 0 (wC (wC (wC wN))) (lC 0 (lT (lT lN))) ?_
       exact ⟨w16, z51, w83, rfl, rfl, rfl⟩
noncomputable def Kfm (a0 : List KR) (a1 : List KR) : Option (Bool) :=
 (bif ((a0.length : Int) != (a1.length : Int)) then some false else (Option.bind (α := (Unit) ⊕ (Bool)) (loopM (fun (s21 : Int) => (bif (decide (s21 < (a0.length : Int))) then ((idx a0 s21).bind fun x33 => ((idx a1 s21).bind fun x34 => (bif (!(decide (x33.gName = x34.gName) && (x33.gPtr == x34.gPtr && true))) then some (.done (.inr false)) else some (.next (IntKind.i64.wrap (s21 + (1 : Int))))))) else some (.done (.inl ())))) (0 : Int)) (Sum.elim (fun y20 => some true) (fun r => some r))))
theorem KiJ (a0 : List KR) (a1 : List KR) (r : Bool) (h0 : Kfm a0 a1 = some r) : CallsD Try.prog 19 [.lst 2 (a0.map Kw) .no, .lst 2 (a1.map Kw) .no] [] [] (fun d h k => d = .v (.bool r) ∧ h = [] ∧ k = []) := by
 have hm := KE h0
 unfold Kfm at hm
 clear h0
 refine KW htab Try.func19 rfl rfl rfl rfl rfl (fun C => ?_)
 refine Kl ?_
 refine pu ?_
 refine Kh ?_
 refine Kq ?_
 refine Kl ?_
 refine pu ?_
 refine KaP htab rfl rfl rfl rfl rfl rfl rfl (by first | exact Kaf | rfl) ?_
 refine pu ?_
 refine KaP htab rfl rfl rfl rfl rfl rfl rfl (by first | exact Kaf | rfl) ?_
 refine pu ?_
 refine Kh ?_
 refine Ku rfl (fun hc2 => ?_) (fun hc2 => ?_)
 ·replace hm := yes_t hc2 hm
  refine Kl ?_
  refine pu ?_
  refine Kh ?_
  refine Ks ?_
  refine KD ?_
  have er3 := Kn hm; subst er3
  refine rP (t' := [(4, .v (.bool false))]) [] [] 0 (wC wN) (lT lN) ?_
  exact ⟨rfl, rfl, rfl⟩
 ·replace hm := yes_f hc2 hm
  refine Ky ?_
  refine Km ?_
  refine Kq ?_
  refine Kl ?_
  refine pu ?_
  refine Kh ?_
  obtain ⟨x20, q20, ho20⟩ := Kf hm
  refine KdN (τ := Unit) (Y := Unit) (fun y20 z20 => (⟨[], [], []⟩ : S)) x20 ?_ ?_
  ·clear hm; have hm := KE q20
   refine KL ?_
   obtain ⟨u21, hl21, hq21⟩ := yes_m hm
   refine Kbe (Y := Unit) hl21 (fun s21 z21 => (⟨[(0, .lst 2 (a0.map Kw) .no), (1, .lst 2 (a1.map Kw) .no), (5, iD s21)], [], []⟩ : S)) ?_ ?_
   ·skip
    exact WkX.of () (WkS.perm (WkS.cons rfl (Wk.refl _) (WkS.cons rfl (Wk.refl _) (WkS.cons rfl (Wk.refl _) (WkS.nil)))) Pf Pf)
   ·intro G21 s21 z21 hm
    refine Kq ?_
    refine Kl ?_
    refine pu ?_
    refine pu ?_
    refine KaP htab rfl rfl rfl rfl rfl rfl rfl (by first | exact Kaf | rfl) ?_
    refine pu ?_
    refine Kh ?_
    refine Ku rfl (fun hc32 => ?_) (fun hc32 => ?_)
    ·replace hm := yes_t hc32 hm
     refine Ky ?_
     refine Km ?_
     refine Kq ?_
     refine KL ?_
     refine Kq ?_
     obtain ⟨x33, q33, hm⟩ := Kf hm
     obtain ⟨x34, q34, hm⟩ := Kf hm
     refine Kaj 8 [] [[],[],[0],[0,2],[],[],[4],[4,6]] [0,2,3,4,6,7] [[],[],[0,1],[0,1,2],[],[],[4,5],[4,5,6],[0,1,2,3,4,5,6,7]] (by kernel_rfl) (by kernel_rfl) (by kernel_rfl) (by rfl) (by rfl) (by kernel_rfl) ?_
     iterate 6 apply Exists.intro
     intro bs
     refine zep ?_
     refine zqp ?_
     refine z_e rfl rfl (KG htab rfl rfl rfl rfl rfl rfl rfl (Kr q33) (Kz q33)) rfl rfl rfl rfl rfl rfl ?_
     refine z_eM rfl rfl (Kx (d := Kw x33) htab rfl rfl rfl rfl rfl) rfl rfl rfl rfl rfl rfl ?_
     refine zep ?_
     refine zqp ?_
     refine z_e rfl rfl (KG htab rfl rfl rfl rfl rfl rfl rfl (Kr q34) (Kz q34)) rfl rfl rfl rfl rfl rfl ?_
     refine z_eM rfl rfl (Kx (d := Kw x34) htab rfl rfl rfl rfl rfl) rfl rfl rfl rfl rfl rfl ?_
     refine z_nil rfl rfl (fun e he => by simp [isAl] at he) ?_
     refine p_eqS htab rfl rfl rfl rfl rfl eqt55 rfl rfl rfl rfl rfl ?_
     refine Kh ?_
     refine Ku rfl (fun hc35 => ?_) (fun hc35 => ?_)
     ·replace hm := yes_t hc35 hm
      refine Kl ?_
      refine pu ?_
      refine Kh ?_
      refine Ks ?_
      refine K0 ?_
      refine KD ?_
      have e21 := Kaq hm; subst e21; clear hm; have hm := hq21
      refine KD ?_
      refine K0 ?_
      have e20 := Kn hm; subst e20; refine KbW ?_; clear hm; have hm := ho20; simp only [Sum.elim_inr] at hm
      refine KD ?_
      have er36 := Kn hm; subst er36
      refine rP (t' := [(4, .v (.bool false))]) [] [] 0 (wC wN) (lT lN) ?_
      exact ⟨rfl, rfl, rfl⟩
     ·replace hm := yes_f hc35 hm
      refine Ky ?_
      refine KI ?_
      refine Km ?_
      refine KC ?_
      iterate 3 refine pu ?_
      refine KB ?_
      refine Km ⟨_, KaR hm, ?_⟩
      exact WkX.of () (WkS.perm (WkS.cons rfl (Wk.refl _) (WkS.cons rfl (Wk.refl _) (WkS.cons rfl (Wk.refl _) (WkS.nil)))) Pf Pf)
    ·replace hm := yes_f hc32 hm
     refine Kay ?_
     refine KN ?_
     have e21 := Kaq hm; subst e21; clear hm; have hm := hq21
     refine KN ?_
     refine Kao ?_
     have e20 := Kn hm; subst e20
     refine Kdp ?_
     exact WkX.of () (WkS.perm (WkS.nil) Pf Pf)
  ·intro y20 s20 hx20 hw20; subst hx20; clear hm; have hm := ho20; simp only [Sum.elim_inl] at hm; clear q20 ho20
   refine Km ?_
   refine K3 hw20 (fun z20 => ?_)
   refine Kl ?_
   refine pu ?_
   refine Kh ?_
   refine Ks ?_
   have er37 := Kn hm; subst er37
   refine rP (t' := [(4, .v (.bool true))]) [] [] 0 (wC wN) (lT lN) ?_
   exact ⟨rfl, rfl, rfl⟩
end Go.Proofs.Ytmgklehakmdiiaa.Ab
namespace Go.Proofs.Ytmgklehakmdiiaa.Ab
open Go
set_option linter.all false
abbrev nlGm1_11 : List (List Nat) := nlD [] [(0,[]),(0,[]),(0,[0]),(3,[2]),(4,[3]),(0,[]),(0,[]),(0,[5]),(8,[7]),(9,[8]),(5,[5,7,8]),(11,[]),(11,[]),(11,[]),(11,[]),(11,[]),(11,[]),(11,[]),(11,[]),(11,[]),(11,[]),(11,[]),(11,[]),(11,[]),(11,[]),(11,[]),(11,[]),(11,[]),(11,[]),(11,[]),(11,[]),(11,[]),(11,[]),(11,[]),(11,[]),(11,[]),(11,[]),(11,[]),(11,[]),(11,[]),(11,[]),(11,[]),(11,[]),(11,[]),(11,[]),(11,[]),(11,[]),(11,[]),(11,[]),(11,[]),(11,[]),(11,[]),(11,[]),(11,[]),(11,[]),(11,[]),(11,[]),(11,[]),(11,[]),(11,[]),(11,[]),(11,[]),(11,[]),(11,[]),(11,[])]
abbrev Kfn : List (List Nat) := nlD [] [(0,[]),(0,[]),(0,[0,1]),(3,[2]),(4,[3]),(0,[]),(0,[]),(0,[5,6]),(8,[7]),(9,[8]),(5,[4,5,6,7,8,9]),(11,[10]),(12,[11]),(13,[]),(13,[12,13]),(15,[14]),(16,[15]),(13,[]),(13,[]),(13,[17,18]),(20,[19]),(21,[20]),(17,[16,17,18,19,20,21]),(23,[22]),(24,[23]),(25,[24]),(26,[]),(26,[25,26]),(28,[27]),(29,[28]),(26,[]),(26,[]),(26,[30,31]),(33,[32]),(34,[33]),(30,[29,30,31,32,33,34]),(36,[35]),(37,[36]),(38,[37]),(39,[38]),(40,[39]),(41,[]),(41,[40,41]),(43,[42]),(44,[43]),(41,[]),(41,[]),(41,[45,46]),(48,[47]),(49,[48]),(45,[44,45,46,47,48,49]),(51,[50]),(52,[51]),(53,[52]),(54,[53]),(55,[]),(55,[54,55]),(57,[56]),(58,[57]),(55,[]),(55,[]),(55,[59,60]),(62,[61]),(63,[62]),(55,[]),(59,[58,59,60,61,62,63,64]),(66,[65]),(67,[66])]
abbrev nlGm1_13 : List (List Nat) := nlD [] [(0,[]),(0,[]),(0,[0]),(3,[2]),(4,[3]),(0,[]),(0,[]),(0,[5]),(8,[7]),(9,[8]),(5,[5,7,8]),(11,[]),(11,[]),(11,[]),(11,[12]),(15,[14]),(16,[15]),(11,[]),(11,[]),(11,[17]),(20,[19]),(21,[20]),(17,[17,19,20]),(23,[]),(23,[]),(23,[]),(23,[]),(23,[]),(23,[]),(23,[]),(23,[]),(23,[]),(23,[]),(23,[]),(23,[]),(23,[]),(23,[]),(23,[]),(23,[]),(23,[]),(23,[]),(23,[]),(23,[]),(23,[]),(23,[]),(23,[]),(23,[]),(23,[]),(23,[]),(23,[]),(23,[]),(23,[]),(23,[]),(23,[]),(23,[]),(23,[]),(23,[]),(23,[]),(23,[]),(23,[]),(23,[]),(23,[]),(23,[]),(23,[]),(23,[])]
abbrev nlGm1_14 : List (List Nat) := nlD [] [(0,[]),(0,[]),(0,[0]),(3,[2]),(4,[3]),(0,[]),(0,[]),(0,[5]),(8,[7]),(9,[8]),(5,[5,7,8]),(11,[]),(11,[]),(11,[]),(11,[12]),(15,[14]),(16,[15]),(11,[]),(11,[]),(11,[17]),(20,[19]),(21,[20]),(17,[17,19,20]),(23,[]),(23,[]),(23,[]),(23,[]),(23,[25]),(28,[27]),(29,[28]),(23,[]),(23,[]),(23,[30]),(33,[32]),(34,[33]),(30,[30,32,33]),(36,[]),(36,[]),(36,[]),(36,[]),(36,[]),(36,[]),(36,[]),(36,[]),(36,[]),(36,[]),(36,[]),(36,[]),(36,[]),(36,[]),(36,[]),(36,[]),(36,[]),(36,[]),(36,[]),(36,[]),(36,[]),(36,[]),(36,[]),(36,[]),(36,[]),(36,[]),(36,[]),(36,[]),(36,[])]
abbrev nlGm1_15 : List (List Nat) := nlD [] [(0,[]),(0,[]),(0,[0]),(3,[2]),(4,[3]),(0,[]),(0,[]),(0,[5]),(8,[7]),(9,[8]),(5,[5,7,8]),(11,[]),(11,[]),(11,[]),(11,[12]),(15,[14]),(16,[15]),(11,[]),(11,[]),(11,[17]),(20,[19]),(21,[20]),(17,[17,19,20]),(23,[]),(23,[]),(23,[]),(23,[]),(23,[25]),(28,[27]),(29,[28]),(23,[]),(23,[]),(23,[30]),(33,[32]),(34,[33]),(30,[30,32,33]),(36,[]),(36,[]),(36,[]),(36,[]),(36,[]),(36,[]),(36,[40]),(43,[42]),(44,[43]),(36,[]),(36,[]),(36,[45]),(48,[47]),(49,[48]),(45,[45,47,48]),(51,[]),(51,[]),(51,[]),(51,[]),(51,[]),(51,[]),(51,[]),(51,[]),(51,[]),(51,[]),(51,[]),(51,[]),(51,[]),(51,[])]
abbrev nlGm1_16 : List (List Nat) := nlD [] [(0,[]),(0,[]),(0,[0]),(3,[2]),(4,[3]),(0,[]),(0,[]),(0,[5]),(8,[7]),(9,[8]),(5,[5,7,8]),(11,[]),(11,[]),(11,[]),(11,[12]),(15,[14]),(16,[15]),(11,[]),(11,[]),(11,[17]),(20,[19]),(21,[20]),(17,[17,19,20]),(23,[]),(23,[]),(23,[]),(23,[]),(23,[25]),(28,[27]),(29,[28]),(23,[]),(23,[]),(23,[30]),(33,[32]),(34,[33]),(30,[30,32,33]),(36,[]),(36,[]),(36,[]),(36,[]),(36,[]),(36,[]),(36,[40]),(43,[42]),(44,[43]),(36,[]),(36,[]),(36,[45]),(48,[47]),(49,[48]),(45,[45,47,48]),(51,[]),(51,[]),(51,[]),(51,[]),(51,[]),(51,[54]),(57,[56]),(58,[57]),(51,[]),(51,[]),(51,[59]),(62,[61]),(63,[62]),(51,[])]
abbrev nlGm1_17 : List (List Nat) := nlD [] [(0,[]),(0,[]),(0,[0]),(3,[2]),(4,[3]),(0,[]),(0,[]),(0,[5]),(8,[7]),(9,[8]),(5,[5,7,8]),(11,[]),(11,[]),(11,[]),(11,[12]),(15,[14]),(16,[15]),(11,[]),(11,[]),(11,[17]),(20,[19]),(21,[20]),(17,[17,19,20]),(23,[]),(23,[]),(23,[]),(23,[]),(23,[25]),(28,[27]),(29,[28]),(23,[]),(23,[]),(23,[30]),(33,[32]),(34,[33]),(30,[30,32,33]),(36,[]),(36,[]),(36,[]),(36,[]),(36,[]),(36,[]),(36,[]),(36,[]),(36,[]),(36,[]),(36,[]),(36,[]),(36,[]),(36,[]),(36,[]),(36,[]),(36,[]),(36,[]),(36,[]),(36,[]),(36,[54]),(57,[56]),(58,[57]),(36,[]),(36,[]),(36,[59]),(62,[61]),(63,[62]),(36,[])]
noncomputable def Kdi (g0 : (List Ka) → (List Ka) → (Bool) → Option (Bool)) (a0 : List Ka) (a1 : List Ka) (a2 : Bool) : Option (Bool) :=
 (bif ((a0.length : Int) != (a1.length : Int)) then some false else (Option.bind (α := (Unit) ⊕ (Bool)) (loopM (fun (s132 : Int) => (bif (decide (s132 < (a0.length : Int))) then (Option.bind (α := Bool) ((idx a0 s132).bind fun x238 => ((idx a1 s132).bind fun x239 => (bif (x238.gOp != x239.gOp) then some true else ((idx a0 s132).bind fun x241 => ((idx a1 s132).bind fun x242 => (bif (x241.gN != x242.gN) then some true else ((idx a0 s132).bind fun x244 => ((idx a1 s132).bind fun x245 => (bif (!decide (x244.gName = x245.gName)) then some true else (bif a2 then ((idx a0 s132).bind fun x248 => ((idx a1 s132).bind fun x249 => (bif (x248.gAt != x249.gAt) then some true else ((idx a0 s132).bind fun x251 => ((idx a1 s132).bind fun x252 => ((g0 x251.gKids x252.gKids a2).bind fun x253 => some (!x253))))))) else ((idx a0 s132).bind fun x254 => ((idx a1 s132).bind fun x255 => ((g0 x254.gKids x255.gKids a2).bind fun x256 => some (!x256)))))))))))))) fun y237 => (bif y237 then some (.done (.inr false)) else some (.next (IntKind.i64.wrap (s132 + (1 : Int)))))) else some (.done (.inl ())))) (0 : Int)) (Sum.elim (fun y131 => some true) (fun r => some r))))
theorem Kke (g0 : (List Ka) → (List Ka) → (Bool) → Option (Bool)) (hg0 : ∀ (a0 : List Ka) (a1 : List Ka) (a2 : Bool) (r : Bool) (h0 : g0 a0 a1 a2 = some r), CallsD Try.prog 39 [.lst 5 (a0.map Kg) .no, .lst 5 (a1.map Kg) .no, .v (.bool a2)] [] [] (fun d h k => d = .v (.bool r) ∧ h = [] ∧ k = [])) (a0 : List Ka) (a1 : List Ka) (a2 : Bool) (r : Bool) (h0 : Kdi g0 a0 a1 a2 = some r) : CallsD Try.prog 39 [.lst 5 (a0.map Kg) .no, .lst 5 (a1.map Kg) .no, .v (.bool a2)] [] [] (fun d h k => d = .v (.bool r) ∧ h = [] ∧ k = []) := by
 have hm := KE h0
 unfold Kdi at hm
 clear h0
 refine KW htab Try.func39 rfl rfl rfl rfl rfl (fun C => ?_)
 refine Kl ?_
 refine pu ?_
 refine Kh ?_
 refine Kq ?_
 refine Kl ?_
 refine pu ?_
 refine KaP htab rfl rfl rfl rfl rfl rfl rfl (by first | exact Kaf | rfl) ?_
 refine pu ?_
 refine KaP htab rfl rfl rfl rfl rfl rfl rfl (by first | exact Kaf | rfl) ?_
 refine pu ?_
 refine Kh ?_
 refine Ku rfl (fun hc2 => ?_) (fun hc2 => ?_)
 ·replace hm := yes_t hc2 hm
  refine Kl ?_
  refine pu ?_
  refine Kh ?_
  refine Ks ?_
  refine KD ?_
  have er3 := Kn hm; subst er3
  refine rP (t' := [(6, .v (.bool false))]) [] [] 0 (wC wN) (lT lN) ?_
  exact ⟨rfl, rfl, rfl⟩
 ·replace hm := yes_f hc2 hm
  refine Ky ?_
  refine Km ?_
  refine Kq ?_
  refine Kl ?_
  refine pu ?_
  refine Kh ?_
  obtain ⟨x131, q131, ho131⟩ := Kf hm
  refine KdN (τ := Unit) (Y := Unit) (fun y131 z131 => (⟨[], [], []⟩ : S)) x131 ?_ ?_
  ·clear hm; have hm := KE q131
   refine KL ?_
   obtain ⟨u132, hl132, hq132⟩ := yes_m hm
   refine Kbe (Y := Unit) hl132 (fun s132 z132 => (⟨[(0, .lst 5 (a0.map Kg) .no), (1, .lst 5 (a1.map Kg) .no), (2, .v (.bool a2)), (7, iD s132)], [], []⟩ : S)) ?_ ?_
   ·skip
    exact WkX.of () (WkS.perm (WkS.cons rfl (Wk.refl _) (WkS.cons rfl (Wk.refl _) (WkS.cons rfl (Wk.refl _) (WkS.cons rfl (Wk.refl _) (WkS.nil))))) Pf Pf)
   ·intro G132 s132 z132 hm
    refine Kq ?_
    refine Kl ?_
    refine pu ?_
    refine pu ?_
    refine KaP htab rfl rfl rfl rfl rfl rfl rfl (by first | exact Kaf | rfl) ?_
    refine pu ?_
    refine Kh ?_
    refine Ku rfl (fun hc217 => ?_) (fun hc217 => ?_)
    ·replace hm := yes_t hc217 hm
     refine Ky ?_
     refine Km ?_
     refine Kq ?_
     refine KL ?_
     refine Kq ?_
     obtain ⟨y237, q237, ho237⟩ := Kf hm
     refine K6 (Y := Unit) (fun z237 => (⟨[(0, .lst 5 (a0.map Kg) .no), (1, .lst 5 (a1.map Kg) .no), (2, .v (.bool a2)), (7, iD s132), (86, .v (.bool y237))], [], []⟩ : S)) ?_ ?_
     ·clear hm; have hm := KE q237
      obtain ⟨x238, q238, hm⟩ := Kf hm
      obtain ⟨x239, q239, hm⟩ := Kf hm
      refine bycB (x238.gOp != x239.gOp) (fun hs240 => ?_) (fun hs240 => ?_)
      ·replace hm := yes_t hs240 hm
       refine Kaj 65 [] nlGm1_11 [0,2,3,5,7,8] Kfn (by kernel_rfl) (by kernel_rfl) (by kernel_rfl) (by rfl) (by rfl) (by kernel_rfl) ?_
       iterate 6 apply Exists.intro
       intro bs
       refine zep ?_
       refine zqp ?_
       refine z_e rfl rfl (Ex.wk (KG htab rfl rfl rfl rfl rfl rfl rfl (Kr q238) (Kz q238)) (Wk.of_eq (congrArg D.el (Kk x238)))) rfl rfl rfl rfl rfl rfl ?_
       refine zep ?_
       refine z_qM rfl rfl (Kx htab rfl rfl rfl rfl rfl) rfl rfl rfl rfl rfl rfl ?_
       refine zep ?_
       refine zqp ?_
       refine z_e rfl rfl (Ex.wk (KG htab rfl rfl rfl rfl rfl rfl rfl (Kr q239) (Kz q239)) (Wk.of_eq (congrArg D.el (Kk x239)))) rfl rfl rfl rfl rfl rfl ?_
       refine zep ?_
       refine z_qM rfl rfl (Kx htab rfl rfl rfl rfl rfl) rfl rfl rfl rfl rfl rfl ?_
       refine zqp ?_
       refine zqp ?_
       refine K1 (j := 30) (b' := true) rfl hs240 ?_
       iterate 11 refine zK ?_
       refine z_q rfl rfl (Ka1 rfl rfl rfl) rfl rfl rfl rfl rfl rfl ?_
       refine zqp ?_
       iterate 11 refine zK ?_
       refine z_q rfl rfl (Ka1 rfl rfl rfl) rfl rfl rfl rfl rfl rfl ?_
       refine zqp ?_
       iterate 14 refine zK ?_
       refine z_q rfl rfl (Ka1 rfl rfl rfl) rfl rfl rfl rfl rfl rfl ?_
       refine zqp ?_
       iterate 11 refine zK ?_
       refine z_nil rfl rfl (fun e he => by simp [isAl] at he) ?_
       refine pK ?_
       refine pK ?_
       refine KS rfl rfl rfl rfl rfl rfl ?_
       refine KB ?_
       have e237 := Kn hm; subst e237
       refine ⟨rfl, ?_⟩
       exact WkX.of () (WkS.perm (WkS.cons rfl (Wk.refl _) (WkS.cons rfl (Wk.refl _) (WkS.cons rfl (Wk.refl _) (WkS.cons rfl (Wk.refl _) (WkS.cons rfl (Wk.refl _) (WkS.nil)))))) Pf Pf)
      ·replace hm := yes_f hs240 hm
       obtain ⟨x241, q241, hm⟩ := Kf hm
       obtain ⟨x242, q242, hm⟩ := Kf hm
       refine bycB (x241.gN != x242.gN) (fun hs243 => ?_) (fun hs243 => ?_)
       ·replace hm := yes_t hs243 hm
        refine Kaj 65 [] nlGm1_13 [0,2,3,5,7,8,12,14,15,17,19,20] Kfn (by kernel_rfl) (by kernel_rfl) (by kernel_rfl) (by rfl) (by rfl) (by kernel_rfl) ?_
        iterate 12 apply Exists.intro
        intro bs
        refine zep ?_
        refine zqp ?_
        refine z_e rfl rfl (Ex.wk (KG htab rfl rfl rfl rfl rfl rfl rfl (Kr q238) (Kz q238)) (Wk.of_eq (congrArg D.el (Kk x238)))) rfl rfl rfl rfl rfl rfl ?_
        refine zep ?_
        refine z_qM rfl rfl (Kx htab rfl rfl rfl rfl rfl) rfl rfl rfl rfl rfl rfl ?_
        refine zep ?_
        refine zqp ?_
        refine z_e rfl rfl (Ex.wk (KG htab rfl rfl rfl rfl rfl rfl rfl (Kr q239) (Kz q239)) (Wk.of_eq (congrArg D.el (Kk x239)))) rfl rfl rfl rfl rfl rfl ?_
        refine zep ?_
        refine z_qM rfl rfl (Kx htab rfl rfl rfl rfl rfl) rfl rfl rfl rfl rfl rfl ?_
        refine zqp ?_
        refine zqp ?_
        refine K1 (j := 30) (b' := false) rfl hs240 ?_
        refine zep ?_
        refine zqp ?_
        refine z_e rfl rfl (Ex.wk (KG htab rfl rfl rfl rfl rfl rfl rfl (Kr q241) (Kz q241)) (Wk.of_eq (congrArg D.el (Kk x241)))) rfl rfl rfl rfl rfl rfl ?_
        refine zep ?_
        refine z_qM rfl rfl (Kx htab rfl rfl rfl rfl rfl) rfl rfl rfl rfl rfl rfl ?_
        refine zep ?_
        refine zqp ?_
        refine z_e rfl rfl (Ex.wk (KG htab rfl rfl rfl rfl rfl rfl rfl (Kr q242) (Kz q242)) (Wk.of_eq (congrArg D.el (Kk x242)))) rfl rfl rfl rfl rfl rfl ?_
        refine zep ?_
        refine z_qM rfl rfl (Kx htab rfl rfl rfl rfl rfl) rfl rfl rfl rfl rfl rfl ?_
        refine zqp ?_
        refine z_q rfl rfl (Kai rfl rfl rfl) rfl rfl rfl rfl rfl rfl ?_
        refine zqp ?_
        refine K1 (j := 43) (b' := true) rfl hs243 ?_
        iterate 11 refine zK ?_
        refine z_q rfl rfl (Ka1 rfl rfl rfl) rfl rfl rfl rfl rfl rfl ?_
        refine zqp ?_
        iterate 14 refine zK ?_
        refine z_q rfl rfl (Ka1 rfl rfl rfl) rfl rfl rfl rfl rfl rfl ?_
        refine zqp ?_
        iterate 11 refine zK ?_
        refine z_nil rfl rfl (fun e he => by simp [isAl] at he) ?_
        refine pK ?_
        refine pK ?_
        refine KS rfl rfl rfl rfl rfl rfl ?_
        refine KB ?_
        have e237 := Kn hm; subst e237
        refine ⟨rfl, ?_⟩
        exact WkX.of () (WkS.perm (WkS.cons rfl (Wk.refl _) (WkS.cons rfl (Wk.refl _) (WkS.cons rfl (Wk.refl _) (WkS.cons rfl (Wk.refl _) (WkS.cons rfl (Wk.refl _) (WkS.nil)))))) Pf Pf)
       ·replace hm := yes_f hs243 hm
        obtain ⟨x244, q244, hm⟩ := Kf hm
        obtain ⟨x245, q245, hm⟩ := Kf hm
        refine bycB (!decide (x244.gName = x245.gName)) (fun hs246 => ?_) (fun hs246 => ?_)
        ·replace hm := yes_t hs246 hm
         refine Kaj 65 [] nlGm1_14 [0,2,3,5,7,8,12,14,15,17,19,20,25,27,28,30,32,33] Kfn (by kernel_rfl) (by kernel_rfl) (by kernel_rfl) (by rfl) (by rfl) (by kernel_rfl) ?_
         iterate 18 apply Exists.intro
         intro bs
         refine zep ?_
         refine zqp ?_
         refine z_e rfl rfl (Ex.wk (KG htab rfl rfl rfl rfl rfl rfl rfl (Kr q238) (Kz q238)) (Wk.of_eq (congrArg D.el (Kk x238)))) rfl rfl rfl rfl rfl rfl ?_
         refine zep ?_
         refine z_qM rfl rfl (Kx htab rfl rfl rfl rfl rfl) rfl rfl rfl rfl rfl rfl ?_
         refine zep ?_
         refine zqp ?_
         refine z_e rfl rfl (Ex.wk (KG htab rfl rfl rfl rfl rfl rfl rfl (Kr q239) (Kz q239)) (Wk.of_eq (congrArg D.el (Kk x239)))) rfl rfl rfl rfl rfl rfl ?_
         refine zep ?_
         refine z_qM rfl rfl (Kx htab rfl rfl rfl rfl rfl) rfl rfl rfl rfl rfl rfl ?_
         refine zqp ?_
         refine zqp ?_
         refine K1 (j := 30) (b' := false) rfl hs240 ?_
         refine zep ?_
         refine zqp ?_
         refine z_e rfl rfl (Ex.wk (KG htab rfl rfl rfl rfl rfl rfl rfl (Kr q241) (Kz q241)) (Wk.of_eq (congrArg D.el (Kk x241)))) rfl rfl rfl rfl rfl rfl ?_
         refine zep ?_
         refine z_qM rfl rfl (Kx htab rfl rfl rfl rfl rfl) rfl rfl rfl rfl rfl rfl ?_
         refine zep ?_
         refine zqp ?_
         refine z_e rfl rfl (Ex.wk (KG htab rfl rfl rfl rfl rfl rfl rfl (Kr q242) (Kz q242)) (Wk.of_eq (congrArg D.el (Kk x242)))) rfl rfl rfl rfl rfl rfl ?_
         refine zep ?_
         refine z_qM rfl rfl (Kx htab rfl rfl rfl rfl rfl) rfl rfl rfl rfl rfl rfl ?_
         refine zqp ?_
         refine z_q rfl rfl (Kai rfl rfl rfl) rfl rfl rfl rfl rfl rfl ?_
         refine zqp ?_
         refine K1 (j := 43) (b' := false) rfl hs243 ?_
         refine zep ?_
         refine zqp ?_
         refine z_e rfl rfl (Ex.wk (KG htab rfl rfl rfl rfl rfl rfl rfl (Kr q244) (Kz q244)) (Wk.of_eq (congrArg D.el (Kk x244)))) rfl rfl rfl rfl rfl rfl ?_
         refine zep ?_
         refine z_qM rfl rfl (Kx htab rfl rfl rfl rfl rfl) rfl rfl rfl rfl rfl rfl ?_
         refine zep ?_
         refine zqp ?_
         refine z_e rfl rfl (Ex.wk (KG htab rfl rfl rfl rfl rfl rfl rfl (Kr q245) (Kz q245)) (Wk.of_eq (congrArg D.el (Kk x245)))) rfl rfl rfl rfl rfl rfl ?_
         refine zep ?_
         refine z_qM rfl rfl (Kx htab rfl rfl rfl rfl rfl) rfl rfl rfl rfl rfl rfl ?_
         refine zqp ?_
         refine z_q rfl rfl (Kai rfl rfl rfl) rfl rfl rfl rfl rfl rfl ?_
         refine zqp ?_
         refine K1 (j := 56) (b' := true) rfl hs246 ?_
         iterate 14 refine zK ?_
         refine z_q rfl rfl (Ka1 rfl rfl rfl) rfl rfl rfl rfl rfl rfl ?_
         refine zqp ?_
         iterate 11 refine zK ?_
         refine z_nil rfl rfl (fun e he => by simp [isAl] at he) ?_
         refine pK ?_
         refine pK ?_
         refine KS rfl rfl rfl rfl rfl rfl ?_
         refine KB ?_
         have e237 := Kn hm; subst e237
         refine ⟨rfl, ?_⟩
         exact WkX.of () (WkS.perm (WkS.cons rfl (Wk.refl _) (WkS.cons rfl (Wk.refl _) (WkS.cons rfl (Wk.refl _) (WkS.cons rfl (Wk.refl _) (WkS.cons rfl (Wk.refl _) (WkS.nil)))))) Pf Pf)
        ·replace hm := yes_f hs246 hm
         refine bycB a2 (fun hs247 => ?_) (fun hs247 => ?_)
         ·replace hm := yes_t hs247 hm
          obtain ⟨x248, q248, hm⟩ := Kf hm
          obtain ⟨x249, q249, hm⟩ := Kf hm
          refine bycB (x248.gAt != x249.gAt) (fun hs250 => ?_) (fun hs250 => ?_)
          ·replace hm := yes_t hs250 hm
           refine Kaj 65 [] nlGm1_15 [0,2,3,5,7,8,12,14,15,17,19,20,25,27,28,30,32,33,40,42,43,45,47,48] Kfn (by kernel_rfl) (by kernel_rfl) (by kernel_rfl) (by rfl) (by rfl) (by kernel_rfl) ?_
           iterate 24 apply Exists.intro
           intro bs
           refine zep ?_
           refine zqp ?_
           refine z_e rfl rfl (Ex.wk (KG htab rfl rfl rfl rfl rfl rfl rfl (Kr q238) (Kz q238)) (Wk.of_eq (congrArg D.el (Kk x238)))) rfl rfl rfl rfl rfl rfl ?_
           refine zep ?_
           refine z_qM rfl rfl (Kx htab rfl rfl rfl rfl rfl) rfl rfl rfl rfl rfl rfl ?_
           refine zep ?_
           refine zqp ?_
           refine z_e rfl rfl (Ex.wk (KG htab rfl rfl rfl rfl rfl rfl rfl (Kr q239) (Kz q239)) (Wk.of_eq (congrArg D.el (Kk x239)))) rfl rfl rfl rfl rfl rfl ?_
           refine zep ?_
           refine z_qM rfl rfl (Kx htab rfl rfl rfl rfl rfl) rfl rfl rfl rfl rfl rfl ?_
           refine zqp ?_
           refine zqp ?_
           refine K1 (j := 30) (b' := false) rfl hs240 ?_
           refine zep ?_
           refine zqp ?_
           refine z_e rfl rfl (Ex.wk (KG htab rfl rfl rfl rfl rfl rfl rfl (Kr q241) (Kz q241)) (Wk.of_eq (congrArg D.el (Kk x241)))) rfl rfl rfl rfl rfl rfl ?_
           refine zep ?_
           refine z_qM rfl rfl (Kx htab rfl rfl rfl rfl rfl) rfl rfl rfl rfl rfl rfl ?_
           refine zep ?_
           refine zqp ?_
           refine z_e rfl rfl (Ex.wk (KG htab rfl rfl rfl rfl rfl rfl rfl (Kr q242) (Kz q242)) (Wk.of_eq (congrArg D.el (Kk x242)))) rfl rfl rfl rfl rfl rfl ?_
           refine zep ?_
           refine z_qM rfl rfl (Kx htab rfl rfl rfl rfl rfl) rfl rfl rfl rfl rfl rfl ?_
           refine zqp ?_
           refine z_q rfl rfl (Kai rfl rfl rfl) rfl rfl rfl rfl rfl rfl ?_
           refine zqp ?_
           refine K1 (j := 43) (b' := false) rfl hs243 ?_
           refine zep ?_
           refine zqp ?_
           refine z_e rfl rfl (Ex.wk (KG htab rfl rfl rfl rfl rfl rfl rfl (Kr q244) (Kz q244)) (Wk.of_eq (congrArg D.el (Kk x244)))) rfl rfl rfl rfl rfl rfl ?_
           refine zep ?_
           refine z_qM rfl rfl (Kx htab rfl rfl rfl rfl rfl) rfl rfl rfl rfl rfl rfl ?_
           refine zep ?_
           refine zqp ?_
           refine z_e rfl rfl (Ex.wk (KG htab rfl rfl rfl rfl rfl rfl rfl (Kr q245) (Kz q245)) (Wk.of_eq (congrArg D.el (Kk x245)))) rfl rfl rfl rfl rfl rfl ?_
           refine zep ?_
           refine z_qM rfl rfl (Kx htab rfl rfl rfl rfl rfl) rfl rfl rfl rfl rfl rfl ?_
           refine zqp ?_
           refine z_q rfl rfl (Kai rfl rfl rfl) rfl rfl rfl rfl rfl rfl ?_
           refine zqp ?_
           refine K1 (j := 56) (b' := false) rfl hs246 ?_
           refine zqp ?_
           refine zqp ?_
           refine K1 (j := 58) (b' := true) rfl hs247 ?_
           refine zep ?_
           refine zqp ?_
           refine z_e rfl rfl (Ex.wk (KG htab rfl rfl rfl rfl rfl rfl rfl (Kr q248) (Kz q248)) (Wk.of_eq (congrArg D.el (Kk x248)))) rfl rfl rfl rfl rfl rfl ?_
           refine zep ?_
           refine z_qM rfl rfl (Kx htab rfl rfl rfl rfl rfl) rfl rfl rfl rfl rfl rfl ?_
           refine zep ?_
           refine zqp ?_
           refine z_e rfl rfl (Ex.wk (KG htab rfl rfl rfl rfl rfl rfl rfl (Kr q249) (Kz q249)) (Wk.of_eq (congrArg D.el (Kk x249)))) rfl rfl rfl rfl rfl rfl ?_
           refine zep ?_
           refine z_qM rfl rfl (Kx htab rfl rfl rfl rfl rfl) rfl rfl rfl rfl rfl rfl ?_
           refine zqp ?_
           refine z_q rfl rfl (Ka1 rfl rfl rfl) rfl rfl rfl rfl rfl rfl ?_
           refine z_q rfl rfl (Kai rfl rfl rfl) rfl rfl rfl rfl rfl rfl ?_
           refine zqp ?_
           refine K1 (j := 72) (b' := true) rfl hs250 ?_
           iterate 11 refine zK ?_
           refine z_nil rfl rfl (fun e he => by simp [isAl] at he) ?_
           refine pK ?_
           refine pK ?_
           refine KS rfl rfl rfl rfl rfl rfl ?_
           refine KB ?_
           have e237 := Kn hm; subst e237
           refine ⟨rfl, ?_⟩
           exact WkX.of () (WkS.perm (WkS.cons rfl (Wk.refl _) (WkS.cons rfl (Wk.refl _) (WkS.cons rfl (Wk.refl _) (WkS.cons rfl (Wk.refl _) (WkS.cons rfl (Wk.refl _) (WkS.nil)))))) Pf Pf)
          ·replace hm := yes_f hs250 hm
           obtain ⟨x251, q251, hm⟩ := Kf hm
           obtain ⟨x252, q252, hm⟩ := Kf hm
           refine Kaj 65 [] nlGm1_16 [0,2,3,5,7,8,12,14,15,17,19,20,25,27,28,30,32,33,40,42,43,45,47,48,54,56,57,58,59,61,62,63] Kfn (by kernel_rfl) (by kernel_rfl) (by kernel_rfl) (by rfl) (by rfl) (by kernel_rfl) ?_
           iterate 32 apply Exists.intro
           intro bs
           refine zep ?_
           refine zqp ?_
           refine z_e rfl rfl (Ex.wk (KG htab rfl rfl rfl rfl rfl rfl rfl (Kr q238) (Kz q238)) (Wk.of_eq (congrArg D.el (Kk x238)))) rfl rfl rfl rfl rfl rfl ?_
           refine zep ?_
           refine z_qM rfl rfl (Kx htab rfl rfl rfl rfl rfl) rfl rfl rfl rfl rfl rfl ?_
           refine zep ?_
           refine zqp ?_
           refine z_e rfl rfl (Ex.wk (KG htab rfl rfl rfl rfl rfl rfl rfl (Kr q239) (Kz q239)) (Wk.of_eq (congrArg D.el (Kk x239)))) rfl rfl rfl rfl rfl rfl ?_
           refine zep ?_
           refine z_qM rfl rfl (Kx htab rfl rfl rfl rfl rfl) rfl rfl rfl rfl rfl rfl ?_
           refine zqp ?_
           refine zqp ?_
           refine K1 (j := 30) (b' := false) rfl hs240 ?_
           refine zep ?_
           refine zqp ?_
           refine z_e rfl rfl (Ex.wk (KG htab rfl rfl rfl rfl rfl rfl rfl (Kr q241) (Kz q241)) (Wk.of_eq (congrArg D.el (Kk x241)))) rfl rfl rfl rfl rfl rfl ?_
           refine zep ?_
           refine z_qM rfl rfl (Kx htab rfl rfl rfl rfl rfl) rfl rfl rfl rfl rfl rfl ?_
           refine zep ?_
           refine zqp ?_
           refine z_e rfl rfl (Ex.wk (KG htab rfl rfl rfl rfl rfl rfl rfl (Kr q242) (Kz q242)) (Wk.of_eq (congrArg D.el (Kk x242)))) rfl rfl rfl rfl rfl rfl ?_
           refine zep ?_
           refine z_qM rfl rfl (Kx htab rfl rfl rfl rfl rfl) rfl rfl rfl rfl rfl rfl ?_
           refine zqp ?_
           refine z_q rfl rfl (Kai rfl rfl rfl) rfl rfl rfl rfl rfl rfl ?_
           refine zqp ?_
           refine K1 (j := 43) (b' := false) rfl hs243 ?_
           refine zep ?_
           refine zqp ?_
           refine z_e rfl rfl (Ex.wk (KG htab rfl rfl rfl rfl rfl rfl rfl (Kr q244) (Kz q244)) (Wk.of_eq (congrArg D.el (Kk x244)))) rfl rfl rfl rfl rfl rfl ?_
           refine zep ?_
           refine z_qM rfl rfl (Kx htab rfl rfl rfl rfl rfl) rfl rfl rfl rfl rfl rfl ?_
           refine zep ?_
           refine zqp ?_
           refine z_e rfl rfl (Ex.wk (KG htab rfl rfl rfl rfl rfl rfl rfl (Kr q245) (Kz q245)) (Wk.of_eq (congrArg D.el (Kk x245)))) rfl rfl rfl rfl rfl rfl ?_
           refine zep ?_
           refine z_qM rfl rfl (Kx htab rfl rfl rfl rfl rfl) rfl rfl rfl rfl rfl rfl ?_
           refine zqp ?_
           refine z_q rfl rfl (Kai rfl rfl rfl) rfl rfl rfl rfl rfl rfl ?_
           refine zqp ?_
           refine K1 (j := 56) (b' := false) rfl hs246 ?_
           refine zqp ?_
           refine zqp ?_
           refine K1 (j := 58) (b' := true) rfl hs247 ?_
           refine zep ?_
           refine zqp ?_
           refine z_e rfl rfl (Ex.wk (KG htab rfl rfl rfl rfl rfl rfl rfl (Kr q248) (Kz q248)) (Wk.of_eq (congrArg D.el (Kk x248)))) rfl rfl rfl rfl rfl rfl ?_
           refine zep ?_
           refine z_qM rfl rfl (Kx htab rfl rfl rfl rfl rfl) rfl rfl rfl rfl rfl rfl ?_
           refine zep ?_
           refine zqp ?_
           refine z_e rfl rfl (Ex.wk (KG htab rfl rfl rfl rfl rfl rfl rfl (Kr q249) (Kz q249)) (Wk.of_eq (congrArg D.el (Kk x249)))) rfl rfl rfl rfl rfl rfl ?_
           refine zep ?_
           refine z_qM rfl rfl (Kx htab rfl rfl rfl rfl rfl) rfl rfl rfl rfl rfl rfl ?_
           refine zqp ?_
           refine z_q rfl rfl (Ka1 rfl rfl rfl) rfl rfl rfl rfl rfl rfl ?_
           refine z_q rfl rfl (Kai rfl rfl rfl) rfl rfl rfl rfl rfl rfl ?_
           refine zqp ?_
           refine K1 (j := 72) (b' := false) rfl hs250 ?_
           refine zep ?_
           refine zqp ?_
           refine z_e rfl rfl (Ex.wk (KG htab rfl rfl rfl rfl rfl rfl rfl (Kr q251) (Kz q251)) (Wk.of_eq (congrArg D.el (Kk x251)))) rfl rfl rfl rfl rfl rfl ?_
           refine zep ?_
           refine z_eM rfl rfl (Kx htab rfl rfl rfl rfl rfl) rfl rfl rfl rfl rfl rfl ?_
           refine zep ?_
           refine zqp ?_
           refine z_e rfl rfl (Ex.wk (KG htab rfl rfl rfl rfl rfl rfl rfl (Kr q252) (Kz q252)) (Wk.of_eq (congrArg D.el (Kk x252)))) rfl rfl rfl rfl rfl rfl ?_
           refine zep ?_
           refine z_eM rfl rfl (Kx htab rfl rfl rfl rfl rfl) rfl rfl rfl rfl rfl rfl ?_
           refine zqp ?_
           refine z_nil rfl rfl (fun e he => by simp [isAl] at he) ?_
           obtain ⟨x253, q253, hm⟩ := Kf hm
           refine KaJ (hg0 x251.gKids x252.gKids a2 x253 q253) rfl rfl rfl rfl rfl Wl ?_
           rintro _ rfl
           refine pu ?_
           refine KH rfl rfl rfl rfl rfl rfl ?_
           refine KB ?_
           have e237 := Kn hm; subst e237
           refine ⟨rfl, ?_⟩
           exact WkX.of () (WkS.perm (WkS.cons rfl (Wk.refl _) (WkS.cons rfl (Wk.refl _) (WkS.cons rfl (Wk.refl _) (WkS.cons rfl (Wk.refl _) (WkS.cons rfl (Wk.refl _) (WkS.nil)))))) Pf Pf)
         ·replace hm := yes_f hs247 hm
          obtain ⟨x254, q254, hm⟩ := Kf hm
          obtain ⟨x255, q255, hm⟩ := Kf hm
          refine Kaj 65 [] nlGm1_17 [0,2,3,5,7,8,12,14,15,17,19,20,25,27,28,30,32,33,54,56,57,58,59,61,62,63] Kfn (by kernel_rfl) (by kernel_rfl) (by kernel_rfl) (by rfl) (by rfl) (by kernel_rfl) ?_
          iterate 26 apply Exists.intro
          intro bs
          refine zep ?_
          refine zqp ?_
          refine z_e rfl rfl (Ex.wk (KG htab rfl rfl rfl rfl rfl rfl rfl (Kr q238) (Kz q238)) (Wk.of_eq (congrArg D.el (Kk x238)))) rfl rfl rfl rfl rfl rfl ?_
          refine zep ?_
          refine z_qM rfl rfl (Kx htab rfl rfl rfl rfl rfl) rfl rfl rfl rfl rfl rfl ?_
          refine zep ?_
          refine zqp ?_
          refine z_e rfl rfl (Ex.wk (KG htab rfl rfl rfl rfl rfl rfl rfl (Kr q239) (Kz q239)) (Wk.of_eq (congrArg D.el (Kk x239)))) rfl rfl rfl rfl rfl rfl ?_
          refine zep ?_
          refine z_qM rfl rfl (Kx htab rfl rfl rfl rfl rfl) rfl rfl rfl rfl rfl rfl ?_
          refine zqp ?_
          refine zqp ?_
          refine K1 (j := 30) (b' := false) rfl hs240 ?_
          refine zep ?_
          refine zqp ?_
          refine z_e rfl rfl (Ex.wk (KG htab rfl rfl rfl rfl rfl rfl rfl (Kr q241) (Kz q241)) (Wk.of_eq (congrArg D.el (Kk x241)))) rfl rfl rfl rfl rfl rfl ?_
          refine zep ?_
          refine z_qM rfl rfl (Kx htab rfl rfl rfl rfl rfl) rfl rfl rfl rfl rfl rfl ?_
          refine zep ?_
          refine zqp ?_
          refine z_e rfl rfl (Ex.wk (KG htab rfl rfl rfl rfl rfl rfl rfl (Kr q242) (Kz q242)) (Wk.of_eq (congrArg D.el (Kk x242)))) rfl rfl rfl rfl rfl rfl ?_
          refine zep ?_
          refine z_qM rfl rfl (Kx htab rfl rfl rfl rfl rfl) rfl rfl rfl rfl rfl rfl ?_
          refine zqp ?_
          refine z_q rfl rfl (Kai rfl rfl rfl) rfl rfl rfl rfl rfl rfl ?_
          refine zqp ?_
          refine K1 (j := 43) (b' := false) rfl hs243 ?_
          refine zep ?_
          refine zqp ?_
          refine z_e rfl rfl (Ex.wk (KG htab rfl rfl rfl rfl rfl rfl rfl (Kr q244) (Kz q244)) (Wk.of_eq (congrArg D.el (Kk x244)))) rfl rfl rfl rfl rfl rfl ?_
          refine zep ?_
          refine z_qM rfl rfl (Kx htab rfl rfl rfl rfl rfl) rfl rfl rfl rfl rfl rfl ?_
          refine zep ?_
          refine zqp ?_
          refine z_e rfl rfl (Ex.wk (KG htab rfl rfl rfl rfl rfl rfl rfl (Kr q245) (Kz q245)) (Wk.of_eq (congrArg D.el (Kk x245)))) rfl rfl rfl rfl rfl rfl ?_
          refine zep ?_
          refine z_qM rfl rfl (Kx htab rfl rfl rfl rfl rfl) rfl rfl rfl rfl rfl rfl ?_
          refine zqp ?_
          refine z_q rfl rfl (Kai rfl rfl rfl) rfl rfl rfl rfl rfl rfl ?_
          refine zqp ?_
          refine K1 (j := 56) (b' := false) rfl hs246 ?_
          refine zqp ?_
          refine zqp ?_
          refine K1 (j := 58) (b' := false) rfl hs247 ?_
          iterate 11 refine zK ?_
          refine z_q rfl rfl (Kai rfl rfl rfl) rfl rfl rfl rfl rfl rfl ?_
          refine z_q rfl rfl (Kai rfl rfl rfl) rfl rfl rfl rfl rfl rfl ?_
          refine zqp ?_
          refine zep ?_
          refine zqp ?_
          refine z_e rfl rfl (Ex.wk (KG htab rfl rfl rfl rfl rfl rfl rfl (Kr q254) (Kz q254)) (Wk.of_eq (congrArg D.el (Kk x254)))) rfl rfl rfl rfl rfl rfl ?_
          refine zep ?_
          refine z_eM rfl rfl (Kx htab rfl rfl rfl rfl rfl) rfl rfl rfl rfl rfl rfl ?_
          refine zep ?_
          refine zqp ?_
          refine z_e rfl rfl (Ex.wk (KG htab rfl rfl rfl rfl rfl rfl rfl (Kr q255) (Kz q255)) (Wk.of_eq (congrArg D.el (Kk x255)))) rfl rfl rfl rfl rfl rfl ?_
          refine zep ?_
          refine z_eM rfl rfl (Kx htab rfl rfl rfl rfl rfl) rfl rfl rfl rfl rfl rfl ?_
          refine zqp ?_
          refine z_nil rfl rfl (fun e he => by simp [isAl] at he) ?_
          obtain ⟨x256, q256, hm⟩ := Kf hm
          refine KaJ (hg0 x254.gKids x255.gKids a2 x256 q256) rfl rfl rfl rfl rfl Wl ?_
          rintro _ rfl
          refine pu ?_
          refine KH rfl rfl rfl rfl rfl rfl ?_
          refine KB ?_
          have e237 := Kn hm; subst e237
          refine ⟨rfl, ?_⟩
          exact WkX.of () (WkS.perm (WkS.cons rfl (Wk.refl _) (WkS.cons rfl (Wk.refl _) (WkS.cons rfl (Wk.refl _) (WkS.cons rfl (Wk.refl _) (WkS.cons rfl (Wk.refl _) (WkS.nil)))))) Pf Pf)
     ·intro s237 hw237; clear hm; have hm := ho237; clear q237 ho237
      refine Km ?_
      refine K3 hw237 (fun z237 => ?_)
      refine Ku rfl (fun hc257 => ?_) (fun hc257 => ?_)
      ·replace hm := yes_t hc257 hm
       refine Kl ?_
       refine pu ?_
       refine Kh ?_
       refine Ks ?_
       refine K0 ?_
       refine KD ?_
       have e132 := Kaq hm; subst e132; clear hm; have hm := hq132
       refine KD ?_
       refine K0 ?_
       have e131 := Kn hm; subst e131; refine KbW ?_; clear hm; have hm := ho131; simp only [Sum.elim_inr] at hm
       refine KD ?_
       have er258 := Kn hm; subst er258
       refine rP (t' := [(6, .v (.bool false))]) [] [] 0 (wC wN) (lT lN) ?_
       exact ⟨rfl, rfl, rfl⟩
      ·replace hm := yes_f hc257 hm
       refine Ky ?_
       refine KI ?_
       refine Km ?_
       refine KC ?_
       iterate 3 refine pu ?_
       refine KB ?_
       refine Km ⟨_, KaR hm, ?_⟩
       exact WkX.of () (WkS.perm (WkS.cons rfl (Wk.refl _) (WkS.cons rfl (Wk.refl _) (WkS.cons rfl (Wk.refl _) (WkS.cons rfl (Wk.refl _) (WkS.nil))))) Pf Pf)
    ·replace hm := yes_f hc217 hm
     refine Kay ?_
     refine KN ?_
     have e132 := Kaq hm; subst e132; clear hm; have hm := hq132
     refine KN ?_
     refine Kao ?_
     have e131 := Kn hm; subst e131
     refine Kdp ?_
     exact WkX.of () (WkS.perm (WkS.nil) Pf Pf)
  ·intro y131 s131 hx131 hw131; subst hx131; clear hm; have hm := ho131; simp only [Sum.elim_inl] at hm; clear q131 ho131
   refine Km ?_
   refine K3 hw131 (fun z131 => ?_)
   refine Kl ?_
   refine pu ?_
   refine Kh ?_
   refine Ks ?_
   have er259 := Kn hm; subst er259
   refine rP (t' := [(6, .v (.bool true))]) [] [] 0 (wC wN) (lT lN) ?_
   exact ⟨rfl, rfl, rfl⟩
noncomputable def Kck : Nat → ((List Ka) → (List Ka) → (Bool) → Option (Bool))
 | 0 => (fun _ _ _ => none)
 | n + 1 => (Kdi ((Kck n)))
theorem Kh1 : ∀ n, (∀ (a0 : List Ka) (a1 : List Ka) (a2 : Bool) (r : Bool) (h0 : (Kck n) a0 a1 a2 = some r), CallsD Try.prog 39 [.lst 5 (a0.map Kg) .no, .lst 5 (a1.map Kg) .no, .v (.bool a2)] [] [] (fun d h k => d = .v (.bool r) ∧ h = [] ∧ k = []))
  | 0 => fun _ _ _ _ h0 => by cases h0
  | n + 1 => by
    have ih := Kh1 n
    exact Kke (Kck n) ih
theorem Kh2 : ∀ n, (∀ (a0 : List Ka) (a1 : List Ka) (a2 : Bool), Le ((Kck n) a0 a1 a2) ((Kck (n + 1)) a0 a1 a2))
  | 0 => fun _ _ _ => Le.none _
  | n + 1 => by
    have ih := Kh2 n
    exact fun a0 a1 a2 => by show Le (Kdi ((Kck n)) a0 a1 a2) (Kdi ((Kck (n + 1))) a0 a1 a2); unfold Kdi; repeat (first | exact Le.refl _ | exact ih _ _ _ | assumption | (refine Le.bind ?_ (fun _ => ?_)) | (refine Le.cond ?_ ?_) | (refine Le.loop (fun _ => ?_)) | (refine Le.elim (fun _ => ?_) (fun _ => ?_)))
noncomputable def Kgp (a0 : List Ka) (a1 : List Ka) (a2 : Bool) : Option (Bool) := anyN fun n => (Kck n) a0 a1 a2
theorem KkE (a0 : List Ka) (a1 : List Ka) (a2 : Bool) {r : Bool} (n : Nat) (h : (Kck n) a0 a1 a2 = some r) : Kgp a0 a1 a2 = some r := Kc8 (fun m => (Kh2 m) a0 a1 a2) h
theorem Kd2 (a0 : List Ka) (a1 : List Ka) (a2 : Bool) (r : Bool) (h0 : Kgp a0 a1 a2 = some r) : CallsD Try.prog 39 [.lst 5 (a0.map Kg) .no, .lst 5 (a1.map Kg) .no, .v (.bool a2)] [] [] (fun d h k => d = .v (.bool r) ∧ h = [] ∧ k = []) :=
 let ⟨n, hn⟩ := KcB h0; (Kh1 n) a0 a1 a2  r hn
end Go.Proofs.Ytmgklehakmdiiaa.Ab
namespace Go.Proofs.Ytmgklehakmdiiaa.Ab
open Go
set_option linter.all false
abbrev nlGm1_18 : List (List Nat) := nlD [] [(0,[]),(0,[]),(0,[0]),(3,[2]),(4,[3]),(0,[]),(0,[]),(0,[5]),(8,[7]),(9,[8]),(5,[5,7,8]),(11,[]),(11,[]),(11,[]),(11,[]),(11,[]),(11,[]),(11,[]),(11,[]),(11,[]),(11,[]),(11,[]),(11,[]),(11,[]),(11,[]),(11,[]),(11,[]),(11,[]),(11,[]),(11,[]),(11,[]),(11,[]),(11,[]),(11,[]),(11,[]),(11,[]),(11,[]),(11,[]),(11,[]),(11,[]),(11,[]),(11,[]),(11,[]),(11,[]),(11,[]),(11,[]),(11,[]),(11,[]),(11,[]),(11,[]),(11,[]),(11,[]),(11,[]),(11,[]),(11,[]),(11,[]),(11,[]),(11,[]),(11,[]),(11,[]),(11,[]),(11,[]),(11,[]),(11,[]),(11,[]),(11,[]),(11,[]),(11,[]),(11,[]),(11,[]),(11,[]),(11,[]),(11,[]),(11,[]),(11,[]),(11,[]),(11,[]),(11,[]),(11,[]),(11,[]),(11,[]),(11,[]),(11,[]),(11,[]),(11,[]),(11,[]),(11,[]),(11,[]),(11,[]),(11,[]),(11,[]),(11,[]),(11,[]),(11,[]),(11,[])]
abbrev Kds : List (List Nat) := nlD [] [(0,[]),(0,[]),(0,[0,1]),(3,[2]),(4,[3]),(0,[]),(0,[]),(0,[5,6]),(8,[7]),(9,[8]),(5,[4,5,6,7,8,9]),(11,[10]),(12,[11]),(13,[]),(13,[12,13]),(15,[14]),(16,[15]),(13,[]),(13,[]),(13,[17,18]),(20,[19]),(21,[20]),(17,[16,17,18,19,20,21]),(23,[22]),(24,[23]),(25,[24]),(26,[]),(26,[25,26]),(28,[27]),(29,[28]),(26,[]),(26,[]),(26,[30,31]),(33,[32]),(34,[33]),(30,[29,30,31,32,33,34]),(36,[35]),(37,[36]),(38,[37]),(39,[38]),(40,[39]),(41,[]),(41,[40,41]),(43,[42]),(44,[43]),(41,[]),(41,[]),(41,[45,46]),(48,[47]),(49,[48]),(45,[44,45,46,47,48,49]),(51,[50]),(52,[51]),(53,[52]),(54,[53]),(55,[]),(55,[54,55]),(57,[56]),(58,[57]),(55,[]),(55,[]),(55,[59,60]),(62,[61]),(63,[62]),(55,[]),(59,[58,59,60,61,62,63,64]),(66,[65]),(67,[66]),(68,[67]),(69,[68]),(70,[]),(70,[69,70]),(72,[71]),(73,[72]),(70,[]),(70,[]),(70,[74,75]),(77,[76]),(78,[77]),(70,[]),(74,[73,74,75,76,77,78,79]),(81,[80]),(82,[81]),(83,[82]),(84,[83]),(85,[]),(85,[84,85]),(87,[86]),(88,[87]),(85,[]),(85,[]),(85,[89,90]),(92,[91]),(93,[92]),(85,[]),(89,[88,89,90,91,92,93,94]),(96,[95]),(97,[96])]
abbrev nlGm1_20 : List (List Nat) := nlD [] [(0,[]),(0,[]),(0,[0]),(3,[2]),(4,[3]),(0,[]),(0,[]),(0,[5]),(8,[7]),(9,[8]),(5,[5,7,8]),(11,[]),(11,[]),(11,[]),(11,[12]),(15,[14]),(16,[15]),(11,[]),(11,[]),(11,[17]),(20,[19]),(21,[20]),(17,[17,19,20]),(23,[]),(23,[]),(23,[]),(23,[]),(23,[]),(23,[]),(23,[]),(23,[]),(23,[]),(23,[]),(23,[]),(23,[]),(23,[]),(23,[]),(23,[]),(23,[]),(23,[]),(23,[]),(23,[]),(23,[]),(23,[]),(23,[]),(23,[]),(23,[]),(23,[]),(23,[]),(23,[]),(23,[]),(23,[]),(23,[]),(23,[]),(23,[]),(23,[]),(23,[]),(23,[]),(23,[]),(23,[]),(23,[]),(23,[]),(23,[]),(23,[]),(23,[]),(23,[]),(23,[]),(23,[]),(23,[]),(23,[]),(23,[]),(23,[]),(23,[]),(23,[]),(23,[]),(23,[]),(23,[]),(23,[]),(23,[]),(23,[]),(23,[]),(23,[]),(23,[]),(23,[]),(23,[]),(23,[]),(23,[]),(23,[]),(23,[]),(23,[]),(23,[]),(23,[]),(23,[]),(23,[]),(23,[])]
abbrev nlGm1_21 : List (List Nat) := nlD [] [(0,[]),(0,[]),(0,[0]),(3,[2]),(4,[3]),(0,[]),(0,[]),(0,[5]),(8,[7]),(9,[8]),(5,[5,7,8]),(11,[]),(11,[]),(11,[]),(11,[12]),(15,[14]),(16,[15]),(11,[]),(11,[]),(11,[17]),(20,[19]),(21,[20]),(17,[17,19,20]),(23,[]),(23,[]),(23,[]),(23,[]),(23,[25]),(28,[27]),(29,[28]),(23,[]),(23,[]),(23,[30]),(33,[32]),(34,[33]),(30,[30,32,33]),(36,[]),(36,[]),(36,[]),(36,[]),(36,[]),(36,[]),(36,[]),(36,[]),(36,[]),(36,[]),(36,[]),(36,[]),(36,[]),(36,[]),(36,[]),(36,[]),(36,[]),(36,[]),(36,[]),(36,[]),(36,[]),(36,[]),(36,[]),(36,[]),(36,[]),(36,[]),(36,[]),(36,[]),(36,[]),(36,[]),(36,[]),(36,[]),(36,[]),(36,[]),(36,[]),(36,[]),(36,[]),(36,[]),(36,[]),(36,[]),(36,[]),(36,[]),(36,[]),(36,[]),(36,[]),(36,[]),(36,[]),(36,[]),(36,[]),(36,[]),(36,[]),(36,[]),(36,[]),(36,[]),(36,[]),(36,[]),(36,[]),(36,[]),(36,[])]
abbrev nlGm1_22 : List (List Nat) := nlD [] [(0,[]),(0,[]),(0,[0]),(3,[2]),(4,[3]),(0,[]),(0,[]),(0,[5]),(8,[7]),(9,[8]),(5,[5,7,8]),(11,[]),(11,[]),(11,[]),(11,[12]),(15,[14]),(16,[15]),(11,[]),(11,[]),(11,[17]),(20,[19]),(21,[20]),(17,[17,19,20]),(23,[]),(23,[]),(23,[]),(23,[]),(23,[25]),(28,[27]),(29,[28]),(23,[]),(23,[]),(23,[30]),(33,[32]),(34,[33]),(30,[30,32,33]),(36,[]),(36,[]),(36,[]),(36,[]),(36,[]),(36,[]),(36,[40]),(43,[42]),(44,[43]),(36,[]),(36,[]),(36,[45]),(48,[47]),(49,[48]),(45,[45,47,48]),(51,[]),(51,[]),(51,[]),(51,[]),(51,[]),(51,[]),(51,[]),(51,[]),(51,[]),(51,[]),(51,[]),(51,[]),(51,[]),(51,[]),(51,[]),(51,[]),(51,[]),(51,[]),(51,[]),(51,[]),(51,[]),(51,[]),(51,[]),(51,[]),(51,[]),(51,[]),(51,[]),(51,[]),(51,[]),(51,[]),(51,[]),(51,[]),(51,[]),(51,[]),(51,[]),(51,[]),(51,[]),(51,[]),(51,[]),(51,[]),(51,[]),(51,[]),(51,[]),(51,[])]
abbrev nlGm1_23 : List (List Nat) := nlD [] [(0,[]),(0,[]),(0,[0]),(3,[2]),(4,[3]),(0,[]),(0,[]),(0,[5]),(8,[7]),(9,[8]),(5,[5,7,8]),(11,[]),(11,[]),(11,[]),(11,[12]),(15,[14]),(16,[15]),(11,[]),(11,[]),(11,[17]),(20,[19]),(21,[20]),(17,[17,19,20]),(23,[]),(23,[]),(23,[]),(23,[]),(23,[25]),(28,[27]),(29,[28]),(23,[]),(23,[]),(23,[30]),(33,[32]),(34,[33]),(30,[30,32,33]),(36,[]),(36,[]),(36,[]),(36,[]),(36,[]),(36,[]),(36,[40]),(43,[42]),(44,[43]),(36,[]),(36,[]),(36,[45]),(48,[47]),(49,[48]),(45,[45,47,48]),(51,[]),(51,[]),(51,[]),(51,[]),(51,[]),(51,[54]),(57,[56]),(58,[57]),(51,[]),(51,[]),(51,[59]),(62,[61]),(63,[62]),(51,[]),(59,[58,59,61,62,63]),(66,[65]),(67,[]),(67,[]),(67,[]),(67,[]),(67,[]),(67,[]),(67,[]),(67,[]),(67,[]),(67,[]),(67,[]),(67,[]),(67,[]),(67,[]),(67,[]),(67,[]),(67,[]),(67,[]),(67,[]),(67,[]),(67,[]),(67,[]),(67,[]),(67,[]),(67,[]),(67,[]),(67,[]),(67,[])]
abbrev nlGm1_24 : List (List Nat) := nlD [] [(0,[]),(0,[]),(0,[0]),(3,[2]),(4,[3]),(0,[]),(0,[]),(0,[5]),(8,[7]),(9,[8]),(5,[5,7,8]),(11,[]),(11,[]),(11,[]),(11,[12]),(15,[14]),(16,[15]),(11,[]),(11,[]),(11,[17]),(20,[19]),(21,[20]),(17,[17,19,20]),(23,[]),(23,[]),(23,[]),(23,[]),(23,[25]),(28,[27]),(29,[28]),(23,[]),(23,[]),(23,[30]),(33,[32]),(34,[33]),(30,[30,32,33]),(36,[]),(36,[]),(36,[]),(36,[]),(36,[]),(36,[]),(36,[40]),(43,[42]),(44,[43]),(36,[]),(36,[]),(36,[45]),(48,[47]),(49,[48]),(45,[45,47,48]),(51,[]),(51,[]),(51,[]),(51,[]),(51,[]),(51,[54]),(57,[56]),(58,[57]),(51,[]),(51,[]),(51,[59]),(62,[61]),(63,[62]),(51,[]),(59,[58,59,61,62,63]),(66,[65]),(67,[]),(67,[]),(67,[]),(67,[]),(67,[69]),(72,[71]),(73,[72]),(67,[]),(67,[]),(67,[74]),(77,[76]),(78,[77]),(67,[]),(74,[73,74,76,77,78]),(81,[80]),(82,[]),(82,[]),(82,[]),(82,[]),(82,[]),(82,[]),(82,[]),(82,[]),(82,[]),(82,[]),(82,[]),(82,[]),(82,[])]
abbrev nlGm1_25 : List (List Nat) := nlD [] [(0,[]),(0,[]),(0,[0]),(3,[2]),(4,[3]),(0,[]),(0,[]),(0,[5]),(8,[7]),(9,[8]),(5,[5,7,8]),(11,[]),(11,[]),(11,[]),(11,[12]),(15,[14]),(16,[15]),(11,[]),(11,[]),(11,[17]),(20,[19]),(21,[20]),(17,[17,19,20]),(23,[]),(23,[]),(23,[]),(23,[]),(23,[25]),(28,[27]),(29,[28]),(23,[]),(23,[]),(23,[30]),(33,[32]),(34,[33]),(30,[30,32,33]),(36,[]),(36,[]),(36,[]),(36,[]),(36,[]),(36,[]),(36,[40]),(43,[42]),(44,[43]),(36,[]),(36,[]),(36,[45]),(48,[47]),(49,[48]),(45,[45,47,48]),(51,[]),(51,[]),(51,[]),(51,[]),(51,[]),(51,[54]),(57,[56]),(58,[57]),(51,[]),(51,[]),(51,[59]),(62,[61]),(63,[62]),(51,[]),(59,[58,59,61,62,63]),(66,[65]),(67,[]),(67,[]),(67,[]),(67,[]),(67,[69]),(72,[71]),(73,[72]),(67,[]),(67,[]),(67,[74]),(77,[76]),(78,[77]),(67,[]),(74,[73,74,76,77,78]),(81,[80]),(82,[]),(82,[]),(82,[]),(82,[]),(82,[84]),(87,[86]),(88,[87]),(82,[]),(82,[]),(82,[89]),(92,[91]),(93,[92]),(82,[])]
abbrev nlGm1_26 : List (List Nat) := nlD [] [(0,[]),(0,[]),(0,[0]),(3,[2]),(4,[3]),(0,[]),(0,[]),(0,[5]),(8,[7]),(9,[8]),(5,[5,7,8]),(11,[]),(11,[]),(11,[]),(11,[12]),(15,[14]),(16,[15]),(11,[]),(11,[]),(11,[17]),(20,[19]),(21,[20]),(17,[17,19,20]),(23,[]),(23,[]),(23,[]),(23,[]),(23,[25]),(28,[27]),(29,[28]),(23,[]),(23,[]),(23,[30]),(33,[32]),(34,[33]),(30,[30,32,33]),(36,[]),(36,[]),(36,[]),(36,[]),(36,[]),(36,[]),(36,[]),(36,[]),(36,[]),(36,[]),(36,[]),(36,[]),(36,[]),(36,[]),(36,[]),(36,[]),(36,[]),(36,[]),(36,[]),(36,[]),(36,[54]),(57,[56]),(58,[57]),(36,[]),(36,[]),(36,[59]),(62,[61]),(63,[62]),(36,[]),(59,[58,59,61,62,63]),(66,[65]),(67,[]),(67,[]),(67,[]),(67,[]),(67,[]),(67,[]),(67,[]),(67,[]),(67,[]),(67,[]),(67,[]),(67,[]),(67,[]),(67,[]),(67,[]),(67,[]),(67,[]),(67,[]),(67,[]),(67,[]),(67,[]),(67,[]),(67,[]),(67,[]),(67,[]),(67,[]),(67,[]),(67,[])]
abbrev nlGm1_27 : List (List Nat) := nlD [] [(0,[]),(0,[]),(0,[0]),(3,[2]),(4,[3]),(0,[]),(0,[]),(0,[5]),(8,[7]),(9,[8]),(5,[5,7,8]),(11,[]),(11,[]),(11,[]),(11,[12]),(15,[14]),(16,[15]),(11,[]),(11,[]),(11,[17]),(20,[19]),(21,[20]),(17,[17,19,20]),(23,[]),(23,[]),(23,[]),(23,[]),(23,[25]),(28,[27]),(29,[28]),(23,[]),(23,[]),(23,[30]),(33,[32]),(34,[33]),(30,[30,32,33]),(36,[]),(36,[]),(36,[]),(36,[]),(36,[]),(36,[]),(36,[]),(36,[]),(36,[]),(36,[]),(36,[]),(36,[]),(36,[]),(36,[]),(36,[]),(36,[]),(36,[]),(36,[]),(36,[]),(36,[]),(36,[54]),(57,[56]),(58,[57]),(36,[]),(36,[]),(36,[59]),(62,[61]),(63,[62]),(36,[]),(59,[58,59,61,62,63]),(66,[65]),(67,[]),(67,[]),(67,[]),(67,[]),(67,[69]),(72,[71]),(73,[72]),(67,[]),(67,[]),(67,[74]),(77,[76]),(78,[77]),(67,[]),(74,[73,74,76,77,78]),(81,[80]),(82,[]),(82,[]),(82,[]),(82,[]),(82,[]),(82,[]),(82,[]),(82,[]),(82,[]),(82,[]),(82,[]),(82,[]),(82,[])]
abbrev nlGm1_28 : List (List Nat) := nlD [] [(0,[]),(0,[]),(0,[0]),(3,[2]),(4,[3]),(0,[]),(0,[]),(0,[5]),(8,[7]),(9,[8]),(5,[5,7,8]),(11,[]),(11,[]),(11,[]),(11,[12]),(15,[14]),(16,[15]),(11,[]),(11,[]),(11,[17]),(20,[19]),(21,[20]),(17,[17,19,20]),(23,[]),(23,[]),(23,[]),(23,[]),(23,[25]),(28,[27]),(29,[28]),(23,[]),(23,[]),(23,[30]),(33,[32]),(34,[33]),(30,[30,32,33]),(36,[]),(36,[]),(36,[]),(36,[]),(36,[]),(36,[]),(36,[]),(36,[]),(36,[]),(36,[]),(36,[]),(36,[]),(36,[]),(36,[]),(36,[]),(36,[]),(36,[]),(36,[]),(36,[]),(36,[]),(36,[54]),(57,[56]),(58,[57]),(36,[]),(36,[]),(36,[59]),(62,[61]),(63,[62]),(36,[]),(59,[58,59,61,62,63]),(66,[65]),(67,[]),(67,[]),(67,[]),(67,[]),(67,[69]),(72,[71]),(73,[72]),(67,[]),(67,[]),(67,[74]),(77,[76]),(78,[77]),(67,[]),(74,[73,74,76,77,78]),(81,[80]),(82,[]),(82,[]),(82,[]),(82,[]),(82,[84]),(87,[86]),(88,[87]),(82,[]),(82,[]),(82,[89]),(92,[91]),(93,[92]),(82,[])]
noncomputable def Kcn (g0 : (List Kj) → (List Kj) → (Bool) → Option (Bool)) (a0 : List Kj) (a1 : List Kj) (a2 : Bool) : Option (Bool) :=
 (bif ((a0.length : Int) != (a1.length : Int)) then some false else (Option.bind (α := (Unit) ⊕ (Bool)) (loopM (fun (s228 : Int) => (bif (decide (s228 < (a0.length : Int))) then (Option.bind (α := Bool) ((idx a0 s228).bind fun x414 => ((idx a1 s228).bind fun x415 => (bif (x414.gOp != x415.gOp) then some true else ((idx a0 s228).bind fun x417 => ((idx a1 s228).bind fun x418 => (bif (!decide (x417.gName = x418.gName)) then some true else ((idx a0 s228).bind fun x420 => ((idx a1 s228).bind fun x421 => (bif (!decide (x420.gFunc = x421.gFunc)) then some true else (bif a2 then ((idx a0 s228).bind fun x424 => ((idx a1 s228).bind fun x425 => (bif (x424.gAt != x425.gAt) then some true else ((idx a0 s228).bind fun x427 => ((idx a1 s228).bind fun x428 => ((Kgp x427.gExps x428.gExps a2).bind fun x429 => (bif (!x429) then some true else ((idx a0 s228).bind fun x431 => ((idx a1 s228).bind fun x432 => ((g0 x431.gKids x432.gKids a2).bind fun x433 => (bif (!x433) then some true else ((idx a0 s228).bind fun x435 => ((idx a1 s228).bind fun x436 => ((g0 x435.gElse x436.gElse a2).bind fun x437 => some (!x437))))))))))))))) else ((idx a0 s228).bind fun x438 => ((idx a1 s228).bind fun x439 => ((Kgp x438.gExps x439.gExps a2).bind fun x440 => (bif (!x440) then some true else ((idx a0 s228).bind fun x442 => ((idx a1 s228).bind fun x443 => ((g0 x442.gKids x443.gKids a2).bind fun x444 => (bif (!x444) then some true else ((idx a0 s228).bind fun x446 => ((idx a1 s228).bind fun x447 => ((g0 x446.gElse x447.gElse a2).bind fun x448 => some (!x448)))))))))))))))))))))) fun y413 => (bif y413 then some (.done (.inr false)) else some (.next (IntKind.i64.wrap (s228 + (1 : Int)))))) else some (.done (.inl ())))) (0 : Int)) (Sum.elim (fun y227 => some true) (fun r => some r))))
theorem KiZ (g0 : (List Kj) → (List Kj) → (Bool) → Option (Bool)) (hg0 : ∀ (a0 : List Kj) (a1 : List Kj) (a2 : Bool) (r : Bool) (h0 : g0 a0 a1 a2 = some r), CallsD Try.prog 20 [.lst 7 (a0.map Ki) .no, .lst 7 (a1.map Ki) .no, .v (.bool a2)] [] [] (fun d h k => d = .v (.bool r) ∧ h = [] ∧ k = [])) (a0 : List Kj) (a1 : List Kj) (a2 : Bool) (r : Bool) (h0 : Kcn g0 a0 a1 a2 = some r) : CallsD Try.prog 20 [.lst 7 (a0.map Ki) .no, .lst 7 (a1.map Ki) .no, .v (.bool a2)] [] [] (fun d h k => d = .v (.bool r) ∧ h = [] ∧ k = []) := by
 have hm := KE h0
 unfold Kcn at hm
 clear h0
 refine KW htab Try.func20 rfl rfl rfl rfl rfl (fun C => ?_)
 refine Kl ?_
 refine pu ?_
 refine Kh ?_
 refine Kq ?_
 refine Kl ?_
 refine pu ?_
 refine KaP htab rfl rfl rfl rfl rfl rfl rfl (by first | exact Kaf | rfl) ?_
 refine pu ?_
 refine KaP htab rfl rfl rfl rfl rfl rfl rfl (by first | exact Kaf | rfl) ?_
 refine pu ?_
 refine Kh ?_
 refine Ku rfl (fun hc2 => ?_) (fun hc2 => ?_)
 ·replace hm := yes_t hc2 hm
  refine Kl ?_
  refine pu ?_
  refine Kh ?_
  refine Ks ?_
  refine KD ?_
  have er3 := Kn hm; subst er3
  refine rP (t' := [(6, .v (.bool false))]) [] [] 0 (wC wN) (lT lN) ?_
  exact ⟨rfl, rfl, rfl⟩
 ·replace hm := yes_f hc2 hm
  refine Ky ?_
  refine Km ?_
  refine Kq ?_
  refine Kl ?_
  refine pu ?_
  refine Kh ?_
  obtain ⟨x227, q227, ho227⟩ := Kf hm
  refine KdN (τ := Unit) (Y := Unit) (fun y227 z227 => (⟨[], [], []⟩ : S)) x227 ?_ ?_
  ·clear hm; have hm := KE q227
   refine KL ?_
   obtain ⟨u228, hl228, hq228⟩ := yes_m hm
   refine Kbe (Y := Unit) hl228 (fun s228 z228 => (⟨[(0, .lst 7 (a0.map Ki) .no), (1, .lst 7 (a1.map Ki) .no), (2, .v (.bool a2)), (7, iD s228)], [], []⟩ : S)) ?_ ?_
   ·skip
    exact WkX.of () (WkS.perm (WkS.cons rfl (Wk.refl _) (WkS.cons rfl (Wk.refl _) (WkS.cons rfl (Wk.refl _) (WkS.cons rfl (Wk.refl _) (WkS.nil))))) Pf Pf)
   ·intro G228 s228 z228 hm
    refine Kq ?_
    refine Kl ?_
    refine pu ?_
    refine pu ?_
    refine KaP htab rfl rfl rfl rfl rfl rfl rfl (by first | exact Kaf | rfl) ?_
    refine pu ?_
    refine Kh ?_
    refine Ku rfl (fun hc377 => ?_) (fun hc377 => ?_)
    ·replace hm := yes_t hc377 hm
     refine Ky ?_
     refine Km ?_
     refine Kq ?_
     refine KL ?_
     refine Kq ?_
     obtain ⟨y413, q413, ho413⟩ := Kf hm
     refine K6 (Y := Unit) (fun z413 => (⟨[(0, .lst 7 (a0.map Ki) .no), (1, .lst 7 (a1.map Ki) .no), (2, .v (.bool a2)), (7, iD s228), (116, .v (.bool y413))], [], []⟩ : S)) ?_ ?_
     ·clear hm; have hm := KE q413
      obtain ⟨x414, q414, hm⟩ := Kf hm
      obtain ⟨x415, q415, hm⟩ := Kf hm
      refine bycB (x414.gOp != x415.gOp) (fun hs416 => ?_) (fun hs416 => ?_)
      ·replace hm := yes_t hs416 hm
       refine Kaj 95 [] nlGm1_18 [0,2,3,5,7,8] Kds (by kernel_rfl) (by kernel_rfl) (by kernel_rfl) (by rfl) (by rfl) (by kernel_rfl) ?_
       iterate 6 apply Exists.intro
       intro bs
       refine zep ?_
       refine zqp ?_
       refine z_e rfl rfl (Ex.wk (KG htab rfl rfl rfl rfl rfl rfl rfl (Kr q414) (Kz q414)) (Wk.of_eq (congrArg D.el (Kp x414)))) rfl rfl rfl rfl rfl rfl ?_
       refine zep ?_
       refine z_qM rfl rfl (Kx htab rfl rfl rfl rfl rfl) rfl rfl rfl rfl rfl rfl ?_
       refine zep ?_
       refine zqp ?_
       refine z_e rfl rfl (Ex.wk (KG htab rfl rfl rfl rfl rfl rfl rfl (Kr q415) (Kz q415)) (Wk.of_eq (congrArg D.el (Kp x415)))) rfl rfl rfl rfl rfl rfl ?_
       refine zep ?_
       refine z_qM rfl rfl (Kx htab rfl rfl rfl rfl rfl) rfl rfl rfl rfl rfl rfl ?_
       refine zqp ?_
       refine zqp ?_
       refine K1 (j := 30) (b' := true) rfl hs416 ?_
       iterate 11 refine zK ?_
       refine z_q rfl rfl (Ka1 rfl rfl rfl) rfl rfl rfl rfl rfl rfl ?_
       refine zqp ?_
       iterate 11 refine zK ?_
       refine z_q rfl rfl (Ka1 rfl rfl rfl) rfl rfl rfl rfl rfl rfl ?_
       refine zqp ?_
       iterate 14 refine zK ?_
       refine z_q rfl rfl (Ka1 rfl rfl rfl) rfl rfl rfl rfl rfl rfl ?_
       refine zqp ?_
       iterate 13 refine zK ?_
       refine z_q rfl rfl (Ka1 rfl rfl rfl) rfl rfl rfl rfl rfl rfl ?_
       refine zqp ?_
       iterate 13 refine zK ?_
       refine z_q rfl rfl (Ka1 rfl rfl rfl) rfl rfl rfl rfl rfl rfl ?_
       refine zqp ?_
       iterate 11 refine zK ?_
       refine z_nil rfl rfl (fun e he => by simp [isAl] at he) ?_
       refine pK ?_
       refine pK ?_
       refine KS rfl rfl rfl rfl rfl rfl ?_
       refine KB ?_
       have e413 := Kn hm; subst e413
       refine ⟨rfl, ?_⟩
       exact WkX.of () (WkS.perm (WkS.cons rfl (Wk.refl _) (WkS.cons rfl (Wk.refl _) (WkS.cons rfl (Wk.refl _) (WkS.cons rfl (Wk.refl _) (WkS.cons rfl (Wk.refl _) (WkS.nil)))))) Pf Pf)
      ·replace hm := yes_f hs416 hm
       obtain ⟨x417, q417, hm⟩ := Kf hm
       obtain ⟨x418, q418, hm⟩ := Kf hm
       refine bycB (!decide (x417.gName = x418.gName)) (fun hs419 => ?_) (fun hs419 => ?_)
       ·replace hm := yes_t hs419 hm
        refine Kaj 95 [] nlGm1_20 [0,2,3,5,7,8,12,14,15,17,19,20] Kds (by kernel_rfl) (by kernel_rfl) (by kernel_rfl) (by rfl) (by rfl) (by kernel_rfl) ?_
        iterate 12 apply Exists.intro
        intro bs
        refine zep ?_
        refine zqp ?_
        refine z_e rfl rfl (Ex.wk (KG htab rfl rfl rfl rfl rfl rfl rfl (Kr q414) (Kz q414)) (Wk.of_eq (congrArg D.el (Kp x414)))) rfl rfl rfl rfl rfl rfl ?_
        refine zep ?_
        refine z_qM rfl rfl (Kx htab rfl rfl rfl rfl rfl) rfl rfl rfl rfl rfl rfl ?_
        refine zep ?_
        refine zqp ?_
        refine z_e rfl rfl (Ex.wk (KG htab rfl rfl rfl rfl rfl rfl rfl (Kr q415) (Kz q415)) (Wk.of_eq (congrArg D.el (Kp x415)))) rfl rfl rfl rfl rfl rfl ?_
        refine zep ?_
        refine z_qM rfl rfl (Kx htab rfl rfl rfl rfl rfl) rfl rfl rfl rfl rfl rfl ?_
        refine zqp ?_
        refine zqp ?_
        refine K1 (j := 30) (b' := false) rfl hs416 ?_
        refine zep ?_
        refine zqp ?_
        refine z_e rfl rfl (Ex.wk (KG htab rfl rfl rfl rfl rfl rfl rfl (Kr q417) (Kz q417)) (Wk.of_eq (congrArg D.el (Kp x417)))) rfl rfl rfl rfl rfl rfl ?_
        refine zep ?_
        refine z_qM rfl rfl (Kx htab rfl rfl rfl rfl rfl) rfl rfl rfl rfl rfl rfl ?_
        refine zep ?_
        refine zqp ?_
        refine z_e rfl rfl (Ex.wk (KG htab rfl rfl rfl rfl rfl rfl rfl (Kr q418) (Kz q418)) (Wk.of_eq (congrArg D.el (Kp x418)))) rfl rfl rfl rfl rfl rfl ?_
        refine zep ?_
        refine z_qM rfl rfl (Kx htab rfl rfl rfl rfl rfl) rfl rfl rfl rfl rfl rfl ?_
        refine zqp ?_
        refine z_q rfl rfl (Kai rfl rfl rfl) rfl rfl rfl rfl rfl rfl ?_
        refine zqp ?_
        refine K1 (j := 43) (b' := true) rfl hs419 ?_
        iterate 11 refine zK ?_
        refine z_q rfl rfl (Ka1 rfl rfl rfl) rfl rfl rfl rfl rfl rfl ?_
        refine zqp ?_
        iterate 14 refine zK ?_
        refine z_q rfl rfl (Ka1 rfl rfl rfl) rfl rfl rfl rfl rfl rfl ?_
        refine zqp ?_
        iterate 13 refine zK ?_
        refine z_q rfl rfl (Ka1 rfl rfl rfl) rfl rfl rfl rfl rfl rfl ?_
        refine zqp ?_
        iterate 13 refine zK ?_
        refine z_q rfl rfl (Ka1 rfl rfl rfl) rfl rfl rfl rfl rfl rfl ?_
        refine zqp ?_
        iterate 11 refine zK ?_
        refine z_nil rfl rfl (fun e he => by simp [isAl] at he) ?_
        refine pK ?_
        refine pK ?_
        refine KS rfl rfl rfl rfl rfl rfl ?_
        refine KB ?_
        have e413 := Kn hm; subst e413
        refine ⟨rfl, ?_⟩
        exact WkX.of () (WkS.perm (WkS.cons rfl (Wk.refl _) (WkS.cons rfl (Wk.refl _) (WkS.cons rfl (Wk.refl _) (WkS.cons rfl (Wk.refl _) (WkS.cons rfl (Wk.refl _) (WkS.nil)))))) Pf Pf)
       ·replace hm := yes_f hs419 hm
        obtain ⟨x420, q420, hm⟩ := Kf hm
        obtain ⟨x421, q421, hm⟩ := Kf hm
        refine bycB (!decide (x420.gFunc = x421.gFunc)) (fun hs422 => ?_) (fun hs422 => ?_)
        ·replace hm := yes_t hs422 hm
         refine Kaj 95 [] nlGm1_21 [0,2,3,5,7,8,12,14,15,17,19,20,25,27,28,30,32,33] Kds (by kernel_rfl) (by kernel_rfl) (by kernel_rfl) (by rfl) (by rfl) (by kernel_rfl) ?_
         iterate 18 apply Exists.intro
         intro bs
         refine zep ?_
         refine zqp ?_
         refine z_e rfl rfl (Ex.wk (KG htab rfl rfl rfl rfl rfl rfl rfl (Kr q414) (Kz q414)) (Wk.of_eq (congrArg D.el (Kp x414)))) rfl rfl rfl rfl rfl rfl ?_
         refine zep ?_
         refine z_qM rfl rfl (Kx htab rfl rfl rfl rfl rfl) rfl rfl rfl rfl rfl rfl ?_
         refine zep ?_
         refine zqp ?_
         refine z_e rfl rfl (Ex.wk (KG htab rfl rfl rfl rfl rfl rfl rfl (Kr q415) (Kz q415)) (Wk.of_eq (congrArg D.el (Kp x415)))) rfl rfl rfl rfl rfl rfl ?_
         refine zep ?_
         refine z_qM rfl rfl (Kx htab rfl rfl rfl rfl rfl) rfl rfl rfl rfl rfl rfl ?_
         refine zqp ?_
         refine zqp ?_
         refine K1 (j := 30) (b' := false) rfl hs416 ?_
         refine zep ?_
         refine zqp ?_
         refine z_e rfl rfl (Ex.wk (KG htab rfl rfl rfl rfl rfl rfl rfl (Kr q417) (Kz q417)) (Wk.of_eq (congrArg D.el (Kp x417)))) rfl rfl rfl rfl rfl rfl ?_
         refine zep ?_
         refine z_qM rfl rfl (Kx htab rfl rfl rfl rfl rfl) rfl rfl rfl rfl rfl rfl ?_
         refine zep ?_
         refine zqp ?_
         refine z_e rfl rfl (Ex.wk (KG htab rfl rfl rfl rfl rfl rfl rfl (Kr q418) (Kz q418)) (Wk.of_eq (congrArg D.el (Kp x418)))) rfl rfl rfl rfl rfl rfl ?_
         refine zep ?_
         refine z_qM rfl rfl (Kx htab rfl rfl rfl rfl rfl) rfl rfl rfl rfl rfl rfl ?_
         refine zqp ?_
         refine z_q rfl rfl (Kai rfl rfl rfl) rfl rfl rfl rfl rfl rfl ?_
         refine zqp ?_
         refine K1 (j := 43) (b' := false) rfl hs419 ?_
         refine zep ?_
         refine zqp ?_
         refine z_e rfl rfl (Ex.wk (KG htab rfl rfl rfl rfl rfl rfl rfl (Kr q420) (Kz q420)) (Wk.of_eq (congrArg D.el (Kp x420)))) rfl rfl rfl rfl rfl rfl ?_
         refine zep ?_
         refine z_qM rfl rfl (Kx htab rfl rfl rfl rfl rfl) rfl rfl rfl rfl rfl rfl ?_
         refine zep ?_
         refine zqp ?_
         refine z_e rfl rfl (Ex.wk (KG htab rfl rfl rfl rfl rfl rfl rfl (Kr q421) (Kz q421)) (Wk.of_eq (congrArg D.el (Kp x421)))) rfl rfl rfl rfl rfl rfl ?_
         refine zep ?_
         refine z_qM rfl rfl (Kx htab rfl rfl rfl rfl rfl) rfl rfl rfl rfl rfl rfl ?_
         refine zqp ?_
         refine z_q rfl rfl (Kai rfl rfl rfl) rfl rfl rfl rfl rfl rfl ?_
         refine zqp ?_
         refine K1 (j := 56) (b' := true) rfl hs422 ?_
         iterate 14 refine zK ?_
         refine z_q rfl rfl (Ka1 rfl rfl rfl) rfl rfl rfl rfl rfl rfl ?_
         refine zqp ?_
         iterate 13 refine zK ?_
         refine z_q rfl rfl (Ka1 rfl rfl rfl) rfl rfl rfl rfl rfl rfl ?_
         refine zqp ?_
         iterate 13 refine zK ?_
         refine z_q rfl rfl (Ka1 rfl rfl rfl) rfl rfl rfl rfl rfl rfl ?_
         refine zqp ?_
         iterate 11 refine zK ?_
         refine z_nil rfl rfl (fun e he => by simp [isAl] at he) ?_
         refine pK ?_
         refine pK ?_
         refine KS rfl rfl rfl rfl rfl rfl ?_
         refine KB ?_
         have e413 := Kn hm; subst e413
         refine ⟨rfl, ?_⟩
         exact WkX.of () (WkS.perm (WkS.cons rfl (Wk.refl _) (WkS.cons rfl (Wk.refl _) (WkS.cons rfl (Wk.refl _) (WkS.cons rfl (Wk.refl _) (WkS.cons rfl (Wk.refl _) (WkS.nil)))))) Pf Pf)
        ·replace hm := yes_f hs422 hm
         refine bycB a2 (fun hs423 => ?_) (fun hs423 => ?_)
         ·replace hm := yes_t hs423 hm
          obtain ⟨x424, q424, hm⟩ := Kf hm
          obtain ⟨x425, q425, hm⟩ := Kf hm
          refine bycB (x424.gAt != x425.gAt) (fun hs426 => ?_) (fun hs426 => ?_)
          ·replace hm := yes_t hs426 hm
           refine Kaj 95 [] nlGm1_22 [0,2,3,5,7,8,12,14,15,17,19,20,25,27,28,30,32,33,40,42,43,45,47,48] Kds (by kernel_rfl) (by kernel_rfl) (by kernel_rfl) (by rfl) (by rfl) (by kernel_rfl) ?_
           iterate 24 apply Exists.intro
           intro bs
           refine zep ?_
           refine zqp ?_
           refine z_e rfl rfl (Ex.wk (KG htab rfl rfl rfl rfl rfl rfl rfl (Kr q414) (Kz q414)) (Wk.of_eq (congrArg D.el (Kp x414)))) rfl rfl rfl rfl rfl rfl ?_
           refine zep ?_
           refine z_qM rfl rfl (Kx htab rfl rfl rfl rfl rfl) rfl rfl rfl rfl rfl rfl ?_
           refine zep ?_
           refine zqp ?_
           refine z_e rfl rfl (Ex.wk (KG htab rfl rfl rfl rfl rfl rfl rfl (Kr q415) (Kz q415)) (Wk.of_eq (congrArg D.el (Kp x415)))) rfl rfl rfl rfl rfl rfl ?_
           refine zep ?_
           refine z_qM rfl rfl (Kx htab rfl rfl rfl rfl rfl) rfl rfl rfl rfl rfl rfl ?_
           refine zqp ?_
           refine zqp ?_
           refine K1 (j := 30) (b' := false) rfl hs416 ?_
           refine zep ?_
           refine zqp ?_
           refine z_e rfl rfl (Ex.wk (KG htab rfl rfl rfl rfl rfl rfl rfl (Kr q417) (Kz q417)) (Wk.of_eq (congrArg D.el (Kp x417)))) rfl rfl rfl rfl rfl rfl ?_
           refine zep ?_
           refine z_qM rfl rfl (Kx htab rfl rfl rfl rfl rfl) rfl rfl rfl rfl rfl rfl ?_
           refine zep ?_
           refine zqp ?_
           refine z_e rfl rfl (Ex.wk (KG htab rfl rfl rfl rfl rfl rfl rfl (Kr q418) (Kz q418)) (Wk.of_eq (congrArg D.el (Kp x418)))) rfl rfl rfl rfl rfl rfl ?_
           refine zep ?_
           refine z_qM rfl rfl (Kx htab rfl rfl rfl rfl rfl) rfl rfl rfl rfl rfl rfl ?_
           refine zqp ?_
           refine z_q rfl rfl (Kai rfl rfl rfl) rfl rfl rfl rfl rfl rfl ?_
           refine zqp ?_
           refine K1 (j := 43) (b' := false) rfl hs419 ?_
           refine zep ?_
           refine zqp ?_
           refine z_e rfl rfl (Ex.wk (KG htab rfl rfl rfl rfl rfl rfl rfl (Kr q420) (Kz q420)) (Wk.of_eq (congrArg D.el (Kp x420)))) rfl rfl rfl rfl rfl rfl ?_
           refine zep ?_
           refine z_qM rfl rfl (Kx htab rfl rfl rfl rfl rfl) rfl rfl rfl rfl rfl rfl ?_
           refine zep ?_
           refine zqp ?_
           refine z_e rfl rfl (Ex.wk (KG htab rfl rfl rfl rfl rfl rfl rfl (Kr q421) (Kz q421)) (Wk.of_eq (congrArg D.el (Kp x421)))) rfl rfl rfl rfl rfl rfl ?_
           refine zep ?_
           refine z_qM rfl rfl (Kx htab rfl rfl rfl rfl rfl) rfl rfl rfl rfl rfl rfl ?_
           refine zqp ?_
           refine z_q rfl rfl (Kai rfl rfl rfl) rfl rfl rfl rfl rfl rfl ?_
           refine zqp ?_
           refine K1 (j := 56) (b' := false) rfl hs422 ?_
           refine zqp ?_
           refine zqp ?_
           refine K1 (j := 58) (b' := true) rfl hs423 ?_
           refine zep ?_
           refine zqp ?_
           refine z_e rfl rfl (Ex.wk (KG htab rfl rfl rfl rfl rfl rfl rfl (Kr q424) (Kz q424)) (Wk.of_eq (congrArg D.el (Kp x424)))) rfl rfl rfl rfl rfl rfl ?_
           refine zep ?_
           refine z_qM rfl rfl (Kx htab rfl rfl rfl rfl rfl) rfl rfl rfl rfl rfl rfl ?_
           refine zep ?_
           refine zqp ?_
           refine z_e rfl rfl (Ex.wk (KG htab rfl rfl rfl rfl rfl rfl rfl (Kr q425) (Kz q425)) (Wk.of_eq (congrArg D.el (Kp x425)))) rfl rfl rfl rfl rfl rfl ?_
           refine zep ?_
           refine z_qM rfl rfl (Kx htab rfl rfl rfl rfl rfl) rfl rfl rfl rfl rfl rfl ?_
           refine zqp ?_
           refine z_q rfl rfl (Ka1 rfl rfl rfl) rfl rfl rfl rfl rfl rfl ?_
           refine z_q rfl rfl (Kai rfl rfl rfl) rfl rfl rfl rfl rfl rfl ?_
           refine zqp ?_
           refine K1 (j := 72) (b' := true) rfl hs426 ?_
           iterate 13 refine zK ?_
           refine z_q rfl rfl (Ka1 rfl rfl rfl) rfl rfl rfl rfl rfl rfl ?_
           refine zqp ?_
           iterate 13 refine zK ?_
           refine z_q rfl rfl (Ka1 rfl rfl rfl) rfl rfl rfl rfl rfl rfl ?_
           refine zqp ?_
           iterate 11 refine zK ?_
           refine z_nil rfl rfl (fun e he => by simp [isAl] at he) ?_
           refine pK ?_
           refine pK ?_
           refine KS rfl rfl rfl rfl rfl rfl ?_
           refine KB ?_
           have e413 := Kn hm; subst e413
           refine ⟨rfl, ?_⟩
           exact WkX.of () (WkS.perm (WkS.cons rfl (Wk.refl _) (WkS.cons rfl (Wk.refl _) (WkS.cons rfl (Wk.refl _) (WkS.cons rfl (Wk.refl _) (WkS.cons rfl (Wk.refl _) (WkS.nil)))))) Pf Pf)
          ·replace hm := yes_f hs426 hm
           obtain ⟨x427, q427, hm⟩ := Kf hm
           obtain ⟨x428, q428, hm⟩ := Kf hm
           obtain ⟨x429, q429, hm⟩ := Kf hm
           refine bycB (!x429) (fun hs430 => ?_) (fun hs430 => ?_)
           ·replace hm := yes_t hs430 hm
            refine Kaj 95 [] nlGm1_23 [0,2,3,5,7,8,12,14,15,17,19,20,25,27,28,30,32,33,40,42,43,45,47,48,54,56,57,58,59,61,62,63,65] Kds (by kernel_rfl) (by kernel_rfl) (by kernel_rfl) (by rfl) (by rfl) (by kernel_rfl) ?_
            iterate 33 apply Exists.intro
            intro bs
            refine zep ?_
            refine zqp ?_
            refine z_e rfl rfl (Ex.wk (KG htab rfl rfl rfl rfl rfl rfl rfl (Kr q414) (Kz q414)) (Wk.of_eq (congrArg D.el (Kp x414)))) rfl rfl rfl rfl rfl rfl ?_
            refine zep ?_
            refine z_qM rfl rfl (Kx htab rfl rfl rfl rfl rfl) rfl rfl rfl rfl rfl rfl ?_
            refine zep ?_
            refine zqp ?_
            refine z_e rfl rfl (Ex.wk (KG htab rfl rfl rfl rfl rfl rfl rfl (Kr q415) (Kz q415)) (Wk.of_eq (congrArg D.el (Kp x415)))) rfl rfl rfl rfl rfl rfl ?_
            refine zep ?_
            refine z_qM rfl rfl (Kx htab rfl rfl rfl rfl rfl) rfl rfl rfl rfl rfl rfl ?_
            refine zqp ?_
            refine zqp ?_
            refine K1 (j := 30) (b' := false) rfl hs416 ?_
            refine zep ?_
            refine zqp ?_
            refine z_e rfl rfl (Ex.wk (KG htab rfl rfl rfl rfl rfl rfl rfl (Kr q417) (Kz q417)) (Wk.of_eq (congrArg D.el (Kp x417)))) rfl rfl rfl rfl rfl rfl ?_
            refine zep ?_
            refine z_qM rfl rfl (Kx htab rfl rfl rfl rfl rfl) rfl rfl rfl rfl rfl rfl ?_
            refine zep ?_
            refine zqp ?_
            refine z_e rfl rfl (Ex.wk (KG htab rfl rfl rfl rfl rfl rfl rfl (Kr q418) (Kz q418)) (Wk.of_eq (congrArg D.el (Kp x418)))) rfl rfl rfl rfl rfl rfl ?_
            refine zep ?_
            refine z_qM rfl rfl (Kx htab rfl rfl rfl rfl rfl) rfl rfl rfl rfl rfl rfl ?_
            refine zqp ?_
            refine z_q rfl rfl (Kai rfl rfl rfl) rfl rfl rfl rfl rfl rfl ?_
            refine zqp ?_
            refine K1 (j := 43) (b' := false) rfl hs419 ?_
            refine zep ?_
            refine zqp ?_
            refine z_e rfl rfl (Ex.wk (KG htab rfl rfl rfl rfl rfl rfl rfl (Kr q420) (Kz q420)) (Wk.of_eq (congrArg D.el (Kp x420)))) rfl rfl rfl rfl rfl rfl ?_
            refine zep ?_
            refine z_qM rfl rfl (Kx htab rfl rfl rfl rfl rfl) rfl rfl rfl rfl rfl rfl ?_
            refine zep ?_
            refine zqp ?_
            refine z_e rfl rfl (Ex.wk (KG htab rfl rfl rfl rfl rfl rfl rfl (Kr q421) (Kz q421)) (Wk.of_eq (congrArg D.el (Kp x421)))) rfl rfl rfl rfl rfl rfl ?_
            refine zep ?_
            refine z_qM rfl rfl (Kx htab rfl rfl rfl rfl rfl) rfl rfl rfl rfl rfl rfl ?_
            refine zqp ?_
            refine z_q rfl rfl (Kai rfl rfl rfl) rfl rfl rfl rfl rfl rfl ?_
            refine zqp ?_
            refine K1 (j := 56) (b' := false) rfl hs422 ?_
            refine zqp ?_
            refine zqp ?_
            refine K1 (j := 58) (b' := true) rfl hs423 ?_
            refine zep ?_
            refine zqp ?_
            refine z_e rfl rfl (Ex.wk (KG htab rfl rfl rfl rfl rfl rfl rfl (Kr q424) (Kz q424)) (Wk.of_eq (congrArg D.el (Kp x424)))) rfl rfl rfl rfl rfl rfl ?_
            refine zep ?_
            refine z_qM rfl rfl (Kx htab rfl rfl rfl rfl rfl) rfl rfl rfl rfl rfl rfl ?_
            refine zep ?_
            refine zqp ?_
            refine z_e rfl rfl (Ex.wk (KG htab rfl rfl rfl rfl rfl rfl rfl (Kr q425) (Kz q425)) (Wk.of_eq (congrArg D.el (Kp x425)))) rfl rfl rfl rfl rfl rfl ?_
            refine zep ?_
            refine z_qM rfl rfl (Kx htab rfl rfl rfl rfl rfl) rfl rfl rfl rfl rfl rfl ?_
            refine zqp ?_
            refine z_q rfl rfl (Ka1 rfl rfl rfl) rfl rfl rfl rfl rfl rfl ?_
            refine z_q rfl rfl (Kai rfl rfl rfl) rfl rfl rfl rfl rfl rfl ?_
            refine zqp ?_
            refine K1 (j := 72) (b' := false) rfl hs426 ?_
            refine zep ?_
            refine zqp ?_
            refine z_e rfl rfl (Ex.wk (KG htab rfl rfl rfl rfl rfl rfl rfl (Kr q427) (Kz q427)) (Wk.of_eq (congrArg D.el (Kp x427)))) rfl rfl rfl rfl rfl rfl ?_
            refine zep ?_
            refine z_eM rfl rfl (Kx htab rfl rfl rfl rfl rfl) rfl rfl rfl rfl rfl rfl ?_
            refine zep ?_
            refine zqp ?_
            refine z_e rfl rfl (Ex.wk (KG htab rfl rfl rfl rfl rfl rfl rfl (Kr q428) (Kz q428)) (Wk.of_eq (congrArg D.el (Kp x428)))) rfl rfl rfl rfl rfl rfl ?_
            refine zep ?_
            refine z_eM rfl rfl (Kx htab rfl rfl rfl rfl rfl) rfl rfl rfl rfl rfl rfl ?_
            refine zqp ?_
            refine KdD rfl rfl (Kd2 x427.gExps x428.gExps a2 x429 q429) rfl rfl Wl rfl rfl rfl rfl rfl rfl ?_
            refine zqp ?_
            refine z_q rfl rfl (Kai rfl rfl rfl) rfl rfl rfl rfl rfl rfl ?_
            refine zqp ?_
            refine K1 (j := 87) (b' := true) rfl hs430 ?_
            iterate 13 refine zK ?_
            refine z_q rfl rfl (Ka1 rfl rfl rfl) rfl rfl rfl rfl rfl rfl ?_
            refine zqp ?_
            iterate 11 refine zK ?_
            refine z_nil rfl rfl (fun e he => by simp [isAl] at he) ?_
            refine pK ?_
            refine pK ?_
            refine KS rfl rfl rfl rfl rfl rfl ?_
            refine KB ?_
            have e413 := Kn hm; subst e413
            refine ⟨rfl, ?_⟩
            exact WkX.of () (WkS.perm (WkS.cons rfl (Wk.refl _) (WkS.cons rfl (Wk.refl _) (WkS.cons rfl (Wk.refl _) (WkS.cons rfl (Wk.refl _) (WkS.cons rfl (Wk.refl _) (WkS.nil)))))) Pf Pf)
           ·replace hm := yes_f hs430 hm
            obtain ⟨x431, q431, hm⟩ := Kf hm
            obtain ⟨x432, q432, hm⟩ := Kf hm
            obtain ⟨x433, q433, hm⟩ := Kf hm
            refine bycB (!x433) (fun hs434 => ?_) (fun hs434 => ?_)
            ·replace hm := yes_t hs434 hm
             refine Kaj 95 [] nlGm1_24 [0,2,3,5,7,8,12,14,15,17,19,20,25,27,28,30,32,33,40,42,43,45,47,48,54,56,57,58,59,61,62,63,65,69,71,72,73,74,76,77,78,80] Kds (by kernel_rfl) (by kernel_rfl) (by kernel_rfl) (by rfl) (by rfl) (by kernel_rfl) ?_
             iterate 42 apply Exists.intro
             intro bs
             refine zep ?_
             refine zqp ?_
             refine z_e rfl rfl (Ex.wk (KG htab rfl rfl rfl rfl rfl rfl rfl (Kr q414) (Kz q414)) (Wk.of_eq (congrArg D.el (Kp x414)))) rfl rfl rfl rfl rfl rfl ?_
             refine zep ?_
             refine z_qM rfl rfl (Kx htab rfl rfl rfl rfl rfl) rfl rfl rfl rfl rfl rfl ?_
             refine zep ?_
             refine zqp ?_
             refine z_e rfl rfl (Ex.wk (KG htab rfl rfl rfl rfl rfl rfl rfl (Kr q415) (Kz q415)) (Wk.of_eq (congrArg D.el (Kp x415)))) rfl rfl rfl rfl rfl rfl ?_
             refine zep ?_
             refine z_qM rfl rfl (Kx htab rfl rfl rfl rfl rfl) rfl rfl rfl rfl rfl rfl ?_
             refine zqp ?_
             refine zqp ?_
             refine K1 (j := 30) (b' := false) rfl hs416 ?_
             refine zep ?_
             refine zqp ?_
             refine z_e rfl rfl (Ex.wk (KG htab rfl rfl rfl rfl rfl rfl rfl (Kr q417) (Kz q417)) (Wk.of_eq (congrArg D.el (Kp x417)))) rfl rfl rfl rfl rfl rfl ?_
             refine zep ?_
             refine z_qM rfl rfl (Kx htab rfl rfl rfl rfl rfl) rfl rfl rfl rfl rfl rfl ?_
             refine zep ?_
             refine zqp ?_
             refine z_e rfl rfl (Ex.wk (KG htab rfl rfl rfl rfl rfl rfl rfl (Kr q418) (Kz q418)) (Wk.of_eq (congrArg D.el (Kp x418)))) rfl rfl rfl rfl rfl rfl ?_
             refine zep ?_
             refine z_qM rfl rfl (Kx htab rfl rfl rfl rfl rfl) rfl rfl rfl rfl rfl rfl ?_
             refine zqp ?_
             refine z_q rfl rfl (Kai rfl rfl rfl) rfl rfl rfl rfl rfl rfl ?_
             refine zqp ?_
             refine K1 (j := 43) (b' := false) rfl hs419 ?_
             refine zep ?_
             refine zqp ?_
             refine z_e rfl rfl (Ex.wk (KG htab rfl rfl rfl rfl rfl rfl rfl (Kr q420) (Kz q420)) (Wk.of_eq (congrArg D.el (Kp x420)))) rfl rfl rfl rfl rfl rfl ?_
             refine zep ?_
             refine z_qM rfl rfl (Kx htab rfl rfl rfl rfl rfl) rfl rfl rfl rfl rfl rfl ?_
             refine zep ?_
             refine zqp ?_
             refine z_e rfl rfl (Ex.wk (KG htab rfl rfl rfl rfl rfl rfl rfl (Kr q421) (Kz q421)) (Wk.of_eq (congrArg D.el (Kp x421)))) rfl rfl rfl rfl rfl rfl ?_
             refine zep ?_
             refine z_qM rfl rfl (Kx htab rfl rfl rfl rfl rfl) rfl rfl rfl rfl rfl rfl ?_
             refine zqp ?_
             refine z_q rfl rfl (Kai rfl rfl rfl) rfl rfl rfl rfl rfl rfl ?_
             refine zqp ?_
             refine K1 (j := 56) (b' := false) rfl hs422 ?_
             refine zqp ?_
             refine zqp ?_
             refine K1 (j := 58) (b' := true) rfl hs423 ?_
             refine zep ?_
             refine zqp ?_
             refine z_e rfl rfl (Ex.wk (KG htab rfl rfl rfl rfl rfl rfl rfl (Kr q424) (Kz q424)) (Wk.of_eq (congrArg D.el (Kp x424)))) rfl rfl rfl rfl rfl rfl ?_
             refine zep ?_
             refine z_qM rfl rfl (Kx htab rfl rfl rfl rfl rfl) rfl rfl rfl rfl rfl rfl ?_
             refine zep ?_
             refine zqp ?_
             refine z_e rfl rfl (Ex.wk (KG htab rfl rfl rfl rfl rfl rfl rfl (Kr q425) (Kz q425)) (Wk.of_eq (congrArg D.el (Kp x425)))) rfl rfl rfl rfl rfl rfl ?_
             refine zep ?_
             refine z_qM rfl rfl (Kx htab rfl rfl rfl rfl rfl) rfl rfl rfl rfl rfl rfl ?_
             refine zqp ?_
             refine z_q rfl rfl (Ka1 rfl rfl rfl) rfl rfl rfl rfl rfl rfl ?_
             refine z_q rfl rfl (Kai rfl rfl rfl) rfl rfl rfl rfl rfl rfl ?_
             refine zqp ?_
             refine K1 (j := 72) (b' := false) rfl hs426 ?_
             refine zep ?_
             refine zqp ?_
             refine z_e rfl rfl (Ex.wk (KG htab rfl rfl rfl rfl rfl rfl rfl (Kr q427) (Kz q427)) (Wk.of_eq (congrArg D.el (Kp x427)))) rfl rfl rfl rfl rfl rfl ?_
             refine zep ?_
             refine z_eM rfl rfl (Kx htab rfl rfl rfl rfl rfl) rfl rfl rfl rfl rfl rfl ?_
             refine zep ?_
             refine zqp ?_
             refine z_e rfl rfl (Ex.wk (KG htab rfl rfl rfl rfl rfl rfl rfl (Kr q428) (Kz q428)) (Wk.of_eq (congrArg D.el (Kp x428)))) rfl rfl rfl rfl rfl rfl ?_
             refine zep ?_
             refine z_eM rfl rfl (Kx htab rfl rfl rfl rfl rfl) rfl rfl rfl rfl rfl rfl ?_
             refine zqp ?_
             refine KdD rfl rfl (Kd2 x427.gExps x428.gExps a2 x429 q429) rfl rfl Wl rfl rfl rfl rfl rfl rfl ?_
             refine zqp ?_
             refine z_q rfl rfl (Kai rfl rfl rfl) rfl rfl rfl rfl rfl rfl ?_
             refine zqp ?_
             refine K1 (j := 87) (b' := false) rfl hs430 ?_
             refine zep ?_
             refine zqp ?_
             refine z_e rfl rfl (Ex.wk (KG htab rfl rfl rfl rfl rfl rfl rfl (Kr q431) (Kz q431)) (Wk.of_eq (congrArg D.el (Kp x431)))) rfl rfl rfl rfl rfl rfl ?_
             refine zep ?_
             refine z_eM rfl rfl (Kx htab rfl rfl rfl rfl rfl) rfl rfl rfl rfl rfl rfl ?_
             refine zep ?_
             refine zqp ?_
             refine z_e rfl rfl (Ex.wk (KG htab rfl rfl rfl rfl rfl rfl rfl (Kr q432) (Kz q432)) (Wk.of_eq (congrArg D.el (Kp x432)))) rfl rfl rfl rfl rfl rfl ?_
             refine zep ?_
             refine z_eM rfl rfl (Kx htab rfl rfl rfl rfl rfl) rfl rfl rfl rfl rfl rfl ?_
             refine zqp ?_
             refine KdD rfl rfl (hg0 x431.gKids x432.gKids a2 x433 q433) rfl rfl Wl rfl rfl rfl rfl rfl rfl ?_
             refine zqp ?_
             refine z_q rfl rfl (Kai rfl rfl rfl) rfl rfl rfl rfl rfl rfl ?_
             refine zqp ?_
             refine K1 (j := 102) (b' := true) rfl hs434 ?_
             iterate 11 refine zK ?_
             refine z_nil rfl rfl (fun e he => by simp [isAl] at he) ?_
             refine pK ?_
             refine pK ?_
             refine KS rfl rfl rfl rfl rfl rfl ?_
             refine KB ?_
             have e413 := Kn hm; subst e413
             refine ⟨rfl, ?_⟩
             exact WkX.of () (WkS.perm (WkS.cons rfl (Wk.refl _) (WkS.cons rfl (Wk.refl _) (WkS.cons rfl (Wk.refl _) (WkS.cons rfl (Wk.refl _) (WkS.cons rfl (Wk.refl _) (WkS.nil)))))) Pf Pf)
            ·replace hm := yes_f hs434 hm
             obtain ⟨x435, q435, hm⟩ := Kf hm
             obtain ⟨x436, q436, hm⟩ := Kf hm
             refine Kaj 95 [] nlGm1_25 [0,2,3,5,7,8,12,14,15,17,19,20,25,27,28,30,32,33,40,42,43,45,47,48,54,56,57,58,59,61,62,63,65,69,71,72,73,74,76,77,78,80,84,86,87,88,89,91,92,93] Kds (by kernel_rfl) (by kernel_rfl) (by kernel_rfl) (by rfl) (by rfl) (by kernel_rfl) ?_
             iterate 50 apply Exists.intro
             intro bs
             refine zep ?_
             refine zqp ?_
             refine z_e rfl rfl (Ex.wk (KG htab rfl rfl rfl rfl rfl rfl rfl (Kr q414) (Kz q414)) (Wk.of_eq (congrArg D.el (Kp x414)))) rfl rfl rfl rfl rfl rfl ?_
             refine zep ?_
             refine z_qM rfl rfl (Kx htab rfl rfl rfl rfl rfl) rfl rfl rfl rfl rfl rfl ?_
             refine zep ?_
             refine zqp ?_
             refine z_e rfl rfl (Ex.wk (KG htab rfl rfl rfl rfl rfl rfl rfl (Kr q415) (Kz q415)) (Wk.of_eq (congrArg D.el (Kp x415)))) rfl rfl rfl rfl rfl rfl ?_
             refine zep ?_
             refine z_qM rfl rfl (Kx htab rfl rfl rfl rfl rfl) rfl rfl rfl rfl rfl rfl ?_
             refine zqp ?_
             refine zqp ?_
             refine K1 (j := 30) (b' := false) rfl hs416 ?_
             refine zep ?_
             refine zqp ?_
             refine z_e rfl rfl (Ex.wk (KG htab rfl rfl rfl rfl rfl rfl rfl (Kr q417) (Kz q417)) (Wk.of_eq (congrArg D.el (Kp x417)))) rfl rfl rfl rfl rfl rfl ?_
             refine zep ?_
             refine z_qM rfl rfl (Kx htab rfl rfl rfl rfl rfl) rfl rfl rfl rfl rfl rfl ?_
             refine zep ?_
             refine zqp ?_
             refine z_e rfl rfl (Ex.wk (KG htab rfl rfl rfl rfl rfl rfl rfl (Kr q418) (Kz q418)) (Wk.of_eq (congrArg D.el (Kp x418)))) rfl rfl rfl rfl rfl rfl ?_
             refine zep ?_
             refine z_qM rfl rfl (Kx htab rfl rfl rfl rfl rfl) rfl rfl rfl rfl rfl rfl ?_
             refine zqp ?_
             refine z_q rfl rfl (Kai rfl rfl rfl) rfl rfl rfl rfl rfl rfl ?_
             refine zqp ?_
             refine K1 (j := 43) (b' := false) rfl hs419 ?_
             refine zep ?_
             refine zqp ?_
             refine z_e rfl rfl (Ex.wk (KG htab rfl rfl rfl rfl rfl rfl rfl (Kr q420) (Kz q420)) (Wk.of_eq (congrArg D.el (Kp x420)))) rfl rfl rfl rfl rfl rfl ?_
             refine zep ?_
             refine z_qM rfl rfl (Kx htab rfl rfl rfl rfl rfl) rfl rfl rfl rfl rfl rfl ?_
             refine zep ?_
             refine zqp ?_
             refine z_e rfl rfl (Ex.wk (KG htab rfl rfl rfl rfl rfl rfl rfl (Kr q421) (Kz q421)) (Wk.of_eq (congrArg D.el (Kp x421)))) rfl rfl rfl rfl rfl rfl ?_
             refine zep ?_
             refine z_qM rfl rfl (Kx htab rfl rfl rfl rfl rfl) rfl rfl rfl rfl rfl rfl ?_
             refine zqp ?_
             refine z_q rfl rfl (Kai rfl rfl rfl) rfl rfl rfl rfl rfl rfl ?_
             refine zqp ?_
             refine K1 (j := 56) (b' := false) rfl hs422 ?_
             refine zqp ?_
             refine zqp ?_
             refine K1 (j := 58) (b' := true) rfl hs423 ?_
             refine zep ?_
             refine zqp ?_
             refine z_e rfl rfl (Ex.wk (KG htab rfl rfl rfl rfl rfl rfl rfl (Kr q424) (Kz q424)) (Wk.of_eq (congrArg D.el (Kp x424)))) rfl rfl rfl rfl rfl rfl ?_
             refine zep ?_
             refine z_qM rfl rfl (Kx htab rfl rfl rfl rfl rfl) rfl rfl rfl rfl rfl rfl ?_
             refine zep ?_
             refine zqp ?_
             refine z_e rfl rfl (Ex.wk (KG htab rfl rfl rfl rfl rfl rfl rfl (Kr q425) (Kz q425)) (Wk.of_eq (congrArg D.el (Kp x425)))) rfl rfl rfl rfl rfl rfl ?_
             refine zep ?_
             refine z_qM rfl rfl (Kx htab rfl rfl rfl rfl rfl) rfl rfl rfl rfl rfl rfl ?_
             refine zqp ?_
             refine z_q rfl rfl (Ka1 rfl rfl rfl) rfl rfl rfl rfl rfl rfl ?_
             refine z_q rfl rfl (Kai rfl rfl rfl) rfl rfl rfl rfl rfl rfl ?_
             refine zqp ?_
             refine K1 (j := 72) (b' := false) rfl hs426 ?_
             refine zep ?_
             refine zqp ?_
             refine z_e rfl rfl (Ex.wk (KG htab rfl rfl rfl rfl rfl rfl rfl (Kr q427) (Kz q427)) (Wk.of_eq (congrArg D.el (Kp x427)))) rfl rfl rfl rfl rfl rfl ?_
             refine zep ?_
             refine z_eM rfl rfl (Kx htab rfl rfl rfl rfl rfl) rfl rfl rfl rfl rfl rfl ?_
             refine zep ?_
             refine zqp ?_
             refine z_e rfl rfl (Ex.wk (KG htab rfl rfl rfl rfl rfl rfl rfl (Kr q428) (Kz q428)) (Wk.of_eq (congrArg D.el (Kp x428)))) rfl rfl rfl rfl rfl rfl ?_
             refine zep ?_
             refine z_eM rfl rfl (Kx htab rfl rfl rfl rfl rfl) rfl rfl rfl rfl rfl rfl ?_
             refine zqp ?_
             refine KdD rfl rfl (Kd2 x427.gExps x428.gExps a2 x429 q429) rfl rfl Wl rfl rfl rfl rfl rfl rfl ?_
             refine zqp ?_
             refine z_q rfl rfl (Kai rfl rfl rfl) rfl rfl rfl rfl rfl rfl ?_
             refine zqp ?_
             refine K1 (j := 87) (b' := false) rfl hs430 ?_
             refine zep ?_
             refine zqp ?_
             refine z_e rfl rfl (Ex.wk (KG htab rfl rfl rfl rfl rfl rfl rfl (Kr q431) (Kz q431)) (Wk.of_eq (congrArg D.el (Kp x431)))) rfl rfl rfl rfl rfl rfl ?_
             refine zep ?_
             refine z_eM rfl rfl (Kx htab rfl rfl rfl rfl rfl) rfl rfl rfl rfl rfl rfl ?_
             refine zep ?_
             refine zqp ?_
             refine z_e rfl rfl (Ex.wk (KG htab rfl rfl rfl rfl rfl rfl rfl (Kr q432) (Kz q432)) (Wk.of_eq (congrArg D.el (Kp x432)))) rfl rfl rfl rfl rfl rfl ?_
             refine zep ?_
             refine z_eM rfl rfl (Kx htab rfl rfl rfl rfl rfl) rfl rfl rfl rfl rfl rfl ?_
             refine zqp ?_
             refine KdD rfl rfl (hg0 x431.gKids x432.gKids a2 x433 q433) rfl rfl Wl rfl rfl rfl rfl rfl rfl ?_
             refine zqp ?_
             refine z_q rfl rfl (Kai rfl rfl rfl) rfl rfl rfl rfl rfl rfl ?_
             refine zqp ?_
             refine K1 (j := 102) (b' := false) rfl hs434 ?_
             refine zep ?_
             refine zqp ?_
             refine z_e rfl rfl (Ex.wk (KG htab rfl rfl rfl rfl rfl rfl rfl (Kr q435) (Kz q435)) (Wk.of_eq (congrArg D.el (Kp x435)))) rfl rfl rfl rfl rfl rfl ?_
             refine zep ?_
             refine z_eM rfl rfl (Kx htab rfl rfl rfl rfl rfl) rfl rfl rfl rfl rfl rfl ?_
             refine zep ?_
             refine zqp ?_
             refine z_e rfl rfl (Ex.wk (KG htab rfl rfl rfl rfl rfl rfl rfl (Kr q436) (Kz q436)) (Wk.of_eq (congrArg D.el (Kp x436)))) rfl rfl rfl rfl rfl rfl ?_
             refine zep ?_
             refine z_eM rfl rfl (Kx htab rfl rfl rfl rfl rfl) rfl rfl rfl rfl rfl rfl ?_
             refine zqp ?_
             refine z_nil rfl rfl (fun e he => by simp [isAl] at he) ?_
             obtain ⟨x437, q437, hm⟩ := Kf hm
             refine KaJ (hg0 x435.gElse x436.gElse a2 x437 q437) rfl rfl rfl rfl rfl Wl ?_
             rintro _ rfl
             refine pu ?_
             refine KH rfl rfl rfl rfl rfl rfl ?_
             refine KB ?_
             have e413 := Kn hm; subst e413
             refine ⟨rfl, ?_⟩
             exact WkX.of () (WkS.perm (WkS.cons rfl (Wk.refl _) (WkS.cons rfl (Wk.refl _) (WkS.cons rfl (Wk.refl _) (WkS.cons rfl (Wk.refl _) (WkS.cons rfl (Wk.refl _) (WkS.nil)))))) Pf Pf)
         ·replace hm := yes_f hs423 hm
          obtain ⟨x438, q438, hm⟩ := Kf hm
          obtain ⟨x439, q439, hm⟩ := Kf hm
          obtain ⟨x440, q440, hm⟩ := Kf hm
          refine bycB (!x440) (fun hs441 => ?_) (fun hs441 => ?_)
          ·replace hm := yes_t hs441 hm
           refine Kaj 95 [] nlGm1_26 [0,2,3,5,7,8,12,14,15,17,19,20,25,27,28,30,32,33,54,56,57,58,59,61,62,63,65] Kds (by kernel_rfl) (by kernel_rfl) (by kernel_rfl) (by rfl) (by rfl) (by kernel_rfl) ?_
           iterate 27 apply Exists.intro
           intro bs
           refine zep ?_
           refine zqp ?_
           refine z_e rfl rfl (Ex.wk (KG htab rfl rfl rfl rfl rfl rfl rfl (Kr q414) (Kz q414)) (Wk.of_eq (congrArg D.el (Kp x414)))) rfl rfl rfl rfl rfl rfl ?_
           refine zep ?_
           refine z_qM rfl rfl (Kx htab rfl rfl rfl rfl rfl) rfl rfl rfl rfl rfl rfl ?_
           refine zep ?_
           refine zqp ?_
           refine z_e rfl rfl (Ex.wk (KG htab rfl rfl rfl rfl rfl rfl rfl (Kr q415) (Kz q415)) (Wk.of_eq (congrArg D.el (Kp x415)))) rfl rfl rfl rfl rfl rfl ?_
           refine zep ?_
           refine z_qM rfl rfl (Kx htab rfl rfl rfl rfl rfl) rfl rfl rfl rfl rfl rfl ?_
           refine zqp ?_
           refine zqp ?_
           refine K1 (j := 30) (b' := false) rfl hs416 ?_
           refine zep ?_
           refine zqp ?_
           refine z_e rfl rfl (Ex.wk (KG htab rfl rfl rfl rfl rfl rfl rfl (Kr q417) (Kz q417)) (Wk.of_eq (congrArg D.el (Kp x417)))) rfl rfl rfl rfl rfl rfl ?_
           refine zep ?_
           refine z_qM rfl rfl (Kx htab rfl rfl rfl rfl rfl) rfl rfl rfl rfl rfl rfl ?_
           refine zep ?_
           refine zqp ?_
           refine z_e rfl rfl (Ex.wk (KG htab rfl rfl rfl rfl rfl rfl rfl (Kr q418) (Kz q418)) (Wk.of_eq (congrArg D.el (Kp x418)))) rfl rfl rfl rfl rfl rfl ?_
           refine zep ?_
           refine z_qM rfl rfl (Kx htab rfl rfl rfl rfl rfl) rfl rfl rfl rfl rfl rfl ?_
           refine zqp ?_
           refine z_q rfl rfl (Kai rfl rfl rfl) rfl rfl rfl rfl rfl rfl ?_
           refine zqp ?_
           refine K1 (j := 43) (b' := false) rfl hs419 ?_
           refine zep ?_
           refine zqp ?_
           refine z_e rfl rfl (Ex.wk (KG htab rfl rfl rfl rfl rfl rfl rfl (Kr q420) (Kz q420)) (Wk.of_eq (congrArg D.el (Kp x420)))) rfl rfl rfl rfl rfl rfl ?_
           refine zep ?_
           refine z_qM rfl rfl (Kx htab rfl rfl rfl rfl rfl) rfl rfl rfl rfl rfl rfl ?_
           refine zep ?_
           refine zqp ?_
           refine z_e rfl rfl (Ex.wk (KG htab rfl rfl rfl rfl rfl rfl rfl (Kr q421) (Kz q421)) (Wk.of_eq (congrArg D.el (Kp x421)))) rfl rfl rfl rfl rfl rfl ?_
           refine zep ?_
           refine z_qM rfl rfl (Kx htab rfl rfl rfl rfl rfl) rfl rfl rfl rfl rfl rfl ?_
           refine zqp ?_
           refine z_q rfl rfl (Kai rfl rfl rfl) rfl rfl rfl rfl rfl rfl ?_
           refine zqp ?_
           refine K1 (j := 56) (b' := false) rfl hs422 ?_
           refine zqp ?_
           refine zqp ?_
           refine K1 (j := 58) (b' := false) rfl hs423 ?_
           iterate 11 refine zK ?_
           refine z_q rfl rfl (Kai rfl rfl rfl) rfl rfl rfl rfl rfl rfl ?_
           refine z_q rfl rfl (Kai rfl rfl rfl) rfl rfl rfl rfl rfl rfl ?_
           refine zqp ?_
           refine zep ?_
           refine zqp ?_
           refine z_e rfl rfl (Ex.wk (KG htab rfl rfl rfl rfl rfl rfl rfl (Kr q438) (Kz q438)) (Wk.of_eq (congrArg D.el (Kp x438)))) rfl rfl rfl rfl rfl rfl ?_
           refine zep ?_
           refine z_eM rfl rfl (Kx htab rfl rfl rfl rfl rfl) rfl rfl rfl rfl rfl rfl ?_
           refine zep ?_
           refine zqp ?_
           refine z_e rfl rfl (Ex.wk (KG htab rfl rfl rfl rfl rfl rfl rfl (Kr q439) (Kz q439)) (Wk.of_eq (congrArg D.el (Kp x439)))) rfl rfl rfl rfl rfl rfl ?_
           refine zep ?_
           refine z_eM rfl rfl (Kx htab rfl rfl rfl rfl rfl) rfl rfl rfl rfl rfl rfl ?_
           refine zqp ?_
           refine KdD rfl rfl (Kd2 x438.gExps x439.gExps a2 x440 q440) rfl rfl Wl rfl rfl rfl rfl rfl rfl ?_
           refine zqp ?_
           refine z_q rfl rfl (Kai rfl rfl rfl) rfl rfl rfl rfl rfl rfl ?_
           refine zqp ?_
           refine K1 (j := 87) (b' := true) rfl hs441 ?_
           iterate 13 refine zK ?_
           refine z_q rfl rfl (Ka1 rfl rfl rfl) rfl rfl rfl rfl rfl rfl ?_
           refine zqp ?_
           iterate 11 refine zK ?_
           refine z_nil rfl rfl (fun e he => by simp [isAl] at he) ?_
           refine pK ?_
           refine pK ?_
           refine KS rfl rfl rfl rfl rfl rfl ?_
           refine KB ?_
           have e413 := Kn hm; subst e413
           refine ⟨rfl, ?_⟩
           exact WkX.of () (WkS.perm (WkS.cons rfl (Wk.refl _) (WkS.cons rfl (Wk.refl _) (WkS.cons rfl (Wk.refl _) (WkS.cons rfl (Wk.refl _) (WkS.cons rfl (Wk.refl _) (WkS.nil)))))) Pf Pf)
          ·replace hm := yes_f hs441 hm
           obtain ⟨x442, q442, hm⟩ := Kf hm
           obtain ⟨x443, q443, hm⟩ := Kf hm
           obtain ⟨x444, q444, hm⟩ := Kf hm
           refine bycB (!x444) (fun hs445 => ?_) (fun hs445 => ?_)
           ·replace hm := yes_t hs445 hm
            refine Kaj 95 [] nlGm1_27 [0,2,3,5,7,8,12,14,15,17,19,20,25,27,28,30,32,33,54,56,57,58,59,61,62,63,65,69,71,72,73,74,76,77,78,80] Kds (by kernel_rfl) (by kernel_rfl) (by kernel_rfl) (by rfl) (by rfl) (by kernel_rfl) ?_
            iterate 36 apply Exists.intro
            intro bs
            refine zep ?_
            refine zqp ?_
            refine z_e rfl rfl (Ex.wk (KG htab rfl rfl rfl rfl rfl rfl rfl (Kr q414) (Kz q414)) (Wk.of_eq (congrArg D.el (Kp x414)))) rfl rfl rfl rfl rfl rfl ?_
            refine zep ?_
            refine z_qM rfl rfl (Kx htab rfl rfl rfl rfl rfl) rfl rfl rfl rfl rfl rfl ?_
            refine zep ?_
            refine zqp ?_
            refine z_e rfl rfl (Ex.wk (KG htab rfl rfl rfl rfl rfl rfl rfl (Kr q415) (Kz q415)) (Wk.of_eq (congrArg D.el (Kp x415)))) rfl rfl rfl rfl rfl rfl ?_
            refine zep ?_
            refine z_qM rfl rfl (Kx htab rfl rfl rfl rfl rfl) rfl rfl rfl rfl rfl rfl ?_
            refine zqp ?_
            refine zqp ?_
            refine K1 (j := 30) (b' := false) rfl hs416 ?_
            refine zep ?_
            refine zqp ?_
            refine z_e rfl rfl (Ex.wk (KG htab rfl rfl rfl rfl rfl rfl rfl (Kr q417) (Kz q417)) (Wk.of_eq (congrArg D.el (Kp x417)))) rfl rfl rfl rfl rfl rfl ?_
            refine zep ?_
            refine z_qM rfl rfl (Kx htab rfl rfl rfl rfl rfl) rfl rfl rfl rfl rfl rfl ?_
            refine zep ?_
            refine zqp ?_
            refine z_e rfl rfl (Ex.wk (KG htab rfl rfl rfl rfl rfl rfl rfl (Kr q418) (Kz q418)) (Wk.of_eq (congrArg D.el (Kp x418)))) rfl rfl rfl rfl rfl rfl ?_
            refine zep ?_
            refine z_qM rfl rfl (Kx htab rfl rfl rfl rfl rfl) rfl rfl rfl rfl rfl rfl ?_
            refine zqp ?_
            refine z_q rfl rfl (Kai rfl rfl rfl) rfl rfl rfl rfl rfl rfl ?_
            refine zqp ?_
            refine K1 (j := 43) (b' := false) rfl hs419 ?_
            refine zep ?_
            refine zqp ?_
            refine z_e rfl rfl (Ex.wk (KG htab rfl rfl rfl rfl rfl rfl rfl (Kr q420) (Kz q420)) (Wk.of_eq (congrArg D.el (Kp x420)))) rfl rfl rfl rfl rfl rfl ?_
            refine zep ?_
            refine z_qM rfl rfl (Kx htab rfl rfl rfl rfl rfl) rfl rfl rfl rfl rfl rfl ?_
            refine zep ?_
            refine zqp ?_
            refine z_e rfl rfl (Ex.wk (KG htab rfl rfl rfl rfl rfl rfl rfl (Kr q421) (Kz q421)) (Wk.of_eq (congrArg D.el (Kp x421)))) rfl rfl rfl rfl rfl rfl ?_
            refine zep ?_
            refine z_qM rfl rfl (Kx htab rfl rfl rfl rfl rfl) rfl rfl rfl rfl rfl rfl ?_
            refine zqp ?_
            refine z_q rfl rfl (Kai rfl rfl rfl) rfl rfl rfl rfl rfl rfl ?_
            refine zqp ?_
            refine K1 (j := 56) (b' := false) rfl hs422 ?_
            refine zqp ?_
            refine zqp ?_
            refine K1 (j := 58) (b' := false) rfl hs423 ?_
            iterate 11 refine zK ?_
            refine z_q rfl rfl (Kai rfl rfl rfl) rfl rfl rfl rfl rfl rfl ?_
            refine z_q rfl rfl (Kai rfl rfl rfl) rfl rfl rfl rfl rfl rfl ?_
            refine zqp ?_
            refine zep ?_
            refine zqp ?_
            refine z_e rfl rfl (Ex.wk (KG htab rfl rfl rfl rfl rfl rfl rfl (Kr q438) (Kz q438)) (Wk.of_eq (congrArg D.el (Kp x438)))) rfl rfl rfl rfl rfl rfl ?_
            refine zep ?_
            refine z_eM rfl rfl (Kx htab rfl rfl rfl rfl rfl) rfl rfl rfl rfl rfl rfl ?_
            refine zep ?_
            refine zqp ?_
            refine z_e rfl rfl (Ex.wk (KG htab rfl rfl rfl rfl rfl rfl rfl (Kr q439) (Kz q439)) (Wk.of_eq (congrArg D.el (Kp x439)))) rfl rfl rfl rfl rfl rfl ?_
            refine zep ?_
            refine z_eM rfl rfl (Kx htab rfl rfl rfl rfl rfl) rfl rfl rfl rfl rfl rfl ?_
            refine zqp ?_
            refine KdD rfl rfl (Kd2 x438.gExps x439.gExps a2 x440 q440) rfl rfl Wl rfl rfl rfl rfl rfl rfl ?_
            refine zqp ?_
            refine z_q rfl rfl (Kai rfl rfl rfl) rfl rfl rfl rfl rfl rfl ?_
            refine zqp ?_
            refine K1 (j := 87) (b' := false) rfl hs441 ?_
            refine zep ?_
            refine zqp ?_
            refine z_e rfl rfl (Ex.wk (KG htab rfl rfl rfl rfl rfl rfl rfl (Kr q442) (Kz q442)) (Wk.of_eq (congrArg D.el (Kp x442)))) rfl rfl rfl rfl rfl rfl ?_
            refine zep ?_
            refine z_eM rfl rfl (Kx htab rfl rfl rfl rfl rfl) rfl rfl rfl rfl rfl rfl ?_
            refine zep ?_
            refine zqp ?_
            refine z_e rfl rfl (Ex.wk (KG htab rfl rfl rfl rfl rfl rfl rfl (Kr q443) (Kz q443)) (Wk.of_eq (congrArg D.el (Kp x443)))) rfl rfl rfl rfl rfl rfl ?_
            refine zep ?_
            refine z_eM rfl rfl (Kx htab rfl rfl rfl rfl rfl) rfl rfl rfl rfl rfl rfl ?_
            refine zqp ?_
            refine KdD rfl rfl (hg0 x442.gKids x443.gKids a2 x444 q444) rfl rfl Wl rfl rfl rfl rfl rfl rfl ?_
            refine zqp ?_
            refine z_q rfl rfl (Kai rfl rfl rfl) rfl rfl rfl rfl rfl rfl ?_
            refine zqp ?_
            refine K1 (j := 102) (b' := true) rfl hs445 ?_
            iterate 11 refine zK ?_
            refine z_nil rfl rfl (fun e he => by simp [isAl] at he) ?_
            refine pK ?_
            refine pK ?_
            refine KS rfl rfl rfl rfl rfl rfl ?_
            refine KB ?_
            have e413 := Kn hm; subst e413
            refine ⟨rfl, ?_⟩
            exact WkX.of () (WkS.perm (WkS.cons rfl (Wk.refl _) (WkS.cons rfl (Wk.refl _) (WkS.cons rfl (Wk.refl _) (WkS.cons rfl (Wk.refl _) (WkS.cons rfl (Wk.refl _) (WkS.nil)))))) Pf Pf)
           ·replace hm := yes_f hs445 hm
            obtain ⟨x446, q446, hm⟩ := Kf hm
            obtain ⟨x447, q447, hm⟩ := Kf hm
            refine Kaj 95 [] nlGm1_28 [0,2,3,5,7,8,12,14,15,17,19,20,25,27,28,30,32,33,54,56,57,58,59,61,62,63,65,69,71,72,73,74,76,77,78,80,84,86,87,88,89,91,92,93] Kds (by kernel_rfl) (by kernel_rfl) (by kernel_rfl) (by rfl) (by rfl) (by kernel_rfl) ?_
            iterate 44 apply Exists.intro
            intro bs
            refine zep ?_
            refine zqp ?_
            refine z_e rfl rfl (Ex.wk (KG htab rfl rfl rfl rfl rfl rfl rfl (Kr q414) (Kz q414)) (Wk.of_eq (congrArg D.el (Kp x414)))) rfl rfl rfl rfl rfl rfl ?_
            refine zep ?_
            refine z_qM rfl rfl (Kx htab rfl rfl rfl rfl rfl) rfl rfl rfl rfl rfl rfl ?_
            refine zep ?_
            refine zqp ?_
            refine z_e rfl rfl (Ex.wk (KG htab rfl rfl rfl rfl rfl rfl rfl (Kr q415) (Kz q415)) (Wk.of_eq (congrArg D.el (Kp x415)))) rfl rfl rfl rfl rfl rfl ?_
            refine zep ?_
            refine z_qM rfl rfl (Kx htab rfl rfl rfl rfl rfl) rfl rfl rfl rfl rfl rfl ?_
            refine zqp ?_
            refine zqp ?_
            refine K1 (j := 30) (b' := false) rfl hs416 ?_
            refine zep ?_
            refine zqp ?_
            refine z_e rfl rfl (Ex.wk (KG htab rfl rfl rfl rfl rfl rfl rfl (Kr q417) (Kz q417)) (Wk.of_eq (congrArg D.el (Kp x417)))) rfl rfl rfl rfl rfl rfl ?_
            refine zep ?_
            refine z_qM rfl rfl (Kx htab rfl rfl rfl rfl rfl) rfl rfl rfl rfl rfl rfl ?_
            refine zep ?_
            refine zqp ?_
            refine z_e rfl rfl (Ex.wk (KG htab rfl rfl rfl rfl rfl rfl rfl (Kr q418) (Kz q418)) (Wk.of_eq (congrArg D.el (Kp x418)))) rfl rfl rfl rfl rfl rfl ?_
            refine zep ?_
            refine z_qM rfl rfl (Kx htab rfl rfl rfl rfl rfl) rfl rfl rfl rfl rfl rfl ?_
            refine zqp ?_
            refine z_q rfl rfl (Kai rfl rfl rfl) rfl rfl rfl rfl rfl rfl ?_
            refine zqp ?_
            refine K1 (j := 43) (b' := false) rfl hs419 ?_
            refine zep ?_
            refine zqp ?_
            refine z_e rfl rfl (Ex.wk (KG htab rfl rfl rfl rfl rfl rfl rfl (Kr q420) (Kz q420)) (Wk.of_eq (congrArg D.el (Kp x420)))) rfl rfl rfl rfl rfl rfl ?_
            refine zep ?_
            refine z_qM rfl rfl (Kx htab rfl rfl rfl rfl rfl) rfl rfl rfl rfl rfl rfl ?_
            refine zep ?_
            refine zqp ?_
            refine z_e rfl rfl (Ex.wk (KG htab rfl rfl rfl rfl rfl rfl rfl (Kr q421) (Kz q421)) (Wk.of_eq (congrArg D.el (Kp x421)))) rfl rfl rfl rfl rfl rfl ?_
            refine zep ?_
            refine z_qM rfl rfl (Kx htab rfl rfl rfl rfl rfl) rfl rfl rfl rfl rfl rfl ?_
            refine zqp ?_
            refine z_q rfl rfl (Kai rfl rfl rfl) rfl rfl rfl rfl rfl rfl ?_
            refine zqp ?_
            refine K1 (j := 56) (b' := false) rfl hs422 ?_
            refine zqp ?_
            refine zqp ?_
            refine K1 (j := 58) (b' := false) rfl hs423 ?_
            iterate 11 refine zK ?_
            refine z_q rfl rfl (Kai rfl rfl rfl) rfl rfl rfl rfl rfl rfl ?_
            refine z_q rfl rfl (Kai rfl rfl rfl) rfl rfl rfl rfl rfl rfl ?_
            refine zqp ?_
            refine zep ?_
            refine zqp ?_
            refine z_e rfl rfl (Ex.wk (KG htab rfl rfl rfl rfl rfl rfl rfl (Kr q438) (Kz q438)) (Wk.of_eq (congrArg D.el (Kp x438)))) rfl rfl rfl rfl rfl rfl ?_
            refine zep ?_
            refine z_eM rfl rfl (Kx htab rfl rfl rfl rfl rfl) rfl rfl rfl rfl rfl rfl ?_
            refine zep ?_
            refine zqp ?_
            refine z_e rfl rfl (Ex.wk (KG htab rfl rfl rfl rfl rfl rfl rfl (Kr q439) (Kz q439)) (Wk.of_eq (congrArg D.el (Kp x439)))) rfl rfl rfl rfl rfl rfl ?_
            refine zep ?_
            refine z_eM rfl rfl (Kx htab rfl rfl rfl rfl rfl) rfl rfl rfl rfl rfl rfl ?_
            refine zqp ?_
            refine KdD rfl rfl (Kd2 x438.gExps x439.gExps a2 x440 q440) rfl rfl Wl rfl rfl rfl rfl rfl rfl ?_
            refine zqp ?_
            refine z_q rfl rfl (Kai rfl rfl rfl) rfl rfl rfl rfl rfl rfl ?_
            refine zqp ?_
            refine K1 (j := 87) (b' := false) rfl hs441 ?_
            refine zep ?_
            refine zqp ?_
            refine z_e rfl rfl (Ex.wk (KG htab rfl rfl rfl rfl rfl rfl rfl (Kr q442) (Kz q442)) (Wk.of_eq (congrArg D.el (Kp x442)))) rfl rfl rfl rfl rfl rfl ?_
            refine zep ?_
            refine z_eM rfl rfl (Kx htab rfl rfl rfl rfl rfl) rfl rfl rfl rfl rfl rfl ?_
            refine zep ?_
            refine zqp ?_
            refine z_e rfl rfl (Ex.wk (KG htab rfl rfl rfl rfl rfl rfl rfl (Kr q443) (Kz q443)) (Wk.of_eq (congrArg D.el (Kp x443)))) rfl rfl rfl rfl rfl rfl ?_
            refine zep ?_
            refine z_eM rfl rfl (Kx htab rfl rfl rfl rfl rfl) rfl rfl rfl rfl rfl rfl ?_
            refine zqp ?_
            refine KdD rfl rfl (hg0 x442.gKids x443.gKids a2 x444 q444) rfl rfl Wl rfl rfl rfl rfl rfl rfl ?_
            refine zqp ?_
            refine z_q rfl rfl (Kai rfl rfl rfl) rfl rfl rfl rfl rfl rfl ?_
            refine zqp ?_
            refine K1 (j := 102) (b' := false) rfl hs445 ?_
            refine zep ?_
            refine zqp ?_
            refine z_e rfl rfl (Ex.wk (KG htab rfl rfl rfl rfl rfl rfl rfl (Kr q446) (Kz q446)) (Wk.of_eq (congrArg D.el (Kp x446)))) rfl rfl rfl rfl rfl rfl ?_
            refine zep ?_
            refine z_eM rfl rfl (Kx htab rfl rfl rfl rfl rfl) rfl rfl rfl rfl rfl rfl ?_
            refine zep ?_
            refine zqp ?_
            refine z_e rfl rfl (Ex.wk (KG htab rfl rfl rfl rfl rfl rfl rfl (Kr q447) (Kz q447)) (Wk.of_eq (congrArg D.el (Kp x447)))) rfl rfl rfl rfl rfl rfl ?_
            refine zep ?_
            refine z_eM rfl rfl (Kx htab rfl rfl rfl rfl rfl) rfl rfl rfl rfl rfl rfl ?_
            refine zqp ?_
            refine z_nil rfl rfl (fun e he => by simp [isAl] at he) ?_
            obtain ⟨x448, q448, hm⟩ := Kf hm
            refine KaJ (hg0 x446.gElse x447.gElse a2 x448 q448) rfl rfl rfl rfl rfl Wl ?_
            rintro _ rfl
            refine pu ?_
            refine KH rfl rfl rfl rfl rfl rfl ?_
            refine KB ?_
            have e413 := Kn hm; subst e413
            refine ⟨rfl, ?_⟩
            exact WkX.of () (WkS.perm (WkS.cons rfl (Wk.refl _) (WkS.cons rfl (Wk.refl _) (WkS.cons rfl (Wk.refl _) (WkS.cons rfl (Wk.refl _) (WkS.cons rfl (Wk.refl _) (WkS.nil)))))) Pf Pf)
     ·intro s413 hw413; clear hm; have hm := ho413; clear q413 ho413
      refine Km ?_
      refine K3 hw413 (fun z413 => ?_)
      refine Ku rfl (fun hc449 => ?_) (fun hc449 => ?_)
      ·replace hm := yes_t hc449 hm
       refine Kl ?_
       refine pu ?_
       refine Kh ?_
       refine Ks ?_
       refine K0 ?_
       refine KD ?_
       have e228 := Kaq hm; subst e228; clear hm; have hm := hq228
       refine KD ?_
       refine K0 ?_
       have e227 := Kn hm; subst e227; refine KbW ?_; clear hm; have hm := ho227; simp only [Sum.elim_inr] at hm
       refine KD ?_
       have er450 := Kn hm; subst er450
       refine rP (t' := [(6, .v (.bool false))]) [] [] 0 (wC wN) (lT lN) ?_
       exact ⟨rfl, rfl, rfl⟩
      ·replace hm := yes_f hc449 hm
       refine Ky ?_
       refine KI ?_
       refine Km ?_
       refine KC ?_
       iterate 3 refine pu ?_
       refine KB ?_
       refine Km ⟨_, KaR hm, ?_⟩
       exact WkX.of () (WkS.perm (WkS.cons rfl (Wk.refl _) (WkS.cons rfl (Wk.refl _) (WkS.cons rfl (Wk.refl _) (WkS.cons rfl (Wk.refl _) (WkS.nil))))) Pf Pf)
    ·replace hm := yes_f hc377 hm
     refine Kay ?_
     refine KN ?_
     have e228 := Kaq hm; subst e228; clear hm; have hm := hq228
     refine KN ?_
     refine Kao ?_
     have e227 := Kn hm; subst e227
     refine Kdp ?_
     exact WkX.of () (WkS.perm (WkS.nil) Pf Pf)
  ·intro y227 s227 hx227 hw227; subst hx227; clear hm; have hm := ho227; simp only [Sum.elim_inl] at hm; clear q227 ho227
   refine Km ?_
   refine K3 hw227 (fun z227 => ?_)
   refine Kl ?_
   refine pu ?_
   refine Kh ?_
   refine Ks ?_
   have er451 := Kn hm; subst er451
   refine rP (t' := [(6, .v (.bool true))]) [] [] 0 (wC wN) (lT lN) ?_
   exact ⟨rfl, rfl, rfl⟩
noncomputable def Kbv : Nat → ((List Kj) → (List Kj) → (Bool) → Option (Bool))
 | 0 => (fun _ _ _ => none)
 | n + 1 => (Kcn ((Kbv n)))
theorem Kgq : ∀ n, (∀ (a0 : List Kj) (a1 : List Kj) (a2 : Bool) (r : Bool) (h0 : (Kbv n) a0 a1 a2 = some r), CallsD Try.prog 20 [.lst 7 (a0.map Ki) .no, .lst 7 (a1.map Ki) .no, .v (.bool a2)] [] [] (fun d h k => d = .v (.bool r) ∧ h = [] ∧ k = []))
  | 0 => fun _ _ _ _ h0 => by cases h0
  | n + 1 => by
    have ih := Kgq n
    exact KiZ (Kbv n) ih
theorem Kgr : ∀ n, (∀ (a0 : List Kj) (a1 : List Kj) (a2 : Bool), Le ((Kbv n) a0 a1 a2) ((Kbv (n + 1)) a0 a1 a2))
  | 0 => fun _ _ _ => Le.none _
  | n + 1 => by
    have ih := Kgr n
    exact fun a0 a1 a2 => by show Le (Kcn ((Kbv n)) a0 a1 a2) (Kcn ((Kbv (n + 1))) a0 a1 a2); unfold Kcn; repeat (first | exact Le.refl _ | exact ih _ _ _ | assumption | (refine Le.bind ?_ (fun _ => ?_)) | (refine Le.cond ?_ ?_) | (refine Le.loop (fun _ => ?_)) | (refine Le.elim (fun _ => ?_) (fun _ => ?_)))
noncomputable def Kfw (a0 : List Kj) (a1 : List Kj) (a2 : Bool) : Option (Bool) := anyN fun n => (Kbv n) a0 a1 a2
theorem Kjt (a0 : List Kj) (a1 : List Kj) (a2 : Bool) {r : Bool} (n : Nat) (h : (Kbv n) a0 a1 a2 = some r) : Kfw a0 a1 a2 = some r := Kc8 (fun m => (Kgr m) a0 a1 a2) h
theorem Kju (a0 : List Kj) (a1 : List Kj) (a2 : Bool) (r : Bool) (h0 : Kfw a0 a1 a2 = some r) : CallsD Try.prog 20 [.lst 7 (a0.map Ki) .no, .lst 7 (a1.map Ki) .no, .v (.bool a2)] [] [] (fun d h k => d = .v (.bool r) ∧ h = [] ∧ k = []) :=
 let ⟨n, hn⟩ := KcB h0; (Kgq n) a0 a1 a2  r hn
noncomputable def Keh (a0 : KQ) (a1 : KQ) (a2 : Bool) : Option (Bool) :=
 (bif (decide (a0.gName = a1.gName)) then ((Kfm a0.gParams a1.gParams).bind fun x4 => (bif x4 then ((Kfm a0.gLocals a1.gLocals).bind fun x6 => (bif x6 then ((Kfw a0.gBody a1.gBody a2).bind fun x8 => (bif x8 then (bif (!a2) then some true else some (a0.gAt == a1.gAt)) else some false)) else some false)) else some false)) else some false)
theorem Kjh (a0 : KQ) (a1 : KQ) (a2 : Bool) (r : Bool) (h0 : Keh a0 a1 a2 = some r) : CallsD Try.prog 8 [KjT a0, KjT a1, .v (.bool a2)] [] [] (fun d h k => d = .v (.bool r) ∧ h = [] ∧ k = []) := by
 have hm := KE h0
 unfold Keh at hm
 clear h0
 refine KW htab Try.func8 rfl rfl rfl rfl rfl (fun C => ?_)
 refine Kl ?_
 refine p_box rfl rfl rfl rfl rfl rfl rfl (fun b1 => ?_)
 refine p_box rfl rfl rfl rfl rfl rfl rfl (fun b2 => ?_)
 refine pu ?_
 refine Kv ?_
 refine pu ?_
 refine pL 0 ?_
 refine pu ?_
 refine pL 1 ?_
 refine pu ?_
 refine pu ?_
 refine K9 (i := 12) rfl (fun hg3 => ?_) (fun hg3 => ?_)
 ·replace hm := yes_t hg3 hm
  refine pu ?_
  refine pL 0 ?_
  refine pu ?_
  refine pL 1 ?_
  obtain ⟨x4, q4, hm⟩ := Kf hm
  refine KaJ (KiJ a0.gParams a1.gParams x4 q4) rfl rfl rfl rfl rfl Wl ?_
  rintro _ rfl
  refine KS rfl rfl rfl rfl rfl rfl ?_
  refine pu ?_
  refine K9 (i := 19) rfl (fun hg5 => ?_) (fun hg5 => ?_)
  ·replace hm := yes_t hg5 hm
   refine pu ?_
   refine pL 0 ?_
   refine pu ?_
   refine pL 1 ?_
   obtain ⟨x6, q6, hm⟩ := Kf hm
   refine KaJ (KiJ a0.gLocals a1.gLocals x6 q6) rfl rfl rfl rfl rfl Wl ?_
   rintro _ rfl
   refine KS rfl rfl rfl rfl rfl rfl ?_
   refine pu ?_
   refine K9 (i := 26) rfl (fun hg7 => ?_) (fun hg7 => ?_)
   ·replace hm := yes_t hg7 hm
    refine pu ?_
    refine pL 0 ?_
    refine pu ?_
    refine pL 1 ?_
    refine pu ?_
    obtain ⟨x8, q8, hm⟩ := Kf hm
    refine KaJ (Kju a0.gBody a1.gBody a2 x8 q8) rfl rfl rfl rfl rfl Wl ?_
    rintro _ rfl
    refine KS rfl rfl rfl rfl rfl rfl ?_
    refine pu ?_
    refine K9 (i := 34) rfl (fun hg9 => ?_) (fun hg9 => ?_)
    ·replace hm := yes_t hg9 hm
     iterate 3 refine pu ?_
     refine K9 (i := 37) rfl (fun hg10 => ?_) (fun hg10 => ?_)
     ·replace hm := yes_t hg10 hm
      iterate 5 refine pK ?_
      refine KS rfl rfl rfl rfl rfl rfl ?_
      refine KS rfl rfl rfl rfl rfl rfl ?_
      refine pu ?_
      refine Kh ?_
      refine Ks ?_
      have er11 := Kn hm; subst er11
      refine rP (t' := [(6, .v (.bool true))]) [] [] 0 (wC wN) (lT lN) ?_
      exact ⟨rfl, rfl, rfl⟩
     ·replace hm := yes_f hg10 hm
      refine pu ?_
      refine pL 0 ?_
      refine pu ?_
      refine pL 1 ?_
      refine pu ?_
      refine KH rfl rfl rfl rfl rfl rfl ?_
      refine KS rfl rfl rfl rfl rfl rfl ?_
      refine pu ?_
      refine Kh ?_
      refine Ks ?_
      have er12 := Kn hm; subst er12
      refine rP (t' := [(6, .v (.bool (a0.gAt == a1.gAt)))]) [] [] 0 (wC wN) (lT lN) ?_
      exact ⟨rfl, rfl, rfl⟩
    ·replace hm := yes_f hg9 hm
     iterate 9 refine pK ?_
     refine KH rfl rfl rfl rfl rfl rfl ?_
     refine pu ?_
     refine Kh ?_
     refine Ks ?_
     have er13 := Kn hm; subst er13
     refine rP (t' := [(6, .v (.bool false))]) [] [] 0 (wC wN) (lT lN) ?_
     exact ⟨rfl, rfl, rfl⟩
   ·replace hm := yes_f hg7 hm
    iterate 6 refine pK ?_
    refine KH rfl rfl rfl rfl rfl rfl ?_
    refine pu ?_
    iterate 9 refine pK ?_
    refine KH rfl rfl rfl rfl rfl rfl ?_
    refine pu ?_
    refine Kh ?_
    refine Ks ?_
    have er14 := Kn hm; subst er14
    refine rP (t' := [(6, .v (.bool false))]) [] [] 0 (wC wN) (lT lN) ?_
    exact ⟨rfl, rfl, rfl⟩
  ·replace hm := yes_f hg5 hm
   iterate 5 refine pK ?_
   refine KH rfl rfl rfl rfl rfl rfl ?_
   refine pu ?_
   iterate 6 refine pK ?_
   refine KH rfl rfl rfl rfl rfl rfl ?_
   refine pu ?_
   iterate 9 refine pK ?_
   refine KH rfl rfl rfl rfl rfl rfl ?_
   refine pu ?_
   refine Kh ?_
   refine Ks ?_
   have er15 := Kn hm; subst er15
   refine rP (t' := [(6, .v (.bool false))]) [] [] 0 (wC wN) (lT lN) ?_
   exact ⟨rfl, rfl, rfl⟩
 ·replace hm := yes_f hg3 hm
  iterate 5 refine pK ?_
  refine KH rfl rfl rfl rfl rfl rfl ?_
  refine pu ?_
  iterate 5 refine pK ?_
  refine KH rfl rfl rfl rfl rfl rfl ?_
  refine pu ?_
  iterate 6 refine pK ?_
  refine KH rfl rfl rfl rfl rfl rfl ?_
  refine pu ?_
  iterate 9 refine pK ?_
  refine KH rfl rfl rfl rfl rfl rfl ?_
  refine pu ?_
  refine Kh ?_
  refine Ks ?_
  have er16 := Kn hm; subst er16
  refine rP (t' := [(6, .v (.bool false))]) [] [] 0 (wC wN) (lT lN) ?_
  exact ⟨rfl, rfl, rfl⟩
noncomputable def l13_lives : Option (Bool) :=
 ((KcW ([(105 : UInt8), (110 : UInt8), (116 : UInt8), (32 : UInt8), (102 : UInt8), (40 : UInt8), (105 : UInt8), (110 : UInt8), (116 : UInt8), (32 : UInt8), (42 : UInt8), (112 : UInt8), (41 : UInt8), (32 : UInt8), (123 : UInt8), (32 : UInt8), (114 : UInt8), (101 : UInt8), (116 : UInt8), (117 : UInt8), (114 : UInt8), (110 : UInt8), (32 : UInt8), (42 : UInt8), (112 : UInt8), (59 : UInt8), (32 : UInt8), (125 : UInt8)] : List UInt8)).bind fun x4 => (bif (x4.2.2 == (0 : Int)) then (bif (decide (x4.1.gName = (ByteArray.mk #[102]))) then (bif ((x4.1.gParams.length : Int) == (1 : Int)) then ((idx x4.1.gParams (0 : Int)).bind fun x9 => (bif x9.gPtr then (bif ((x4.1.gBody.length : Int) == (1 : Int)) then ((idx x4.1.gBody (0 : Int)).bind fun x12 => some (x12.gOp == (8 : Int))) else some false) else some false)) else some false) else some false) else some false))
theorem Kin  (r : Bool) (h0 : l13_lives = some r) : CallsD Try.prog 9 [] [] [] (fun d h k => d = .v (.bool r) ∧ h = [] ∧ k = []) := by
 have hm := KE h0
 unfold l13_lives at hm
 clear h0
 refine KW htab Try.func9 rfl rfl rfl rfl rfl (fun C => ?_)
 refine Kl ?_
 refine pu ?_
 refine Kv ?_
 refine p_litB htab rfl rfl rfl rfl rfl rfl rfl rfl rfl rfl rfl rfl rfl rfl rfl rfl rfl rfl rfl ?_
 refine p_eq (i := 6) (d' := .lst 1 (([(105 : UInt8), (110 : UInt8), (116 : UInt8), (32 : UInt8), (102 : UInt8), (40 : UInt8), (105 : UInt8), (110 : UInt8), (116 : UInt8), (32 : UInt8), (42 : UInt8), (112 : UInt8), (41 : UInt8), (32 : UInt8), (123 : UInt8), (32 : UInt8), (114 : UInt8), (101 : UInt8), (116 : UInt8), (117 : UInt8), (114 : UInt8), (110 : UInt8), (32 : UInt8), (42 : UInt8), (112 : UInt8), (59 : UInt8), (32 : UInt8), (125 : UInt8)] : List UInt8).map byteD) .no) rfl (Wk.lst0 (.cons (WkC.refl _) (.cons (WkC.refl _) (.cons (WkC.refl _) (.cons (WkC.refl _) (.cons (WkC.refl _) (.cons (WkC.refl _) (.cons (WkC.refl _) (.cons (WkC.refl _) (.cons (WkC.refl _) (.cons (WkC.refl _) (.cons (WkC.refl _) (.cons (WkC.refl _) (.cons (WkC.refl _) (.cons (WkC.refl _) (.cons (WkC.refl _) (.cons (WkC.refl _) (.cons (WkC.refl _) (.cons (WkC.refl _) (.cons (WkC.refl _) (.cons (WkC.refl _) (.cons (WkC.refl _) (.cons (WkC.refl _) (.cons (WkC.refl _) (.cons (WkC.refl _) (.cons (WkC.refl _) (.cons (WkC.refl _) (.cons (WkC.refl _) (.cons (WkC.refl _) (.nil)))))))))))))))))))))))))))))) ?_
 obtain ⟨x4, q4, hm⟩ := Kf hm
 refine pG (Kh5 ([(105 : UInt8), (110 : UInt8), (116 : UInt8), (32 : UInt8), (102 : UInt8), (40 : UInt8), (105 : UInt8), (110 : UInt8), (116 : UInt8), (32 : UInt8), (42 : UInt8), (112 : UInt8), (41 : UInt8), (32 : UInt8), (123 : UInt8), (32 : UInt8), (114 : UInt8), (101 : UInt8), (116 : UInt8), (117 : UInt8), (114 : UInt8), (110 : UInt8), (32 : UInt8), (42 : UInt8), (112 : UInt8), (59 : UInt8), (32 : UInt8), (125 : UInt8)] : List UInt8) x4 q4) Wl Pf Pf ?_
 rintro _ _ _ ⟨w1, w2, w3, rfl, rfl, rfl⟩
 iterate 4 refine pu ?_
 refine KP htab rfl rfl rfl rfl rfl rfl rfl (fun b5 => ?_)
 refine pS0 (ds' := [tD x4.1.gName, .lst 2 (x4.1.gParams.map Kw) (.cur w1), .lst 2 (x4.1.gLocals.map Kw) (.cur w2), .lst 7 (x4.1.gBody.map Ki) (.cur w3), iD x4.1.gAt]) ?_
 refine pu ?_
 refine pu ?_
 refine Kv ?_
 iterate 3 refine pu ?_
 refine K9 (i := 13) rfl (fun hg6 => ?_) (fun hg6 => ?_)
 ·replace hm := yes_t hg6 hm
  refine pu ?_
  refine pL 0 ?_
  refine pu ?_
  refine KS rfl rfl rfl rfl rfl rfl ?_
  refine pu ?_
  refine K9 (i := 18) rfl (fun hg7 => ?_) (fun hg7 => ?_)
  ·replace hm := yes_t hg7 hm
   refine pu ?_
   refine pL 0 ?_
   refine KaP htab rfl rfl rfl rfl rfl rfl rfl (by first | exact Kaf | rfl) ?_
   refine pu ?_
   refine KS rfl rfl rfl rfl rfl rfl ?_
   refine pu ?_
   refine K9 (i := 24) rfl (fun hg8 => ?_) (fun hg8 => ?_)
   ·replace hm := yes_t hg8 hm
    refine pu ?_
    refine pL 0 ?_
    obtain ⟨x9, q9, hm⟩ := Kf hm
    refine Ka8 htab rfl rfl rfl rfl rfl rfl rfl rfl rfl rfl (Kr q9) (Kz q9) ?_
    refine pu ?_
    refine KaE htab rfl rfl rfl rfl rfl rfl rfl rfl ?_
    refine KS rfl rfl rfl rfl rfl rfl ?_
    refine pu ?_
    refine K9 (i := 31) rfl (fun hg10 => ?_) (fun hg10 => ?_)
    ·replace hm := yes_t hg10 hm
     refine pu ?_
     refine pL 0 ?_
     refine KaP htab rfl rfl rfl rfl rfl rfl rfl (by first | exact Kaf | rfl) ?_
     refine pu ?_
     refine KS rfl rfl rfl rfl rfl rfl ?_
     refine pu ?_
     refine K9 (i := 37) rfl (fun hg11 => ?_) (fun hg11 => ?_)
     ·replace hm := yes_t hg11 hm
      refine pu ?_
      refine pL 0 ?_
      obtain ⟨x12, q12, hm⟩ := Kf hm
      refine Ka8 htab rfl rfl rfl rfl rfl rfl rfl rfl rfl rfl (Kr q12) (Kz q12) ?_
      refine p_eq (i := 40) rfl (Wk.of_eq (congrArg D.el (Kp x12))) ?_
      refine pu ?_
      refine KaE htab rfl rfl rfl rfl rfl rfl rfl rfl ?_
      refine pu ?_
      refine KS rfl rfl rfl rfl rfl rfl ?_
      refine pu ?_
      refine Kh ?_
      refine Ks ?_
      have er13 := Kn hm; subst er13
      refine rP (t' := [(0, .v (.bool (x12.gOp == (8 : Int))))]) [] [] 0 (wC wN) (lT lN) ?_
      exact ⟨rfl, rfl, rfl⟩
     ·replace hm := yes_f hg11 hm
      iterate 6 refine pK ?_
      refine KH rfl rfl rfl rfl rfl rfl ?_
      refine pu ?_
      refine Kh ?_
      refine Ks ?_
      have er14 := Kn hm; subst er14
      refine rP (t' := [(0, .v (.bool false))]) [] [] 0 (wC wN) (lT lN) ?_
      exact ⟨rfl, rfl, rfl⟩
    ·replace hm := yes_f hg10 hm
     iterate 4 refine pK ?_
     refine KH rfl rfl rfl rfl rfl rfl ?_
     refine pu ?_
     iterate 6 refine pK ?_
     refine KH rfl rfl rfl rfl rfl rfl ?_
     refine pu ?_
     refine Kh ?_
     refine Ks ?_
     have er15 := Kn hm; subst er15
     refine rP (t' := [(0, .v (.bool false))]) [] [] 0 (wC wN) (lT lN) ?_
     exact ⟨rfl, rfl, rfl⟩
   ·replace hm := yes_f hg8 hm
    iterate 5 refine pK ?_
    refine KH rfl rfl rfl rfl rfl rfl ?_
    refine pu ?_
    iterate 4 refine pK ?_
    refine KH rfl rfl rfl rfl rfl rfl ?_
    refine pu ?_
    iterate 6 refine pK ?_
    refine KH rfl rfl rfl rfl rfl rfl ?_
    refine pu ?_
    refine Kh ?_
    refine Ks ?_
    have er16 := Kn hm; subst er16
    refine rP (t' := [(0, .v (.bool false))]) [] [] 0 (wC wN) (lT lN) ?_
    exact ⟨rfl, rfl, rfl⟩
  ·replace hm := yes_f hg7 hm
   iterate 4 refine pK ?_
   refine KH rfl rfl rfl rfl rfl rfl ?_
   refine pu ?_
   iterate 5 refine pK ?_
   refine KH rfl rfl rfl rfl rfl rfl ?_
   refine pu ?_
   iterate 4 refine pK ?_
   refine KH rfl rfl rfl rfl rfl rfl ?_
   refine pu ?_
   iterate 6 refine pK ?_
   refine KH rfl rfl rfl rfl rfl rfl ?_
   refine pu ?_
   refine Kh ?_
   refine Ks ?_
   have er17 := Kn hm; subst er17
   refine rP (t' := [(0, .v (.bool false))]) [] [] 0 (wC wN) (lT lN) ?_
   exact ⟨rfl, rfl, rfl⟩
 ·replace hm := yes_f hg6 hm
  iterate 3 refine pK ?_
  refine KH rfl rfl rfl rfl rfl rfl ?_
  refine pu ?_
  iterate 4 refine pK ?_
  refine KH rfl rfl rfl rfl rfl rfl ?_
  refine pu ?_
  iterate 5 refine pK ?_
  refine KH rfl rfl rfl rfl rfl rfl ?_
  refine pu ?_
  iterate 4 refine pK ?_
  refine KH rfl rfl rfl rfl rfl rfl ?_
  refine pu ?_
  iterate 6 refine pK ?_
  refine KH rfl rfl rfl rfl rfl rfl ?_
  refine pu ?_
  refine Kh ?_
  refine Ks ?_
  have er18 := Kn hm; subst er18
  refine rP (t' := [(0, .v (.bool false))]) [] [] 0 (wC wN) (lT lN) ?_
  exact ⟨rfl, rfl, rfl⟩
structure Ka4 where
 gName : ByteArray
 gPtr : Bool
 gSize : Int
 gAt : Int
def KcO (x : Ka4) : D := .agg [tD x.gName, .v (.bool x.gPtr), iD x.gSize, iD x.gAt]
end Go.Proofs.Ytmgklehakmdiiaa.Ab
namespace Go.Proofs.Ytmgklehakmdiiaa.Ab
open Go
set_option linter.all false
noncomputable def KbY (m0 : Ke) : Option (Ka4 × Ke) :=
 ((Kar m0 (0 : Int)).bind fun x2 => ((KJ m0 ([(ByteArray.mk #[105, 110, 116])] : List ByteArray)).bind fun x4 => ((KX x4 (ByteArray.mk #[42])).bind fun x5 => ((Kaw x5.2).bind fun x6 => (Option.bind (α := Bool × List Kt × Int × Int × Int × Int) (bif (!x5.1) then ((KX x6.2 (ByteArray.mk #[91])).bind fun x11 => some (x11.1, x11.2.gL, x11.2.gAt, x11.2.gE, x11.2.gVars, x11.2.gOpen)) else some (false, x6.2.gL, x6.2.gAt, x6.2.gE, x6.2.gVars, x6.2.gOpen)) fun y9 => (Option.bind (α := List Kt × Int × Int × Int × Int × Int) (bif y9.1 then ((Kar (⟨y9.2.1, y9.2.2.1, y9.2.2.2.1, y9.2.2.2.2.1, y9.2.2.2.2.2⟩ : Ke) (0 : Int)).bind fun x27 => (Option.bind (α := List Kt × Int × Int × Int × Int × Int) (Option.bind (α := List Kt × Int × Int × Int × Int × Int) (bif (x27.gKind != (2 : Int)) then ((Kab (⟨y9.2.1, y9.2.2.1, y9.2.2.2.1, y9.2.2.2.2.1, y9.2.2.2.2.2⟩ : Ke) y9.2.2.1 (3 : Int)).bind fun x46 => some (x46.gL, x46.gAt, x46.gE, x46.gVars, x46.gOpen, (0 : Int))) else (Option.bind (α := Bool) (bif (decide (x27.gN < (1 : Int))) then some true else some (decide ((1000 : Int) < x27.gN))) fun y48 => (Option.bind (α := List Kt × Int × Int × Int × Int × Int) (bif y48 then ((Kab (⟨y9.2.1, y9.2.2.1, y9.2.2.2.1, y9.2.2.2.2.1, y9.2.2.2.2.2⟩ : Ke) y9.2.2.1 (4 : Int)).bind fun x54 => some (x54.gL, x54.gAt, x54.gE, x54.gVars, x54.gOpen, (0 : Int))) else some (y9.2.1, (IntKind.i64.wrap (y9.2.2.1 + (1 : Int))), y9.2.2.2.1, y9.2.2.2.2.1, y9.2.2.2.2.2, x27.gN)) fun y52 => some (y52.1, y52.2.1, y52.2.2.1, y52.2.2.2.1, y52.2.2.2.2.1, y52.2.2.2.2.2)))) fun y44 => some (y44.1, y44.2.1, y44.2.2.1, y44.2.2.2.1, y44.2.2.2.2.1, y44.2.2.2.2.2)) fun y36 => ((KJ (⟨y36.1, y36.2.1, y36.2.2.1, y36.2.2.2.1, y36.2.2.2.2.1⟩ : Ke) ([(ByteArray.mk #[93])] : List ByteArray)).bind fun x55 => some (x55.gL, x55.gAt, x55.gE, x55.gVars, x55.gOpen, y36.2.2.2.2.2)))) else some (y9.2.1, y9.2.2.1, y9.2.2.2.1, y9.2.2.2.2.1, y9.2.2.2.2.2, (0 : Int))) fun y25 => ((KJ (⟨y25.1, y25.2.1, y25.2.2.1, y25.2.2.2.1, y25.2.2.2.2.1⟩ : Ke) ([(ByteArray.mk #[59])] : List ByteArray)).bind fun x56 => some ((⟨x6.1, x5.1, y25.2.2.2.2.2, x2.gAt⟩ : Ka4), x56))))))))
theorem Kgs (m0 : Ke) (o0 : Nat) (T0 : TypeId) (c0_0 : Cap) (r : Ka4 × Ke) (h0 : KbY m0 = some r) : CallsD Try.prog 34 [.ptr o0 0] [(o0, Blk.cells [.lst 4 (m0.gL.map Kc) c0_0, iD m0.gAt, iD m0.gE, iD m0.gVars, iD m0.gOpen] T0)] [] (fun d h k => d = KcO r.1 ∧ h = [(o0, Blk.cells [.lst 4 (r.2.gL.map Kc) .no, iD r.2.gAt, iD r.2.gE, iD r.2.gVars, iD r.2.gOpen] T0)] ∧ k = []) := by
 have hm := KE h0
 unfold KbY at hm
 clear h0
 refine KW htab Try.func34 rfl rfl rfl rfl rfl (fun C => ?_)
 refine Kl ?_
 refine KP htab rfl rfl rfl rfl rfl rfl rfl (fun b1 => ?_)
 refine Kv ?_
 refine pu ?_
 obtain ⟨x2, q2, hm⟩ := Kf hm
 refine pG (Kbg m0 (0 : Int) o0 T0 c0_0 x2 q2) Wl Pf Pf ?_
 rintro _ _ _ ⟨rfl, rfl, rfl⟩
 refine pu ?_
 refine Kal (r := [tD ByteArray.empty, .v (.bool false), iD (0 : Int), iD x2.gAt]) htab rfl rfl rfl rfl rfl rfl rfl rfl rfl ?_
 refine KP htab rfl rfl rfl rfl rfl rfl rfl (fun b3 => ?_)
 refine pS2 (ds' := [tD ByteArray.empty, .v (.bool false), iD (0 : Int), iD x2.gAt]) ?_
 refine Kv ?_
 refine pu ?_
 refine p_lit htab rfl rfl rfl rfl rfl rfl rfl rfl rfl rfl rfl rfl rfl rfl ?_
 refine p_eq (i := 11) (d' := .lst 1 (([(ByteArray.mk #[105, 110, 116])] : List ByteArray).map eStr) .full) rfl (Wk.lst0 (.cons (WkC.refl _) (.nil))) ?_
 obtain ⟨x4, q4, hm⟩ := Kf hm
 refine Kam (KZ m0 ([(ByteArray.mk #[105, 110, 116])] : List ByteArray) o0 T0 c0_0 x4 q4) rfl rfl rfl rfl rfl (WkL.cons (Wk.refl _) (WkL.cons (Wk.no) Wl)) Pf Pf ?_
 rintro _ _ _ ⟨rfl, rfl, rfl⟩
 refine Kv ?_
 refine pu ?_
 obtain ⟨x5, q5, hm⟩ := Kf hm
 refine pG (Kad x4 (ByteArray.mk #[42]) o0 T0 c0_0 x5 q5) Wl Pf Pf ?_
 rintro _ _ _ ⟨rfl, rfl, rfl⟩
 refine pu ?_
 refine pS2 (ds' := [tD ByteArray.empty, .v (.bool x5.1), iD (0 : Int), iD x2.gAt]) ?_
 refine Kv ?_
 refine pu ?_
 obtain ⟨x6, q6, hm⟩ := Kf hm
 refine pG (Kby x5.2 o0 T0 c0_0 x6 q6) Wl Pf Pf ?_
 rintro _ _ _ ⟨rfl, rfl, rfl⟩
 refine pu ?_
 refine pS2 (ds' := [tD x6.1, .v (.bool x5.1), iD (0 : Int), iD x2.gAt]) ?_
 refine Kh ?_
 refine Kq ?_
 refine Kq ?_
 obtain ⟨y9, q9, ho9⟩ := Kf hm
 refine K6 (Y := Unit) (fun z9 => (⟨[(0, .ptr o0 0), (2, .ptr b1 0), (3, .ptr b3 0), (25, .v (.bool y9.1))], [(o0, Blk.cells [.lst 4 (y9.2.1.map Kc) .no, iD y9.2.2.1, iD y9.2.2.2.1, iD y9.2.2.2.2.1, iD y9.2.2.2.2.2] T0), (b1, Blk.cells [tD ByteArray.empty, .v (.bool false), iD (0 : Int), iD (0 : Int)] 39), (b3, Blk.cells [tD x6.1, .v (.bool x5.1), iD (0 : Int), iD x2.gAt] 39)], []⟩ : S)) ?_ ?_
 ·clear hm; have hm := KE q9
  refine KC ?_
  refine pu ?_
  refine pL 2 ?_
  refine pu ?_
  refine pu ?_
  refine K9 (i := 22) rfl (fun hg10 => ?_) (fun hg10 => ?_)
  ·replace hm := yes_t hg10 hm
   refine pu ?_
   obtain ⟨x11, q11, hm⟩ := Kf hm
   refine pG (Kad x6.2 (ByteArray.mk #[91]) o0 T0 c0_0 x11 q11) Wl Pf Pf ?_
   rintro _ _ _ ⟨rfl, rfl, rfl⟩
   refine KS rfl rfl rfl rfl rfl rfl ?_
   refine KB ?_
   have e9 := Kn hm; subst e9
   refine ⟨rfl, ?_⟩
   refine WkX.wk (WkS.bl0 (ds' := [.lst 4 (x11.2.gL.map Kc) .no, iD x11.2.gAt, iD x11.2.gE, iD x11.2.gVars, iD x11.2.gOpen]) (rO (rC (rC (rC (rC WkR.nil)))))) ?_
   exact WkX.of () (WkS.perm (WkS.cons rfl (Wk.refl _) (WkS.cons rfl (Wk.refl _) (WkS.cons rfl (Wk.refl _) (WkS.cons rfl (Wk.refl _) (WkS.nil))))) Pf Pf)
  ·replace hm := yes_f hg10 hm
   refine pK ?_
   refine pK ?_
   refine KH rfl rfl rfl rfl rfl rfl ?_
   refine KB ?_
   have e9 := Kn hm; subst e9
   refine ⟨rfl, ?_⟩
   refine WkX.wk (WkS.bl0 (ds' := [.lst 4 (x6.2.gL.map Kc) .no, iD x6.2.gAt, iD x6.2.gE, iD x6.2.gVars, iD x6.2.gOpen]) (rO (rC (rC (rC (rC WkR.nil)))))) ?_
   exact WkX.of () (WkS.perm (WkS.cons rfl (Wk.refl _) (WkS.cons rfl (Wk.refl _) (WkS.cons rfl (Wk.refl _) (WkS.cons rfl (Wk.refl _) (WkS.nil))))) Pf Pf)
 ·intro s9 hw9; clear hm; have hm := ho9; clear q9 ho9
  refine Km ?_
  refine K3 hw9 (fun z9 => ?_)
  obtain ⟨y25, q25, ho25⟩ := Kf hm
  refine K6 (Y := Unit) (fun z25 => (⟨[(0, .ptr o0 0), (2, .ptr b1 0), (3, .ptr b3 0)], [(o0, Blk.cells [.lst 4 (y25.1.map Kc) .no, iD y25.2.1, iD y25.2.2.1, iD y25.2.2.2.1, iD y25.2.2.2.2.1] T0), (b1, Blk.cells [tD ByteArray.empty, .v (.bool false), iD (0 : Int), iD (0 : Int)] 39), (b3, Blk.cells [tD x6.1, .v (.bool x5.1), iD y25.2.2.2.2.2, iD x2.gAt] 39)], []⟩ : S)) ?_ ?_
  ·clear hm; have hm := KE q25
   refine Ku rfl (fun hc26 => ?_) (fun hc26 => ?_)
   ·replace hm := yes_t hc26 hm
    refine Kq ?_
    obtain ⟨x27, q27, hm⟩ := Kf hm
    refine KeO 8 [(6, [iD (0 : Int), tD ByteArray.empty, iD (0 : Int), iD (0 : Int)], 69)] [(6, 7, [iD x27.gKind, tD x27.gText, iD x27.gN, iD x27.gAt])] [[],[0],[],[2],[2,3],[2,3,4],[],[0,1,6]] [0,1,2,3,4,6,7] [[],[0],[],[2],[2,3],[2,3,4],[],[0,1,6],[0,1,2,3,4,5,6,7]] (by kernel_rfl) (by kernel_rfl) (by kernel_rfl) (by rfl) (by rfl) (by kernel_rfl) ?_
    iterate 5 apply Exists.intro
    refine ⟨.any, ?_⟩
    refine ⟨.any, ?_⟩
    intro bs
    refine zf_e rfl rfl (KT htab rfl) rfl rfl rfl rfl rfl rfl rfl ?_
    refine Kgf 0 rfl rfl (Kbg (⟨y9.2.1, y9.2.2.1, y9.2.2.2.1, y9.2.2.2.2.1, y9.2.2.2.2.2⟩ : Ke) (0 : Int) o0 T0 .no x27 q27) rfl rfl Wl rfl rfl rfl rfl rfl rfl rfl rfl ?_
    iterate 3 refine zf_e rfl rfl (KT htab rfl) rfl rfl rfl rfl rfl rfl rfl ?_
    refine zf_qM rfl rfl (KF 0 htab rfl rfl rfl rfl rfl) rfl rfl rfl rfl rfl rfl ?_
    refine Kfj rfl htab rfl rfl rfl rfl rfl rfl rfl rfl rfl rfl (by simp [dOf, eI64]) (by simp) ?_
    refine Kf4 (e := 6) (zs := [iD (0 : Int), tD ByteArray.empty, iD (0 : Int), iD (0 : Int)]) (T' := 69) (ds' := [iD x27.gKind, tD x27.gText, iD x27.gN, iD x27.gAt]) htab rfl rfl rfl rfl rfl rfl rfl rfl rfl (by simp) (by simp) rfl rfl rfl rfl rfl rfl rfl rfl rfl ?_
    refine Kg9 (h' := [(o0, Blk.cells [.lst 4 (y9.2.1.map Kc) .no, iD y9.2.2.1, iD y9.2.2.2.1, iD y9.2.2.2.2.1, iD y9.2.2.2.2.2] T0), (b1, Blk.cells [tD ByteArray.empty, .v (.bool false), iD (0 : Int), iD (0 : Int)] 39), (b3, Blk.cells [tD x6.1, .v (.bool x5.1), iD (0 : Int), iD x2.gAt] 39), (bs 6, Blk.cells [iD x27.gKind, tD x27.gText, iD x27.gN, iD x27.gAt] 69)]) rfl rfl rfl (fun e he => by simp [isAl] at he; subst he; rfl) ?_
    obtain ⟨b28, hb28⟩ : ∃ b, bs 6 = b := ⟨_, rfl⟩
    simp only [hb28]
    clear hb28
    refine pu ?_
    refine Kh ?_
    refine Kq ?_
    obtain ⟨y36, q36, ho36⟩ := Kf hm
    refine K6 (Y := Unit) (fun z36 => (⟨[(0, .ptr o0 0), (2, .ptr b1 0), (3, .ptr b3 0)], [(o0, Blk.cells [.lst 4 (y36.1.map Kc) .no, iD y36.2.1, iD y36.2.2.1, iD y36.2.2.2.1, iD y36.2.2.2.2.1] T0), (b1, Blk.cells [tD ByteArray.empty, .v (.bool false), iD (0 : Int), iD (0 : Int)] 39), (b3, Blk.cells [tD x6.1, .v (.bool x5.1), iD y36.2.2.2.2.2, iD x2.gAt] 39)], []⟩ : S)) ?_ ?_
    ·clear hm; have hm := KE q36
     refine KL ?_
     refine Kl ?_
     refine pu ?_
     refine pL 3 ?_
     refine pu ?_
     refine pu ?_
     refine Kh ?_
     obtain ⟨y44, q44, ho44⟩ := Kf hm
     refine K6 (Y := Unit) (fun z44 => (⟨[(0, .ptr o0 0), (2, .ptr b1 0), (3, .ptr b3 0)], [(o0, Blk.cells [.lst 4 (y44.1.map Kc) .no, iD y44.2.1, iD y44.2.2.1, iD y44.2.2.2.1, iD y44.2.2.2.2.1] T0), (b1, Blk.cells [tD ByteArray.empty, .v (.bool false), iD (0 : Int), iD (0 : Int)] 39), (b3, Blk.cells [tD x6.1, .v (.bool x5.1), iD y44.2.2.2.2.2, iD x2.gAt] 39)], []⟩ : S)) ?_ ?_
     ·clear hm; have hm := KE q44
      refine Ku rfl (fun hc45 => ?_) (fun hc45 => ?_)
      ·replace hm := yes_t hc45 hm
       refine KC ?_
       refine pu ?_
       refine pu ?_
       obtain ⟨x46, q46, hm⟩ := Kf hm
       refine pG (KaH (⟨y9.2.1, y9.2.2.1, y9.2.2.2.1, y9.2.2.2.2.1, y9.2.2.2.2.2⟩ : Ke) y9.2.2.1 (3 : Int) o0 T0 .no x46 q46) Wl Pf Pf ?_
       rintro _ _ _ ⟨rfl, rfl, rfl⟩
       refine KB ?_
       have e44 := Kn hm; subst e44
       refine ⟨rfl, ?_⟩
       exact WkX.of () (WkS.perm (WkS.cons rfl (Wk.refl _) (WkS.cons rfl (Wk.refl _) (WkS.cons rfl (Wk.refl _) (WkS.nil)))) Pf Pf)
      ·replace hm := yes_f hc45 hm
       refine Kq ?_
       obtain ⟨y48, q48, ho48⟩ := Kf hm
       refine K6 (Y := Unit) (fun z48 => (⟨[(0, .ptr o0 0), (2, .ptr b1 0), (3, .ptr b3 0), (4, .ptr b28 0), (5, iD y9.2.2.1), (49, .v (.bool y48))], [(o0, Blk.cells [.lst 4 (y9.2.1.map Kc) .no, iD y9.2.2.1, iD y9.2.2.2.1, iD y9.2.2.2.2.1, iD y9.2.2.2.2.2] T0), (b1, Blk.cells [tD ByteArray.empty, .v (.bool false), iD (0 : Int), iD (0 : Int)] 39), (b3, Blk.cells [tD x6.1, .v (.bool x5.1), iD (0 : Int), iD x2.gAt] 39), (b28, Blk.cells [iD x27.gKind, tD x27.gText, iD x27.gN, iD x27.gAt] 69)], []⟩ : S)) ?_ ?_
       ·clear hm; have hm := KE q48
        refine KC ?_
        refine pu ?_
        refine pL 3 ?_
        refine pu ?_
        refine pu ?_
        refine K9 (i := 53) rfl (fun hg49 => ?_) (fun hg49 => ?_)
        ·replace hm := yes_t hg49 hm
         iterate 3 refine pK ?_
         refine KS rfl rfl rfl rfl rfl rfl ?_
         refine pu ?_
         refine KB ?_
         have e48 := Kn hm; subst e48
         refine ⟨rfl, ?_⟩
         exact WkX.of () (WkS.perm (WkS.cons rfl (Wk.refl _) (WkS.cons rfl (Wk.refl _) (WkS.cons rfl (Wk.refl _) (WkS.cons rfl (Wk.refl _) (WkS.cons rfl (Wk.refl _) (WkS.cons rfl (Wk.refl _) (WkS.nil))))))) Pf Pf)
        ·replace hm := yes_f hg49 hm
         refine pu ?_
         refine pL 3 ?_
         refine pu ?_
         refine KH rfl rfl rfl rfl rfl rfl ?_
         refine pu ?_
         refine KB ?_
         have e48 := Kn hm; subst e48
         refine ⟨rfl, ?_⟩
         exact WkX.of () (WkS.perm (WkS.cons rfl (Wk.refl _) (WkS.cons rfl (Wk.refl _) (WkS.cons rfl (Wk.refl _) (WkS.cons rfl (Wk.refl _) (WkS.cons rfl (Wk.refl _) (WkS.cons rfl (Wk.refl _) (WkS.nil))))))) Pf Pf)
       ·intro s48 hw48; clear hm; have hm := ho48; clear q48 ho48
        refine Km ?_
        refine K3 hw48 (fun z48 => ?_)
        obtain ⟨y52, q52, ho52⟩ := Kf hm
        refine K6 (Y := Unit) (fun z52 => (⟨[(0, .ptr o0 0), (2, .ptr b1 0), (3, .ptr b3 0)], [(o0, Blk.cells [.lst 4 (y52.1.map Kc) .no, iD y52.2.1, iD y52.2.2.1, iD y52.2.2.2.1, iD y52.2.2.2.2.1] T0), (b1, Blk.cells [tD ByteArray.empty, .v (.bool false), iD (0 : Int), iD (0 : Int)] 39), (b3, Blk.cells [tD x6.1, .v (.bool x5.1), iD y52.2.2.2.2.2, iD x2.gAt] 39)], []⟩ : S)) ?_ ?_
        ·clear hm; have hm := KE q52
         refine Ku rfl (fun hc53 => ?_) (fun hc53 => ?_)
         ·replace hm := yes_t hc53 hm
          refine KC ?_
          refine pu ?_
          refine pu ?_
          obtain ⟨x54, q54, hm⟩ := Kf hm
          refine pG (KaH (⟨y9.2.1, y9.2.2.1, y9.2.2.2.1, y9.2.2.2.2.1, y9.2.2.2.2.2⟩ : Ke) y9.2.2.1 (4 : Int) o0 T0 .no x54 q54) Wl Pf Pf ?_
          rintro _ _ _ ⟨rfl, rfl, rfl⟩
          refine KB ?_
          have e52 := Kn hm; subst e52
          refine ⟨rfl, ?_⟩
          exact WkX.of () (WkS.perm (WkS.cons rfl (Wk.refl _) (WkS.cons rfl (Wk.refl _) (WkS.cons rfl (Wk.refl _) (WkS.nil)))) Pf Pf)
         ·replace hm := yes_f hc53 hm
          refine Kl ?_
          refine pu ?_
          refine pL 3 ?_
          refine pu ?_
          refine pS2 (ds' := [tD x6.1, .v (.bool x5.1), iD x27.gN, iD x2.gAt]) ?_
          refine Kh ?_
          refine KC ?_
          iterate 3 refine pu ?_
          refine pL 0 ?_
          iterate 3 refine pu ?_
          refine pS0 (ds' := [.lst 4 (y9.2.1.map Kc) .no, iD (IntKind.i64.wrap (y9.2.2.1 + (1 : Int))), iD y9.2.2.2.1, iD y9.2.2.2.2.1, iD y9.2.2.2.2.2]) ?_
          refine KB ?_
          have e52 := Kn hm; subst e52
          refine ⟨rfl, ?_⟩
          exact WkX.of () (WkS.perm (WkS.cons rfl (Wk.refl _) (WkS.cons rfl (Wk.refl _) (WkS.cons rfl (Wk.refl _) (WkS.nil)))) Pf Pf)
        ·intro s52 hw52; clear hm; have hm := ho52; clear q52 ho52
         have e44 := Kn hm; subst e44
         refine ⟨rfl, ?_⟩
         refine WkX.trans hw52 (fun z52 => ?_)
         exact WkX.of () (WkS.perm (WkS.cons rfl (Wk.refl _) (WkS.cons rfl (Wk.refl _) (WkS.cons rfl (Wk.refl _) (WkS.nil)))) Pf Pf)
     ·intro s44 hw44; clear hm; have hm := ho44; clear q44 ho44
      refine KI ?_
      have e36 := Kn hm; subst e36
      refine ⟨rfl, ?_⟩
      refine WkX.trans hw44 (fun z44 => ?_)
      exact WkX.of () (WkS.perm (WkS.cons rfl (Wk.refl _) (WkS.cons rfl (Wk.refl _) (WkS.cons rfl (Wk.refl _) (WkS.nil)))) Pf Pf)
    ·intro s36 hw36; clear hm; have hm := ho36; clear q36 ho36
     refine Km ?_
     refine K3 hw36 (fun z36 => ?_)
     refine KC ?_
     refine pu ?_
     refine p_lit htab rfl rfl rfl rfl rfl rfl rfl rfl rfl rfl rfl rfl rfl rfl ?_
     refine p_eq (i := 62) (d' := .lst 1 (([(ByteArray.mk #[93])] : List ByteArray).map eStr) .full) rfl (Wk.lst0 (.cons (WkC.refl _) (.nil))) ?_
     obtain ⟨x55, q55, hm⟩ := Kf hm
     refine Kam (KZ (⟨y36.1, y36.2.1, y36.2.2.1, y36.2.2.2.1, y36.2.2.2.2.1⟩ : Ke) ([(ByteArray.mk #[93])] : List ByteArray) o0 T0 .no x55 q55) rfl rfl rfl rfl rfl (WkL.cons (Wk.refl _) (WkL.cons (Wk.no) Wl)) Pf Pf ?_
     rintro _ _ _ ⟨rfl, rfl, rfl⟩
     refine KB ?_
     have e25 := Kn hm; subst e25
     refine ⟨rfl, ?_⟩
     exact WkX.of () (WkS.perm (WkS.cons rfl (Wk.refl _) (WkS.cons rfl (Wk.refl _) (WkS.cons rfl (Wk.refl _) (WkS.nil)))) Pf Pf)
   ·replace hm := yes_f hc26 hm
    refine Ky ?_
    have e25 := Kn hm; subst e25
    refine ⟨rfl, ?_⟩
    exact WkX.of () (WkS.perm (WkS.cons rfl (Wk.refl _) (WkS.cons rfl (Wk.refl _) (WkS.cons rfl (Wk.refl _) (WkS.nil)))) Pf Pf)
  ·intro s25 hw25; clear hm; have hm := ho25; clear q25 ho25
   refine Km ?_
   refine K3 hw25 (fun z25 => ?_)
   refine Kl ?_
   refine pu ?_
   refine p_lit htab rfl rfl rfl rfl rfl rfl rfl rfl rfl rfl rfl rfl rfl rfl ?_
   refine p_eq (i := 65) (d' := .lst 1 (([(ByteArray.mk #[59])] : List ByteArray).map eStr) .full) rfl (Wk.lst0 (.cons (WkC.refl _) (.nil))) ?_
   obtain ⟨x56, q56, hm⟩ := Kf hm
   refine Kam (KZ (⟨y25.1, y25.2.1, y25.2.2.1, y25.2.2.2.1, y25.2.2.2.2.1⟩ : Ke) ([(ByteArray.mk #[59])] : List ByteArray) o0 T0 .no x56 q56) rfl rfl rfl rfl rfl (WkL.cons (Wk.refl _) (WkL.cons (Wk.no) Wl)) Pf Pf ?_
   rintro _ _ _ ⟨rfl, rfl, rfl⟩
   refine Kv ?_
   refine K7 (d := KcO (⟨x6.1, x5.1, y25.2.2.2.2.2, x2.gAt⟩ : Ka4)) 2 htab rfl rfl rfl rfl rfl rfl rfl rfl ?_
   refine pS1 (ds' := [tD x6.1, .v (.bool x5.1), iD y25.2.2.2.2.2, iD x2.gAt]) ?_
   refine Kh ?_
   refine Ks ?_
   have er57 := Kn hm; subst er57
   refine rP (t' := [(2, .ptr b1 0)]) [0,0] [] 1 (wC wN) (lC 1 lN) ?_
   exact ⟨rfl, rfl, rfl⟩
noncomputable def KbZ (a0 : List Kt) (a1 : Int) : Option (Ka4 × Int × Int) :=
 ((Kbk a0 a1).bind fun x3 => (bif (!x3.2) then some ((⟨ByteArray.empty, false, (0 : Int), (0 : Int)⟩ : Ka4), (0 : Int), (2 : Int)) else ((KbY x3.1).bind fun x7 => (bif (x7.2.gE != (0 : Int)) then some ((⟨ByteArray.empty, false, (0 : Int), (0 : Int)⟩ : Ka4), x7.2.gAt, x7.2.gE) else some (x7.1, x7.2.gAt, (0 : Int))))))
theorem KiA (a0 : List Kt) (a1 : Int) (r : Ka4 × Int × Int) (h0 : KbZ a0 a1 = some r) : CallsD Try.prog 12 [.lst 4 (a0.map Kc) .no, iD a1] [] [] (fun d h k => d = .tup [KcO r.1, iD r.2.1, iD r.2.2] ∧ h = [] ∧ k = []) := by
 have hm := KE h0
 unfold KbZ at hm
 clear h0
 refine KW htab Try.func12 rfl rfl rfl rfl rfl (fun C => ?_)
 refine Kl ?_
 refine KP htab rfl rfl rfl rfl rfl rfl rfl (fun b1 => ?_)
 refine pu ?_
 refine pu ?_
 refine Kv ?_
 refine pu ?_
 refine pu ?_
 obtain ⟨x3, q3, hm⟩ := Kf hm
 refine pG (Kgk a0 a1 x3 q3) Wl Pf Pf ?_
 rintro _ _ _ ⟨w2, rfl, rfl, rfl⟩
 iterate 5 refine pu ?_
 refine Kh ?_
 refine Kq ?_
 refine Kl ?_
 refine pu ?_
 refine pu ?_
 refine Kh ?_
 refine Ku rfl (fun hc5 => ?_) (fun hc5 => ?_)
 ·replace hm := yes_t hc5 hm
  refine Kl ?_
  refine Kal (r := [tD ByteArray.empty, .v (.bool false), iD (0 : Int), iD (0 : Int)]) htab rfl rfl rfl rfl rfl rfl rfl rfl rfl ?_
  refine pS1 (ds' := [tD ByteArray.empty, .v (.bool false), iD (0 : Int), iD (0 : Int)]) ?_
  refine pu ?_
  refine pu ?_
  refine Kh ?_
  refine Ks ?_
  refine KD ?_
  have er6 := Kn hm; subst er6
  refine rP (t' := [(4, .ptr b1 0), (5, iD (0 : Int)), (6, iD (2 : Int))]) [1] [] 0 (wC (wC (wC wN))) (lC 0 (lT (lT lN))) ?_
  exact ⟨rfl, rfl, rfl⟩
 ·replace hm := yes_f hc5 hm
  refine Ky ?_
  refine Km ?_
  refine Kl ?_
  refine pu ?_
  obtain ⟨x7, q7, hm⟩ := Kf hm
  refine pG (Kgs x3.1 w2 64 .no x7 q7) Wl Pf Pf ?_
  rintro _ _ _ ⟨rfl, rfl, rfl⟩
  refine KP htab rfl rfl rfl rfl rfl rfl rfl (fun b8 => ?_)
  refine pS2 (ds' := [tD x7.1.gName, .v (.bool x7.1.gPtr), iD x7.1.gSize, iD x7.1.gAt]) ?_
  refine Kh ?_
  refine Kq ?_
  refine Kl ?_
  iterate 3 refine pu ?_
  refine pL 0 ?_
  refine pu ?_
  refine Kh ?_
  refine Ku rfl (fun hc11 => ?_) (fun hc11 => ?_)
  ·replace hm := yes_t hc11 hm
   refine Kq ?_
   refine Kcm 11 [] [[],[],[1],[1,2],[1,2,3],[],[5],[5,6],[5,6,7],[0],[0,1,2,3,4,9]] [0,1,2,3,4,5,6,7,8,9] [[],[],[1],[1,2],[1,2,3],[],[5],[5,6],[5,6,7],[0],[0,1,2,3,4,9],[0,1,2,3,4,5,6,7,8,9,10]] 9 (by kernel_rfl) (by kernel_rfl) (by kernel_rfl) (by rfl) (by rfl) (by kernel_rfl) ?_
   refine ⟨[(w2, Blk.cells [.lst 4 (x7.2.gL.map Kc) .no, iD x7.2.gAt, iD x7.2.gE, iD x7.2.gVars, iD x7.2.gOpen] 64), (b1, Blk.cells [tD ByteArray.empty, .v (.bool false), iD (0 : Int), iD (0 : Int)] 39), (b8, Blk.cells [tD x7.1.gName, .v (.bool x7.1.gPtr), iD x7.1.gSize, iD x7.1.gAt] 39)], ?_⟩
   iterate 9 apply Exists.intro
   refine ⟨.any, ?_⟩
   intro bs v12
   refine zh_e rfl rfl (KdY (r := [tD ByteArray.empty, .v (.bool false), iD (0 : Int), iD (0 : Int)]) htab rfl rfl rfl rfl rfl rfl) rfl rfl rfl rfl rfl rfl rfl rfl ?_
   iterate 3 refine zh_e rfl rfl (KT htab rfl) rfl rfl rfl rfl rfl rfl rfl rfl ?_
   refine zh_M rfl rfl (fun _ => KF 0 htab rfl rfl rfl rfl rfl) (fun _ => KF 0 htab rfl rfl rfl rfl rfl) rfl rfl rfl rfl rfl rfl rfl rfl ?_
   iterate 3 refine zh_e rfl rfl (KT htab rfl) rfl rfl rfl rfl rfl rfl rfl rfl ?_
   refine zh_M rfl rfl (fun _ => KF 0 htab rfl rfl rfl rfl rfl) (fun _ => KF 0 htab rfl rfl rfl rfl rfl) rfl rfl rfl rfl rfl rfl rfl rfl ?_
   refine KcA 1 htab rfl rfl rfl rfl rfl rfl rfl rfl rfl rfl rfl rfl rfl rfl rfl rfl ?_
   refine zh_q rfl rfl (KT htab rfl) rfl rfl rfl rfl rfl rfl ?_
   refine KdE rfl rfl rfl rfl (fun e he => by simp [isAl] at he) ?_
   refine pu ?_
   refine Kh ?_
   refine Ks ?_
   refine KD ?_
   have er13 := Kn hm; subst er13
   refine rP (t' := [(4, .ptr b1 0), (5, iD x7.2.gAt), (6, iD x7.2.gE)]) [1] [] 0 (wC (wC (wC wN))) (lC 0 (lT (lT lN))) ?_
   exact ⟨rfl, rfl, rfl⟩
  ·replace hm := yes_f hc11 hm
   refine Ky ?_
   refine Km ?_
   refine Kq ?_
   refine Kcm 6 [] [[],[],[1],[1,2],[1,2,3],[0]] [0,1,2,3,4,5] [[],[],[1],[1,2],[1,2,3],[0],[0,1,2,3,4,5],[0,1,2,3,4,5,6]] 5 (by kernel_rfl) (by kernel_rfl) (by kernel_rfl) (by rfl) (by rfl) (by kernel_rfl) ?_
   refine ⟨[(w2, Blk.cells [.lst 4 (x7.2.gL.map Kc) .no, iD x7.2.gAt, iD x7.2.gE, iD x7.2.gVars, iD x7.2.gOpen] 64), (b1, Blk.cells [tD x7.1.gName, .v (.bool x7.1.gPtr), iD x7.1.gSize, iD x7.1.gAt] 39), (b8, Blk.cells [tD x7.1.gName, .v (.bool x7.1.gPtr), iD x7.1.gSize, iD x7.1.gAt] 39)], ?_⟩
   iterate 5 apply Exists.intro
   refine ⟨.any, ?_⟩
   intro bs v14
   refine zh_M rfl rfl (fun _ => KF (d := KcO x7.1) 2 htab rfl rfl rfl rfl rfl) (offB rfl) rfl rfl rfl rfl rfl rfl rfl rfl ?_
   iterate 3 refine zh_e rfl rfl (KT htab rfl) rfl rfl rfl rfl rfl rfl rfl rfl ?_
   refine zh_M rfl rfl (fun _ => KF 0 htab rfl rfl rfl rfl rfl) (fun _ => KF 0 htab rfl rfl rfl rfl rfl) rfl rfl rfl rfl rfl rfl rfl rfl ?_
   refine KcA 1 htab rfl rfl rfl rfl rfl rfl rfl rfl rfl rfl rfl rfl rfl rfl rfl rfl ?_
   refine KdE rfl rfl rfl rfl (fun e he => by simp [isAl] at he) ?_
   refine pu ?_
   refine pu ?_
   refine Kh ?_
   refine Ks ?_
   have er15 := Kn hm; subst er15
   refine rP (t' := [(4, .ptr b1 0), (5, iD x7.2.gAt), (6, iD (0 : Int))]) [1] [] 0 (wC (wC (wC wN))) (lC 0 (lT (lT lN))) ?_
   exact ⟨rfl, rfl, rfl⟩
noncomputable def Kdj (a0 : List Kt) (a1 : Int) : Option (Ka4 × Int × Int) :=
 (Option.bind (α := Bool) (bif (decide (a1 < (0 : Int))) then some true else some (decide ((a0.length : Int) < a1))) fun y3 => (bif y3 then some ((⟨ByteArray.empty, false, (0 : Int), (0 : Int)⟩ : Ka4), (0 : Int), (2 : Int)) else ((Kbc (⟨a0, a1, (0 : Int)⟩ : Kd)).bind fun x9 => ((Kae (⟨a0, a1, (0 : Int)⟩ : Kd) (ByteArray.mk #[105, 110, 116])).bind fun x11 => ((Kbr x11 (ByteArray.mk #[42])).bind fun x12 => ((Kbo x12.2).bind fun x13 => (Option.bind (α := Bool × List Kt × Int × Int) (bif (!x12.1) then ((Kbr x13.2 (ByteArray.mk #[91])).bind fun x18 => some (x18.1, x18.2.gL, x18.2.gAt, x18.2.gE)) else some (false, x13.2.gL, x13.2.gAt, x13.2.gE)) fun y16 => (Option.bind (α := List Kt × Int × Int × Int) (bif y16.1 then ((Kbc (⟨y16.2.1, y16.2.2.1, y16.2.2.2⟩ : Kd)).bind fun x45 => (Option.bind (α := List Kt × Int × Int) (bif (x45.gKind != (2 : Int)) then ((Kbn (⟨y16.2.1, y16.2.2.1, y16.2.2.2⟩ : Kd) y16.2.2.1 (3 : Int)).bind fun x56 => some (x56.gL, x56.gAt, x56.gE)) else (Option.bind (α := Bool) (bif (decide (x45.gN < (1 : Int))) then some true else some (decide ((1000 : Int) < x45.gN))) fun y58 => (Option.bind (α := List Kt × Int × Int) (bif y58 then ((Kbn (⟨y16.2.1, y16.2.2.1, y16.2.2.2⟩ : Kd) y16.2.2.1 (4 : Int)).bind fun x64 => some (x64.gL, x64.gAt, x64.gE)) else some (y16.2.1, y16.2.2.1, y16.2.2.2)) fun y62 => some (y62.1, y62.2.1, y62.2.2)))) fun y54 => (Option.bind (α := Int × Int) (bif (y54.2.2 == (0 : Int)) then some ((IntKind.i64.wrap (y54.2.1 + (1 : Int))), x45.gN) else some (y54.2.1, (0 : Int))) fun y66 => ((Kae (⟨y54.1, y66.1, y54.2.2⟩ : Kd) (ByteArray.mk #[93])).bind fun x68 => some (x68.gL, x68.gAt, x68.gE, y66.2))))) else some (y16.2.1, y16.2.2.1, y16.2.2.2, (0 : Int))) fun y43 => ((Kae (⟨y43.1, y43.2.1, y43.2.2.1⟩ : Kd) (ByteArray.mk #[59])).bind fun x69 => (bif (x69.gE != (0 : Int)) then some ((⟨ByteArray.empty, false, (0 : Int), (0 : Int)⟩ : Ka4), x69.gAt, x69.gE) else some ((⟨x13.1, x12.1, y43.2.2.2, x9.gAt⟩ : Ka4), x69.gAt, (0 : Int))))))))))))
theorem Kkf (a0 : List Kt) (a1 : Int) (r : Ka4 × Int × Int) (h0 : Kdj a0 a1 = some r) : CallsD Try.prog 13 [.lst 4 (a0.map Kc) .no, iD a1] [] [] (fun d h k => d = .tup [KcO r.1, iD r.2.1, iD r.2.2] ∧ h = [] ∧ k = []) := by
 have hm := KE h0
 unfold Kdj at hm
 clear h0
 refine KW htab Try.func13 rfl rfl rfl rfl rfl (fun C => ?_)
 refine Kl ?_
 refine KP htab rfl rfl rfl rfl rfl rfl rfl (fun b1 => ?_)
 refine pu ?_
 refine pu ?_
 refine Kh ?_
 refine Kq ?_
 refine Kq ?_
 obtain ⟨y3, q3, ho3⟩ := Kf hm
 refine K6 (Y := Unit) (fun z3 => (⟨[(0, .lst 4 (a0.map Kc) .no), (1, iD a1), (4, .ptr b1 0), (17, .v (.bool y3))], [(b1, Blk.cells [tD ByteArray.empty, .v (.bool false), iD (0 : Int), iD (0 : Int)] 39)], []⟩ : S)) ?_ ?_
 ·clear hm; have hm := KE q3
  refine KC ?_
  iterate 3 refine pu ?_
  refine K9 (i := 12) rfl (fun hg4 => ?_) (fun hg4 => ?_)
  ·replace hm := yes_t hg4 hm
   iterate 4 refine pK ?_
   refine KS rfl rfl rfl rfl rfl rfl ?_
   refine KB ?_
   have e3 := Kn hm; subst e3
   refine ⟨rfl, ?_⟩
   exact WkX.of () (WkS.perm (WkS.cons rfl (Wk.refl _) (WkS.cons rfl (Wk.refl _) (WkS.cons rfl (Wk.refl _) (WkS.cons rfl (Wk.refl _) (WkS.nil))))) Pf Pf)
  ·replace hm := yes_f hg4 hm
   refine pu ?_
   refine pu ?_
   refine KaP htab rfl rfl rfl rfl rfl rfl rfl (by first | exact Kaf | rfl) ?_
   refine pu ?_
   refine KH rfl rfl rfl rfl rfl rfl ?_
   refine KB ?_
   have e3 := Kn hm; subst e3
   refine ⟨rfl, ?_⟩
   exact WkX.of () (WkS.perm (WkS.cons rfl (Wk.refl _) (WkS.cons rfl (Wk.refl _) (WkS.cons rfl (Wk.refl _) (WkS.cons rfl (Wk.refl _) (WkS.nil))))) Pf Pf)
 ·intro s3 hw3; clear hm; have hm := ho3; clear q3 ho3
  refine Km ?_
  refine K3 hw3 (fun z3 => ?_)
  refine Ku rfl (fun hc6 => ?_) (fun hc6 => ?_)
  ·replace hm := yes_t hc6 hm
   refine Kl ?_
   refine Kal (r := [tD ByteArray.empty, .v (.bool false), iD (0 : Int), iD (0 : Int)]) htab rfl rfl rfl rfl rfl rfl rfl rfl rfl ?_
   refine pS0 (ds' := [tD ByteArray.empty, .v (.bool false), iD (0 : Int), iD (0 : Int)]) ?_
   refine pu ?_
   refine pu ?_
   refine Kh ?_
   refine Ks ?_
   refine KD ?_
   have er7 := Kn hm; subst er7
   refine rP (t' := [(4, .ptr b1 0), (5, iD (0 : Int)), (6, iD (2 : Int))]) [0] [] 0 (wC (wC (wC wN))) (lC 0 (lT (lT lN))) ?_
   exact ⟨rfl, rfl, rfl⟩
  ·replace hm := yes_f hc6 hm
   refine Ky ?_
   refine Km ?_
   refine Kl ?_
   refine pu ?_
   refine pu ?_
   refine Kal (r := [.lst 4 (a0.map Kc) .no, iD a1, iD (0 : Int)]) htab rfl rfl rfl rfl rfl rfl rfl rfl rfl ?_
   refine p_box rfl rfl rfl rfl rfl rfl rfl (fun b8 => ?_)
   refine pu ?_
   refine Kv ?_
   refine pu ?_
   obtain ⟨x9, q9, hm⟩ := Kf hm
   refine pG (KbI (⟨a0, a1, (0 : Int)⟩ : Kd) b8 67 .no x9 q9) Wl ((Kap (j := 1) rfl).trans (List.Perm.cons _ Pf)) Pf ?_
   rintro _ _ _ ⟨rfl, rfl, rfl⟩
   refine pu ?_
   refine Kal (r := [tD ByteArray.empty, .v (.bool false), iD (0 : Int), iD x9.gAt]) htab rfl rfl rfl rfl rfl rfl rfl rfl rfl ?_
   refine KP htab rfl rfl rfl rfl rfl rfl rfl (fun b10 => ?_)
   refine pS2 (ds' := [tD ByteArray.empty, .v (.bool false), iD (0 : Int), iD x9.gAt]) ?_
   refine Kv ?_
   refine pu ?_
   obtain ⟨x11, q11, hm⟩ := Kf hm
   refine pG (Kat (⟨a0, a1, (0 : Int)⟩ : Kd) (ByteArray.mk #[105, 110, 116]) b8 67 .no x11 q11) Wl Pf Pf ?_
   rintro _ _ _ ⟨rfl, rfl, rfl⟩
   refine Kv ?_
   refine pu ?_
   obtain ⟨x12, q12, hm⟩ := Kf hm
   refine pG (Kch x11 (ByteArray.mk #[42]) b8 67 .no x12 q12) Wl Pf Pf ?_
   rintro _ _ _ ⟨rfl, rfl, rfl⟩
   refine pu ?_
   refine pS2 (ds' := [tD ByteArray.empty, .v (.bool x12.1), iD (0 : Int), iD x9.gAt]) ?_
   refine Kv ?_
   refine pu ?_
   obtain ⟨x13, q13, hm⟩ := Kf hm
   refine pG (KcK x12.2 b8 67 .no x13 q13) Wl Pf Pf ?_
   rintro _ _ _ ⟨rfl, rfl, rfl⟩
   refine pu ?_
   refine pS2 (ds' := [tD x13.1, .v (.bool x12.1), iD (0 : Int), iD x9.gAt]) ?_
   refine Kh ?_
   refine Kq ?_
   refine Kq ?_
   obtain ⟨y16, q16, ho16⟩ := Kf hm
   refine K6 (Y := Unit) (fun z16 => (⟨[(4, .ptr b1 0), (7, .ptr b8 0), (8, .ptr b10 0), (41, .v (.bool y16.1))], [(b8, Blk.cells [.lst 4 (y16.2.1.map Kc) .no, iD y16.2.2.1, iD y16.2.2.2] 67), (b1, Blk.cells [tD ByteArray.empty, .v (.bool false), iD (0 : Int), iD (0 : Int)] 39), (b10, Blk.cells [tD x13.1, .v (.bool x12.1), iD (0 : Int), iD x9.gAt] 39)], []⟩ : S)) ?_ ?_
   ·clear hm; have hm := KE q16
    refine KC ?_
    refine pu ?_
    refine pL 2 ?_
    refine pu ?_
    refine pu ?_
    refine K9 (i := 38) rfl (fun hg17 => ?_) (fun hg17 => ?_)
    ·replace hm := yes_t hg17 hm
     refine pu ?_
     obtain ⟨x18, q18, hm⟩ := Kf hm
     refine pG (Kch x13.2 (ByteArray.mk #[91]) b8 67 .no x18 q18) Wl Pf Pf ?_
     rintro _ _ _ ⟨rfl, rfl, rfl⟩
     refine KS rfl rfl rfl rfl rfl rfl ?_
     refine KB ?_
     have e16 := Kn hm; subst e16
     refine ⟨rfl, ?_⟩
     exact WkX.of () (WkS.perm (WkS.cons rfl (Wk.refl _) (WkS.cons rfl (Wk.refl _) (WkS.cons rfl (Wk.refl _) (WkS.cons rfl (Wk.refl _) (WkS.nil))))) Pf Pf)
    ·replace hm := yes_f hg17 hm
     refine pK ?_
     refine pK ?_
     refine KH rfl rfl rfl rfl rfl rfl ?_
     refine KB ?_
     have e16 := Kn hm; subst e16
     refine ⟨rfl, ?_⟩
     exact WkX.of () (WkS.perm (WkS.cons rfl (Wk.refl _) (WkS.cons rfl (Wk.refl _) (WkS.cons rfl (Wk.refl _) (WkS.cons rfl (Wk.refl _) (WkS.nil))))) Pf Pf)
   ·intro s16 hw16; clear hm; have hm := ho16; clear q16 ho16
    refine Km ?_
    refine K3 hw16 (fun z16 => ?_)
    obtain ⟨y43, q43, ho43⟩ := Kf hm
    refine K6 (Y := Unit) (fun z43 => (⟨[(4, .ptr b1 0), (7, .ptr b8 0), (8, .ptr b10 0)], [(b8, Blk.cells [.lst 4 (y43.1.map Kc) .no, iD y43.2.1, iD y43.2.2.1] 67), (b1, Blk.cells [tD ByteArray.empty, .v (.bool false), iD (0 : Int), iD (0 : Int)] 39), (b10, Blk.cells [tD x13.1, .v (.bool x12.1), iD y43.2.2.2, iD x9.gAt] 39)], []⟩ : S)) ?_ ?_
    ·clear hm; have hm := KE q43
     refine Ku rfl (fun hc44 => ?_) (fun hc44 => ?_)
     ·replace hm := yes_t hc44 hm
      refine Kl ?_
      refine pu ?_
      obtain ⟨x45, q45, hm⟩ := Kf hm
      refine pG (KbI (⟨y16.2.1, y16.2.2.1, y16.2.2.2⟩ : Kd) b8 67 .no x45 q45) Wl Pf Pf ?_
      rintro _ _ _ ⟨rfl, rfl, rfl⟩
      refine KP htab rfl rfl rfl rfl rfl rfl rfl (fun b46 => ?_)
      refine pS3 (ds' := [iD x45.gKind, tD x45.gText, iD x45.gN, iD x45.gAt]) ?_
      refine Kh ?_
      refine Kq ?_
      refine Kl ?_
      refine pu ?_
      refine pL 3 ?_
      refine pu ?_
      refine Kh ?_
      obtain ⟨y54, q54, ho54⟩ := Kf hm
      refine K6 (Y := Unit) (fun z54 => (⟨[(4, .ptr b1 0), (7, .ptr b8 0), (8, .ptr b10 0), (9, .ptr b46 0)], [(b8, Blk.cells [.lst 4 (y54.1.map Kc) .no, iD y54.2.1, iD y54.2.2] 67), (b1, Blk.cells [tD ByteArray.empty, .v (.bool false), iD (0 : Int), iD (0 : Int)] 39), (b10, Blk.cells [tD x13.1, .v (.bool x12.1), iD (0 : Int), iD x9.gAt] 39), (b46, Blk.cells [iD x45.gKind, tD x45.gText, iD x45.gN, iD x45.gAt] 69)], []⟩ : S)) ?_ ?_
      ·clear hm; have hm := KE q54
       refine Ku rfl (fun hc55 => ?_) (fun hc55 => ?_)
       ·replace hm := yes_t hc55 hm
        refine KC ?_
        iterate 4 refine pu ?_
        refine pL 0 ?_
        obtain ⟨x56, q56, hm⟩ := Kf hm
        refine pG (Kb7 (⟨y16.2.1, y16.2.2.1, y16.2.2.2⟩ : Kd) y16.2.2.1 (3 : Int) b8 67 .no x56 q56) Wl Pf Pf ?_
        rintro _ _ _ ⟨rfl, rfl, rfl⟩
        refine KB ?_
        have e54 := Kn hm; subst e54
        refine ⟨rfl, ?_⟩
        exact WkX.of () (WkS.perm (WkS.cons rfl (Wk.refl _) (WkS.cons rfl (Wk.refl _) (WkS.cons rfl (Wk.refl _) (WkS.cons rfl (Wk.refl _) (WkS.nil))))) Pf Pf)
       ·replace hm := yes_f hc55 hm
        refine Kq ?_
        obtain ⟨y58, q58, ho58⟩ := Kf hm
        refine K6 (Y := Unit) (fun z58 => (⟨[(4, .ptr b1 0), (7, .ptr b8 0), (8, .ptr b10 0), (9, .ptr b46 0), (60, .v (.bool y58))], [(b8, Blk.cells [.lst 4 (y16.2.1.map Kc) .no, iD y16.2.2.1, iD y16.2.2.2] 67), (b1, Blk.cells [tD ByteArray.empty, .v (.bool false), iD (0 : Int), iD (0 : Int)] 39), (b10, Blk.cells [tD x13.1, .v (.bool x12.1), iD (0 : Int), iD x9.gAt] 39), (b46, Blk.cells [iD x45.gKind, tD x45.gText, iD x45.gN, iD x45.gAt] 69)], []⟩ : S)) ?_ ?_
        ·clear hm; have hm := KE q58
         refine KC ?_
         refine pu ?_
         refine pL 3 ?_
         refine pu ?_
         refine pu ?_
         refine K9 (i := 56) rfl (fun hg59 => ?_) (fun hg59 => ?_)
         ·replace hm := yes_t hg59 hm
          iterate 3 refine pK ?_
          refine KS rfl rfl rfl rfl rfl rfl ?_
          refine KB ?_
          have e58 := Kn hm; subst e58
          refine ⟨rfl, ?_⟩
          exact WkX.of () (WkS.perm (WkS.cons rfl (Wk.refl _) (WkS.cons rfl (Wk.refl _) (WkS.cons rfl (Wk.refl _) (WkS.cons rfl (Wk.refl _) (WkS.cons rfl (Wk.refl _) (WkS.nil)))))) Pf Pf)
         ·replace hm := yes_f hg59 hm
          refine pu ?_
          refine pL 3 ?_
          refine pu ?_
          refine KH rfl rfl rfl rfl rfl rfl ?_
          refine KB ?_
          have e58 := Kn hm; subst e58
          refine ⟨rfl, ?_⟩
          exact WkX.of () (WkS.perm (WkS.cons rfl (Wk.refl _) (WkS.cons rfl (Wk.refl _) (WkS.cons rfl (Wk.refl _) (WkS.cons rfl (Wk.refl _) (WkS.cons rfl (Wk.refl _) (WkS.nil)))))) Pf Pf)
        ·intro s58 hw58; clear hm; have hm := ho58; clear q58 ho58
         refine Km ?_
         refine K3 hw58 (fun z58 => ?_)
         obtain ⟨y62, q62, ho62⟩ := Kf hm
         refine K6 (Y := Unit) (fun z62 => (⟨[(4, .ptr b1 0), (7, .ptr b8 0), (8, .ptr b10 0), (9, .ptr b46 0)], [(b8, Blk.cells [.lst 4 (y62.1.map Kc) .no, iD y62.2.1, iD y62.2.2] 67), (b1, Blk.cells [tD ByteArray.empty, .v (.bool false), iD (0 : Int), iD (0 : Int)] 39), (b10, Blk.cells [tD x13.1, .v (.bool x12.1), iD (0 : Int), iD x9.gAt] 39), (b46, Blk.cells [iD x45.gKind, tD x45.gText, iD x45.gN, iD x45.gAt] 69)], []⟩ : S)) ?_ ?_
         ·clear hm; have hm := KE q62
          refine Ku rfl (fun hc63 => ?_) (fun hc63 => ?_)
          ·replace hm := yes_t hc63 hm
           refine KC ?_
           iterate 4 refine pu ?_
           refine pL 0 ?_
           obtain ⟨x64, q64, hm⟩ := Kf hm
           refine pG (Kb7 (⟨y16.2.1, y16.2.2.1, y16.2.2.2⟩ : Kd) y16.2.2.1 (4 : Int) b8 67 .no x64 q64) Wl Pf Pf ?_
           rintro _ _ _ ⟨rfl, rfl, rfl⟩
           refine KB ?_
           have e62 := Kn hm; subst e62
           refine ⟨rfl, ?_⟩
           exact WkX.of () (WkS.perm (WkS.cons rfl (Wk.refl _) (WkS.cons rfl (Wk.refl _) (WkS.cons rfl (Wk.refl _) (WkS.cons rfl (Wk.refl _) (WkS.nil))))) Pf Pf)
          ·replace hm := yes_f hc63 hm
           refine Ky ?_
           have e62 := Kn hm; subst e62
           refine ⟨rfl, ?_⟩
           exact WkX.of () (WkS.perm (WkS.cons rfl (Wk.refl _) (WkS.cons rfl (Wk.refl _) (WkS.cons rfl (Wk.refl _) (WkS.cons rfl (Wk.refl _) (WkS.nil))))) Pf Pf)
         ·intro s62 hw62; clear hm; have hm := ho62; clear q62 ho62
          have e54 := Kn hm; subst e54
          refine ⟨rfl, ?_⟩
          refine WkX.trans hw62 (fun z62 => ?_)
          exact WkX.of () (WkS.perm (WkS.cons rfl (Wk.refl _) (WkS.cons rfl (Wk.refl _) (WkS.cons rfl (Wk.refl _) (WkS.cons rfl (Wk.refl _) (WkS.nil))))) Pf Pf)
      ·intro s54 hw54; clear hm; have hm := ho54; clear q54 ho54
       refine Km ?_
       refine K3 hw54 (fun z54 => ?_)
       refine Kq ?_
       refine Kl ?_
       iterate 3 refine pu ?_
       refine pL 0 ?_
       refine pu ?_
       refine Kh ?_
       obtain ⟨y66, q66, ho66⟩ := Kf hm
       refine K6 (Y := Unit) (fun z66 => (⟨[(4, .ptr b1 0), (7, .ptr b8 0), (8, .ptr b10 0)], [(b8, Blk.cells [.lst 4 (y54.1.map Kc) .no, iD y66.1, iD y54.2.2] 67), (b1, Blk.cells [tD ByteArray.empty, .v (.bool false), iD (0 : Int), iD (0 : Int)] 39), (b10, Blk.cells [tD x13.1, .v (.bool x12.1), iD y66.2, iD x9.gAt] 39)], []⟩ : S)) ?_ ?_
       ·clear hm; have hm := KE q66
        refine Ku rfl (fun hc67 => ?_) (fun hc67 => ?_)
        ·replace hm := yes_t hc67 hm
         refine Kl ?_
         refine pu ?_
         refine pL 3 ?_
         refine pu ?_
         refine pS2 (ds' := [tD x13.1, .v (.bool x12.1), iD x45.gN, iD x9.gAt]) ?_
         refine Kh ?_
         refine KC ?_
         iterate 3 refine pu ?_
         refine pL 0 ?_
         iterate 3 refine pu ?_
         refine pS0 (ds' := [.lst 4 (y54.1.map Kc) .no, iD (IntKind.i64.wrap (y54.2.1 + (1 : Int))), iD y54.2.2]) ?_
         refine KB ?_
         have e66 := Kn hm; subst e66
         refine ⟨rfl, ?_⟩
         exact WkX.of () (WkS.perm (WkS.cons rfl (Wk.refl _) (WkS.cons rfl (Wk.refl _) (WkS.cons rfl (Wk.refl _) (WkS.nil)))) Pf Pf)
        ·replace hm := yes_f hc67 hm
         refine Ky ?_
         have e66 := Kn hm; subst e66
         refine ⟨rfl, ?_⟩
         exact WkX.of () (WkS.perm (WkS.cons rfl (Wk.refl _) (WkS.cons rfl (Wk.refl _) (WkS.cons rfl (Wk.refl _) (WkS.nil)))) Pf Pf)
       ·intro s66 hw66; clear hm; have hm := ho66; clear q66 ho66
        refine Km ?_
        refine K3 hw66 (fun z66 => ?_)
        refine KC ?_
        refine pu ?_
        obtain ⟨x68, q68, hm⟩ := Kf hm
        refine pG (Kat (⟨y54.1, y66.1, y54.2.2⟩ : Kd) (ByteArray.mk #[93]) b8 67 .no x68 q68) Wl Pf Pf ?_
        rintro _ _ _ ⟨rfl, rfl, rfl⟩
        refine KB ?_
        have e43 := Kn hm; subst e43
        refine ⟨rfl, ?_⟩
        exact WkX.of () (WkS.perm (WkS.cons rfl (Wk.refl _) (WkS.cons rfl (Wk.refl _) (WkS.cons rfl (Wk.refl _) (WkS.nil)))) Pf Pf)
     ·replace hm := yes_f hc44 hm
      refine Ky ?_
      have e43 := Kn hm; subst e43
      refine ⟨rfl, ?_⟩
      exact WkX.of () (WkS.perm (WkS.cons rfl (Wk.refl _) (WkS.cons rfl (Wk.refl _) (WkS.cons rfl (Wk.refl _) (WkS.nil)))) Pf Pf)
    ·intro s43 hw43; clear hm; have hm := ho43; clear q43 ho43
     refine Km ?_
     refine K3 hw43 (fun z43 => ?_)
     refine Kl ?_
     refine pu ?_
     obtain ⟨x69, q69, hm⟩ := Kf hm
     refine pG (Kat (⟨y43.1, y43.2.1, y43.2.2.1⟩ : Kd) (ByteArray.mk #[59]) b8 67 .no x69 q69) Wl Pf Pf ?_
     rintro _ _ _ ⟨rfl, rfl, rfl⟩
     refine Kh ?_
     refine Kq ?_
     refine Kl ?_
     iterate 3 refine pu ?_
     refine pL 0 ?_
     refine pu ?_
     refine Kh ?_
     refine Ku rfl (fun hc72 => ?_) (fun hc72 => ?_)
     ·replace hm := yes_t hc72 hm
      refine Kq ?_
      refine Kcm 11 [] [[],[],[1],[1,2],[1,2,3],[],[5],[5,6],[5,6,7],[0],[0,1,2,3,4,9]] [0,1,2,3,4,5,6,7,8,9] [[],[],[1],[1,2],[1,2,3],[],[5],[5,6],[5,6,7],[0],[0,1,2,3,4,9],[0,1,2,3,4,5,6,7,8,9,10]] 9 (by kernel_rfl) (by kernel_rfl) (by kernel_rfl) (by rfl) (by rfl) (by kernel_rfl) ?_
      refine ⟨[(b8, Blk.cells [.lst 4 (x69.gL.map Kc) .no, iD x69.gAt, iD x69.gE] 67), (b1, Blk.cells [tD ByteArray.empty, .v (.bool false), iD (0 : Int), iD (0 : Int)] 39), (b10, Blk.cells [tD x13.1, .v (.bool x12.1), iD y43.2.2.2, iD x9.gAt] 39)], ?_⟩
      iterate 9 apply Exists.intro
      refine ⟨.any, ?_⟩
      intro bs v73
      refine zh_e rfl rfl (KdY (r := [tD ByteArray.empty, .v (.bool false), iD (0 : Int), iD (0 : Int)]) htab rfl rfl rfl rfl rfl rfl) rfl rfl rfl rfl rfl rfl rfl rfl ?_
      iterate 3 refine zh_e rfl rfl (KT htab rfl) rfl rfl rfl rfl rfl rfl rfl rfl ?_
      refine zh_M rfl rfl (fun _ => KF 0 htab rfl rfl rfl rfl rfl) (fun _ => KF 0 htab rfl rfl rfl rfl rfl) rfl rfl rfl rfl rfl rfl rfl rfl ?_
      iterate 3 refine zh_e rfl rfl (KT htab rfl) rfl rfl rfl rfl rfl rfl rfl rfl ?_
      refine zh_M rfl rfl (fun _ => KF 0 htab rfl rfl rfl rfl rfl) (fun _ => KF 0 htab rfl rfl rfl rfl rfl) rfl rfl rfl rfl rfl rfl rfl rfl ?_
      refine KcA 1 htab rfl rfl rfl rfl rfl rfl rfl rfl rfl rfl rfl rfl rfl rfl rfl rfl ?_
      refine zh_q rfl rfl (KT htab rfl) rfl rfl rfl rfl rfl rfl ?_
      refine KdE rfl rfl rfl rfl (fun e he => by simp [isAl] at he) ?_
      refine pu ?_
      refine Kh ?_
      refine Ks ?_
      refine KD ?_
      have er74 := Kn hm; subst er74
      refine rP (t' := [(4, .ptr b1 0), (5, iD x69.gAt), (6, iD x69.gE)]) [1] [] 0 (wC (wC (wC wN))) (lC 0 (lT (lT lN))) ?_
      exact ⟨rfl, rfl, rfl⟩
     ·replace hm := yes_f hc72 hm
      refine Ky ?_
      refine Km ?_
      refine Kq ?_
      refine Kcm 6 [] [[],[],[1],[1,2],[1,2,3],[0]] [0,1,2,3,4,5] [[],[],[1],[1,2],[1,2,3],[0],[0,1,2,3,4,5],[0,1,2,3,4,5,6]] 5 (by kernel_rfl) (by kernel_rfl) (by kernel_rfl) (by rfl) (by rfl) (by kernel_rfl) ?_
      refine ⟨[(b8, Blk.cells [.lst 4 (x69.gL.map Kc) .no, iD x69.gAt, iD x69.gE] 67), (b1, Blk.cells [tD x13.1, .v (.bool x12.1), iD y43.2.2.2, iD x9.gAt] 39), (b10, Blk.cells [tD x13.1, .v (.bool x12.1), iD y43.2.2.2, iD x9.gAt] 39)], ?_⟩
      iterate 5 apply Exists.intro
      refine ⟨.any, ?_⟩
      intro bs v75
      refine zh_M rfl rfl (fun _ => KF (d := KcO (⟨x13.1, x12.1, y43.2.2.2, x9.gAt⟩ : Ka4)) 2 htab rfl rfl rfl rfl rfl) (offB rfl) rfl rfl rfl rfl rfl rfl rfl rfl ?_
      iterate 3 refine zh_e rfl rfl (KT htab rfl) rfl rfl rfl rfl rfl rfl rfl rfl ?_
      refine zh_M rfl rfl (fun _ => KF 0 htab rfl rfl rfl rfl rfl) (fun _ => KF 0 htab rfl rfl rfl rfl rfl) rfl rfl rfl rfl rfl rfl rfl rfl ?_
      refine KcA 1 htab rfl rfl rfl rfl rfl rfl rfl rfl rfl rfl rfl rfl rfl rfl rfl rfl ?_
      refine KdE rfl rfl rfl rfl (fun e he => by simp [isAl] at he) ?_
      refine pu ?_
      refine pu ?_
      refine Kh ?_
      refine Ks ?_
      have er76 := Kn hm; subst er76
      refine rP (t' := [(4, .ptr b1 0), (5, iD x69.gAt), (6, iD (0 : Int))]) [1] [] 0 (wC (wC (wC wN))) (lC 0 (lT (lT lN))) ?_
      exact ⟨rfl, rfl, rfl⟩
noncomputable def Kdy (a0 : List Kt) (a1 : Int) : Option (Bool) :=
 (bif (decide ((4000 : Int) < (a0.length : Int))) then (l13_lives.bind fun x4 => some x4) else ((KbT a0 a1).bind fun x9 => ((Keg a0 a1).bind fun x14 => ((KbZ a0 a1).bind fun x16 => ((Kdj a0 a1).bind fun x18 => ((Keh x9.1 x14.1 true).bind fun x20 => (bif x20 then (bif (x9.2.1 == x14.2.1) then (bif (x9.2.2 == x14.2.2) then (bif (decide (x16.1.gName = x18.1.gName) && (x16.1.gPtr == x18.1.gPtr && (x16.1.gSize == x18.1.gSize && (x16.1.gAt == x18.1.gAt && true)))) then (bif (x16.2.1 == x18.2.1) then (bif (x16.2.2 == x18.2.2) then (l13_lives.bind fun x27 => some x27) else some false) else some false) else some false) else some false) else some false) else some false)))))))
theorem l13_GrammarTokens_ok (a0 : List Kt) (a1 : Int) (r : Bool) (h0 : Kdy a0 a1 = some r) : CallsD Try.prog 4 [.lst 4 (a0.map Kc) .no, iD a1] [] [] (fun d h k => d = .v (.bool r) ∧ h = [] ∧ k = []) := by
 have hm := KE h0
 unfold Kdy at hm
 clear h0
 refine KW htab Try.func4 rfl rfl rfl rfl rfl (fun C => ?_)
 refine Kl ?_
 refine pu ?_
 refine Kh ?_
 refine Kq ?_
 refine Kl ?_
 refine pu ?_
 refine KaP htab rfl rfl rfl rfl rfl rfl rfl (by first | exact Kaf | rfl) ?_
 refine pu ?_
 refine Kh ?_
 refine Ku rfl (fun hc3 => ?_) (fun hc3 => ?_)
 ·replace hm := yes_t hc3 hm
  refine Kl ?_
  obtain ⟨x4, q4, hm⟩ := Kf hm
  refine KaJ (Kin x4 q4) rfl rfl rfl rfl rfl Wl ?_
  rintro _ rfl
  refine pu ?_
  refine Kh ?_
  refine Ks ?_
  refine KD ?_
  have er5 := Kn hm; subst er5
  refine rP (t' := [(4, .v (.bool x4))]) [] [] 0 (wC wN) (lT lN) ?_
  exact ⟨rfl, rfl, rfl⟩
 ·replace hm := yes_f hc3 hm
  refine Ky ?_
  refine Km ?_
  refine Kl ?_
  refine pu ?_
  refine pu ?_
  obtain ⟨x9, q9, hm⟩ := Kf hm
  refine pG (KgN a0 a1 x9 q9) Wl Pf Pf ?_
  rintro _ _ _ ⟨w6, w7, w8, rfl, rfl, rfl⟩
  iterate 4 refine pu ?_
  refine KP htab rfl rfl rfl rfl rfl rfl rfl (fun b10 => ?_)
  refine pS0 (ds' := [tD x9.1.gName, .lst 2 (x9.1.gParams.map Kw) (.cur w6), .lst 2 (x9.1.gLocals.map Kw) (.cur w7), .lst 7 (x9.1.gBody.map Ki) (.cur w8), iD x9.1.gAt]) ?_
  refine pu ?_
  refine pu ?_
  refine Kv ?_
  refine pu ?_
  refine pu ?_
  obtain ⟨x14, q14, hm⟩ := Kf hm
  refine pG (KkD a0 a1 x14 q14) Wl Pf Pf ?_
  rintro _ _ _ ⟨w11, w12, w13, rfl, rfl, rfl⟩
  iterate 4 refine pu ?_
  refine KP htab rfl rfl rfl rfl rfl rfl rfl (fun b15 => ?_)
  refine pS1 (ds' := [tD x14.1.gName, .lst 2 (x14.1.gParams.map Kw) (.cur w11), .lst 2 (x14.1.gLocals.map Kw) (.cur w12), .lst 7 (x14.1.gBody.map Ki) (.cur w13), iD x14.1.gAt]) ?_
  refine pu ?_
  refine pu ?_
  refine Kv ?_
  refine pu ?_
  refine pu ?_
  obtain ⟨x16, q16, hm⟩ := Kf hm
  refine KaJ (KiA a0 a1 x16 q16) rfl rfl rfl rfl rfl Wl ?_
  rintro _ rfl
  iterate 4 refine pu ?_
  refine KP htab rfl rfl rfl rfl rfl rfl rfl (fun b17 => ?_)
  refine pS2 (ds' := [tD x16.1.gName, .v (.bool x16.1.gPtr), iD x16.1.gSize, iD x16.1.gAt]) ?_
  refine pu ?_
  refine pu ?_
  refine Kv ?_
  refine pu ?_
  refine pu ?_
  obtain ⟨x18, q18, hm⟩ := Kf hm
  refine KaJ (Kkf a0 a1 x18 q18) rfl rfl rfl rfl rfl Wl ?_
  rintro _ rfl
  iterate 4 refine pu ?_
  refine KP htab rfl rfl rfl rfl rfl rfl rfl (fun b19 => ?_)
  refine pS3 (ds' := [tD x18.1.gName, .v (.bool x18.1.gPtr), iD x18.1.gSize, iD x18.1.gAt]) ?_
  refine pu ?_
  refine pu ?_
  refine Kv ?_
  refine K7 (d := .agg [tD x9.1.gName, .lst 2 (x9.1.gParams.map Kw) (.cur w6), .lst 2 (x9.1.gLocals.map Kw) (.cur w7), .lst 7 (x9.1.gBody.map Ki) (.cur w8), iD x9.1.gAt]) 0 htab rfl rfl rfl rfl rfl rfl rfl rfl ?_
  refine K7 (d := .agg [tD x14.1.gName, .lst 2 (x14.1.gParams.map Kw) (.cur w11), .lst 2 (x14.1.gLocals.map Kw) (.cur w12), .lst 7 (x14.1.gBody.map Ki) (.cur w13), iD x14.1.gAt]) 1 htab rfl rfl rfl rfl rfl rfl rfl rfl ?_
  obtain ⟨x20, q20, hm⟩ := Kf hm
  refine KaJ (Kjh x9.1 x14.1 true x20 q20) rfl rfl rfl rfl rfl (WkL.cons (Wk.agg (rC (rO (rO (rO (rC WkR.nil)))))) (WkL.cons (Wk.agg (rC (rO (rO (rO (rC WkR.nil)))))) (WkL.cons (Wk.refl _) Wl))) ?_
  rintro _ rfl
  refine pu ?_
  refine K9 (i := 52) rfl (fun hg21 => ?_) (fun hg21 => ?_)
  ·replace hm := yes_t hg21 hm
   iterate 3 refine pu ?_
   refine KS rfl rfl rfl rfl rfl rfl ?_
   refine pu ?_
   refine K9 (i := 57) rfl (fun hg22 => ?_) (fun hg22 => ?_)
   ·replace hm := yes_t hg22 hm
    iterate 3 refine pu ?_
    refine KS rfl rfl rfl rfl rfl rfl ?_
    refine pu ?_
    refine K9 (i := 62) rfl (fun hg23 => ?_) (fun hg23 => ?_)
    ·replace hm := yes_t hg23 hm
     refine K7 (d := KcO x16.1) 2 htab rfl rfl rfl rfl rfl rfl rfl rfl ?_
     refine K7 (d := KcO x18.1) 3 htab rfl rfl rfl rfl rfl rfl rfl rfl ?_
     refine p_eqS htab rfl rfl rfl rfl rfl eqt39 rfl rfl rfl rfl rfl ?_
     refine KS rfl rfl rfl rfl rfl rfl ?_
     refine pu ?_
     refine K9 (i := 67) rfl (fun hg24 => ?_) (fun hg24 => ?_)
     ·replace hm := yes_t hg24 hm
      iterate 3 refine pu ?_
      refine KS rfl rfl rfl rfl rfl rfl ?_
      refine pu ?_
      refine K9 (i := 72) rfl (fun hg25 => ?_) (fun hg25 => ?_)
      ·replace hm := yes_t hg25 hm
       iterate 3 refine pu ?_
       refine KS rfl rfl rfl rfl rfl rfl ?_
       refine pu ?_
       refine K9 (i := 77) rfl (fun hg26 => ?_) (fun hg26 => ?_)
       ·replace hm := yes_t hg26 hm
        obtain ⟨x27, q27, hm⟩ := Kf hm
        refine KaJ (Kin x27 q27) rfl rfl rfl rfl rfl Wl ?_
        rintro _ rfl
        refine KS rfl rfl rfl rfl rfl rfl ?_
        refine pu ?_
        refine Kh ?_
        refine Ks ?_
        have er28 := Kn hm; subst er28
        refine rP (t' := [(4, .v (.bool x27))]) [] [] 0 (wC wN) (lT lN) ?_
        exact ⟨rfl, rfl, rfl⟩
       ·replace hm := yes_f hg26 hm
        refine pK ?_
        refine KH rfl rfl rfl rfl rfl rfl ?_
        refine pu ?_
        refine Kh ?_
        refine Ks ?_
        have er29 := Kn hm; subst er29
        refine rP (t' := [(4, .v (.bool false))]) [] [] 0 (wC wN) (lT lN) ?_
        exact ⟨rfl, rfl, rfl⟩
      ·replace hm := yes_f hg25 hm
       iterate 3 refine pK ?_
       refine KH rfl rfl rfl rfl rfl rfl ?_
       refine pu ?_
       refine pK ?_
       refine KH rfl rfl rfl rfl rfl rfl ?_
       refine pu ?_
       refine Kh ?_
       refine Ks ?_
       have er30 := Kn hm; subst er30
       refine rP (t' := [(4, .v (.bool false))]) [] [] 0 (wC wN) (lT lN) ?_
       exact ⟨rfl, rfl, rfl⟩
     ·replace hm := yes_f hg24 hm
      iterate 3 refine pK ?_
      refine KH rfl rfl rfl rfl rfl rfl ?_
      refine pu ?_
      iterate 3 refine pK ?_
      refine KH rfl rfl rfl rfl rfl rfl ?_
      refine pu ?_
      refine pK ?_
      refine KH rfl rfl rfl rfl rfl rfl ?_
      refine pu ?_
      refine Kh ?_
      refine Ks ?_
      have er31 := Kn hm; subst er31
      refine rP (t' := [(4, .v (.bool false))]) [] [] 0 (wC wN) (lT lN) ?_
      exact ⟨rfl, rfl, rfl⟩
    ·replace hm := yes_f hg23 hm
     iterate 3 refine pK ?_
     refine KH rfl rfl rfl rfl rfl rfl ?_
     refine pu ?_
     iterate 3 refine pK ?_
     refine KH rfl rfl rfl rfl rfl rfl ?_
     refine pu ?_
     iterate 3 refine pK ?_
     refine KH rfl rfl rfl rfl rfl rfl ?_
     refine pu ?_
     refine pK ?_
     refine KH rfl rfl rfl rfl rfl rfl ?_
     refine pu ?_
     refine Kh ?_
     refine Ks ?_
     have er32 := Kn hm; subst er32
     refine rP (t' := [(4, .v (.bool false))]) [] [] 0 (wC wN) (lT lN) ?_
     exact ⟨rfl, rfl, rfl⟩
   ·replace hm := yes_f hg22 hm
    iterate 3 refine pK ?_
    refine KH rfl rfl rfl rfl rfl rfl ?_
    refine pu ?_
    iterate 3 refine pK ?_
    refine KH rfl rfl rfl rfl rfl rfl ?_
    refine pu ?_
    iterate 3 refine pK ?_
    refine KH rfl rfl rfl rfl rfl rfl ?_
    refine pu ?_
    iterate 3 refine pK ?_
    refine KH rfl rfl rfl rfl rfl rfl ?_
    refine pu ?_
    refine pK ?_
    refine KH rfl rfl rfl rfl rfl rfl ?_
    refine pu ?_
    refine Kh ?_
    refine Ks ?_
    have er33 := Kn hm; subst er33
    refine rP (t' := [(4, .v (.bool false))]) [] [] 0 (wC wN) (lT lN) ?_
    exact ⟨rfl, rfl, rfl⟩
  ·replace hm := yes_f hg21 hm
   iterate 3 refine pK ?_
   refine KH rfl rfl rfl rfl rfl rfl ?_
   refine pu ?_
   iterate 3 refine pK ?_
   refine KH rfl rfl rfl rfl rfl rfl ?_
   refine pu ?_
   iterate 3 refine pK ?_
   refine KH rfl rfl rfl rfl rfl rfl ?_
   refine pu ?_
   iterate 3 refine pK ?_
   refine KH rfl rfl rfl rfl rfl rfl ?_
   refine pu ?_
   iterate 3 refine pK ?_
   refine KH rfl rfl rfl rfl rfl rfl ?_
   refine pu ?_
   refine pK ?_
   refine KH rfl rfl rfl rfl rfl rfl ?_
   refine pu ?_
   refine Kh ?_
   refine Ks ?_
   have er34 := Kn hm; subst er34
   refine rP (t' := [(4, .v (.bool false))]) [] [] 0 (wC wN) (lT lN) ?_
   exact ⟨rfl, rfl, rfl⟩
end Go.Proofs.Ytmgklehakmdiiaa.Ab
