/- The texts that grammarFuncs_holds leans on, part 5. -/
import Derived.Test.YtmgklehakmdiiaaGe4
set_option maxRecDepth 100000
set_option maxHeartbeats 2000000
namespace Go.Proofs.Ytmgklehakmdiiaa.Ab
open Go
set_option linter.all false
noncomputable def Kcc (g0 : (Kd) → (Int) → Option (Ka × Kd)) (g1 : (Kd) → Option (Ka × Kd)) (g2 : (Kd) → (Ka) → (Int) → (Int) → Option (Ka × Kd)) (m0 : Kd) (a1 : Int) : Option (Ka × Kd) :=
 (bif (a1 == (6 : Int)) then ((g1 m0).bind fun x5 => some (x5.1, x5.2)) else ((g0 m0 (IntKind.i64.wrap (a1 + (1 : Int)))).bind fun x7 => (Option.bind (α := List Kq × Int × Int × Int × Int × ByteArray × List Ka × Int) (loopM (fun (s68 : List Kq × Int × Int × Int × Int × ByteArray × List Ka × Int) => (Option.bind (α := Bool) (bif (s68.2.2.1 == (0 : Int)) then ((Kbq (⟨s68.1, s68.2.1, s68.2.2.1⟩ : Kd)).bind fun x114 => (bif (x114.gKind == (3 : Int)) then ((Kbq (⟨s68.1, s68.2.1, s68.2.2.1⟩ : Kd)).bind fun x116 => ((Kfe a1 x116.gText).bind fun x117 => some (x117 != (0 : Int)))) else some false)) else some false) fun y112 => (bif y112 then ((Kbq (⟨s68.1, s68.2.1, s68.2.2.1⟩ : Kd)).bind fun x119 => ((g0 (⟨s68.1, (IntKind.i64.wrap (s68.2.1 + (1 : Int))), s68.2.2.1⟩ : Kd) (IntKind.i64.wrap (a1 + (1 : Int)))).bind fun x121 => ((Kfe a1 x119.gText).bind fun x123 => ((KbT x121.2 (⟨x123, (0 : Int), ByteArray.empty, ([(⟨s68.2.2.2.1, s68.2.2.2.2.1, s68.2.2.2.2.2.1, s68.2.2.2.2.2.2.1, s68.2.2.2.2.2.2.2⟩ : Ka), x121.1] : List Ka), x119.gAt⟩ : Ka) s68.2.1).bind fun x124 => some (.next (x124.2.gL, x124.2.gAt, x124.2.gE, x124.1.gOp, x124.1.gN, x124.1.gName, x124.1.gKids, x124.1.gAt)))))) else some (.done (s68.1, s68.2.1, s68.2.2.1, s68.2.2.2.1, s68.2.2.2.2.1, s68.2.2.2.2.2.1, s68.2.2.2.2.2.2.1, s68.2.2.2.2.2.2.2))))) (x7.2.gL, x7.2.gAt, x7.2.gE, x7.1.gOp, x7.1.gN, x7.1.gName, x7.1.gKids, x7.1.gAt)) fun y67 => some ((⟨y67.2.2.2.1, y67.2.2.2.2.1, y67.2.2.2.2.2.1, y67.2.2.2.2.2.2.1, y67.2.2.2.2.2.2.2⟩ : Ka), (⟨y67.1, y67.2.1, y67.2.2.1⟩ : Kd)))))
theorem KjI (g0 : (Kd) → (Int) → Option (Ka × Kd)) (g1 : (Kd) → Option (Ka × Kd)) (g2 : (Kd) → (Ka) → (Int) → (Int) → Option (Ka × Kd)) (hg0 : ∀ (m0 : Kd) (a1 : Int) (o0 : Nat) (T0 : TypeId) (c0_0 : Cap) (r : Ka × Kd) (h0 : g0 m0 a1 = some r), CallsD Try.prog 76 [.ptr o0 0, iD a1] [(o0, Blk.cells [.lst 4 (m0.gL.map Kc) c0_0, iD m0.gAt, iD m0.gE] T0)] [] (fun d h k => d = Kg r.1 ∧ h = [(o0, Blk.cells [.lst 4 (r.2.gL.map Kc) .no, iD r.2.gAt, iD r.2.gE] T0)] ∧ k = [])) (hg1 : ∀ (m0 : Kd) (o0 : Nat) (T0 : TypeId) (c0_0 : Cap) (r : Ka × Kd) (h0 : g1 m0 = some r), CallsD Try.prog 85 [.ptr o0 0] [(o0, Blk.cells [.lst 4 (m0.gL.map Kc) c0_0, iD m0.gAt, iD m0.gE] T0)] [] (fun d h k => d = Kg r.1 ∧ h = [(o0, Blk.cells [.lst 4 (r.2.gL.map Kc) .no, iD r.2.gAt, iD r.2.gE] T0)] ∧ k = [])) (hg2 : ∀ (m0 : Kd) (a1 : Ka) (a2 : Int) (a3 : Int) (o0 : Nat) (T0 : TypeId) (c0_0 : Cap) (r : Ka × Kd) (h0 : g2 m0 a1 a2 a3 = some r), CallsD Try.prog 92 [.ptr o0 0, Kg a1, iD a2, iD a3] [(o0, Blk.cells [.lst 4 (m0.gL.map Kc) c0_0, iD m0.gAt, iD m0.gE] T0)] [] (fun d h k => d = Kg r.1 ∧ h = [(o0, Blk.cells [.lst 4 (r.2.gL.map Kc) .no, iD r.2.gAt, iD r.2.gE] T0)] ∧ k = [])) (m0 : Kd) (a1 : Int) (o0 : Nat) (T0 : TypeId) (c0_0 : Cap) (r : Ka × Kd) (h0 : Kcc g0 g1 g2 m0 a1 = some r) : CallsD Try.prog 76 [.ptr o0 0, iD a1] [(o0, Blk.cells [.lst 4 (m0.gL.map Kc) c0_0, iD m0.gAt, iD m0.gE] T0)] [] (fun d h k => d = Kg r.1 ∧ h = [(o0, Blk.cells [.lst 4 (r.2.gL.map Kc) .no, iD r.2.gAt, iD r.2.gE] T0)] ∧ k = []) := by
 have hm := KE h0
 unfold Kcc at hm
 clear h0
 refine KU htab Try.func76 rfl rfl rfl rfl rfl (fun C => ?_)
 refine Kj ?_
 refine KW htab rfl rfl rfl rfl rfl rfl rfl (fun b1 => ?_)
 refine Kh ?_
 refine Kr ?_
 refine Kj ?_
 refine pu ?_
 refine pu ?_
 refine Kh ?_
 refine Ku rfl (fun hc4 => ?_) (fun hc4 => ?_)
 ·replace hm := yes_t hc4 hm
  refine Kj ?_
  refine pu ?_
  obtain ⟨x5, q5, hm⟩ := Kf hm
  refine pG (hg1 m0 o0 T0 c0_0 x5 q5) Wl Pf Pf ?_
  rintro _ _ _ ⟨rfl, rfl, rfl⟩
  refine p_eq (i := 12) rfl (Wk.of_eq (Km x5.1)) ?_
  refine pS1 (ds' := [iD x5.1.gOp, iD x5.1.gN, tD x5.1.gName, .lst 5 (x5.1.gKids.map Kg) .no, iD x5.1.gAt]) ?_
  refine Kh ?_
  refine Ks ?_
  refine Kx ?_
  have er6 := Kn hm; subst er6
  refine rP (t' := [(4, .ptr b1 0)]) [0,0] [] 1 (wC wN) (lC 1 lN) ?_
  exact ⟨by first | rfl | (simp only [wrapD, Km]; done) | (simp only [wrapD, Km]; rfl), rfl, rfl⟩
 ·replace hm := yes_f hc4 hm
  refine Kv ?_
  refine Ki ?_
  refine Kj ?_
  iterate 3 refine pu ?_
  obtain ⟨x7, q7, hm⟩ := Kf hm
  refine pG (hg0 m0 (IntKind.i64.wrap (a1 + (1 : Int))) o0 T0 c0_0 x7 q7) Wl Pf Pf ?_
  rintro _ _ _ ⟨rfl, rfl, rfl⟩
  refine p_eq (i := 16) rfl (Wk.of_eq (Km x7.1)) ?_
  refine KW htab rfl rfl rfl rfl rfl rfl rfl (fun b8 => ?_)
  refine pS2 (ds' := [iD x7.1.gOp, iD x7.1.gN, tD x7.1.gName, .lst 5 (x7.1.gKids.map Kg) .no, iD x7.1.gAt]) ?_
  refine Kh ?_
  refine Kr ?_
  obtain ⟨y67, q67, ho67⟩ := Kf hm
  refine K7 (Y := Unit) (fun z67 => (⟨[(4, .ptr b1 0), (5, .ptr b8 0)], [(o0, Blk.cells [.lst 4 (y67.1.map Kc) .no, iD y67.2.1, iD y67.2.2.1] T0), (b1, Blk.cells [iD (0 : Int), iD (0 : Int), tD ByteArray.empty, .lst 1 [] .full, iD (0 : Int)] 100), (b8, Blk.cells [iD y67.2.2.2.1, iD y67.2.2.2.2.1, tD y67.2.2.2.2.2.1, .lst 5 (y67.2.2.2.2.2.2.1.map Kg) .no, iD y67.2.2.2.2.2.2.2] 100)], []⟩ : S)) ?_ ?_
  ·clear hm; have hm := KE q67
   refine KI ?_
   obtain ⟨u68, hl68, hq68⟩ := yes_m hm
   refine KaU (Y := Unit) hl68 (fun s68 z68 => (⟨[(0, .ptr o0 0), (1, iD a1), (4, .ptr b1 0), (5, .ptr b8 0)], [(o0, Blk.cells [.lst 4 (s68.1.map Kc) .no, iD s68.2.1, iD s68.2.2.1] T0), (b1, Blk.cells [iD (0 : Int), iD (0 : Int), tD ByteArray.empty, .lst 1 [] .full, iD (0 : Int)] 100), (b8, Blk.cells [iD s68.2.2.2.1, iD s68.2.2.2.2.1, tD s68.2.2.2.2.2.1, .lst 5 (s68.2.2.2.2.2.2.1.map Kg) .no, iD s68.2.2.2.2.2.2.2] 100)], []⟩ : S)) ?_ ?_
   ·skip
    exact WkX.of () (WkS.perm (WkS.cons rfl (Wk.refl _) (WkS.cons rfl (Wk.refl _) (WkS.cons rfl (Wk.refl _) (WkS.cons rfl (Wk.refl _) (WkS.nil))))) Pf Pf)
   ·intro G68 s68 z68 hm
    refine Kr ?_
    refine Kr ?_
    obtain ⟨y112, q112, ho112⟩ := Kf hm
    refine K7 (Y := Unit) (fun z112 => (⟨[(0, .ptr o0 0), (1, iD a1), (4, .ptr b1 0), (5, .ptr b8 0), (35, .v (.bool y112))], [(o0, Blk.cells [.lst 4 (s68.1.map Kc) .no, iD s68.2.1, iD s68.2.2.1] T0), (b1, Blk.cells [iD (0 : Int), iD (0 : Int), tD ByteArray.empty, .lst 1 [] .full, iD (0 : Int)] 100), (b8, Blk.cells [iD s68.2.2.2.1, iD s68.2.2.2.2.1, tD s68.2.2.2.2.2.1, .lst 5 (s68.2.2.2.2.2.2.1.map Kg) .no, iD s68.2.2.2.2.2.2.2] 100)], []⟩ : S)) ?_ ?_
    ·clear hm; have hm := KE q112
     refine KD ?_
     iterate 3 refine pu ?_
     refine pL 0 ?_
     refine pu ?_
     refine pu ?_
     refine K5 (i := 22) rfl (fun hg113 => ?_) (fun hg113 => ?_)
     ·replace hm := yes_t hg113 hm
      refine pu ?_
      obtain ⟨x114, q114, hm⟩ := Kf hm
      refine pG (Kcb (⟨s68.1, s68.2.1, s68.2.2.1⟩ : Kd) o0 T0 .no x114 q114) Wl Pf Pf ?_
      rintro _ _ _ ⟨rfl, rfl, rfl⟩
      refine pu ?_
      refine pu ?_
      refine KP rfl rfl rfl rfl rfl rfl ?_
      refine pu ?_
      refine K5 (i := 28) rfl (fun hg115 => ?_) (fun hg115 => ?_)
      ·replace hm := yes_t hg115 hm
       refine pu ?_
       refine pu ?_
       obtain ⟨x116, q116, hm⟩ := Kf hm
       refine pG (Kcb (⟨s68.1, s68.2.1, s68.2.2.1⟩ : Kd) o0 T0 .no x116 q116) Wl Pf Pf ?_
       rintro _ _ _ ⟨rfl, rfl, rfl⟩
       refine pu ?_
       obtain ⟨x117, q117, hm⟩ := Kf hm
       refine Kaw (Kkc a1 x116.gText x117 q117) rfl rfl rfl rfl rfl Wl ?_
       rintro _ rfl
       refine pu ?_
       refine KP rfl rfl rfl rfl rfl rfl ?_
       refine KC ?_
       have e112 := Kn hm; subst e112
       refine ⟨rfl, ?_⟩
       exact WkX.of () (WkS.perm (WkS.cons rfl (Wk.refl _) (WkS.cons rfl (Wk.refl _) (WkS.cons rfl (Wk.refl _) (WkS.cons rfl (Wk.refl _) (WkS.cons rfl (Wk.refl _) (WkS.nil)))))) Pf Pf)
      ·replace hm := yes_f hg115 hm
       iterate 6 refine pK ?_
       refine KL rfl rfl rfl rfl rfl rfl ?_
       refine KC ?_
       have e112 := Kn hm; subst e112
       refine ⟨rfl, ?_⟩
       exact WkX.of () (WkS.perm (WkS.cons rfl (Wk.refl _) (WkS.cons rfl (Wk.refl _) (WkS.cons rfl (Wk.refl _) (WkS.cons rfl (Wk.refl _) (WkS.cons rfl (Wk.refl _) (WkS.nil)))))) Pf Pf)
     ·replace hm := yes_f hg113 hm
      iterate 4 refine pK ?_
      refine KL rfl rfl rfl rfl rfl rfl ?_
      refine pu ?_
      iterate 6 refine pK ?_
      refine KL rfl rfl rfl rfl rfl rfl ?_
      refine KC ?_
      have e112 := Kn hm; subst e112
      refine ⟨rfl, ?_⟩
      exact WkX.of () (WkS.perm (WkS.cons rfl (Wk.refl _) (WkS.cons rfl (Wk.refl _) (WkS.cons rfl (Wk.refl _) (WkS.cons rfl (Wk.refl _) (WkS.cons rfl (Wk.refl _) (WkS.nil)))))) Pf Pf)
    ·intro s112 hw112; clear hm; have hm := ho112; clear q112 ho112
     refine Ki ?_
     refine KZ hw112 (fun z112 => ?_)
     refine Ku rfl (fun hc118 => ?_) (fun hc118 => ?_)
     ·replace hm := yes_t hc118 hm
      refine Kv ?_
      refine Ki ?_
      refine KI ?_
      refine Kr ?_
      obtain ⟨x119, q119, hm⟩ := Kf hm
      refine KfJ 8 [(6, [iD (0 : Int), tD ByteArray.empty, iD (0 : Int), iD (0 : Int)], 69)] [(6, 7, [iD x119.gKind, tD x119.gText, iD x119.gN, iD x119.gAt])] [[],[0],[],[2],[2,3],[2,3,4],[],[0,1,6]] [0,1,2,3,4,6,7] [[],[0],[],[2],[2,3],[2,3,4],[],[0,1,6],[0,1,2,3,4,5,6,7]] (by kernel_rfl) (by kernel_rfl) (by kernel_rfl) (by rfl) (by rfl) (by kernel_rfl) ?_
      iterate 5 apply Exists.intro
      refine ⟨.any, ?_⟩
      refine ⟨.any, ?_⟩
      intro bs
      refine zf_e rfl rfl (K3 htab rfl) rfl rfl rfl rfl rfl rfl rfl ?_
      refine KhR 0 rfl rfl (Kcb (⟨s68.1, s68.2.1, s68.2.2.1⟩ : Kd) o0 T0 .no x119 q119) rfl rfl Wl rfl rfl rfl rfl rfl rfl rfl rfl ?_
      iterate 3 refine zf_e rfl rfl (K3 htab rfl) rfl rfl rfl rfl rfl rfl rfl ?_
      refine zf_qM rfl rfl (KM 0 htab rfl rfl rfl rfl rfl) rfl rfl rfl rfl rfl rfl ?_
      refine Kgq rfl htab rfl rfl rfl rfl rfl rfl rfl rfl rfl rfl (by simp [dOf, eI64]) (by simp) ?_
      refine Khi (e := 6) (zs := [iD (0 : Int), tD ByteArray.empty, iD (0 : Int), iD (0 : Int)]) (T' := 69) (ds' := [iD x119.gKind, tD x119.gText, iD x119.gN, iD x119.gAt]) htab rfl rfl rfl rfl rfl rfl rfl rfl rfl (by simp) (by simp) rfl rfl rfl rfl rfl rfl rfl rfl rfl ?_
      refine zf_nil (h' := [(o0, Blk.cells [.lst 4 (s68.1.map Kc) .no, iD s68.2.1, iD s68.2.2.1] T0), (b1, Blk.cells [iD (0 : Int), iD (0 : Int), tD ByteArray.empty, .lst 1 [] .full, iD (0 : Int)] 100), (b8, Blk.cells [iD s68.2.2.2.1, iD s68.2.2.2.2.1, tD s68.2.2.2.2.2.1, .lst 5 (s68.2.2.2.2.2.2.1.map Kg) .no, iD s68.2.2.2.2.2.2.2] 100), (bs 6, Blk.cells [iD x119.gKind, tD x119.gText, iD x119.gN, iD x119.gAt] 69)]) rfl rfl rfl (fun e he => by simp [isAl] at he; subst he; rfl) ?_
      obtain ⟨b120, hb120⟩ : ∃ b, bs 6 = b := ⟨_, rfl⟩
      simp only [hb120]
      clear hb120
      refine pu ?_
      refine Ky ?_
      iterate 3 refine pu ?_
      refine pL 0 ?_
      iterate 3 refine pu ?_
      refine pS0 (ds' := [.lst 4 (s68.1.map Kc) .no, iD (IntKind.i64.wrap (s68.2.1 + (1 : Int))), iD s68.2.2.1]) ?_
      refine Ky ?_
      iterate 3 refine pu ?_
      obtain ⟨x121, q121, hm⟩ := Kf hm
      refine pG (hg0 (⟨s68.1, (IntKind.i64.wrap (s68.2.1 + (1 : Int))), s68.2.2.1⟩ : Kd) (IntKind.i64.wrap (a1 + (1 : Int))) o0 T0 .no x121 q121) Wl Pf Pf ?_
      rintro _ _ _ ⟨rfl, rfl, rfl⟩
      refine p_eq (i := 52) rfl (Wk.of_eq (Km x121.1)) ?_
      refine KW htab rfl rfl rfl rfl rfl rfl rfl (fun b122 => ?_)
      refine pS4 (ds' := [iD x121.1.gOp, iD x121.1.gN, tD x121.1.gName, .lst 5 (x121.1.gKids.map Kg) .no, iD x121.1.gAt]) ?_
      refine Kh ?_
      obtain ⟨x123, q123, hm⟩ := Kf hm
      refine Kah 12 [] [[],[],[],[2],[2],[],[],[5,6],[],[8],[2,4,5,6,7,8],[]] [0,2,4,5,6,7,8,10] [[],[],[],[2],[1,2,3],[],[],[5,6],[],[8],[1,2,3,4,5,6,7,8,9],[],[0,1,2,3,4,5,6,7,8,9,10,11],[0,1,2,3,4,5,6,7,8,9,10,11,12]] (by kernel_rfl) (by kernel_rfl) (by kernel_rfl) (by rfl) (by rfl) (by kernel_rfl) ?_
      iterate 8 apply Exists.intro
      intro bs
      refine zep ?_
      refine zqp ?_
      refine zep ?_
      refine z_qM rfl rfl (KM 3 htab rfl rfl rfl rfl rfl) rfl rfl rfl rfl rfl rfl ?_
      refine KdE rfl rfl (Kkc a1 x119.gText x123 q123) rfl rfl Wl rfl rfl rfl rfl rfl rfl ?_
      refine z_eM rfl rfl (KM (d := .agg [iD s68.2.2.2.1, iD s68.2.2.2.2.1, tD s68.2.2.2.2.2.1, .lst 5 (s68.2.2.2.2.2.2.1.map Kg) .no, iD s68.2.2.2.2.2.2.2]) 2 htab rfl rfl rfl rfl rfl) rfl rfl rfl rfl rfl rfl ?_
      refine z_eM rfl rfl (KM (d := .agg [iD x121.1.gOp, iD x121.1.gN, tD x121.1.gName, .lst 5 (x121.1.gKids.map Kg) .no, iD x121.1.gAt]) 4 htab rfl rfl rfl rfl rfl) rfl rfl rfl rfl rfl rfl ?_
      refine z_E rfl rfl (ExE.wk (x_lit htab rfl rfl rfl rfl rfl rfl rfl rfl rfl rfl rfl) (show Wk _ (.lst 5 (([(⟨s68.2.2.2.1, s68.2.2.2.2.1, s68.2.2.2.2.2.1, s68.2.2.2.2.2.2.1, s68.2.2.2.2.2.2.2⟩ : Ka), x121.1] : List Ka).map Kg) .full) from Wk.lst0 (.cons (WkC.trans (WkC.agg (WkR.refl _)) (WkC.of_eq (Km (⟨s68.2.2.2.1, s68.2.2.2.2.1, s68.2.2.2.2.2.1, s68.2.2.2.2.2.2.1, s68.2.2.2.2.2.2.2⟩ : Ka)).symm)) (.cons (WkC.trans (WkC.agg (WkR.refl _)) (WkC.of_eq (Km x121.1).symm)) (.nil))))) rfl rfl rfl rfl rfl rfl ?_
      refine zep ?_
      refine z_qM rfl rfl (KM 3 htab rfl rfl rfl rfl rfl) rfl rfl rfl rfl rfl rfl ?_
      refine z_e rfl rfl (KeU (r := [iD x123, iD (0 : Int), tD ByteArray.empty, .lst 5 (([(⟨s68.2.2.2.1, s68.2.2.2.2.1, s68.2.2.2.2.2.1, s68.2.2.2.2.2.2.1, s68.2.2.2.2.2.2.2⟩ : Ka), x121.1] : List Ka).map Kg) .full, iD x119.gAt]) htab rfl rfl rfl rfl rfl rfl) rfl rfl rfl rfl rfl rfl ?_
      refine zqp ?_
      refine z_nil rfl rfl (fun e he => by simp [isAl] at he) ?_
      obtain ⟨x124, q124, hm⟩ := Kf hm
      refine Kas (KfC x121.2 (⟨x123, (0 : Int), ByteArray.empty, ([(⟨s68.2.2.2.1, s68.2.2.2.2.1, s68.2.2.2.2.2.1, s68.2.2.2.2.2.2.1, s68.2.2.2.2.2.2.2⟩ : Ka), x121.1] : List Ka), x119.gAt⟩ : Ka) s68.2.1 o0 T0 .no x124 q124) rfl rfl rfl rfl rfl (WkL.cons (Wk.refl _) (WkL.cons (Wk.trans (Wk.agg (rC (rC (rC (rO (rC WkR.nil)))))) (Wk.of_eq (Km (⟨x123, (0 : Int), ByteArray.empty, ([(⟨s68.2.2.2.1, s68.2.2.2.2.1, s68.2.2.2.2.2.1, s68.2.2.2.2.2.2.1, s68.2.2.2.2.2.2.2⟩ : Ka), x121.1] : List Ka), x119.gAt⟩ : Ka)).symm)) (WkL.cons (Wk.refl _) Wl))) Pf Pf ?_
      rintro _ _ _ ⟨rfl, rfl, rfl⟩
      refine p_eq (i := 65) rfl (Wk.of_eq (Km x124.1)) ?_
      refine pS2 (ds' := [iD x124.1.gOp, iD x124.1.gN, tD x124.1.gName, .lst 5 (x124.1.gKids.map Kg) .no, iD x124.1.gAt]) ?_
      refine KC ?_
      refine KF ?_
      refine Ki ⟨_, KaA hm, ?_⟩
      exact WkX.of () (WkS.perm (WkS.cons rfl (Wk.refl _) (WkS.cons rfl (Wk.refl _) (WkS.cons rfl (Wk.refl _) (WkS.cons rfl (Wk.refl _) (WkS.nil))))) Pf Pf)
     ·replace hm := yes_f hc118 hm
      refine Kan ?_
      refine KJ ?_
      have e68 := Kac hm; subst e68; clear hm; have hm := hq68
      refine KJ ?_
      refine Kae ?_
      have e67 := Kn hm; subst e67
      refine ⟨rfl, ?_⟩
      exact WkX.of () (WkS.perm (WkS.cons rfl (Wk.refl _) (WkS.cons rfl (Wk.refl _) (WkS.nil))) Pf Pf)
  ·intro s67 hw67; clear hm; have hm := ho67; clear q67 ho67
   refine Ki ?_
   refine KZ hw67 (fun z67 => ?_)
   refine Kj ?_
   refine K8 (d := .agg [iD y67.2.2.2.1, iD y67.2.2.2.2.1, tD y67.2.2.2.2.2.1, .lst 5 (y67.2.2.2.2.2.2.1.map Kg) .no, iD y67.2.2.2.2.2.2.2]) 2 htab rfl rfl rfl rfl rfl rfl rfl rfl ?_
   refine pS1 (ds' := [iD y67.2.2.2.1, iD y67.2.2.2.2.1, tD y67.2.2.2.2.2.1, .lst 5 (y67.2.2.2.2.2.2.1.map Kg) .no, iD y67.2.2.2.2.2.2.2]) ?_
   refine Kh ?_
   refine Ks ?_
   have er125 := Kn hm; subst er125
   refine rP (t' := [(4, .ptr b1 0)]) [0,0] [] 1 (wC wN) (lC 1 lN) ?_
   exact ⟨by first | rfl | (simp only [wrapD, Km]; done) | (simp only [wrapD, Km]; rfl), rfl, rfl⟩
noncomputable def Kdi (g0 : (Kd) → (Int) → Option (Ka × Kd)) (g1 : (Kd) → Option (Ka × Kd)) (g2 : (Kd) → (Ka) → (Int) → (Int) → Option (Ka × Kd)) (m0 : Kd) : Option (Ka × Kd) :=
 (bif (m0.gE != (0 : Int)) then some ((⟨(0 : Int), (0 : Int), ByteArray.empty, [], (0 : Int)⟩ : Ka), m0) else ((Kbq m0).bind fun x5 => (bif (x5.gKind == (2 : Int)) then some ((⟨(1 : Int), x5.gN, ByteArray.empty, [], x5.gAt⟩ : Ka), (⟨m0.gL, (IntKind.i64.wrap (m0.gAt + (1 : Int))), m0.gE⟩ : Kd)) else (bif (x5.gKind == (1 : Int)) then ((g2 (⟨m0.gL, (IntKind.i64.wrap (m0.gAt + (1 : Int))), m0.gE⟩ : Kd) (⟨(2 : Int), (0 : Int), x5.gText, [], x5.gAt⟩ : Ka) (3 : Int) m0.gAt).bind fun x13 => some (x13.1, x13.2)) else (Option.bind (α := (Unit) ⊕ (Ka × Kd)) (bif (x5.gKind == (3 : Int)) then (bif (decide (x5.gText = (ByteArray.mk #[45]))) then ((g1 (⟨m0.gL, (IntKind.i64.wrap (m0.gAt + (1 : Int))), m0.gE⟩ : Kd)).bind fun x73 => ((KbT x73.2 (⟨(5 : Int), (0 : Int), ByteArray.empty, ([x73.1] : List Ka), x5.gAt⟩ : Ka) m0.gAt).bind fun x75 => some (.inr (x75.1, x75.2)))) else (bif (decide (x5.gText = (ByteArray.mk #[33]))) then ((g1 (⟨m0.gL, (IntKind.i64.wrap (m0.gAt + (1 : Int))), m0.gE⟩ : Kd)).bind fun x92 => ((KbT x92.2 (⟨(6 : Int), (0 : Int), ByteArray.empty, ([x92.1] : List Ka), x5.gAt⟩ : Ka) m0.gAt).bind fun x94 => some (.inr (x94.1, x94.2)))) else (bif (decide (x5.gText = (ByteArray.mk #[42]))) then ((Kbt (⟨m0.gL, (IntKind.i64.wrap (m0.gAt + (1 : Int))), m0.gE⟩ : Kd)).bind fun x107 => some (.inr ((⟨(4 : Int), (0 : Int), x107.1, [], x5.gAt⟩ : Ka), x107.2))) else (bif (decide (x5.gText = (ByteArray.mk #[38]))) then ((Kbt (⟨m0.gL, (IntKind.i64.wrap (m0.gAt + (1 : Int))), m0.gE⟩ : Kd)).bind fun x118 => ((g2 x118.2 (⟨(19 : Int), (0 : Int), x118.1, [], x5.gAt⟩ : Ka) (20 : Int) m0.gAt).bind fun x119 => some (.inr (x119.1, x119.2)))) else (bif (decide (x5.gText = (ByteArray.mk #[110, 117, 108, 108]))) then some (.inr ((⟨(18 : Int), (0 : Int), ByteArray.empty, [], x5.gAt⟩ : Ka), (⟨m0.gL, (IntKind.i64.wrap (m0.gAt + (1 : Int))), m0.gE⟩ : Kd))) else (bif (decide (x5.gText = (ByteArray.mk #[40]))) then ((g0 (⟨m0.gL, (IntKind.i64.wrap (m0.gAt + (1 : Int))), m0.gE⟩ : Kd) (0 : Int)).bind fun x133 => ((Kam x133.2 (ByteArray.mk #[41])).bind fun x135 => some (.inr (x133.1, x135)))) else some (.inl ()))))))) else some (.inl ())) (Sum.elim (fun y34 => ((KbA (⟨m0.gL, (IntKind.i64.wrap (m0.gAt + (1 : Int))), m0.gE⟩ : Kd) m0.gAt (3 : Int)).bind fun x137 => some ((⟨(0 : Int), (0 : Int), ByteArray.empty, [], (0 : Int)⟩ : Ka), x137))) (fun r => some r)))))))
theorem Kkv (g0 : (Kd) → (Int) → Option (Ka × Kd)) (g1 : (Kd) → Option (Ka × Kd)) (g2 : (Kd) → (Ka) → (Int) → (Int) → Option (Ka × Kd)) (hg0 : ∀ (m0 : Kd) (a1 : Int) (o0 : Nat) (T0 : TypeId) (c0_0 : Cap) (r : Ka × Kd) (h0 : g0 m0 a1 = some r), CallsD Try.prog 76 [.ptr o0 0, iD a1] [(o0, Blk.cells [.lst 4 (m0.gL.map Kc) c0_0, iD m0.gAt, iD m0.gE] T0)] [] (fun d h k => d = Kg r.1 ∧ h = [(o0, Blk.cells [.lst 4 (r.2.gL.map Kc) .no, iD r.2.gAt, iD r.2.gE] T0)] ∧ k = [])) (hg1 : ∀ (m0 : Kd) (o0 : Nat) (T0 : TypeId) (c0_0 : Cap) (r : Ka × Kd) (h0 : g1 m0 = some r), CallsD Try.prog 85 [.ptr o0 0] [(o0, Blk.cells [.lst 4 (m0.gL.map Kc) c0_0, iD m0.gAt, iD m0.gE] T0)] [] (fun d h k => d = Kg r.1 ∧ h = [(o0, Blk.cells [.lst 4 (r.2.gL.map Kc) .no, iD r.2.gAt, iD r.2.gE] T0)] ∧ k = [])) (hg2 : ∀ (m0 : Kd) (a1 : Ka) (a2 : Int) (a3 : Int) (o0 : Nat) (T0 : TypeId) (c0_0 : Cap) (r : Ka × Kd) (h0 : g2 m0 a1 a2 a3 = some r), CallsD Try.prog 92 [.ptr o0 0, Kg a1, iD a2, iD a3] [(o0, Blk.cells [.lst 4 (m0.gL.map Kc) c0_0, iD m0.gAt, iD m0.gE] T0)] [] (fun d h k => d = Kg r.1 ∧ h = [(o0, Blk.cells [.lst 4 (r.2.gL.map Kc) .no, iD r.2.gAt, iD r.2.gE] T0)] ∧ k = [])) (m0 : Kd) (o0 : Nat) (T0 : TypeId) (c0_0 : Cap) (r : Ka × Kd) (h0 : Kdi g0 g1 g2 m0 = some r) : CallsD Try.prog 85 [.ptr o0 0] [(o0, Blk.cells [.lst 4 (m0.gL.map Kc) c0_0, iD m0.gAt, iD m0.gE] T0)] [] (fun d h k => d = Kg r.1 ∧ h = [(o0, Blk.cells [.lst 4 (r.2.gL.map Kc) .no, iD r.2.gAt, iD r.2.gE] T0)] ∧ k = []) := by
 have hm := KE h0
 unfold Kdi at hm
 clear h0
 refine KU htab Try.func85 rfl rfl rfl rfl rfl (fun C => ?_)
 refine Kj ?_
 refine KW htab rfl rfl rfl rfl rfl rfl rfl (fun b1 => ?_)
 refine Kh ?_
 refine Kr ?_
 refine Kj ?_
 iterate 3 refine pu ?_
 refine pL 0 ?_
 refine pu ?_
 refine Kh ?_
 refine Ku rfl (fun hc3 => ?_) (fun hc3 => ?_)
 ·replace hm := yes_t hc3 hm
  refine Kj ?_
  refine Kaf (r := [iD (0 : Int), iD (0 : Int), tD ByteArray.empty, .lst 1 [] .full, iD (0 : Int)]) htab rfl rfl rfl rfl rfl rfl rfl rfl rfl ?_
  refine pS1 (ds' := [iD (0 : Int), iD (0 : Int), tD ByteArray.empty, .lst 1 [] .full, iD (0 : Int)]) ?_
  refine Kh ?_
  refine Ks ?_
  refine Kx ?_
  have er4 := Kn hm; subst er4
  refine retX.wk (WkS.bl1 (ds' := [iD (0 : Int), iD (0 : Int), tD ByteArray.empty, .lst 5 (([] : List Ka).map Kg) .no, iD (0 : Int)]) (rC (rC (rC (WkR.cons (WkC.nil) rfl (rC WkR.nil)))))) ?_
  refine retX.wk (WkS.bl0 (ds' := [.lst 4 (m0.gL.map Kc) .no, iD m0.gAt, iD m0.gE]) (rO (rC (rC WkR.nil)))) ?_
  refine rP (t' := [(2, .ptr b1 0)]) [0,0] [] 1 (wC wN) (lC 1 lN) ?_
  exact ⟨by first | rfl | (simp only [wrapD, Km]; done) | (simp only [wrapD, Km]; rfl), rfl, rfl⟩
 ·replace hm := yes_f hc3 hm
  refine Kv ?_
  refine Ki ?_
  refine Kr ?_
  obtain ⟨x5, q5, hm⟩ := Kf hm
  refine KfJ 8 [(6, [iD (0 : Int), tD ByteArray.empty, iD (0 : Int), iD (0 : Int)], 69)] [(6, 7, [iD x5.gKind, tD x5.gText, iD x5.gN, iD x5.gAt])] [[],[0],[],[2],[2,3],[2,3,4],[],[0,1,6]] [0,1,2,3,4,6,7] [[],[0],[],[2],[2,3],[2,3,4],[],[0,1,6],[0,1,2,3,4,5,6,7]] (by kernel_rfl) (by kernel_rfl) (by kernel_rfl) (by rfl) (by rfl) (by kernel_rfl) ?_
  iterate 5 apply Exists.intro
  refine ⟨.any, ?_⟩
  refine ⟨.any, ?_⟩
  intro bs
  refine zf_e rfl rfl (K3 htab rfl) rfl rfl rfl rfl rfl rfl rfl ?_
  refine KhR 0 rfl rfl (Kcb m0 o0 T0 c0_0 x5 q5) rfl rfl Wl rfl rfl rfl rfl rfl rfl rfl rfl ?_
  iterate 3 refine zf_e rfl rfl (K3 htab rfl) rfl rfl rfl rfl rfl rfl rfl ?_
  refine zf_qM rfl rfl (KM 0 htab rfl rfl rfl rfl rfl) rfl rfl rfl rfl rfl rfl ?_
  refine Kgq rfl htab rfl rfl rfl rfl rfl rfl rfl rfl rfl rfl (by simp [dOf, eI64]) (by simp) ?_
  refine Khi (e := 6) (zs := [iD (0 : Int), tD ByteArray.empty, iD (0 : Int), iD (0 : Int)]) (T' := 69) (ds' := [iD x5.gKind, tD x5.gText, iD x5.gN, iD x5.gAt]) htab rfl rfl rfl rfl rfl rfl rfl rfl rfl (by simp) (by simp) rfl rfl rfl rfl rfl rfl rfl rfl rfl ?_
  refine zf_nil (h' := [(o0, Blk.cells [.lst 4 (m0.gL.map Kc) c0_0, iD m0.gAt, iD m0.gE] T0), (b1, Blk.cells [iD (0 : Int), iD (0 : Int), tD ByteArray.empty, .lst 1 [] .full, iD (0 : Int)] 100), (bs 6, Blk.cells [iD x5.gKind, tD x5.gText, iD x5.gN, iD x5.gAt] 69)]) rfl rfl rfl (fun e he => by simp [isAl] at he; subst he; rfl) ?_
  obtain ⟨b6, hb6⟩ : ∃ b, bs 6 = b := ⟨_, rfl⟩
  simp only [hb6]
  clear hb6
  refine pu ?_
  refine Ky ?_
  iterate 3 refine pu ?_
  refine pL 0 ?_
  iterate 3 refine pu ?_
  refine pS0 (ds' := [.lst 4 (m0.gL.map Kc) c0_0, iD (IntKind.i64.wrap (m0.gAt + (1 : Int))), iD m0.gE]) ?_
  refine Kh ?_
  refine Kr ?_
  refine Kj ?_
  refine pu ?_
  refine pL 2 ?_
  refine pu ?_
  refine Kh ?_
  refine Ku rfl (fun hc8 => ?_) (fun hc8 => ?_)
  ·replace hm := yes_t hc8 hm
   refine Kj ?_
   refine pu ?_
   refine pL 2 ?_
   refine pu ?_
   refine pL 2 ?_
   refine Kaf (r := [iD (1 : Int), iD x5.gN, tD ByteArray.empty, .lst 1 [] .full, iD x5.gAt]) htab rfl rfl rfl rfl rfl rfl rfl rfl rfl ?_
   refine pS1 (ds' := [iD (1 : Int), iD x5.gN, tD ByteArray.empty, .lst 1 [] .full, iD x5.gAt]) ?_
   refine Kh ?_
   refine Ks ?_
   refine Kx ?_
   have er9 := Kn hm; subst er9
   refine retX.wk (WkS.bl1 (ds' := [iD (1 : Int), iD x5.gN, tD ByteArray.empty, .lst 5 (([] : List Ka).map Kg) .no, iD x5.gAt]) (rC (rC (rC (WkR.cons (WkC.nil) rfl (rC WkR.nil)))))) ?_
   refine retX.wk (WkS.bl0 (ds' := [.lst 4 (m0.gL.map Kc) .no, iD (IntKind.i64.wrap (m0.gAt + (1 : Int))), iD m0.gE]) (rO (rC (rC WkR.nil)))) ?_
   refine rP (t' := [(2, .ptr b1 0)]) [0,0] [] 1 (wC wN) (lC 1 lN) ?_
   exact ⟨by first | rfl | (simp only [wrapD, Km]; done) | (simp only [wrapD, Km]; rfl), rfl, rfl⟩
  ·replace hm := yes_f hc8 hm
   refine Kv ?_
   refine Ki ?_
   refine Kr ?_
   refine Kj ?_
   refine pu ?_
   refine pL 2 ?_
   refine pu ?_
   refine Kh ?_
   refine Ku rfl (fun hc12 => ?_) (fun hc12 => ?_)
   ·replace hm := yes_t hc12 hm
    refine Kj ?_
    refine pu ?_
    refine pu ?_
    refine pL 2 ?_
    refine pu ?_
    refine pL 2 ?_
    refine Kaf (r := [iD (2 : Int), iD (0 : Int), tD x5.gText, .lst 1 [] .full, iD x5.gAt]) htab rfl rfl rfl rfl rfl rfl rfl rfl rfl ?_
    refine pu ?_
    obtain ⟨x13, q13, hm⟩ := Kf hm
    refine Kas (hg2 (⟨m0.gL, (IntKind.i64.wrap (m0.gAt + (1 : Int))), m0.gE⟩ : Kd) (⟨(2 : Int), (0 : Int), x5.gText, [], x5.gAt⟩ : Ka) (3 : Int) m0.gAt o0 T0 c0_0 x13 q13) rfl rfl rfl rfl rfl (WkL.cons (Wk.refl _) (WkL.cons (Wk.trans (Wk.agg (rC (rC (rC (WkR.cons (WkC.nil) rfl (rC WkR.nil)))))) (Wk.of_eq (Km (⟨(2 : Int), (0 : Int), x5.gText, [], x5.gAt⟩ : Ka)).symm)) (WkL.cons (Wk.refl _) (WkL.cons (Wk.refl _) Wl)))) Pf Pf ?_
    rintro _ _ _ ⟨rfl, rfl, rfl⟩
    refine p_eq (i := 46) rfl (Wk.of_eq (Km x13.1)) ?_
    refine pS1 (ds' := [iD x13.1.gOp, iD x13.1.gN, tD x13.1.gName, .lst 5 (x13.1.gKids.map Kg) .no, iD x13.1.gAt]) ?_
    refine Kh ?_
    refine Ks ?_
    refine Kx ?_
    have er14 := Kn hm; subst er14
    refine rP (t' := [(2, .ptr b1 0)]) [0,0] [] 1 (wC wN) (lC 1 lN) ?_
    exact ⟨by first | rfl | (simp only [wrapD, Km]; done) | (simp only [wrapD, Km]; rfl), rfl, rfl⟩
   ·replace hm := yes_f hc12 hm
    refine Kv ?_
    refine Ki ?_
    refine Kr ?_
    refine Kj ?_
    refine pu ?_
    refine pL 2 ?_
    refine pu ?_
    refine Kh ?_
    obtain ⟨x34, q34, ho34⟩ := Kf hm
    refine Kci (τ := Unit) (Y := Unit) (fun y34 z34 => (⟨[(0, .ptr o0 0), (2, .ptr b1 0), (4, iD m0.gAt)], [(o0, Blk.cells [.lst 4 (m0.gL.map Kc) c0_0, iD (IntKind.i64.wrap (m0.gAt + (1 : Int))), iD m0.gE] T0), (b1, Blk.cells [iD (0 : Int), iD (0 : Int), tD ByteArray.empty, .lst 1 [] .full, iD (0 : Int)] 100)], []⟩ : S)) x34 ?_ ?_
    ·clear hm; have hm := KE q34
     refine Ku rfl (fun hc35 => ?_) (fun hc35 => ?_)
     ·replace hm := yes_t hc35 hm
      refine Kj ?_
      refine pu ?_
      refine pL 2 ?_
      refine Kh ?_
      refine KI ?_
      refine Kj ?_
      refine pu ?_
      refine pu ?_
      refine Kh ?_
      refine Ku rfl (fun hc72 => ?_) (fun hc72 => ?_)
      ·replace hm := yes_t hc72 hm
       refine Kj ?_
       refine pu ?_
       obtain ⟨x73, q73, hm⟩ := Kf hm
       refine pG (hg1 (⟨m0.gL, (IntKind.i64.wrap (m0.gAt + (1 : Int))), m0.gE⟩ : Kd) o0 T0 c0_0 x73 q73) Wl Pf Pf ?_
       rintro _ _ _ ⟨rfl, rfl, rfl⟩
       refine p_eq (i := 55) rfl (Wk.of_eq (Km x73.1)) ?_
       refine KW htab rfl rfl rfl rfl rfl rfl rfl (fun b74 => ?_)
       refine pS3 (ds' := [iD x73.1.gOp, iD x73.1.gN, tD x73.1.gName, .lst 5 (x73.1.gKids.map Kg) .no, iD x73.1.gAt]) ?_
       refine Ky ?_
       refine pu ?_
       refine K8 (d := .agg [iD x73.1.gOp, iD x73.1.gN, tD x73.1.gName, .lst 5 (x73.1.gKids.map Kg) .no, iD x73.1.gAt]) 3 htab rfl rfl rfl rfl rfl rfl rfl rfl ?_
       refine p_lit htab rfl rfl rfl rfl rfl rfl rfl rfl rfl rfl rfl rfl rfl rfl ?_
       refine p_eq (i := 58) (d' := .lst 5 (([x73.1] : List Ka).map Kg) .full) rfl (Wk.lst0 (.cons (WkC.trans (WkC.agg (WkR.refl _)) (WkC.of_eq (Km x73.1).symm)) (.nil))) ?_
       refine pu ?_
       refine pL 2 ?_
       refine Kaf (r := [iD (5 : Int), iD (0 : Int), tD ByteArray.empty, .lst 5 (([x73.1] : List Ka).map Kg) .full, iD x5.gAt]) htab rfl rfl rfl rfl rfl rfl rfl rfl rfl ?_
       refine pu ?_
       obtain ⟨x75, q75, hm⟩ := Kf hm
       refine Kas (KfC x73.2 (⟨(5 : Int), (0 : Int), ByteArray.empty, ([x73.1] : List Ka), x5.gAt⟩ : Ka) m0.gAt o0 T0 .no x75 q75) rfl rfl rfl rfl rfl (WkL.cons (Wk.refl _) (WkL.cons (Wk.trans (Wk.agg (rC (rC (rC (rO (rC WkR.nil)))))) (Wk.of_eq (Km (⟨(5 : Int), (0 : Int), ByteArray.empty, ([x73.1] : List Ka), x5.gAt⟩ : Ka)).symm)) (WkL.cons (Wk.refl _) Wl))) Pf Pf ?_
       rintro _ _ _ ⟨rfl, rfl, rfl⟩
       refine p_eq (i := 63) rfl (Wk.of_eq (Km x75.1)) ?_
       refine pS1 (ds' := [iD x75.1.gOp, iD x75.1.gN, tD x75.1.gName, .lst 5 (x75.1.gKids.map Kg) .no, iD x75.1.gAt]) ?_
       refine Kh ?_
       refine Ks ?_
       refine KR ?_
       have e34 := Kn hm; subst e34; refine Kbi ?_; clear hm; have hm := ho34; simp only [Sum.elim_inr] at hm
       refine Kx ?_
       have er76 := Kn hm; subst er76
       refine rP (t' := [(2, .ptr b1 0)]) [0,0] [] 1 (wC wN) (lC 1 lN) ?_
       exact ⟨by first | rfl | (simp only [wrapD, Km]; done) | (simp only [wrapD, Km]; rfl), rfl, rfl⟩
      ·replace hm := yes_f hc72 hm
       refine Kj ?_
       refine pu ?_
       refine pu ?_
       refine Kh ?_
       refine Ku rfl (fun hc91 => ?_) (fun hc91 => ?_)
       ·replace hm := yes_t hc91 hm
        refine Kj ?_
        refine pu ?_
        obtain ⟨x92, q92, hm⟩ := Kf hm
        refine pG (hg1 (⟨m0.gL, (IntKind.i64.wrap (m0.gAt + (1 : Int))), m0.gE⟩ : Kd) o0 T0 c0_0 x92 q92) Wl Pf Pf ?_
        rintro _ _ _ ⟨rfl, rfl, rfl⟩
        refine p_eq (i := 67) rfl (Wk.of_eq (Km x92.1)) ?_
        refine KW htab rfl rfl rfl rfl rfl rfl rfl (fun b93 => ?_)
        refine pS3 (ds' := [iD x92.1.gOp, iD x92.1.gN, tD x92.1.gName, .lst 5 (x92.1.gKids.map Kg) .no, iD x92.1.gAt]) ?_
        refine Ky ?_
        refine pu ?_
        refine K8 (d := .agg [iD x92.1.gOp, iD x92.1.gN, tD x92.1.gName, .lst 5 (x92.1.gKids.map Kg) .no, iD x92.1.gAt]) 3 htab rfl rfl rfl rfl rfl rfl rfl rfl ?_
        refine p_lit htab rfl rfl rfl rfl rfl rfl rfl rfl rfl rfl rfl rfl rfl rfl ?_
        refine p_eq (i := 70) (d' := .lst 5 (([x92.1] : List Ka).map Kg) .full) rfl (Wk.lst0 (.cons (WkC.trans (WkC.agg (WkR.refl _)) (WkC.of_eq (Km x92.1).symm)) (.nil))) ?_
        refine pu ?_
        refine pL 2 ?_
        refine Kaf (r := [iD (6 : Int), iD (0 : Int), tD ByteArray.empty, .lst 5 (([x92.1] : List Ka).map Kg) .full, iD x5.gAt]) htab rfl rfl rfl rfl rfl rfl rfl rfl rfl ?_
        refine pu ?_
        obtain ⟨x94, q94, hm⟩ := Kf hm
        refine Kas (KfC x92.2 (⟨(6 : Int), (0 : Int), ByteArray.empty, ([x92.1] : List Ka), x5.gAt⟩ : Ka) m0.gAt o0 T0 .no x94 q94) rfl rfl rfl rfl rfl (WkL.cons (Wk.refl _) (WkL.cons (Wk.trans (Wk.agg (rC (rC (rC (rO (rC WkR.nil)))))) (Wk.of_eq (Km (⟨(6 : Int), (0 : Int), ByteArray.empty, ([x92.1] : List Ka), x5.gAt⟩ : Ka)).symm)) (WkL.cons (Wk.refl _) Wl))) Pf Pf ?_
        rintro _ _ _ ⟨rfl, rfl, rfl⟩
        refine p_eq (i := 75) rfl (Wk.of_eq (Km x94.1)) ?_
        refine pS1 (ds' := [iD x94.1.gOp, iD x94.1.gN, tD x94.1.gName, .lst 5 (x94.1.gKids.map Kg) .no, iD x94.1.gAt]) ?_
        refine Kh ?_
        refine Ks ?_
        refine KR ?_
        have e34 := Kn hm; subst e34; refine Kbi ?_; clear hm; have hm := ho34; simp only [Sum.elim_inr] at hm
        refine Kx ?_
        have er95 := Kn hm; subst er95
        refine rP (t' := [(2, .ptr b1 0)]) [0,0] [] 1 (wC wN) (lC 1 lN) ?_
        exact ⟨by first | rfl | (simp only [wrapD, Km]; done) | (simp only [wrapD, Km]; rfl), rfl, rfl⟩
       ·replace hm := yes_f hc91 hm
        refine Kj ?_
        refine pu ?_
        refine pu ?_
        refine Kh ?_
        refine Ku rfl (fun hc106 => ?_) (fun hc106 => ?_)
        ·replace hm := yes_t hc106 hm
         refine Kr ?_
         obtain ⟨x107, q107, hm⟩ := Kf hm
         refine KdP (X := BK) 4 [] [[],[0],[],[2]] [0,1,2,3] [[],[0],[],[2],[0,1,2,3],[0,1,2,3,4]] ⟨1, fun x => x.1 ++ [(b1, Blk.cells [iD (0 : Int), iD (0 : Int), tD ByteArray.empty, .lst 1 [] .full, iD (0 : Int)] 100), (b6, Blk.cells [iD x5.gKind, tD x5.gText, iD x5.gN, iD x5.gAt] 69)], fun x => x.2 ++ [], fun x => x.1 = [(o0, Blk.cells [.lst 4 (x107.2.gL.map Kc) c0_0, iD x107.2.gAt, iD x107.2.gE] T0)] ∧ x.2 = []⟩ ([], []) (by kernel_rfl) (by kernel_rfl) (by kernel_rfl) (by rfl) (by rfl) (by kernel_rfl) ?_
         iterate 4 apply Exists.intro
         intro bs
         refine zx_e rfl rfl (K3 htab rfl) rfl rfl rfl rfl rfl rfl rfl rfl ?_
         refine KeN (h1 := [(o0, Blk.cells [.lst 4 (m0.gL.map Kc) c0_0, iD (IntKind.i64.wrap (m0.gAt + (1 : Int))), iD m0.gE] T0)]) (k1 := []) (d := tD x107.1) rfl rfl rfl (Kdr (⟨m0.gL, (IntKind.i64.wrap (m0.gAt + (1 : Int))), m0.gE⟩ : Kd) o0 T0 c0_0 x107 q107) rfl rfl Wl Pf Pf (fun _ => rfl) (fun _ => rfl) (fun d' h' k' ⟨e1, e2, e3⟩ => ⟨⟨e2, e3⟩, by subst e1; exact Wk.refl _⟩) rfl rfl rfl rfl rfl rfl ?_
         refine zx_e rfl rfl (K3 htab rfl) rfl rfl rfl rfl rfl rfl rfl rfl ?_
         refine zx_M rfl rfl (fun _ => KM 2 htab rfl rfl rfl rfl rfl) (fun _ ⟨x1, x2⟩ ⟨e1, e2⟩ => by cases e1; cases e2; exact KM 2 htab rfl rfl rfl rfl rfl) rfl rfl rfl rfl rfl rfl rfl rfl ?_
         refine Kfq (h2 := [(b1, Blk.cells [iD (0 : Int), iD (0 : Int), tD ByteArray.empty, .lst 1 [] .full, iD (0 : Int)] 100), (b6, Blk.cells [iD x5.gKind, tD x5.gText, iD x5.gN, iD x5.gAt] 69)]) (hz := [(b1, Blk.cells [iD (0 : Int), iD (0 : Int), tD ByteArray.empty, .lst 1 [] .full, iD (0 : Int)] 100), (b6, Blk.cells [iD x5.gKind, tD x5.gText, iD x5.gN, iD x5.gAt] 69)]) rfl rfl (fun _ => rfl) (fun _ => rfl) rfl (fun e he => by simp [isAl] at he) ?_
         rintro _ _ ⟨rfl, rfl⟩
         refine Kaf (r := [iD (4 : Int), iD (0 : Int), tD x107.1, .lst 1 [] .full, iD x5.gAt]) htab rfl rfl rfl rfl rfl rfl rfl rfl rfl ?_
         refine pS1 (ds' := [iD (4 : Int), iD (0 : Int), tD x107.1, .lst 1 [] .full, iD x5.gAt]) ?_
         refine Kh ?_
         refine Ks ?_
         refine KR ?_
         have e34 := Kn hm; subst e34; refine Kbi ?_; clear hm; have hm := ho34; simp only [Sum.elim_inr] at hm
         refine Kx ?_
         have er108 := Kn hm; subst er108
         refine retX.wk (WkS.bl1 (ds' := [iD (4 : Int), iD (0 : Int), tD x107.1, .lst 5 (([] : List Ka).map Kg) .no, iD x5.gAt]) (rC (rC (rC (WkR.cons (WkC.nil) rfl (rC WkR.nil)))))) ?_
         refine retX.wk (WkS.bl0 (ds' := [.lst 4 (x107.2.gL.map Kc) .no, iD x107.2.gAt, iD x107.2.gE]) (rO (rC (rC WkR.nil)))) ?_
         refine rP (t' := [(2, .ptr b1 0)]) [0,0] [] 1 (wC wN) (lC 1 lN) ?_
         exact ⟨by first | rfl | (simp only [wrapD, Km]; done) | (simp only [wrapD, Km]; rfl), rfl, rfl⟩
        ·replace hm := yes_f hc106 hm
         refine Kj ?_
         refine pu ?_
         refine pu ?_
         refine Kh ?_
         refine Ku rfl (fun hc117 => ?_) (fun hc117 => ?_)
         ·replace hm := yes_t hc117 hm
          refine Kj ?_
          refine pu ?_
          obtain ⟨x118, q118, hm⟩ := Kf hm
          refine pG (Kdr (⟨m0.gL, (IntKind.i64.wrap (m0.gAt + (1 : Int))), m0.gE⟩ : Kd) o0 T0 c0_0 x118 q118) Wl Pf Pf ?_
          rintro _ _ _ ⟨rfl, rfl, rfl⟩
          refine pu ?_
          refine Ky ?_
          iterate 3 refine pu ?_
          refine pL 2 ?_
          refine Kaf (r := [iD (19 : Int), iD (0 : Int), tD x118.1, .lst 1 [] .full, iD x5.gAt]) htab rfl rfl rfl rfl rfl rfl rfl rfl rfl ?_
          refine pu ?_
          obtain ⟨x119, q119, hm⟩ := Kf hm
          refine Kas (hg2 x118.2 (⟨(19 : Int), (0 : Int), x118.1, [], x5.gAt⟩ : Ka) (20 : Int) m0.gAt o0 T0 c0_0 x119 q119) rfl rfl rfl rfl rfl (WkL.cons (Wk.refl _) (WkL.cons (Wk.trans (Wk.agg (rC (rC (rC (WkR.cons (WkC.nil) rfl (rC WkR.nil)))))) (Wk.of_eq (Km (⟨(19 : Int), (0 : Int), x118.1, [], x5.gAt⟩ : Ka)).symm)) (WkL.cons (Wk.refl _) (WkL.cons (Wk.refl _) Wl)))) Pf Pf ?_
          rintro _ _ _ ⟨rfl, rfl, rfl⟩
          refine p_eq (i := 93) rfl (Wk.of_eq (Km x119.1)) ?_
          refine pS1 (ds' := [iD x119.1.gOp, iD x119.1.gN, tD x119.1.gName, .lst 5 (x119.1.gKids.map Kg) .no, iD x119.1.gAt]) ?_
          refine Kh ?_
          refine Ks ?_
          refine KR ?_
          have e34 := Kn hm; subst e34; refine Kbi ?_; clear hm; have hm := ho34; simp only [Sum.elim_inr] at hm
          refine Kx ?_
          have er120 := Kn hm; subst er120
          refine rP (t' := [(2, .ptr b1 0)]) [0,0] [] 1 (wC wN) (lC 1 lN) ?_
          exact ⟨by first | rfl | (simp only [wrapD, Km]; done) | (simp only [wrapD, Km]; rfl), rfl, rfl⟩
         ·replace hm := yes_f hc117 hm
          refine Kj ?_
          refine pu ?_
          refine pu ?_
          refine Kh ?_
          refine Ku rfl (fun hc126 => ?_) (fun hc126 => ?_)
          ·replace hm := yes_t hc126 hm
           refine Kj ?_
           refine pu ?_
           refine pL 2 ?_
           refine Kaf (r := [iD (18 : Int), iD (0 : Int), tD ByteArray.empty, .lst 1 [] .full, iD x5.gAt]) htab rfl rfl rfl rfl rfl rfl rfl rfl rfl ?_
           refine pS1 (ds' := [iD (18 : Int), iD (0 : Int), tD ByteArray.empty, .lst 1 [] .full, iD x5.gAt]) ?_
           refine Kh ?_
           refine Ks ?_
           refine KR ?_
           have e34 := Kn hm; subst e34; refine Kbi ?_; clear hm; have hm := ho34; simp only [Sum.elim_inr] at hm
           refine Kx ?_
           have er127 := Kn hm; subst er127
           refine retX.wk (WkS.bl1 (ds' := [iD (18 : Int), iD (0 : Int), tD ByteArray.empty, .lst 5 (([] : List Ka).map Kg) .no, iD x5.gAt]) (rC (rC (rC (WkR.cons (WkC.nil) rfl (rC WkR.nil)))))) ?_
           refine retX.wk (WkS.bl0 (ds' := [.lst 4 (m0.gL.map Kc) .no, iD (IntKind.i64.wrap (m0.gAt + (1 : Int))), iD m0.gE]) (rO (rC (rC WkR.nil)))) ?_
           refine rP (t' := [(2, .ptr b1 0)]) [0,0] [] 1 (wC wN) (lC 1 lN) ?_
           exact ⟨by first | rfl | (simp only [wrapD, Km]; done) | (simp only [wrapD, Km]; rfl), rfl, rfl⟩
          ·replace hm := yes_f hc126 hm
           refine Kj ?_
           refine pu ?_
           refine pu ?_
           refine Kh ?_
           refine Ku rfl (fun hc132 => ?_) (fun hc132 => ?_)
           ·replace hm := yes_t hc132 hm
            refine Kj ?_
            refine pu ?_
            obtain ⟨x133, q133, hm⟩ := Kf hm
            refine pG (hg0 (⟨m0.gL, (IntKind.i64.wrap (m0.gAt + (1 : Int))), m0.gE⟩ : Kd) (0 : Int) o0 T0 c0_0 x133 q133) Wl Pf Pf ?_
            rintro _ _ _ ⟨rfl, rfl, rfl⟩
            refine p_eq (i := 102) rfl (Wk.of_eq (Km x133.1)) ?_
            refine KW htab rfl rfl rfl rfl rfl rfl rfl (fun b134 => ?_)
            refine pS3 (ds' := [iD x133.1.gOp, iD x133.1.gN, tD x133.1.gName, .lst 5 (x133.1.gKids.map Kg) .no, iD x133.1.gAt]) ?_
            refine Ky ?_
            refine pu ?_
            obtain ⟨x135, q135, hm⟩ := Kf hm
            refine pG (KaI x133.2 (ByteArray.mk #[41]) o0 T0 .no x135 q135) Wl Pf Pf ?_
            rintro _ _ _ ⟨rfl, rfl, rfl⟩
            refine Ky ?_
            refine K8 (d := .agg [iD x133.1.gOp, iD x133.1.gN, tD x133.1.gName, .lst 5 (x133.1.gKids.map Kg) .no, iD x133.1.gAt]) 3 htab rfl rfl rfl rfl rfl rfl rfl rfl ?_
            refine pS1 (ds' := [iD x133.1.gOp, iD x133.1.gN, tD x133.1.gName, .lst 5 (x133.1.gKids.map Kg) .no, iD x133.1.gAt]) ?_
            refine Kh ?_
            refine Ks ?_
            refine KR ?_
            have e34 := Kn hm; subst e34; refine Kbi ?_; clear hm; have hm := ho34; simp only [Sum.elim_inr] at hm
            refine Kx ?_
            have er136 := Kn hm; subst er136
            refine rP (t' := [(2, .ptr b1 0)]) [0,0] [] 1 (wC wN) (lC 1 lN) ?_
            exact ⟨by first | rfl | (simp only [wrapD, Km]; done) | (simp only [wrapD, Km]; rfl), rfl, rfl⟩
           ·replace hm := yes_f hc132 hm
            refine Kv ?_
            refine KF ?_
            have e34 := Kn hm; subst e34
            refine Kb1 ?_
            exact WkX.of () (WkS.perm (WkS.cons rfl (Wk.refl _) (WkS.cons rfl (Wk.refl _) (WkS.cons rfl (Wk.refl _) (WkS.nil)))) Pf Pf)
     ·replace hm := yes_f hc35 hm
      refine Kv ?_
      have e34 := Kn hm; subst e34
      refine Kb1 ?_
      exact WkX.of () (WkS.perm (WkS.cons rfl (Wk.refl _) (WkS.cons rfl (Wk.refl _) (WkS.cons rfl (Wk.refl _) (WkS.nil)))) Pf Pf)
    ·intro y34 s34 hx34 hw34; subst hx34; clear hm; have hm := ho34; simp only [Sum.elim_inl] at hm; clear q34 ho34
     refine Ki ?_
     refine KZ hw34 (fun z34 => ?_)
     refine Kj ?_
     refine pu ?_
     refine pu ?_
     obtain ⟨x137, q137, hm⟩ := Kf hm
     refine pG (KcQ (⟨m0.gL, (IntKind.i64.wrap (m0.gAt + (1 : Int))), m0.gE⟩ : Kd) m0.gAt (3 : Int) o0 T0 c0_0 x137 q137) Wl Pf Pf ?_
     rintro _ _ _ ⟨rfl, rfl, rfl⟩
     refine Ky ?_
     refine Kaf (r := [iD (0 : Int), iD (0 : Int), tD ByteArray.empty, .lst 1 [] .full, iD (0 : Int)]) htab rfl rfl rfl rfl rfl rfl rfl rfl rfl ?_
     refine pS1 (ds' := [iD (0 : Int), iD (0 : Int), tD ByteArray.empty, .lst 1 [] .full, iD (0 : Int)]) ?_
     refine Kh ?_
     refine Ks ?_
     have er138 := Kn hm; subst er138
     refine retX.wk (WkS.bl1 (ds' := [iD (0 : Int), iD (0 : Int), tD ByteArray.empty, .lst 5 (([] : List Ka).map Kg) .no, iD (0 : Int)]) (rC (rC (rC (WkR.cons (WkC.nil) rfl (rC WkR.nil)))))) ?_
     refine retX.wk (WkS.bl0 (ds' := [.lst 4 (x137.gL.map Kc) .no, iD x137.gAt, iD x137.gE]) (rO (rC (rC WkR.nil)))) ?_
     refine rP (t' := [(2, .ptr b1 0)]) [0,0] [] 1 (wC wN) (lC 1 lN) ?_
     exact ⟨by first | rfl | (simp only [wrapD, Km]; done) | (simp only [wrapD, Km]; rfl), rfl, rfl⟩
noncomputable def Kcd (g0 : (Kd) → (Int) → Option (Ka × Kd)) (g1 : (Kd) → Option (Ka × Kd)) (g2 : (Kd) → (Ka) → (Int) → (Int) → Option (Ka × Kd)) (m0 : Kd) (a1 : Ka) (a2 : Int) (a3 : Int) : Option (Ka × Kd) :=
 (Option.bind (α := Bool) (bif (m0.gE != (0 : Int)) then some true else ((Kee m0 (ByteArray.mk #[91])).bind fun x7 => some (!x7))) fun y5 => (bif y5 then some (a1, m0) else ((g0 (⟨m0.gL, (IntKind.i64.wrap (m0.gAt + (1 : Int))), m0.gE⟩ : Kd) (0 : Int)).bind fun x11 => ((Kam x11.2 (ByteArray.mk #[93])).bind fun x13 => ((KbT x13 (⟨a2, (0 : Int), a1.gName, ([x11.1] : List Ka), a1.gAt⟩ : Ka) a3).bind fun x14 => some (x14.1, x14.2))))))
theorem KjJ (g0 : (Kd) → (Int) → Option (Ka × Kd)) (g1 : (Kd) → Option (Ka × Kd)) (g2 : (Kd) → (Ka) → (Int) → (Int) → Option (Ka × Kd)) (hg0 : ∀ (m0 : Kd) (a1 : Int) (o0 : Nat) (T0 : TypeId) (c0_0 : Cap) (r : Ka × Kd) (h0 : g0 m0 a1 = some r), CallsD Try.prog 76 [.ptr o0 0, iD a1] [(o0, Blk.cells [.lst 4 (m0.gL.map Kc) c0_0, iD m0.gAt, iD m0.gE] T0)] [] (fun d h k => d = Kg r.1 ∧ h = [(o0, Blk.cells [.lst 4 (r.2.gL.map Kc) .no, iD r.2.gAt, iD r.2.gE] T0)] ∧ k = [])) (hg1 : ∀ (m0 : Kd) (o0 : Nat) (T0 : TypeId) (c0_0 : Cap) (r : Ka × Kd) (h0 : g1 m0 = some r), CallsD Try.prog 85 [.ptr o0 0] [(o0, Blk.cells [.lst 4 (m0.gL.map Kc) c0_0, iD m0.gAt, iD m0.gE] T0)] [] (fun d h k => d = Kg r.1 ∧ h = [(o0, Blk.cells [.lst 4 (r.2.gL.map Kc) .no, iD r.2.gAt, iD r.2.gE] T0)] ∧ k = [])) (hg2 : ∀ (m0 : Kd) (a1 : Ka) (a2 : Int) (a3 : Int) (o0 : Nat) (T0 : TypeId) (c0_0 : Cap) (r : Ka × Kd) (h0 : g2 m0 a1 a2 a3 = some r), CallsD Try.prog 92 [.ptr o0 0, Kg a1, iD a2, iD a3] [(o0, Blk.cells [.lst 4 (m0.gL.map Kc) c0_0, iD m0.gAt, iD m0.gE] T0)] [] (fun d h k => d = Kg r.1 ∧ h = [(o0, Blk.cells [.lst 4 (r.2.gL.map Kc) .no, iD r.2.gAt, iD r.2.gE] T0)] ∧ k = [])) (m0 : Kd) (a1 : Ka) (a2 : Int) (a3 : Int) (o0 : Nat) (T0 : TypeId) (c0_0 : Cap) (r : Ka × Kd) (h0 : Kcd g0 g1 g2 m0 a1 a2 a3 = some r) : CallsD Try.prog 92 [.ptr o0 0, Kg a1, iD a2, iD a3] [(o0, Blk.cells [.lst 4 (m0.gL.map Kc) c0_0, iD m0.gAt, iD m0.gE] T0)] [] (fun d h k => d = Kg r.1 ∧ h = [(o0, Blk.cells [.lst 4 (r.2.gL.map Kc) .no, iD r.2.gAt, iD r.2.gE] T0)] ∧ k = []) := by
 have hm := KE h0
 unfold Kcd at hm
 clear h0
 refine KU htab Try.func92 rfl rfl rfl rfl rfl (fun C => ?_)
 refine w_eq (i := 1) rfl (Wk.of_eq (Km a1)) ?_
 refine Kj ?_
 refine p_box rfl rfl rfl rfl rfl rfl rfl (fun b1 => ?_)
 refine KW htab rfl rfl rfl rfl rfl rfl rfl (fun b2 => ?_)
 refine Kh ?_
 refine Kr ?_
 refine Kr ?_
 obtain ⟨y5, q5, ho5⟩ := Kf hm
 refine K7 (Y := Unit) (fun z5 => (⟨[(0, .ptr o0 0), (2, iD a2), (3, iD a3), (5, .ptr b1 0), (8, .ptr b2 0), (19, .v (.bool y5))], [(o0, Blk.cells [.lst 4 (m0.gL.map Kc) c0_0, iD m0.gAt, iD m0.gE] T0), (b1, Blk.cells [iD a1.gOp, iD a1.gN, tD a1.gName, .lst 5 (a1.gKids.map Kg) .no, iD a1.gAt] 100), (b2, Blk.cells [iD (0 : Int), iD (0 : Int), tD ByteArray.empty, .lst 1 [] .full, iD (0 : Int)] 100)], []⟩ : S)) ?_ ?_
 ·clear hm; have hm := KE q5
  refine KD ?_
  iterate 3 refine pu ?_
  refine pL 0 ?_
  refine pu ?_
  refine pu ?_
  refine K5 (i := 15) rfl (fun hg6 => ?_) (fun hg6 => ?_)
  ·replace hm := yes_t hg6 hm
   iterate 3 refine pK ?_
   refine KP rfl rfl rfl rfl rfl rfl ?_
   refine KC ?_
   have e5 := Kn hm; subst e5
   refine ⟨rfl, ?_⟩
   exact WkX.of () (WkS.perm (WkS.cons rfl (Wk.refl _) (WkS.cons rfl (Wk.refl _) (WkS.cons rfl (Wk.refl _) (WkS.cons rfl (Wk.refl _) (WkS.cons rfl (Wk.refl _) (WkS.cons rfl (Wk.refl _) (WkS.nil))))))) Pf Pf)
  ·replace hm := yes_f hg6 hm
   refine pu ?_
   obtain ⟨x7, q7, hm⟩ := Kf hm
   refine pG (KgY m0 (ByteArray.mk #[91]) o0 T0 c0_0 x7 q7) Wl Pf Pf ?_
   rintro _ _ _ ⟨rfl, rfl, rfl⟩
   refine pu ?_
   refine KL rfl rfl rfl rfl rfl rfl ?_
   refine KC ?_
   have e5 := Kn hm; subst e5
   refine ⟨rfl, ?_⟩
   exact WkX.of () (WkS.perm (WkS.cons rfl (Wk.refl _) (WkS.cons rfl (Wk.refl _) (WkS.cons rfl (Wk.refl _) (WkS.cons rfl (Wk.refl _) (WkS.cons rfl (Wk.refl _) (WkS.cons rfl (Wk.refl _) (WkS.nil))))))) Pf Pf)
 ·intro s5 hw5; clear hm; have hm := ho5; clear q5 ho5
  refine Ki ?_
  refine KZ hw5 (fun z5 => ?_)
  refine Ku rfl (fun hc9 => ?_) (fun hc9 => ?_)
  ·replace hm := yes_t hc9 hm
   refine Kj ?_
   refine K8 (d := .agg [iD a1.gOp, iD a1.gN, tD a1.gName, .lst 5 (a1.gKids.map Kg) .no, iD a1.gAt]) 1 htab rfl rfl rfl rfl rfl rfl rfl rfl ?_
   refine pS2 (ds' := [iD a1.gOp, iD a1.gN, tD a1.gName, .lst 5 (a1.gKids.map Kg) .no, iD a1.gAt]) ?_
   refine Kh ?_
   refine Ks ?_
   refine Kx ?_
   have er10 := Kn hm; subst er10
   refine retX.wk (WkS.bl0 (ds' := [.lst 4 (m0.gL.map Kc) .no, iD m0.gAt, iD m0.gE]) (rO (rC (rC WkR.nil)))) ?_
   refine rP (t' := [(8, .ptr b2 0)]) [0,1] [] 1 (wC wN) (lC 1 lN) ?_
   exact ⟨by first | rfl | (simp only [wrapD, Km]; done) | (simp only [wrapD, Km]; rfl), rfl, rfl⟩
  ·replace hm := yes_f hc9 hm
   refine Kv ?_
   refine Ki ?_
   refine Kj ?_
   iterate 3 refine pu ?_
   refine pL 0 ?_
   iterate 3 refine pu ?_
   refine pS0 (ds' := [.lst 4 (m0.gL.map Kc) c0_0, iD (IntKind.i64.wrap (m0.gAt + (1 : Int))), iD m0.gE]) ?_
   refine Ky ?_
   refine pu ?_
   obtain ⟨x11, q11, hm⟩ := Kf hm
   refine pG (hg0 (⟨m0.gL, (IntKind.i64.wrap (m0.gAt + (1 : Int))), m0.gE⟩ : Kd) (0 : Int) o0 T0 c0_0 x11 q11) Wl Pf Pf ?_
   rintro _ _ _ ⟨rfl, rfl, rfl⟩
   refine p_eq (i := 29) rfl (Wk.of_eq (Km x11.1)) ?_
   refine KW htab rfl rfl rfl rfl rfl rfl rfl (fun b12 => ?_)
   refine pS3 (ds' := [iD x11.1.gOp, iD x11.1.gN, tD x11.1.gName, .lst 5 (x11.1.gKids.map Kg) .no, iD x11.1.gAt]) ?_
   refine Ky ?_
   refine pu ?_
   obtain ⟨x13, q13, hm⟩ := Kf hm
   refine pG (KaI x11.2 (ByteArray.mk #[93]) o0 T0 .no x13 q13) Wl Pf Pf ?_
   rintro _ _ _ ⟨rfl, rfl, rfl⟩
   refine Ky ?_
   iterate 3 refine pu ?_
   refine pL 1 ?_
   refine K8 (d := .agg [iD x11.1.gOp, iD x11.1.gN, tD x11.1.gName, .lst 5 (x11.1.gKids.map Kg) .no, iD x11.1.gAt]) 3 htab rfl rfl rfl rfl rfl rfl rfl rfl ?_
   refine p_lit htab rfl rfl rfl rfl rfl rfl rfl rfl rfl rfl rfl rfl rfl rfl ?_
   refine p_eq (i := 37) (d' := .lst 5 (([x11.1] : List Ka).map Kg) .full) rfl (Wk.lst0 (.cons (WkC.trans (WkC.agg (WkR.refl _)) (WkC.of_eq (Km x11.1).symm)) (.nil))) ?_
   refine pu ?_
   refine pL 1 ?_
   refine Kaf (r := [iD a2, iD (0 : Int), tD a1.gName, .lst 5 (([x11.1] : List Ka).map Kg) .full, iD a1.gAt]) htab rfl rfl rfl rfl rfl rfl rfl rfl rfl ?_
   refine pu ?_
   obtain ⟨x14, q14, hm⟩ := Kf hm
   refine Kas (KfC x13 (⟨a2, (0 : Int), a1.gName, ([x11.1] : List Ka), a1.gAt⟩ : Ka) a3 o0 T0 .no x14 q14) rfl rfl rfl rfl rfl (WkL.cons (Wk.refl _) (WkL.cons (Wk.trans (Wk.agg (rC (rC (rC (rO (rC WkR.nil)))))) (Wk.of_eq (Km (⟨a2, (0 : Int), a1.gName, ([x11.1] : List Ka), a1.gAt⟩ : Ka)).symm)) (WkL.cons (Wk.refl _) Wl))) Pf Pf ?_
   rintro _ _ _ ⟨rfl, rfl, rfl⟩
   refine p_eq (i := 42) rfl (Wk.of_eq (Km x14.1)) ?_
   refine pS2 (ds' := [iD x14.1.gOp, iD x14.1.gN, tD x14.1.gName, .lst 5 (x14.1.gKids.map Kg) .no, iD x14.1.gAt]) ?_
   refine Kh ?_
   refine Ks ?_
   have er15 := Kn hm; subst er15
   refine rP (t' := [(8, .ptr b2 0)]) [0,1] [] 1 (wC wN) (lC 1 lN) ?_
   exact ⟨by first | rfl | (simp only [wrapD, Km]; done) | (simp only [wrapD, Km]; rfl), rfl, rfl⟩
noncomputable def KX : Nat → ((Kd) → (Int) → Option (Ka × Kd)) × ((Kd) → Option (Ka × Kd)) × ((Kd) → (Ka) → (Int) → (Int) → Option (Ka × Kd))
 | 0 => (fun _ _ => none, fun _ => none, fun _ _ _ _ => none)
 | n + 1 => (Kcc ((KX n).1) ((KX n).2.1) ((KX n).2.2), Kdi ((KX n).1) ((KX n).2.1) ((KX n).2.2), Kcd ((KX n).1) ((KX n).2.1) ((KX n).2.2))
theorem Khr : ∀ n, (∀ (m0 : Kd) (a1 : Int) (o0 : Nat) (T0 : TypeId) (c0_0 : Cap) (r : Ka × Kd) (h0 : (KX n).1 m0 a1 = some r), CallsD Try.prog 76 [.ptr o0 0, iD a1] [(o0, Blk.cells [.lst 4 (m0.gL.map Kc) c0_0, iD m0.gAt, iD m0.gE] T0)] [] (fun d h k => d = Kg r.1 ∧ h = [(o0, Blk.cells [.lst 4 (r.2.gL.map Kc) .no, iD r.2.gAt, iD r.2.gE] T0)] ∧ k = [])) ∧ (∀ (m0 : Kd) (o0 : Nat) (T0 : TypeId) (c0_0 : Cap) (r : Ka × Kd) (h0 : (KX n).2.1 m0 = some r), CallsD Try.prog 85 [.ptr o0 0] [(o0, Blk.cells [.lst 4 (m0.gL.map Kc) c0_0, iD m0.gAt, iD m0.gE] T0)] [] (fun d h k => d = Kg r.1 ∧ h = [(o0, Blk.cells [.lst 4 (r.2.gL.map Kc) .no, iD r.2.gAt, iD r.2.gE] T0)] ∧ k = [])) ∧ (∀ (m0 : Kd) (a1 : Ka) (a2 : Int) (a3 : Int) (o0 : Nat) (T0 : TypeId) (c0_0 : Cap) (r : Ka × Kd) (h0 : (KX n).2.2 m0 a1 a2 a3 = some r), CallsD Try.prog 92 [.ptr o0 0, Kg a1, iD a2, iD a3] [(o0, Blk.cells [.lst 4 (m0.gL.map Kc) c0_0, iD m0.gAt, iD m0.gE] T0)] [] (fun d h k => d = Kg r.1 ∧ h = [(o0, Blk.cells [.lst 4 (r.2.gL.map Kc) .no, iD r.2.gAt, iD r.2.gE] T0)] ∧ k = []))
  | 0 => ⟨(fun _ _ _ _ _ _ h0 => by cases h0), (fun _ _ _ _ _ h0 => by cases h0), (fun _ _ _ _ _ _ _ _ h0 => by cases h0)⟩
  | n + 1 => by
    have ih := Khr n
    exact ⟨KjI ((KX n).1) ((KX n).2.1) ((KX n).2.2) (ih.1) (ih.2.1) (ih.2.2), Kkv ((KX n).1) ((KX n).2.1) ((KX n).2.2) (ih.1) (ih.2.1) (ih.2.2), KjJ ((KX n).1) ((KX n).2.1) ((KX n).2.2) (ih.1) (ih.2.1) (ih.2.2)⟩
theorem Khs : ∀ n, (∀ (m0 : Kd) (a1 : Int), Le ((KX n).1 m0 a1) ((KX (n + 1)).1 m0 a1)) ∧ (∀ (m0 : Kd), Le ((KX n).2.1 m0) ((KX (n + 1)).2.1 m0)) ∧ (∀ (m0 : Kd) (a1 : Ka) (a2 : Int) (a3 : Int), Le ((KX n).2.2 m0 a1 a2 a3) ((KX (n + 1)).2.2 m0 a1 a2 a3))
  | 0 => ⟨fun _ _ => Le.none _, fun _ => Le.none _, fun _ _ _ _ => Le.none _⟩
  | n + 1 => by
    have ih := Khs n
    exact ⟨fun m0 a1 => by show Le (Kcc ((KX n).1) ((KX n).2.1) ((KX n).2.2) m0 a1) (Kcc ((KX (n + 1)).1) ((KX (n + 1)).2.1) ((KX (n + 1)).2.2) m0 a1); unfold Kcc; repeat (first | exact Le.refl _ | exact ih.1 _ _ | exact ih.2.1 _ | exact ih.2.2 _ _ _ _ | assumption | (refine Le.bind ?_ (fun _ => ?_)) | (refine Le.cond ?_ ?_) | (refine Le.loop (fun _ => ?_)) | (refine Le.elim (fun _ => ?_) (fun _ => ?_))), fun m0 => by show Le (Kdi ((KX n).1) ((KX n).2.1) ((KX n).2.2) m0) (Kdi ((KX (n + 1)).1) ((KX (n + 1)).2.1) ((KX (n + 1)).2.2) m0); unfold Kdi; repeat (first | exact Le.refl _ | exact ih.1 _ _ | exact ih.2.1 _ | exact ih.2.2 _ _ _ _ | assumption | (refine Le.bind ?_ (fun _ => ?_)) | (refine Le.cond ?_ ?_) | (refine Le.loop (fun _ => ?_)) | (refine Le.elim (fun _ => ?_) (fun _ => ?_))), fun m0 a1 a2 a3 => by show Le (Kcd ((KX n).1) ((KX n).2.1) ((KX n).2.2) m0 a1 a2 a3) (Kcd ((KX (n + 1)).1) ((KX (n + 1)).2.1) ((KX (n + 1)).2.2) m0 a1 a2 a3); unfold Kcd; repeat (first | exact Le.refl _ | exact ih.1 _ _ | exact ih.2.1 _ | exact ih.2.2 _ _ _ _ | assumption | (refine Le.bind ?_ (fun _ => ?_)) | (refine Le.cond ?_ ?_) | (refine Le.loop (fun _ => ?_)) | (refine Le.elim (fun _ => ?_) (fun _ => ?_)))⟩
noncomputable def KgZ (m0 : Kd) (a1 : Int) : Option (Ka × Kd) := anyN fun n => (KX n).1 m0 a1
theorem KkF (m0 : Kd) (a1 : Int) {r : Ka × Kd} (n : Nat) (h : (KX n).1 m0 a1 = some r) : KgZ m0 a1 = some r := Kc9 (fun m => (Khs m).1 m0 a1) h
theorem KkG (m0 : Kd) (a1 : Int) (o0 : Nat) (T0 : TypeId) (c0_0 : Cap) (r : Ka × Kd) (h0 : KgZ m0 a1 = some r) : CallsD Try.prog 76 [.ptr o0 0, iD a1] [(o0, Blk.cells [.lst 4 (m0.gL.map Kc) c0_0, iD m0.gAt, iD m0.gE] T0)] [] (fun d h k => d = Kg r.1 ∧ h = [(o0, Blk.cells [.lst 4 (r.2.gL.map Kc) .no, iD r.2.gAt, iD r.2.gE] T0)] ∧ k = []) :=
 let ⟨n, hn⟩ := KcI h0; (Khr n).1 m0 a1 o0 T0 c0_0 r hn
noncomputable def KaN (m0 : Kd) : Option (Ka × Kd) :=
 (bif (m0.gE != (0 : Int)) then some ((⟨(0 : Int), (0 : Int), ByteArray.empty, [], (0 : Int)⟩ : Ka), m0) else ((KgZ m0 (0 : Int)).bind fun x4 => some (x4.1, x4.2)))
theorem KcR (m0 : Kd) (o0 : Nat) (T0 : TypeId) (c0_0 : Cap) (r : Ka × Kd) (h0 : KaN m0 = some r) : CallsD Try.prog 61 [.ptr o0 0] [(o0, Blk.cells [.lst 4 (m0.gL.map Kc) c0_0, iD m0.gAt, iD m0.gE] T0)] [] (fun d h k => d = Kg r.1 ∧ h = [(o0, Blk.cells [.lst 4 (r.2.gL.map Kc) .no, iD r.2.gAt, iD r.2.gE] T0)] ∧ k = []) := by
 have hm := KE h0
 unfold KaN at hm
 clear h0
 refine KU htab Try.func61 rfl rfl rfl rfl rfl (fun C => ?_)
 refine Kj ?_
 refine KW htab rfl rfl rfl rfl rfl rfl rfl (fun b1 => ?_)
 refine Kh ?_
 refine Kr ?_
 refine Kj ?_
 iterate 3 refine pu ?_
 refine pL 0 ?_
 refine pu ?_
 refine Kh ?_
 refine Ku rfl (fun hc2 => ?_) (fun hc2 => ?_)
 ·replace hm := yes_t hc2 hm
  refine Kj ?_
  refine Kaf (r := [iD (0 : Int), iD (0 : Int), tD ByteArray.empty, .lst 1 [] .full, iD (0 : Int)]) htab rfl rfl rfl rfl rfl rfl rfl rfl rfl ?_
  refine pS1 (ds' := [iD (0 : Int), iD (0 : Int), tD ByteArray.empty, .lst 1 [] .full, iD (0 : Int)]) ?_
  refine Kh ?_
  refine Ks ?_
  refine Kx ?_
  have er3 := Kn hm; subst er3
  refine retX.wk (WkS.bl1 (ds' := [iD (0 : Int), iD (0 : Int), tD ByteArray.empty, .lst 5 (([] : List Ka).map Kg) .no, iD (0 : Int)]) (rC (rC (rC (WkR.cons (WkC.nil) rfl (rC WkR.nil)))))) ?_
  refine retX.wk (WkS.bl0 (ds' := [.lst 4 (m0.gL.map Kc) .no, iD m0.gAt, iD m0.gE]) (rO (rC (rC WkR.nil)))) ?_
  refine rP (t' := [(2, .ptr b1 0)]) [0,0] [] 1 (wC wN) (lC 1 lN) ?_
  exact ⟨by first | rfl | (simp only [wrapD, Km]; done) | (simp only [wrapD, Km]; rfl), rfl, rfl⟩
 ·replace hm := yes_f hc2 hm
  refine Kv ?_
  refine Ki ?_
  refine Kj ?_
  refine pu ?_
  obtain ⟨x4, q4, hm⟩ := Kf hm
  refine pG (KkG m0 (0 : Int) o0 T0 c0_0 x4 q4) Wl Pf Pf ?_
  rintro _ _ _ ⟨rfl, rfl, rfl⟩
  refine p_eq (i := 10) rfl (Wk.of_eq (Km x4.1)) ?_
  refine pS1 (ds' := [iD x4.1.gOp, iD x4.1.gN, tD x4.1.gName, .lst 5 (x4.1.gKids.map Kg) .no, iD x4.1.gAt]) ?_
  refine Kh ?_
  refine Ks ?_
  have er5 := Kn hm; subst er5
  refine rP (t' := [(2, .ptr b1 0)]) [0,0] [] 1 (wC wN) (lC 1 lN) ?_
  exact ⟨by first | rfl | (simp only [wrapD, Km]; done) | (simp only [wrapD, Km]; rfl), rfl, rfl⟩
noncomputable def Keg (m0 : Kd) : Option (List Ka × Kd) :=
 ((Kam m0 (ByteArray.mk #[40])).bind fun x1 => ((KbN x1 (ByteArray.mk #[41])).bind fun x2 => (bif x2.1 then some (([] : List Ka), x2.2) else ((KaN x2.2).bind fun x7 => ((app 64 ([] : List Ka) ([x7.1] : List Ka)).bind fun x8 => (Option.bind (α := List Ka × List Kq × Int × Int) (loopM (fun (s26 : List Ka × List Kq × Int × Int) => ((KbN (⟨s26.2.1, s26.2.2.1, s26.2.2.2⟩ : Kd) (ByteArray.mk #[44])).bind fun x37 => (bif x37.1 then ((KaN x37.2).bind fun x39 => ((app 64 s26.1 ([x39.1] : List Ka)).bind fun x40 => some (.next (x40, x39.2.gL, x39.2.gAt, x39.2.gE)))) else some (.done (s26.1, x37.2.gL, x37.2.gAt, x37.2.gE))))) (x8, x7.2.gL, x7.2.gAt, x7.2.gE)) fun y25 => ((Kam (⟨y25.2.1, y25.2.2.1, y25.2.2.2⟩ : Kd) (ByteArray.mk #[41])).bind fun x41 => some (y25.1, x41))))))))
theorem KkH (m0 : Kd) (o0 : Nat) (T0 : TypeId) (c0_0 : Cap) (r : List Ka × Kd) (h0 : Keg m0 = some r) : CallsD Try.prog 84 [.ptr o0 0] [(o0, Blk.cells [.lst 4 (m0.gL.map Kc) c0_0, iD m0.gAt, iD m0.gE] T0)] [] (fun d h k => ∃ y0, d = .lst 5 (r.1.map Kg) (.cur y0) ∧ h = [(o0, Blk.cells [.lst 4 (r.2.gL.map Kc) .no, iD r.2.gAt, iD r.2.gE] T0)] ∧ k = [(5, y0)]) := by
 have hm := KE h0
 unfold Keg at hm
 clear h0
 refine KU htab Try.func84 rfl rfl rfl rfl rfl (fun C => ?_)
 refine Kj ?_
 refine pu ?_
 refine Ky ?_
 refine pu ?_
 refine Ky ?_
 refine pu ?_
 obtain ⟨x1, q1, hm⟩ := Kf hm
 refine pG (KaI m0 (ByteArray.mk #[40]) o0 T0 c0_0 x1 q1) Wl Pf Pf ?_
 rintro _ _ _ ⟨rfl, rfl, rfl⟩
 refine Kh ?_
 refine Kr ?_
 refine Kj ?_
 refine pu ?_
 obtain ⟨x2, q2, hm⟩ := Kf hm
 refine pG (KcM x1 (ByteArray.mk #[41]) o0 T0 c0_0 x2 q2) Wl Pf Pf ?_
 rintro _ _ _ ⟨rfl, rfl, rfl⟩
 refine Kh ?_
 refine Ku rfl (fun hc4 => ?_) (fun hc4 => ?_)
 ·replace hm := yes_t hc4 hm
  refine Kj ?_
  refine pu ?_
  refine Kh ?_
  refine Ks ?_
  refine Kx ?_
  have er5 := Kn hm; subst er5
  refine retX.tokN (i := 2) 5 rfl (fun w6 => ?_)
  refine retX.wk (WkS.bl0 (ds' := [.lst 4 (x2.2.gL.map Kc) .no, iD x2.2.gAt, iD x2.2.gE]) (rO (rC (rC WkR.nil)))) ?_
  refine rP (t' := [(2, .lst 5 (([] : List Ka).map Kg) (.cur w6))]) [0] [0] 1 (wC wN) (lT lN) ?_
  exact ⟨w6, rfl, rfl, rfl⟩
 ·replace hm := yes_f hc4 hm
  refine Kv ?_
  refine Ki ?_
  refine Kj ?_
  refine pu ?_
  refine pu ?_
  obtain ⟨x7, q7, hm⟩ := Kf hm
  refine pG (KcR x2.2 o0 T0 c0_0 x7 q7) Wl Pf Pf ?_
  rintro _ _ _ ⟨rfl, rfl, rfl⟩
  refine p_eq (i := 10) rfl (Wk.of_eq (Km x7.1)) ?_
  refine p_lit htab rfl rfl rfl rfl rfl rfl rfl rfl rfl rfl rfl rfl rfl rfl ?_
  refine p_eq (i := 11) (d' := .lst 5 (([x7.1] : List Ka).map Kg) .full) rfl (Wk.lst0 (.cons (WkC.trans (WkC.agg (WkR.refl _)) (WkC.of_eq (Km x7.1).symm)) (.nil))) ?_
  obtain ⟨x8, q8, hm⟩ := Kf hm
  refine p_app0 htab rfl rfl rfl rfl rfl rfl rfl rfl rfl rfl rfl rfl rfl rfl rfl (by simpa using Kbe (e := Kg) q8) (fun v8 => ?_)
  refine p_mapD0 (i := 12) q8 rfl ?_
  refine pu ?_
  refine Kh ?_
  refine Kr ?_
  obtain ⟨y25, q25, ho25⟩ := Kf hm
  refine K7 (Y := Value) (fun z25 => (⟨[(0, .ptr o0 0), (3, .lst 5 (y25.1.map Kg) (.cur z25))], [(o0, Blk.cells [.lst 4 (y25.2.1.map Kc) .no, iD y25.2.2.1, iD y25.2.2.2] T0)], [(5, z25)]⟩ : S)) ?_ ?_
  ·clear hm; have hm := KE q25
   refine KI ?_
   obtain ⟨u26, hl26, hq26⟩ := yes_m hm
   refine KaU (Y := Value) hl26 (fun s26 z26 => (⟨[(0, .ptr o0 0), (3, .lst 5 (s26.1.map Kg) (.cur z26))], [(o0, Blk.cells [.lst 4 (s26.2.1.map Kc) .no, iD s26.2.2.1, iD s26.2.2.2] T0)], [(5, z26)]⟩ : S)) ?_ ?_
   ·skip
    exact WkX.of v8 (WkS.perm (WkS.cons rfl (Wk.refl _) (WkS.cons rfl (Wk.refl _) (WkS.nil))) Pf Pf)
   ·intro G26 s26 z26 hm
    refine Kr ?_
    refine Kj ?_
    refine pu ?_
    obtain ⟨x37, q37, hm⟩ := Kf hm
    refine pG (KcM (⟨s26.2.1, s26.2.2.1, s26.2.2.2⟩ : Kd) (ByteArray.mk #[44]) o0 T0 .no x37 q37) Wl Pf Pf ?_
    rintro _ _ _ ⟨rfl, rfl, rfl⟩
    refine Kh ?_
    refine Ku rfl (fun hc38 => ?_) (fun hc38 => ?_)
    ·replace hm := yes_t hc38 hm
     refine Kv ?_
     refine Ki ?_
     refine KI ?_
     refine KD ?_
     refine pu ?_
     refine pu ?_
     obtain ⟨x39, q39, hm⟩ := Kf hm
     refine pG (KcR x37.2 o0 T0 .no x39 q39) Wl Pf Pf ?_
     rintro _ _ _ ⟨rfl, rfl, rfl⟩
     refine p_eq (i := 17) rfl (Wk.of_eq (Km x39.1)) ?_
     refine p_lit htab rfl rfl rfl rfl rfl rfl rfl rfl rfl rfl rfl rfl rfl rfl ?_
     refine p_eq (i := 18) (d' := .lst 5 (([x39.1] : List Ka).map Kg) .full) rfl (Wk.lst0 (.cons (WkC.trans (WkC.agg (WkR.refl _)) (WkC.of_eq (Km x39.1).symm)) (.nil))) ?_
     obtain ⟨x40, q40, hm⟩ := Kf hm
     refine KcA 0 htab rfl rfl rfl rfl rfl rfl rfl rfl rfl rfl rfl rfl rfl rfl rfl rfl rfl (Kbe q40) (fun v40 => ?_)
     refine KcB (i := 19) q40 rfl ?_
     refine pu ?_
     refine KC ?_
     refine KF ?_
     refine Ki ⟨_, KaA hm, ?_⟩
     exact WkX.of v40 (WkS.perm (WkS.cons rfl (Wk.refl _) (WkS.cons rfl (Wk.refl _) (WkS.nil))) Pf Pf)
    ·replace hm := yes_f hc38 hm
     refine Kan ?_
     refine KJ ?_
     have e26 := Kac hm; subst e26; clear hm; have hm := hq26
     refine KJ ?_
     refine Kae ?_
     have e25 := Kn hm; subst e25
     refine ⟨rfl, ?_⟩
     exact WkX.of z26 (WkS.perm (WkS.cons rfl (Wk.refl _) (WkS.cons rfl (Wk.refl _) (WkS.nil))) Pf Pf)
  ·intro s25 hw25; clear hm; have hm := ho25; clear q25 ho25
   refine Ki ?_
   refine KZ hw25 (fun z25 => ?_)
   refine Kj ?_
   refine pu ?_
   obtain ⟨x41, q41, hm⟩ := Kf hm
   refine pG (KaI (⟨y25.2.1, y25.2.2.1, y25.2.2.2⟩ : Kd) (ByteArray.mk #[41]) o0 T0 .no x41 q41) Wl Pf Pf ?_
   rintro _ _ _ ⟨rfl, rfl, rfl⟩
   refine Ky ?_
   refine pu ?_
   refine pu ?_
   refine Kh ?_
   refine Ks ?_
   have er42 := Kn hm; subst er42
   refine rP (t' := [(2, .lst 5 (y25.1.map Kg) (.cur z25))]) [0] [0] 1 (wC wN) (lT lN) ?_
   exact ⟨z25, rfl, rfl, rfl⟩
noncomputable def Kds (m0 : Kd) (a1 : Kl) : Option (Kl × Kd) :=
 ((Kbt m0).bind fun x3 => ((Keg x3.2).bind fun x5 => ((Kam x5.2 (ByteArray.mk #[59])).bind fun x6 => some ((⟨(4 : Int), a1.gName, x3.1, x5.1, a1.gKids, a1.gElse, a1.gAt⟩ : Kl), x6))))
theorem KiU (m0 : Kd) (a1 : Kl) (o0 : Nat) (T0 : TypeId) (c0_0 : Cap) (r : Kl × Kd) (h0 : Kds m0 a1 = some r) : CallsD Try.prog 75 [.ptr o0 0, Kk a1] [(o0, Blk.cells [.lst 4 (m0.gL.map Kc) c0_0, iD m0.gAt, iD m0.gE] T0)] [] (fun d h k => d = Kk r.1 ∧ h = [(o0, Blk.cells [.lst 4 (r.2.gL.map Kc) .no, iD r.2.gAt, iD r.2.gE] T0)] ∧ k = []) := by
 have hm := KE h0
 unfold Kds at hm
 clear h0
 refine KU htab Try.func75 rfl rfl rfl rfl rfl (fun C => ?_)
 refine w_eq (i := 1) rfl (Wk.of_eq (Kp a1)) ?_
 refine Kj ?_
 refine p_box rfl rfl rfl rfl rfl rfl rfl (fun b1 => ?_)
 refine KW htab rfl rfl rfl rfl rfl rfl rfl (fun b2 => ?_)
 refine Ky ?_
 refine pu ?_
 refine pS1 (ds' := [iD (4 : Int), tD a1.gName, tD a1.gFunc, .lst 5 (a1.gExps.map Kg) .no, .lst 7 (a1.gKids.map Kk) .no, .lst 7 (a1.gElse.map Kk) .no, iD a1.gAt]) ?_
 refine Ky ?_
 refine pu ?_
 obtain ⟨x3, q3, hm⟩ := Kf hm
 refine pG (Kdr m0 o0 T0 c0_0 x3 q3) Wl Pf Pf ?_
 rintro _ _ _ ⟨rfl, rfl, rfl⟩
 refine pu ?_
 refine pS1 (ds' := [iD (4 : Int), tD a1.gName, tD x3.1, .lst 5 (a1.gExps.map Kg) .no, .lst 7 (a1.gKids.map Kk) .no, .lst 7 (a1.gElse.map Kk) .no, iD a1.gAt]) ?_
 refine Ky ?_
 refine pu ?_
 obtain ⟨x5, q5, hm⟩ := Kf hm
 refine pG (KkH x3.2 o0 T0 c0_0 x5 q5) Wl Pf Pf ?_
 rintro _ _ _ ⟨w4, rfl, rfl, rfl⟩
 refine pu ?_
 refine pS1 (ds' := [iD (4 : Int), tD a1.gName, tD x3.1, .lst 5 (x5.1.map Kg) (.cur w4), .lst 7 (a1.gKids.map Kk) .no, .lst 7 (a1.gElse.map Kk) .no, iD a1.gAt]) ?_
 refine Ky ?_
 refine pu ?_
 obtain ⟨x6, q6, hm⟩ := Kf hm
 refine pG (KaI x5.2 (ByteArray.mk #[59]) o0 T0 .no x6 q6) Wl Pf Pf ?_
 rintro _ _ _ ⟨rfl, rfl, rfl⟩
 refine Ky ?_
 refine K8 (d := .agg [iD (4 : Int), tD a1.gName, tD x3.1, .lst 5 (x5.1.map Kg) (.cur w4), .lst 7 (a1.gKids.map Kk) .no, .lst 7 (a1.gElse.map Kk) .no, iD a1.gAt]) 1 htab rfl rfl rfl rfl rfl rfl rfl rfl ?_
 refine pS2 (ds' := [iD (4 : Int), tD a1.gName, tD x3.1, .lst 5 (x5.1.map Kg) (.cur w4), .lst 7 (a1.gKids.map Kk) .no, .lst 7 (a1.gElse.map Kk) .no, iD a1.gAt]) ?_
 refine Kh ?_
 refine Ks ?_
 have er7 := Kn hm; subst er7
 refine retX.wk (WkS.bl2 (ds' := [iD (4 : Int), tD a1.gName, tD x3.1, .lst 5 (x5.1.map Kg) .no, .lst 7 (a1.gKids.map Kk) .no, .lst 7 (a1.gElse.map Kk) .no, iD a1.gAt]) (rC (rC (rC (rO (rC (rC (rC WkR.nil)))))))) ?_
 refine rP (t' := [(4, .ptr b2 0)]) [0,1] [] 1 (wC wN) (lC 1 lN) ?_
 exact ⟨by first | rfl | (simp only [wrapD, Kp]; done) | (simp only [wrapD, Kp]; rfl), rfl, rfl⟩
noncomputable def KeY (m0 : Kd) (a1 : Kl) : Option (Kl × Kd) :=
 ((Kef m0 (1 : Int)).bind fun x3 => (Option.bind (α := Bool) (bif (x3.gKind == (3 : Int)) then some (decide (x3.gText = (ByteArray.mk #[40]))) else some false) fun y6 => (bif y6 then ((Kds m0 a1).bind fun x11 => some (x11.1, x11.2)) else ((Kbt m0).bind fun x13 => ((KbN x13.2 (ByteArray.mk #[91])).bind fun x14 => (bif x14.1 then ((KaN x14.2).bind fun x24 => ((Kam x24.2 (ByteArray.mk #[93])).bind fun x26 => ((Kam x26 (ByteArray.mk #[61])).bind fun x27 => ((KaN x27).bind fun x28 => ((Kam x28.2 (ByteArray.mk #[59])).bind fun x30 => some ((⟨(2 : Int), x13.1, a1.gFunc, ([x24.1, x28.1] : List Ka), a1.gKids, a1.gElse, a1.gAt⟩ : Kl), x30)))))) else ((Kam x14.2 (ByteArray.mk #[61])).bind fun x32 => ((KbN x32 (ByteArray.mk #[105, 110, 112, 117, 116])).bind fun x33 => (bif x33.1 then ((Kam x33.2 (ByteArray.mk #[40])).bind fun x39 => ((Kam x39 (ByteArray.mk #[41])).bind fun x40 => ((Kam x40 (ByteArray.mk #[59])).bind fun x41 => some ((⟨(5 : Int), x13.1, a1.gFunc, a1.gExps, a1.gKids, a1.gElse, a1.gAt⟩ : Kl), x41)))) else ((Kef x33.2 (1 : Int)).bind fun x43 => (Option.bind (α := Bool) ((Kbq x33.2).bind fun x49 => (bif (x49.gKind == (1 : Int)) then (bif (x43.gKind == (3 : Int)) then some (decide (x43.gText = (ByteArray.mk #[40]))) else some false) else some false)) fun y48 => (bif y48 then ((Kds x33.2 (⟨a1.gOp, x13.1, a1.gFunc, a1.gExps, a1.gKids, a1.gElse, a1.gAt⟩ : Kl)).bind fun x55 => some (x55.1, x55.2)) else ((KaN x33.2).bind fun x57 => ((Kam x57.2 (ByteArray.mk #[59])).bind fun x58 => some ((⟨(1 : Int), x13.1, a1.gFunc, ([x57.1] : List Ka), a1.gKids, a1.gElse, a1.gAt⟩ : Kl), x58)))))))))))))))
theorem KkI (m0 : Kd) (a1 : Kl) (o0 : Nat) (T0 : TypeId) (c0_0 : Cap) (r : Kl × Kd) (h0 : KeY m0 a1 = some r) : CallsD Try.prog 60 [.ptr o0 0, Kk a1] [(o0, Blk.cells [.lst 4 (m0.gL.map Kc) c0_0, iD m0.gAt, iD m0.gE] T0)] [] (fun d h k => d = Kk r.1 ∧ h = [(o0, Blk.cells [.lst 4 (r.2.gL.map Kc) .no, iD r.2.gAt, iD r.2.gE] T0)] ∧ k = []) := by
 have hm := KE h0
 unfold KeY at hm
 clear h0
 refine KU htab Try.func60 rfl rfl rfl rfl rfl (fun C => ?_)
 refine w_eq (i := 1) rfl (Wk.of_eq (Kp a1)) ?_
 refine Kj ?_
 refine p_box rfl rfl rfl rfl rfl rfl rfl (fun b1 => ?_)
 refine KW htab rfl rfl rfl rfl rfl rfl rfl (fun b2 => ?_)
 refine Ky ?_
 refine pu ?_
 obtain ⟨x3, q3, hm⟩ := Kf hm
 refine pG (Kiw m0 (1 : Int) o0 T0 c0_0 x3 q3) Wl Pf Pf ?_
 rintro _ _ _ ⟨rfl, rfl, rfl⟩
 refine KW htab rfl rfl rfl rfl rfl rfl rfl (fun b4 => ?_)
 refine pS3 (ds' := [iD x3.gKind, tD x3.gText, iD x3.gN, iD x3.gAt]) ?_
 refine Kh ?_
 refine Kr ?_
 refine Kr ?_
 obtain ⟨y6, q6, ho6⟩ := Kf hm
 refine K7 (Y := Unit) (fun z6 => (⟨[(0, .ptr o0 0), (3, .ptr b1 0), (4, .ptr b2 0), (18, .v (.bool y6))], [(o0, Blk.cells [.lst 4 (m0.gL.map Kc) c0_0, iD m0.gAt, iD m0.gE] T0), (b1, Blk.cells [iD a1.gOp, tD a1.gName, tD a1.gFunc, .lst 5 (a1.gExps.map Kg) .no, .lst 7 (a1.gKids.map Kk) .no, .lst 7 (a1.gElse.map Kk) .no, iD a1.gAt] 58), (b2, Blk.cells [iD (0 : Int), tD ByteArray.empty, tD ByteArray.empty, .lst 1 [] .full, .lst 1 [] .full, .lst 1 [] .full, iD (0 : Int)] 58)], []⟩ : S)) ?_ ?_
 ·clear hm; have hm := KE q6
  refine KD ?_
  refine pu ?_
  refine pL 3 ?_
  refine pu ?_
  refine pu ?_
  refine K5 (i := 14) rfl (fun hg7 => ?_) (fun hg7 => ?_)
  ·replace hm := yes_t hg7 hm
   refine pu ?_
   refine pL 3 ?_
   refine pu ?_
   refine KP rfl rfl rfl rfl rfl rfl ?_
   refine KC ?_
   have e6 := Kn hm; subst e6
   refine ⟨rfl, ?_⟩
   exact WkX.of () (WkS.perm (WkS.cons rfl (Wk.refl _) (WkS.cons rfl (Wk.refl _) (WkS.cons rfl (Wk.refl _) (WkS.cons rfl (Wk.refl _) (WkS.nil))))) Pf Pf)
  ·replace hm := yes_f hg7 hm
   iterate 3 refine pK ?_
   refine KL rfl rfl rfl rfl rfl rfl ?_
   refine KC ?_
   have e6 := Kn hm; subst e6
   refine ⟨rfl, ?_⟩
   exact WkX.of () (WkS.perm (WkS.cons rfl (Wk.refl _) (WkS.cons rfl (Wk.refl _) (WkS.cons rfl (Wk.refl _) (WkS.cons rfl (Wk.refl _) (WkS.nil))))) Pf Pf)
 ·intro s6 hw6; clear hm; have hm := ho6; clear q6 ho6
  refine Ki ?_
  refine KZ hw6 (fun z6 => ?_)
  refine Ku rfl (fun hc10 => ?_) (fun hc10 => ?_)
  ·replace hm := yes_t hc10 hm
   refine Kj ?_
   refine pu ?_
   refine K8 (d := .agg [iD a1.gOp, tD a1.gName, tD a1.gFunc, .lst 5 (a1.gExps.map Kg) .no, .lst 7 (a1.gKids.map Kk) .no, .lst 7 (a1.gElse.map Kk) .no, iD a1.gAt]) 1 htab rfl rfl rfl rfl rfl rfl rfl rfl ?_
   obtain ⟨x11, q11, hm⟩ := Kf hm
   refine Kas (KiU m0 a1 o0 T0 c0_0 x11 q11) rfl rfl rfl rfl rfl (WkL.cons (Wk.refl _) (WkL.cons (Wk.trans (Wk.agg (WkR.refl _)) (Wk.of_eq (Kp a1).symm)) Wl)) Pf Pf ?_
   rintro _ _ _ ⟨rfl, rfl, rfl⟩
   refine p_eq (i := 21) rfl (Wk.of_eq (Kp x11.1)) ?_
   refine pS2 (ds' := [iD x11.1.gOp, tD x11.1.gName, tD x11.1.gFunc, .lst 5 (x11.1.gExps.map Kg) .no, .lst 7 (x11.1.gKids.map Kk) .no, .lst 7 (x11.1.gElse.map Kk) .no, iD x11.1.gAt]) ?_
   refine Kh ?_
   refine Ks ?_
   refine Kx ?_
   have er12 := Kn hm; subst er12
   refine rP (t' := [(4, .ptr b2 0)]) [0,1] [] 1 (wC wN) (lC 1 lN) ?_
   exact ⟨by first | rfl | (simp only [wrapD, Kp]; done) | (simp only [wrapD, Kp]; rfl), rfl, rfl⟩
  ·replace hm := yes_f hc10 hm
   refine Kv ?_
   refine Ki ?_
   refine Kj ?_
   refine pu ?_
   obtain ⟨x13, q13, hm⟩ := Kf hm
   refine pG (Kdr m0 o0 T0 c0_0 x13 q13) Wl Pf Pf ?_
   rintro _ _ _ ⟨rfl, rfl, rfl⟩
   refine pu ?_
   refine pS1 (ds' := [iD a1.gOp, tD x13.1, tD a1.gFunc, .lst 5 (a1.gExps.map Kg) .no, .lst 7 (a1.gKids.map Kk) .no, .lst 7 (a1.gElse.map Kk) .no, iD a1.gAt]) ?_
   refine Kh ?_
   refine Kr ?_
   refine Kj ?_
   refine pu ?_
   obtain ⟨x14, q14, hm⟩ := Kf hm
   refine pG (KcM x13.2 (ByteArray.mk #[91]) o0 T0 c0_0 x14 q14) Wl Pf Pf ?_
   rintro _ _ _ ⟨rfl, rfl, rfl⟩
   refine Kh ?_
   refine Ku rfl (fun hc23 => ?_) (fun hc23 => ?_)
   ·replace hm := yes_t hc23 hm
    refine Kj ?_
    refine pu ?_
    refine pS1 (ds' := [iD (2 : Int), tD x13.1, tD a1.gFunc, .lst 5 (a1.gExps.map Kg) .no, .lst 7 (a1.gKids.map Kk) .no, .lst 7 (a1.gElse.map Kk) .no, iD a1.gAt]) ?_
    refine Ky ?_
    refine pu ?_
    obtain ⟨x24, q24, hm⟩ := Kf hm
    refine pG (KcR x14.2 o0 T0 c0_0 x24 q24) Wl Pf Pf ?_
    rintro _ _ _ ⟨rfl, rfl, rfl⟩
    refine p_eq (i := 29) rfl (Wk.of_eq (Km x24.1)) ?_
    refine KW htab rfl rfl rfl rfl rfl rfl rfl (fun b25 => ?_)
    refine pS3 (ds' := [iD x24.1.gOp, iD x24.1.gN, tD x24.1.gName, .lst 5 (x24.1.gKids.map Kg) .no, iD x24.1.gAt]) ?_
    refine Ky ?_
    refine pu ?_
    obtain ⟨x26, q26, hm⟩ := Kf hm
    refine pG (KaI x24.2 (ByteArray.mk #[93]) o0 T0 .no x26 q26) Wl Pf Pf ?_
    rintro _ _ _ ⟨rfl, rfl, rfl⟩
    refine Ky ?_
    refine pu ?_
    obtain ⟨x27, q27, hm⟩ := Kf hm
    refine pG (KaI x26 (ByteArray.mk #[61]) o0 T0 .no x27 q27) Wl Pf Pf ?_
    rintro _ _ _ ⟨rfl, rfl, rfl⟩
    refine Ky ?_
    refine pu ?_
    obtain ⟨x28, q28, hm⟩ := Kf hm
    refine pG (KcR x27 o0 T0 .no x28 q28) Wl Pf Pf ?_
    rintro _ _ _ ⟨rfl, rfl, rfl⟩
    refine p_eq (i := 35) rfl (Wk.of_eq (Km x28.1)) ?_
    refine KW htab rfl rfl rfl rfl rfl rfl rfl (fun b29 => ?_)
    refine pS4 (ds' := [iD x28.1.gOp, iD x28.1.gN, tD x28.1.gName, .lst 5 (x28.1.gKids.map Kg) .no, iD x28.1.gAt]) ?_
    refine Ky ?_
    refine K8 (d := .agg [iD x24.1.gOp, iD x24.1.gN, tD x24.1.gName, .lst 5 (x24.1.gKids.map Kg) .no, iD x24.1.gAt]) 3 htab rfl rfl rfl rfl rfl rfl rfl rfl ?_
    refine K8 (d := .agg [iD x28.1.gOp, iD x28.1.gN, tD x28.1.gName, .lst 5 (x28.1.gKids.map Kg) .no, iD x28.1.gAt]) 4 htab rfl rfl rfl rfl rfl rfl rfl rfl ?_
    refine p_lit htab rfl rfl rfl rfl rfl rfl rfl rfl rfl rfl rfl rfl rfl rfl ?_
    refine p_eq (i := 38) (d' := .lst 5 (([x24.1, x28.1] : List Ka).map Kg) .full) rfl (Wk.lst0 (.cons (WkC.trans (WkC.agg (WkR.refl _)) (WkC.of_eq (Km x24.1).symm)) (.cons (WkC.trans (WkC.agg (WkR.refl _)) (WkC.of_eq (Km x28.1).symm)) (.nil)))) ?_
    refine pu ?_
    refine pS1 (ds' := [iD (2 : Int), tD x13.1, tD a1.gFunc, .lst 5 (([x24.1, x28.1] : List Ka).map Kg) .full, .lst 7 (a1.gKids.map Kk) .no, .lst 7 (a1.gElse.map Kk) .no, iD a1.gAt]) ?_
    refine Ky ?_
    refine pu ?_
    obtain ⟨x30, q30, hm⟩ := Kf hm
    refine pG (KaI x28.2 (ByteArray.mk #[59]) o0 T0 .no x30 q30) Wl Pf Pf ?_
    rintro _ _ _ ⟨rfl, rfl, rfl⟩
    refine Ky ?_
    refine K8 (d := .agg [iD (2 : Int), tD x13.1, tD a1.gFunc, .lst 5 (([x24.1, x28.1] : List Ka).map Kg) .full, .lst 7 (a1.gKids.map Kk) .no, .lst 7 (a1.gElse.map Kk) .no, iD a1.gAt]) 1 htab rfl rfl rfl rfl rfl rfl rfl rfl ?_
    refine pS2 (ds' := [iD (2 : Int), tD x13.1, tD a1.gFunc, .lst 5 (([x24.1, x28.1] : List Ka).map Kg) .full, .lst 7 (a1.gKids.map Kk) .no, .lst 7 (a1.gElse.map Kk) .no, iD a1.gAt]) ?_
    refine Kh ?_
    refine Ks ?_
    refine Kx ?_
    have er31 := Kn hm; subst er31
    refine retX.wk (WkS.bl2 (ds' := [iD (2 : Int), tD x13.1, tD a1.gFunc, .lst 5 (([x24.1, x28.1] : List Ka).map Kg) .no, .lst 7 (a1.gKids.map Kk) .no, .lst 7 (a1.gElse.map Kk) .no, iD a1.gAt]) (rC (rC (rC (rO (rC (rC (rC WkR.nil)))))))) ?_
    refine rP (t' := [(4, .ptr b2 0)]) [0,1] [] 1 (wC wN) (lC 1 lN) ?_
    exact ⟨by first | rfl | (simp only [wrapD, Kp]; done) | (simp only [wrapD, Kp]; rfl), rfl, rfl⟩
   ·replace hm := yes_f hc23 hm
    refine Kv ?_
    refine Ki ?_
    refine Kj ?_
    refine pu ?_
    obtain ⟨x32, q32, hm⟩ := Kf hm
    refine pG (KaI x14.2 (ByteArray.mk #[61]) o0 T0 c0_0 x32 q32) Wl Pf Pf ?_
    rintro _ _ _ ⟨rfl, rfl, rfl⟩
    refine Kh ?_
    refine Kr ?_
    refine Kj ?_
    refine pu ?_
    obtain ⟨x33, q33, hm⟩ := Kf hm
    refine pG (KcM x32 (ByteArray.mk #[105, 110, 112, 117, 116]) o0 T0 c0_0 x33 q33) Wl Pf Pf ?_
    rintro _ _ _ ⟨rfl, rfl, rfl⟩
    refine Kh ?_
    refine Ku rfl (fun hc38 => ?_) (fun hc38 => ?_)
    ·replace hm := yes_t hc38 hm
     refine Kj ?_
     refine pu ?_
     refine pS1 (ds' := [iD (5 : Int), tD x13.1, tD a1.gFunc, .lst 5 (a1.gExps.map Kg) .no, .lst 7 (a1.gKids.map Kk) .no, .lst 7 (a1.gElse.map Kk) .no, iD a1.gAt]) ?_
     refine Ky ?_
     refine pu ?_
     obtain ⟨x39, q39, hm⟩ := Kf hm
     refine pG (KaI x33.2 (ByteArray.mk #[40]) o0 T0 c0_0 x39 q39) Wl Pf Pf ?_
     rintro _ _ _ ⟨rfl, rfl, rfl⟩
     refine Ky ?_
     refine pu ?_
     obtain ⟨x40, q40, hm⟩ := Kf hm
     refine pG (KaI x39 (ByteArray.mk #[41]) o0 T0 c0_0 x40 q40) Wl Pf Pf ?_
     rintro _ _ _ ⟨rfl, rfl, rfl⟩
     refine Ky ?_
     refine pu ?_
     obtain ⟨x41, q41, hm⟩ := Kf hm
     refine pG (KaI x40 (ByteArray.mk #[59]) o0 T0 c0_0 x41 q41) Wl Pf Pf ?_
     rintro _ _ _ ⟨rfl, rfl, rfl⟩
     refine Ky ?_
     refine K8 (d := .agg [iD (5 : Int), tD x13.1, tD a1.gFunc, .lst 5 (a1.gExps.map Kg) .no, .lst 7 (a1.gKids.map Kk) .no, .lst 7 (a1.gElse.map Kk) .no, iD a1.gAt]) 1 htab rfl rfl rfl rfl rfl rfl rfl rfl ?_
     refine pS2 (ds' := [iD (5 : Int), tD x13.1, tD a1.gFunc, .lst 5 (a1.gExps.map Kg) .no, .lst 7 (a1.gKids.map Kk) .no, .lst 7 (a1.gElse.map Kk) .no, iD a1.gAt]) ?_
     refine Kh ?_
     refine Ks ?_
     refine Kx ?_
     have er42 := Kn hm; subst er42
     refine retX.wk (WkS.bl0 (ds' := [.lst 4 (x41.gL.map Kc) .no, iD x41.gAt, iD x41.gE]) (rO (rC (rC WkR.nil)))) ?_
     refine rP (t' := [(4, .ptr b2 0)]) [0,1] [] 1 (wC wN) (lC 1 lN) ?_
     exact ⟨by first | rfl | (simp only [wrapD, Kp]; done) | (simp only [wrapD, Kp]; rfl), rfl, rfl⟩
    ·replace hm := yes_f hc38 hm
     refine Kv ?_
     refine Ki ?_
     refine Kj ?_
     refine pu ?_
     obtain ⟨x43, q43, hm⟩ := Kf hm
     refine pG (Kiw x33.2 (1 : Int) o0 T0 c0_0 x43 q43) Wl Pf Pf ?_
     rintro _ _ _ ⟨rfl, rfl, rfl⟩
     refine KW htab rfl rfl rfl rfl rfl rfl rfl (fun b44 => ?_)
     refine pS3 (ds' := [iD x43.gKind, tD x43.gText, iD x43.gN, iD x43.gAt]) ?_
     refine Kh ?_
     refine Kr ?_
     refine Kr ?_
     obtain ⟨y48, q48, ho48⟩ := Kf hm
     refine K7 (Y := Unit) (fun z48 => (⟨[(0, .ptr o0 0), (3, .ptr b1 0), (4, .ptr b2 0), (70, .v (.bool y48))], [(o0, Blk.cells [.lst 4 (x33.2.gL.map Kc) c0_0, iD x33.2.gAt, iD x33.2.gE] T0), (b1, Blk.cells [iD a1.gOp, tD x13.1, tD a1.gFunc, .lst 5 (a1.gExps.map Kg) .no, .lst 7 (a1.gKids.map Kk) .no, .lst 7 (a1.gElse.map Kk) .no, iD a1.gAt] 58), (b2, Blk.cells [iD (0 : Int), tD ByteArray.empty, tD ByteArray.empty, .lst 1 [] .full, .lst 1 [] .full, .lst 1 [] .full, iD (0 : Int)] 58)], []⟩ : S)) ?_ ?_
     ·clear hm; have hm := KE q48
      refine KD ?_
      refine pu ?_
      obtain ⟨x49, q49, hm⟩ := Kf hm
      refine pG (Kcb x33.2 o0 T0 c0_0 x49 q49) Wl Pf Pf ?_
      rintro _ _ _ ⟨rfl, rfl, rfl⟩
      iterate 3 refine pu ?_
      refine K5 (i := 61) rfl (fun hg50 => ?_) (fun hg50 => ?_)
      ·replace hm := yes_t hg50 hm
       refine pu ?_
       refine pL 3 ?_
       refine pu ?_
       refine KP rfl rfl rfl rfl rfl rfl ?_
       refine pu ?_
       refine K5 (i := 66) rfl (fun hg51 => ?_) (fun hg51 => ?_)
       ·replace hm := yes_t hg51 hm
        refine pu ?_
        refine pL 3 ?_
        refine pu ?_
        refine KP rfl rfl rfl rfl rfl rfl ?_
        refine KC ?_
        have e48 := Kn hm; subst e48
        refine ⟨rfl, ?_⟩
        exact WkX.of () (WkS.perm (WkS.cons rfl (Wk.refl _) (WkS.cons rfl (Wk.refl _) (WkS.cons rfl (Wk.refl _) (WkS.cons rfl (Wk.refl _) (WkS.nil))))) Pf Pf)
       ·replace hm := yes_f hg51 hm
        iterate 3 refine pK ?_
        refine KL rfl rfl rfl rfl rfl rfl ?_
        refine KC ?_
        have e48 := Kn hm; subst e48
        refine ⟨rfl, ?_⟩
        exact WkX.of () (WkS.perm (WkS.cons rfl (Wk.refl _) (WkS.cons rfl (Wk.refl _) (WkS.cons rfl (Wk.refl _) (WkS.cons rfl (Wk.refl _) (WkS.nil))))) Pf Pf)
      ·replace hm := yes_f hg50 hm
       iterate 3 refine pK ?_
       refine KL rfl rfl rfl rfl rfl rfl ?_
       refine pu ?_
       iterate 3 refine pK ?_
       refine KL rfl rfl rfl rfl rfl rfl ?_
       refine KC ?_
       have e48 := Kn hm; subst e48
       refine ⟨rfl, ?_⟩
       exact WkX.of () (WkS.perm (WkS.cons rfl (Wk.refl _) (WkS.cons rfl (Wk.refl _) (WkS.cons rfl (Wk.refl _) (WkS.cons rfl (Wk.refl _) (WkS.nil))))) Pf Pf)
     ·intro s48 hw48; clear hm; have hm := ho48; clear q48 ho48
      refine Ki ?_
      refine KZ hw48 (fun z48 => ?_)
      refine Ku rfl (fun hc54 => ?_) (fun hc54 => ?_)
      ·replace hm := yes_t hc54 hm
       refine Kj ?_
       refine pu ?_
       refine K8 (d := .agg [iD a1.gOp, tD x13.1, tD a1.gFunc, .lst 5 (a1.gExps.map Kg) .no, .lst 7 (a1.gKids.map Kk) .no, .lst 7 (a1.gElse.map Kk) .no, iD a1.gAt]) 1 htab rfl rfl rfl rfl rfl rfl rfl rfl ?_
       obtain ⟨x55, q55, hm⟩ := Kf hm
       refine Kas (KiU x33.2 (⟨a1.gOp, x13.1, a1.gFunc, a1.gExps, a1.gKids, a1.gElse, a1.gAt⟩ : Kl) o0 T0 c0_0 x55 q55) rfl rfl rfl rfl rfl (WkL.cons (Wk.refl _) (WkL.cons (Wk.trans (Wk.agg (WkR.refl _)) (Wk.of_eq (Kp (⟨a1.gOp, x13.1, a1.gFunc, a1.gExps, a1.gKids, a1.gElse, a1.gAt⟩ : Kl)).symm)) Wl)) Pf Pf ?_
       rintro _ _ _ ⟨rfl, rfl, rfl⟩
       refine p_eq (i := 73) rfl (Wk.of_eq (Kp x55.1)) ?_
       refine pS2 (ds' := [iD x55.1.gOp, tD x55.1.gName, tD x55.1.gFunc, .lst 5 (x55.1.gExps.map Kg) .no, .lst 7 (x55.1.gKids.map Kk) .no, .lst 7 (x55.1.gElse.map Kk) .no, iD x55.1.gAt]) ?_
       refine Kh ?_
       refine Ks ?_
       refine Kx ?_
       have er56 := Kn hm; subst er56
       refine rP (t' := [(4, .ptr b2 0)]) [0,1] [] 1 (wC wN) (lC 1 lN) ?_
       exact ⟨by first | rfl | (simp only [wrapD, Kp]; done) | (simp only [wrapD, Kp]; rfl), rfl, rfl⟩
      ·replace hm := yes_f hc54 hm
       refine Kv ?_
       refine Ki ?_
       refine Kj ?_
       refine pu ?_
       refine pS1 (ds' := [iD (1 : Int), tD x13.1, tD a1.gFunc, .lst 5 (a1.gExps.map Kg) .no, .lst 7 (a1.gKids.map Kk) .no, .lst 7 (a1.gElse.map Kk) .no, iD a1.gAt]) ?_
       refine Ky ?_
       refine pu ?_
       obtain ⟨x57, q57, hm⟩ := Kf hm
       refine pG (KcR x33.2 o0 T0 c0_0 x57 q57) Wl Pf Pf ?_
       rintro _ _ _ ⟨rfl, rfl, rfl⟩
       refine p_eq (i := 76) rfl (Wk.of_eq (Km x57.1)) ?_
       refine p_lit htab rfl rfl rfl rfl rfl rfl rfl rfl rfl rfl rfl rfl rfl rfl ?_
       refine p_eq (i := 77) (d' := .lst 5 (([x57.1] : List Ka).map Kg) .full) rfl (Wk.lst0 (.cons (WkC.trans (WkC.agg (WkR.refl _)) (WkC.of_eq (Km x57.1).symm)) (.nil))) ?_
       refine pu ?_
       refine pS1 (ds' := [iD (1 : Int), tD x13.1, tD a1.gFunc, .lst 5 (([x57.1] : List Ka).map Kg) .full, .lst 7 (a1.gKids.map Kk) .no, .lst 7 (a1.gElse.map Kk) .no, iD a1.gAt]) ?_
       refine Ky ?_
       refine pu ?_
       obtain ⟨x58, q58, hm⟩ := Kf hm
       refine pG (KaI x57.2 (ByteArray.mk #[59]) o0 T0 .no x58 q58) Wl Pf Pf ?_
       rintro _ _ _ ⟨rfl, rfl, rfl⟩
       refine Ky ?_
       refine K8 (d := .agg [iD (1 : Int), tD x13.1, tD a1.gFunc, .lst 5 (([x57.1] : List Ka).map Kg) .full, .lst 7 (a1.gKids.map Kk) .no, .lst 7 (a1.gElse.map Kk) .no, iD a1.gAt]) 1 htab rfl rfl rfl rfl rfl rfl rfl rfl ?_
       refine pS2 (ds' := [iD (1 : Int), tD x13.1, tD a1.gFunc, .lst 5 (([x57.1] : List Ka).map Kg) .full, .lst 7 (a1.gKids.map Kk) .no, .lst 7 (a1.gElse.map Kk) .no, iD a1.gAt]) ?_
       refine Kh ?_
       refine Ks ?_
       have er59 := Kn hm; subst er59
       refine retX.wk (WkS.bl2 (ds' := [iD (1 : Int), tD x13.1, tD a1.gFunc, .lst 5 (([x57.1] : List Ka).map Kg) .no, .lst 7 (a1.gKids.map Kk) .no, .lst 7 (a1.gElse.map Kk) .no, iD a1.gAt]) (rC (rC (rC (rO (rC (rC (rC WkR.nil)))))))) ?_
       refine rP (t' := [(4, .ptr b2 0)]) [0,1] [] 1 (wC wN) (lC 1 lN) ?_
       exact ⟨by first | rfl | (simp only [wrapD, Kp]; done) | (simp only [wrapD, Kp]; rfl), rfl, rfl⟩
noncomputable def KeO (m0 : Kd) : Option (List Ka × Kd) :=
 ((Kam m0 (ByteArray.mk #[40])).bind fun x1 => ((KaN x1).bind fun x2 => ((Kam x2.2 (ByteArray.mk #[41])).bind fun x4 => some (([x2.1] : List Ka), x4))))
theorem Kha (m0 : Kd) (o0 : Nat) (T0 : TypeId) (c0_0 : Cap) (r : List Ka × Kd) (h0 : KeO m0 = some r) : CallsD Try.prog 62 [.ptr o0 0] [(o0, Blk.cells [.lst 4 (m0.gL.map Kc) c0_0, iD m0.gAt, iD m0.gE] T0)] [] (fun d h k => ∃ y0, d = .lst 5 (r.1.map Kg) (.cur y0) ∧ h = [(o0, Blk.cells [.lst 4 (r.2.gL.map Kc) .no, iD r.2.gAt, iD r.2.gE] T0)] ∧ k = [(5, y0)]) := by
 have hm := KE h0
 unfold KeO at hm
 clear h0
 refine KU htab Try.func62 rfl rfl rfl rfl rfl (fun C => ?_)
 refine Kj ?_
 refine pu ?_
 refine Ky ?_
 refine pu ?_
 obtain ⟨x1, q1, hm⟩ := Kf hm
 refine pG (KaI m0 (ByteArray.mk #[40]) o0 T0 c0_0 x1 q1) Wl Pf Pf ?_
 rintro _ _ _ ⟨rfl, rfl, rfl⟩
 refine Ky ?_
 refine pu ?_
 obtain ⟨x2, q2, hm⟩ := Kf hm
 refine pG (KcR x1 o0 T0 c0_0 x2 q2) Wl Pf Pf ?_
 rintro _ _ _ ⟨rfl, rfl, rfl⟩
 refine p_eq (i := 7) rfl (Wk.of_eq (Km x2.1)) ?_
 refine KW htab rfl rfl rfl rfl rfl rfl rfl (fun b3 => ?_)
 refine pS1 (ds' := [iD x2.1.gOp, iD x2.1.gN, tD x2.1.gName, .lst 5 (x2.1.gKids.map Kg) .no, iD x2.1.gAt]) ?_
 refine Ky ?_
 refine pu ?_
 obtain ⟨x4, q4, hm⟩ := Kf hm
 refine pG (KaI x2.2 (ByteArray.mk #[41]) o0 T0 .no x4 q4) Wl Pf Pf ?_
 rintro _ _ _ ⟨rfl, rfl, rfl⟩
 refine Ky ?_
 refine K8 (d := .agg [iD x2.1.gOp, iD x2.1.gN, tD x2.1.gName, .lst 5 (x2.1.gKids.map Kg) .no, iD x2.1.gAt]) 1 htab rfl rfl rfl rfl rfl rfl rfl rfl ?_
 refine p_lit htab rfl rfl rfl rfl rfl rfl rfl rfl rfl rfl rfl rfl rfl rfl ?_
 refine p_eq (i := 11) (d' := .lst 5 (([x2.1] : List Ka).map Kg) .full) rfl (Wk.lst0 (.cons (WkC.trans (WkC.agg (WkR.refl _)) (WkC.of_eq (Km x2.1).symm)) (.nil))) ?_
 refine pu ?_
 refine Kh ?_
 refine Ks ?_
 have er5 := Kn hm; subst er5
 refine retX.tokF (i := 2) rfl (fun w6 => ?_)
 refine rP (t' := [(2, .lst 5 (([x2.1] : List Ka).map Kg) (.cur w6))]) [0] [0] 1 (wC wN) (lT lN) ?_
 exact ⟨w6, rfl, rfl, rfl⟩
end Go.Proofs.Ytmgklehakmdiiaa.Ab
namespace Go.Proofs.Ytmgklehakmdiiaa.Ab
open Go
set_option linter.all false
noncomputable def Kew (g0 : (Kd) → (Int) → Option (List Kl × Kd)) (g1 : (Kd) → (Int) → Option (Kl × Kd)) (g2 : (Kd) → (Int) → Option (List Kl × Kd)) (m0 : Kd) (a1 : Int) : Option (List Kl × Kd) :=
 (Option.bind (α := List Kl × List Kq × Int × Int) (loopM (fun (s31 : List Kl × List Kq × Int × Int) => (Option.bind (α := Bool × List Kq × Int × Int) (bif (s31.2.2.2 == (0 : Int)) then ((KbN (⟨s31.2.1, s31.2.2.1, s31.2.2.2⟩ : Kd) (ByteArray.mk #[125])).bind fun x55 => some ((!x55.1), x55.2.gL, x55.2.gAt, x55.2.gE)) else some (false, s31.2.1, s31.2.2.1, s31.2.2.2)) fun y53 => (bif y53.1 then ((g1 (⟨y53.2.1, y53.2.2.1, y53.2.2.2⟩ : Kd) a1).bind fun x57 => ((app 120 s31.1 ([x57.1] : List Kl)).bind fun x58 => some (.next (x58, x57.2.gL, x57.2.gAt, x57.2.gE)))) else some (.done (s31.1, y53.2.1, y53.2.2.1, y53.2.2.2))))) (([] : List Kl), m0.gL, m0.gAt, m0.gE)) fun y30 => some (y30.1, (⟨y30.2.1, y30.2.2.1, y30.2.2.2⟩ : Kd)))
theorem Kkw (g0 : (Kd) → (Int) → Option (List Kl × Kd)) (g1 : (Kd) → (Int) → Option (Kl × Kd)) (g2 : (Kd) → (Int) → Option (List Kl × Kd)) (hg0 : ∀ (m0 : Kd) (a1 : Int) (o0 : Nat) (T0 : TypeId) (c0_0 : Cap) (r : List Kl × Kd) (h0 : g0 m0 a1 = some r), CallsD Try.prog 30 [.ptr o0 0, iD a1] [(o0, Blk.cells [.lst 4 (m0.gL.map Kc) c0_0, iD m0.gAt, iD m0.gE] T0)] [] (fun d h k => ∃ y0, d = .lst 7 (r.1.map Kk) (.cur y0) ∧ h = [(o0, Blk.cells [.lst 4 (r.2.gL.map Kc) .no, iD r.2.gAt, iD r.2.gE] T0)] ∧ k = [(7, y0)])) (hg1 : ∀ (m0 : Kd) (a1 : Int) (o0 : Nat) (T0 : TypeId) (c0_0 : Cap) (r : Kl × Kd) (h0 : g1 m0 a1 = some r), CallsD Try.prog 50 [.ptr o0 0, iD a1] [(o0, Blk.cells [.lst 4 (m0.gL.map Kc) c0_0, iD m0.gAt, iD m0.gE] T0)] [] (fun d h k => d = Kk r.1 ∧ h = [(o0, Blk.cells [.lst 4 (r.2.gL.map Kc) .no, iD r.2.gAt, iD r.2.gE] T0)] ∧ k = [])) (hg2 : ∀ (m0 : Kd) (a1 : Int) (o0 : Nat) (T0 : TypeId) (c0_0 : Cap) (r : List Kl × Kd) (h0 : g2 m0 a1 = some r), CallsD Try.prog 63 [.ptr o0 0, iD a1] [(o0, Blk.cells [.lst 4 (m0.gL.map Kc) c0_0, iD m0.gAt, iD m0.gE] T0)] [] (fun d h k => ∃ y0, d = .lst 7 (r.1.map Kk) (.cur y0) ∧ h = [(o0, Blk.cells [.lst 4 (r.2.gL.map Kc) .no, iD r.2.gAt, iD r.2.gE] T0)] ∧ k = [(7, y0)])) (m0 : Kd) (a1 : Int) (o0 : Nat) (T0 : TypeId) (c0_0 : Cap) (r : List Kl × Kd) (h0 : Kew g0 g1 g2 m0 a1 = some r) : CallsD Try.prog 30 [.ptr o0 0, iD a1] [(o0, Blk.cells [.lst 4 (m0.gL.map Kc) c0_0, iD m0.gAt, iD m0.gE] T0)] [] (fun d h k => ∃ y0, d = .lst 7 (r.1.map Kk) (.cur y0) ∧ h = [(o0, Blk.cells [.lst 4 (r.2.gL.map Kc) .no, iD r.2.gAt, iD r.2.gE] T0)] ∧ k = [(7, y0)]) := by
 have hm := KE h0
 unfold Kew at hm
 clear h0
 refine KU htab Try.func30 rfl rfl rfl rfl rfl (fun C => ?_)
 refine Kj ?_
 refine pu ?_
 refine Ky ?_
 refine pu ?_
 refine Kh ?_
 refine Kr ?_
 obtain ⟨y30, q30, ho30⟩ := Kf hm
 refine K7 (Y := Value) (fun z30 => (⟨[(5, .lst 7 (y30.1.map Kk) (.cur z30))], [(o0, Blk.cells [.lst 4 (y30.2.1.map Kc) .no, iD y30.2.2.1, iD y30.2.2.2] T0)], [(7, z30)]⟩ : S)) ?_ ?_
 ·clear hm; have hm := KE q30
  refine KI ?_
  obtain ⟨u31, hl31, hq31⟩ := yes_m hm
  refine KaU (Y := Value) hl31 (fun s31 z31 => (⟨[(0, .ptr o0 0), (1, iD a1), (5, .lst 7 (s31.1.map Kk) (.cur z31))], [(o0, Blk.cells [.lst 4 (s31.2.1.map Kc) .no, iD s31.2.2.1, iD s31.2.2.2] T0)], [(7, z31)]⟩ : S)) ?_ ?_
  ·skip
   refine WkX.tokN (i := 5) 7 rfl (fun w50 => ?_)
   refine WkX.wk (WkS.bl0 (ds' := [.lst 4 (m0.gL.map Kc) .no, iD m0.gAt, iD m0.gE]) (rO (rC (rC WkR.nil)))) ?_
   exact WkX.of w50 (WkS.perm (WkS.cons rfl (Wk.refl _) (WkS.cons rfl (Wk.refl _) (WkS.cons rfl (Wk.refl _) (WkS.nil)))) Pf Pf)
  ·intro G31 s31 z31 hm
   refine Kr ?_
   refine Kr ?_
   obtain ⟨y53, q53, ho53⟩ := Kf hm
   refine K7 (Y := Unit) (fun z53 => (⟨[(0, .ptr o0 0), (1, iD a1), (5, .lst 7 (s31.1.map Kk) (.cur z31)), (15, .v (.bool y53.1))], [(o0, Blk.cells [.lst 4 (y53.2.1.map Kc) .no, iD y53.2.2.1, iD y53.2.2.2] T0)], [(7, z31)]⟩ : S)) ?_ ?_
   ·clear hm; have hm := KE q53
    refine KD ?_
    iterate 3 refine pu ?_
    refine pL 0 ?_
    refine pu ?_
    refine pu ?_
    refine K5 (i := 11) rfl (fun hg54 => ?_) (fun hg54 => ?_)
    ·replace hm := yes_t hg54 hm
     refine pu ?_
     obtain ⟨x55, q55, hm⟩ := Kf hm
     refine pG (KcM (⟨s31.2.1, s31.2.2.1, s31.2.2.2⟩ : Kd) (ByteArray.mk #[125]) o0 T0 .no x55 q55) Wl Pf Pf ?_
     rintro _ _ _ ⟨rfl, rfl, rfl⟩
     refine pu ?_
     refine KP rfl rfl rfl rfl rfl rfl ?_
     refine KC ?_
     have e53 := Kn hm; subst e53
     refine ⟨rfl, ?_⟩
     exact WkX.of () (WkS.perm (WkS.cons rfl (Wk.refl _) (WkS.cons rfl (Wk.refl _) (WkS.cons rfl (Wk.refl _) (WkS.cons rfl (Wk.refl _) (WkS.nil))))) Pf Pf)
    ·replace hm := yes_f hg54 hm
     iterate 3 refine pK ?_
     refine KL rfl rfl rfl rfl rfl rfl ?_
     refine KC ?_
     have e53 := Kn hm; subst e53
     refine ⟨rfl, ?_⟩
     exact WkX.of () (WkS.perm (WkS.cons rfl (Wk.refl _) (WkS.cons rfl (Wk.refl _) (WkS.cons rfl (Wk.refl _) (WkS.cons rfl (Wk.refl _) (WkS.nil))))) Pf Pf)
   ·intro s53 hw53; clear hm; have hm := ho53; clear q53 ho53
    refine Ki ?_
    refine KZ hw53 (fun z53 => ?_)
    refine Ku rfl (fun hc56 => ?_) (fun hc56 => ?_)
    ·replace hm := yes_t hc56 hm
     refine Kv ?_
     refine Ki ?_
     refine KI ?_
     refine KD ?_
     iterate 3 refine pu ?_
     obtain ⟨x57, q57, hm⟩ := Kf hm
     refine pG (hg1 (⟨y53.2.1, y53.2.2.1, y53.2.2.2⟩ : Kd) a1 o0 T0 .no x57 q57) Wl Pf Pf ?_
     rintro _ _ _ ⟨rfl, rfl, rfl⟩
     refine p_eq (i := 19) rfl (Wk.of_eq (Kp x57.1)) ?_
     refine p_lit htab rfl rfl rfl rfl rfl rfl rfl rfl rfl rfl rfl rfl rfl rfl ?_
     refine p_eq (i := 20) (d' := .lst 7 (([x57.1] : List Kl).map Kk) .full) rfl (Wk.lst0 (.cons (WkC.trans (WkC.agg (WkR.refl _)) (WkC.of_eq (Kp x57.1).symm)) (.nil))) ?_
     obtain ⟨x58, q58, hm⟩ := Kf hm
     refine KcA 0 htab rfl rfl rfl rfl rfl rfl rfl rfl rfl rfl rfl rfl rfl rfl rfl rfl rfl (Kbe q58) (fun v58 => ?_)
     refine KcB (i := 21) q58 rfl ?_
     refine pu ?_
     refine KC ?_
     refine KF ?_
     refine Ki ⟨_, KaA hm, ?_⟩
     exact WkX.of v58 (WkS.perm (WkS.cons rfl (Wk.refl _) (WkS.cons rfl (Wk.refl _) (WkS.cons rfl (Wk.refl _) (WkS.nil)))) Pf Pf)
    ·replace hm := yes_f hc56 hm
     refine Kan ?_
     refine KJ ?_
     have e31 := Kac hm; subst e31; clear hm; have hm := hq31
     refine KJ ?_
     refine Kae ?_
     have e30 := Kn hm; subst e30
     refine ⟨rfl, ?_⟩
     exact WkX.of z31 (WkS.perm (WkS.cons rfl (Wk.refl _) (WkS.nil)) Pf Pf)
 ·intro s30 hw30; clear hm; have hm := ho30; clear q30 ho30
  refine Ki ?_
  refine KZ hw30 (fun z30 => ?_)
  refine Kj ?_
  refine pu ?_
  refine pu ?_
  refine Kh ?_
  refine Ks ?_
  have er59 := Kn hm; subst er59
  refine rP (t' := [(4, .lst 7 (y30.1.map Kk) (.cur z30))]) [0] [0] 1 (wC wN) (lT lN) ?_
  exact ⟨z30, rfl, rfl, rfl⟩
noncomputable def Kcz (g0 : (Kd) → (Int) → Option (List Kl × Kd)) (g1 : (Kd) → (Int) → Option (Kl × Kd)) (g2 : (Kd) → (Int) → Option (List Kl × Kd)) (m0 : Kd) (a1 : Int) : Option (Kl × Kd) :=
 ((Kbq m0).bind fun x2 => (bif (x2.gKind == (1 : Int)) then ((KeY m0 (⟨(0 : Int), ByteArray.empty, ByteArray.empty, [], [], [], x2.gAt⟩ : Kl)).bind fun x8 => some (x8.1, x8.2)) else (Option.bind (α := ByteArray) (bif (x2.gKind == (3 : Int)) then some x2.gText else some (ByteArray.mk #[])) fun y11 => (bif (decide (y11 = (ByteArray.mk #[42]))) then ((Kbt (⟨m0.gL, (IntKind.i64.wrap (m0.gAt + (1 : Int))), m0.gE⟩ : Kd)).bind fun x14 => ((Kam x14.2 (ByteArray.mk #[61])).bind fun x15 => ((KaN x15).bind fun x16 => ((Kam x16.2 (ByteArray.mk #[59])).bind fun x17 => some ((⟨(3 : Int), x14.1, ByteArray.empty, ([x16.1] : List Ka), [], [], x2.gAt⟩ : Kl), x17))))) else (bif (decide (y11 = (ByteArray.mk #[105, 102]))) then ((KeO (⟨m0.gL, (IntKind.i64.wrap (m0.gAt + (1 : Int))), m0.gE⟩ : Kd)).bind fun x21 => ((g2 x21.2 a1).bind fun x23 => ((KbN x23.2 (ByteArray.mk #[101, 108, 115, 101])).bind fun x24 => (bif x24.1 then ((g2 x24.2 a1).bind fun x27 => some ((⟨(6 : Int), ByteArray.empty, ByteArray.empty, x21.1, x23.1, x27.1, x2.gAt⟩ : Kl), x27.2)) else some ((⟨(6 : Int), ByteArray.empty, ByteArray.empty, x21.1, x23.1, [], x2.gAt⟩ : Kl), x24.2))))) else (bif (decide (y11 = (ByteArray.mk #[119, 104, 105, 108, 101]))) then ((KeO (⟨m0.gL, (IntKind.i64.wrap (m0.gAt + (1 : Int))), m0.gE⟩ : Kd)).bind fun x32 => ((g2 x32.2 a1).bind fun x34 => some ((⟨(7 : Int), ByteArray.empty, ByteArray.empty, x32.1, x34.1, [], x2.gAt⟩ : Kl), x34.2))) else (bif (decide (y11 = (ByteArray.mk #[114, 101, 116, 117, 114, 110]))) then ((KaN (⟨m0.gL, (IntKind.i64.wrap (m0.gAt + (1 : Int))), m0.gE⟩ : Kd)).bind fun x37 => ((Kam x37.2 (ByteArray.mk #[59])).bind fun x38 => some ((⟨(8 : Int), ByteArray.empty, ByteArray.empty, ([x37.1] : List Ka), [], [], x2.gAt⟩ : Kl), x38))) else (bif (decide (y11 = (ByteArray.mk #[97, 115, 115, 101, 114, 116]))) then ((KeO (⟨m0.gL, (IntKind.i64.wrap (m0.gAt + (1 : Int))), m0.gE⟩ : Kd)).bind fun x42 => ((Kam x42.2 (ByteArray.mk #[59])).bind fun x43 => some ((⟨(9 : Int), ByteArray.empty, ByteArray.empty, x42.1, [], [], x2.gAt⟩ : Kl), x43))) else ((KbA m0 m0.gAt (3 : Int)).bind fun x45 => some ((⟨(0 : Int), ByteArray.empty, ByteArray.empty, [], [], [], x2.gAt⟩ : Kl), x45))))))))))
theorem Kkx (g0 : (Kd) → (Int) → Option (List Kl × Kd)) (g1 : (Kd) → (Int) → Option (Kl × Kd)) (g2 : (Kd) → (Int) → Option (List Kl × Kd)) (hg0 : ∀ (m0 : Kd) (a1 : Int) (o0 : Nat) (T0 : TypeId) (c0_0 : Cap) (r : List Kl × Kd) (h0 : g0 m0 a1 = some r), CallsD Try.prog 30 [.ptr o0 0, iD a1] [(o0, Blk.cells [.lst 4 (m0.gL.map Kc) c0_0, iD m0.gAt, iD m0.gE] T0)] [] (fun d h k => ∃ y0, d = .lst 7 (r.1.map Kk) (.cur y0) ∧ h = [(o0, Blk.cells [.lst 4 (r.2.gL.map Kc) .no, iD r.2.gAt, iD r.2.gE] T0)] ∧ k = [(7, y0)])) (hg1 : ∀ (m0 : Kd) (a1 : Int) (o0 : Nat) (T0 : TypeId) (c0_0 : Cap) (r : Kl × Kd) (h0 : g1 m0 a1 = some r), CallsD Try.prog 50 [.ptr o0 0, iD a1] [(o0, Blk.cells [.lst 4 (m0.gL.map Kc) c0_0, iD m0.gAt, iD m0.gE] T0)] [] (fun d h k => d = Kk r.1 ∧ h = [(o0, Blk.cells [.lst 4 (r.2.gL.map Kc) .no, iD r.2.gAt, iD r.2.gE] T0)] ∧ k = [])) (hg2 : ∀ (m0 : Kd) (a1 : Int) (o0 : Nat) (T0 : TypeId) (c0_0 : Cap) (r : List Kl × Kd) (h0 : g2 m0 a1 = some r), CallsD Try.prog 63 [.ptr o0 0, iD a1] [(o0, Blk.cells [.lst 4 (m0.gL.map Kc) c0_0, iD m0.gAt, iD m0.gE] T0)] [] (fun d h k => ∃ y0, d = .lst 7 (r.1.map Kk) (.cur y0) ∧ h = [(o0, Blk.cells [.lst 4 (r.2.gL.map Kc) .no, iD r.2.gAt, iD r.2.gE] T0)] ∧ k = [(7, y0)])) (m0 : Kd) (a1 : Int) (o0 : Nat) (T0 : TypeId) (c0_0 : Cap) (r : Kl × Kd) (h0 : Kcz g0 g1 g2 m0 a1 = some r) : CallsD Try.prog 50 [.ptr o0 0, iD a1] [(o0, Blk.cells [.lst 4 (m0.gL.map Kc) c0_0, iD m0.gAt, iD m0.gE] T0)] [] (fun d h k => d = Kk r.1 ∧ h = [(o0, Blk.cells [.lst 4 (r.2.gL.map Kc) .no, iD r.2.gAt, iD r.2.gE] T0)] ∧ k = []) := by
 have hm := KE h0
 unfold Kcz at hm
 clear h0
 refine KU htab Try.func50 rfl rfl rfl rfl rfl (fun C => ?_)
 refine Kj ?_
 refine KW htab rfl rfl rfl rfl rfl rfl rfl (fun b1 => ?_)
 refine Ky ?_
 refine pu ?_
 obtain ⟨x2, q2, hm⟩ := Kf hm
 refine pG (Kcb m0 o0 T0 c0_0 x2 q2) Wl Pf Pf ?_
 rintro _ _ _ ⟨rfl, rfl, rfl⟩
 refine KW htab rfl rfl rfl rfl rfl rfl rfl (fun b3 => ?_)
 refine pS2 (ds' := [iD x2.gKind, tD x2.gText, iD x2.gN, iD x2.gAt]) ?_
 refine Ky ?_
 refine pu ?_
 refine pL 2 ?_
 refine Kaf (r := [iD (0 : Int), tD ByteArray.empty, tD ByteArray.empty, .lst 1 [] .full, .lst 1 [] .full, .lst 1 [] .full, iD x2.gAt]) htab rfl rfl rfl rfl rfl rfl rfl rfl rfl ?_
 refine KW htab rfl rfl rfl rfl rfl rfl rfl (fun b4 => ?_)
 refine pS3 (ds' := [iD (0 : Int), tD ByteArray.empty, tD ByteArray.empty, .lst 1 [] .full, .lst 1 [] .full, .lst 1 [] .full, iD x2.gAt]) ?_
 refine Kh ?_
 refine Kr ?_
 refine Kj ?_
 refine pu ?_
 refine pL 2 ?_
 refine pu ?_
 refine Kh ?_
 refine Ku rfl (fun hc7 => ?_) (fun hc7 => ?_)
 ·replace hm := yes_t hc7 hm
  refine Kj ?_
  refine pu ?_
  refine K8 (d := .agg [iD (0 : Int), tD ByteArray.empty, tD ByteArray.empty, .lst 1 [] .full, .lst 1 [] .full, .lst 1 [] .full, iD x2.gAt]) 3 htab rfl rfl rfl rfl rfl rfl rfl rfl ?_
  obtain ⟨x8, q8, hm⟩ := Kf hm
  refine Kas (KkI m0 (⟨(0 : Int), ByteArray.empty, ByteArray.empty, [], [], [], x2.gAt⟩ : Kl) o0 T0 c0_0 x8 q8) rfl rfl rfl rfl rfl (WkL.cons (Wk.refl _) (WkL.cons (Wk.trans (Wk.agg (rC (rC (rC (WkR.cons (WkC.nil) rfl (WkR.cons (WkC.nil) rfl (WkR.cons (WkC.nil) rfl (rC WkR.nil)))))))) (Wk.of_eq (Kp (⟨(0 : Int), ByteArray.empty, ByteArray.empty, [], [], [], x2.gAt⟩ : Kl)).symm)) Wl)) Pf Pf ?_
  rintro _ _ _ ⟨rfl, rfl, rfl⟩
  refine p_eq (i := 18) rfl (Wk.of_eq (Kp x8.1)) ?_
  refine pS1 (ds' := [iD x8.1.gOp, tD x8.1.gName, tD x8.1.gFunc, .lst 5 (x8.1.gExps.map Kg) .no, .lst 7 (x8.1.gKids.map Kk) .no, .lst 7 (x8.1.gElse.map Kk) .no, iD x8.1.gAt]) ?_
  refine Kh ?_
  refine Ks ?_
  refine Kx ?_
  have er9 := Kn hm; subst er9
  refine rP (t' := [(4, .ptr b1 0)]) [0,0] [] 1 (wC wN) (lC 1 lN) ?_
  exact ⟨by first | rfl | (simp only [wrapD, Kp]; done) | (simp only [wrapD, Kp]; rfl), rfl, rfl⟩
 ·replace hm := yes_f hc7 hm
  refine Kv ?_
  refine Ki ?_
  refine Kj ?_
  refine pu ?_
  refine Kh ?_
  refine Kr ?_
  refine Kj ?_
  refine pu ?_
  refine pL 2 ?_
  refine pu ?_
  refine Kh ?_
  obtain ⟨y11, q11, ho11⟩ := Kf hm
  refine K7 (Y := Unit) (fun z11 => (⟨[(0, .ptr o0 0), (1, iD a1), (4, .ptr b1 0), (6, .ptr b4 0), (7, tD y11)], [(o0, Blk.cells [.lst 4 (m0.gL.map Kc) c0_0, iD m0.gAt, iD m0.gE] T0), (b1, Blk.cells [iD (0 : Int), tD ByteArray.empty, tD ByteArray.empty, .lst 1 [] .full, .lst 1 [] .full, .lst 1 [] .full, iD (0 : Int)] 58), (b4, Blk.cells [iD (0 : Int), tD ByteArray.empty, tD ByteArray.empty, .lst 1 [] .full, .lst 1 [] .full, .lst 1 [] .full, iD x2.gAt] 58)], []⟩ : S)) ?_ ?_
  ·clear hm; have hm := KE q11
   refine Ku rfl (fun hc12 => ?_) (fun hc12 => ?_)
   ·replace hm := yes_t hc12 hm
    refine KD ?_
    refine pu ?_
    refine pL 2 ?_
    refine pu ?_
    refine KC ?_
    have e11 := Kn hm; subst e11
    refine ⟨rfl, ?_⟩
    exact WkX.of () (WkS.perm (WkS.cons rfl (Wk.refl _) (WkS.cons rfl (Wk.refl _) (WkS.cons rfl (Wk.refl _) (WkS.cons rfl (Wk.refl _) (WkS.cons rfl (Wk.refl _) (WkS.nil)))))) ((Kat (j := 0) rfl).trans (List.Perm.cons _ ((Kat (j := 0) rfl).trans (List.Perm.cons _ ((Kat (j := 1) rfl).trans (List.Perm.cons _ Pf)))))) Pf)
   ·replace hm := yes_f hc12 hm
    refine Kv ?_
    have e11 := Kn hm; subst e11
    refine ⟨rfl, ?_⟩
    exact WkX.of () (WkS.perm (WkS.cons rfl (Wk.refl _) (WkS.cons rfl (Wk.refl _) (WkS.cons rfl (Wk.refl _) (WkS.cons rfl (Wk.refl _) (WkS.cons rfl (Wk.refl _) (WkS.nil)))))) ((Kat (j := 0) rfl).trans (List.Perm.cons _ ((Kat (j := 0) rfl).trans (List.Perm.cons _ ((Kat (j := 1) rfl).trans (List.Perm.cons _ Pf)))))) Pf)
  ·intro s11 hw11; clear hm; have hm := ho11; clear q11 ho11
   refine Ki ?_
   refine KZ hw11 (fun z11 => ?_)
   refine Kr ?_
   refine Kj ?_
   refine pu ?_
   refine Kh ?_
   refine KI ?_
   refine Kj ?_
   refine pu ?_
   refine pu ?_
   refine Kh ?_
   refine Ku rfl (fun hc13 => ?_) (fun hc13 => ?_)
   ·replace hm := yes_t hc13 hm
    refine Kj ?_
    iterate 3 refine pu ?_
    refine pL 0 ?_
    iterate 3 refine pu ?_
    refine pS0 (ds' := [.lst 4 (m0.gL.map Kc) c0_0, iD (IntKind.i64.wrap (m0.gAt + (1 : Int))), iD m0.gE]) ?_
    refine Ky ?_
    refine pu ?_
    refine pS2 (ds' := [iD (3 : Int), tD ByteArray.empty, tD ByteArray.empty, .lst 1 [] .full, .lst 1 [] .full, .lst 1 [] .full, iD x2.gAt]) ?_
    refine Ky ?_
    refine pu ?_
    obtain ⟨x14, q14, hm⟩ := Kf hm
    refine pG (Kdr (⟨m0.gL, (IntKind.i64.wrap (m0.gAt + (1 : Int))), m0.gE⟩ : Kd) o0 T0 c0_0 x14 q14) Wl Pf Pf ?_
    rintro _ _ _ ⟨rfl, rfl, rfl⟩
    refine pu ?_
    refine pS2 (ds' := [iD (3 : Int), tD x14.1, tD ByteArray.empty, .lst 1 [] .full, .lst 1 [] .full, .lst 1 [] .full, iD x2.gAt]) ?_
    refine Ky ?_
    refine pu ?_
    obtain ⟨x15, q15, hm⟩ := Kf hm
    refine pG (KaI x14.2 (ByteArray.mk #[61]) o0 T0 c0_0 x15 q15) Wl Pf Pf ?_
    rintro _ _ _ ⟨rfl, rfl, rfl⟩
    refine Ky ?_
    refine pu ?_
    obtain ⟨x16, q16, hm⟩ := Kf hm
    refine pG (KcR x15 o0 T0 c0_0 x16 q16) Wl Pf Pf ?_
    rintro _ _ _ ⟨rfl, rfl, rfl⟩
    refine p_eq (i := 47) rfl (Wk.of_eq (Km x16.1)) ?_
    refine p_lit htab rfl rfl rfl rfl rfl rfl rfl rfl rfl rfl rfl rfl rfl rfl ?_
    refine p_eq (i := 48) (d' := .lst 5 (([x16.1] : List Ka).map Kg) .full) rfl (Wk.lst0 (.cons (WkC.trans (WkC.agg (WkR.refl _)) (WkC.of_eq (Km x16.1).symm)) (.nil))) ?_
    refine pu ?_
    refine pS2 (ds' := [iD (3 : Int), tD x14.1, tD ByteArray.empty, .lst 5 (([x16.1] : List Ka).map Kg) .full, .lst 1 [] .full, .lst 1 [] .full, iD x2.gAt]) ?_
    refine Kh ?_
    refine KD ?_
    refine pu ?_
    obtain ⟨x17, q17, hm⟩ := Kf hm
    refine pG (KaI x16.2 (ByteArray.mk #[59]) o0 T0 .no x17 q17) Wl Pf Pf ?_
    rintro _ _ _ ⟨rfl, rfl, rfl⟩
    refine KC ?_
    refine KF ?_
    refine Ki ?_
    refine Kj ?_
    refine K8 (d := .agg [iD (3 : Int), tD x14.1, tD ByteArray.empty, .lst 5 (([x16.1] : List Ka).map Kg) .full, .lst 1 [] .full, .lst 1 [] .full, iD x2.gAt]) 2 htab rfl rfl rfl rfl rfl rfl rfl rfl ?_
    refine pS1 (ds' := [iD (3 : Int), tD x14.1, tD ByteArray.empty, .lst 5 (([x16.1] : List Ka).map Kg) .full, .lst 1 [] .full, .lst 1 [] .full, iD x2.gAt]) ?_
    refine Kh ?_
    refine Ks ?_
    have er18 := Kn hm; subst er18
    refine retX.wk (WkS.bl1 (ds' := [iD (3 : Int), tD x14.1, tD ByteArray.empty, .lst 5 (([x16.1] : List Ka).map Kg) .no, .lst 7 (([] : List Kl).map Kk) .no, .lst 7 (([] : List Kl).map Kk) .no, iD x2.gAt]) (rC (rC (rC (rO (WkR.cons (WkC.nil) rfl (WkR.cons (WkC.nil) rfl (rC WkR.nil)))))))) ?_
    refine rP (t' := [(4, .ptr b1 0)]) [0,0] [] 1 (wC wN) (lC 1 lN) ?_
    exact ⟨by first | rfl | (simp only [wrapD, Kp]; done) | (simp only [wrapD, Kp]; rfl), rfl, rfl⟩
   ·replace hm := yes_f hc13 hm
    refine Kj ?_
    refine pu ?_
    refine pu ?_
    refine Kh ?_
    refine Ku rfl (fun hc19 => ?_) (fun hc19 => ?_)
    ·replace hm := yes_t hc19 hm
     refine Kj ?_
     iterate 3 refine pu ?_
     refine pL 0 ?_
     iterate 3 refine pu ?_
     refine pS0 (ds' := [.lst 4 (m0.gL.map Kc) c0_0, iD (IntKind.i64.wrap (m0.gAt + (1 : Int))), iD m0.gE]) ?_
     refine Ky ?_
     refine pu ?_
     refine pS2 (ds' := [iD (6 : Int), tD ByteArray.empty, tD ByteArray.empty, .lst 1 [] .full, .lst 1 [] .full, .lst 1 [] .full, iD x2.gAt]) ?_
     refine Ky ?_
     refine pu ?_
     obtain ⟨x21, q21, hm⟩ := Kf hm
     refine pG (Kha (⟨m0.gL, (IntKind.i64.wrap (m0.gAt + (1 : Int))), m0.gE⟩ : Kd) o0 T0 c0_0 x21 q21) Wl Pf Pf ?_
     rintro _ _ _ ⟨w20, rfl, rfl, rfl⟩
     refine pu ?_
     refine pS2 (ds' := [iD (6 : Int), tD ByteArray.empty, tD ByteArray.empty, .lst 5 (x21.1.map Kg) (.cur w20), .lst 1 [] .full, .lst 1 [] .full, iD x2.gAt]) ?_
     refine Ky ?_
     refine pu ?_
     refine pu ?_
     obtain ⟨x23, q23, hm⟩ := Kf hm
     refine pG (hg2 x21.2 a1 o0 T0 .no x23 q23) Wl Pf Pf ?_
     rintro _ _ _ ⟨w22, rfl, rfl, rfl⟩
     refine pu ?_
     refine pS2 (ds' := [iD (6 : Int), tD ByteArray.empty, tD ByteArray.empty, .lst 5 (x21.1.map Kg) (.cur w20), .lst 7 (x23.1.map Kk) (.cur w22), .lst 1 [] .full, iD x2.gAt]) ?_
     refine Ky ?_
     refine pu ?_
     obtain ⟨x24, q24, hm⟩ := Kf hm
     refine pG (KcM x23.2 (ByteArray.mk #[101, 108, 115, 101]) o0 T0 .no x24 q24) Wl Pf Pf ?_
     rintro _ _ _ ⟨rfl, rfl, rfl⟩
     refine Kh ?_
     refine Ku rfl (fun hc25 => ?_) (fun hc25 => ?_)
     ·replace hm := yes_t hc25 hm
      refine KD ?_
      refine pu ?_
      refine pu ?_
      obtain ⟨x27, q27, hm⟩ := Kf hm
      refine pG (hg2 x24.2 a1 o0 T0 .no x27 q27) Wl Pf Pf ?_
      rintro _ _ _ ⟨w26, rfl, rfl, rfl⟩
      refine pu ?_
      refine pS2 (ds' := [iD (6 : Int), tD ByteArray.empty, tD ByteArray.empty, .lst 5 (x21.1.map Kg) (.cur w20), .lst 7 (x23.1.map Kk) (.cur w22), .lst 7 (x27.1.map Kk) (.cur w26), iD x2.gAt]) ?_
      refine KC ?_
      refine KF ?_
      refine Ki ?_
      refine Kj ?_
      refine K8 (d := .agg [iD (6 : Int), tD ByteArray.empty, tD ByteArray.empty, .lst 5 (x21.1.map Kg) (.cur w20), .lst 7 (x23.1.map Kk) (.cur w22), .lst 7 (x27.1.map Kk) (.cur w26), iD x2.gAt]) 2 htab rfl rfl rfl rfl rfl rfl rfl rfl ?_
      refine pS1 (ds' := [iD (6 : Int), tD ByteArray.empty, tD ByteArray.empty, .lst 5 (x21.1.map Kg) (.cur w20), .lst 7 (x23.1.map Kk) (.cur w22), .lst 7 (x27.1.map Kk) (.cur w26), iD x2.gAt]) ?_
      refine Kh ?_
      refine Ks ?_
      have er28 := Kn hm; subst er28
      refine retX.wk (WkS.bl1 (ds' := [iD (6 : Int), tD ByteArray.empty, tD ByteArray.empty, .lst 5 (x21.1.map Kg) .no, .lst 7 (x23.1.map Kk) .no, .lst 7 (x27.1.map Kk) .no, iD x2.gAt]) (rC (rC (rC (rO (rO (rO (rC WkR.nil)))))))) ?_
      refine rP (t' := [(4, .ptr b1 0)]) [0,0] [] 1 (wC wN) (lC 1 lN) ?_
      exact ⟨by first | rfl | (simp only [wrapD, Kp]; done) | (simp only [wrapD, Kp]; rfl), rfl, rfl⟩
     ·replace hm := yes_f hc25 hm
      refine Kv ?_
      refine KF ?_
      refine Ki ?_
      refine Kj ?_
      refine K8 (d := .agg [iD (6 : Int), tD ByteArray.empty, tD ByteArray.empty, .lst 5 (x21.1.map Kg) (.cur w20), .lst 7 (x23.1.map Kk) (.cur w22), .lst 1 [] .full, iD x2.gAt]) 2 htab rfl rfl rfl rfl rfl rfl rfl rfl ?_
      refine pS1 (ds' := [iD (6 : Int), tD ByteArray.empty, tD ByteArray.empty, .lst 5 (x21.1.map Kg) (.cur w20), .lst 7 (x23.1.map Kk) (.cur w22), .lst 1 [] .full, iD x2.gAt]) ?_
      refine Kh ?_
      refine Ks ?_
      have er29 := Kn hm; subst er29
      refine retX.wk (WkS.bl1 (ds' := [iD (6 : Int), tD ByteArray.empty, tD ByteArray.empty, .lst 5 (x21.1.map Kg) .no, .lst 7 (x23.1.map Kk) .no, .lst 7 (([] : List Kl).map Kk) .no, iD x2.gAt]) (rC (rC (rC (rO (rO (WkR.cons (WkC.nil) rfl (rC WkR.nil)))))))) ?_
      refine rP (t' := [(4, .ptr b1 0)]) [0,0] [] 1 (wC wN) (lC 1 lN) ?_
      exact ⟨by first | rfl | (simp only [wrapD, Kp]; done) | (simp only [wrapD, Kp]; rfl), rfl, rfl⟩
    ·replace hm := yes_f hc19 hm
     refine Kj ?_
     refine pu ?_
     refine pu ?_
     refine Kh ?_
     refine Ku rfl (fun hc30 => ?_) (fun hc30 => ?_)
     ·replace hm := yes_t hc30 hm
      refine Kj ?_
      iterate 3 refine pu ?_
      refine pL 0 ?_
      iterate 3 refine pu ?_
      refine pS0 (ds' := [.lst 4 (m0.gL.map Kc) c0_0, iD (IntKind.i64.wrap (m0.gAt + (1 : Int))), iD m0.gE]) ?_
      refine Ky ?_
      refine pu ?_
      refine pS2 (ds' := [iD (7 : Int), tD ByteArray.empty, tD ByteArray.empty, .lst 1 [] .full, .lst 1 [] .full, .lst 1 [] .full, iD x2.gAt]) ?_
      refine Ky ?_
      refine pu ?_
      obtain ⟨x32, q32, hm⟩ := Kf hm
      refine pG (Kha (⟨m0.gL, (IntKind.i64.wrap (m0.gAt + (1 : Int))), m0.gE⟩ : Kd) o0 T0 c0_0 x32 q32) Wl Pf Pf ?_
      rintro _ _ _ ⟨w31, rfl, rfl, rfl⟩
      refine pu ?_
      refine pS2 (ds' := [iD (7 : Int), tD ByteArray.empty, tD ByteArray.empty, .lst 5 (x32.1.map Kg) (.cur w31), .lst 1 [] .full, .lst 1 [] .full, iD x2.gAt]) ?_
      refine Kh ?_
      refine KD ?_
      refine pu ?_
      refine pu ?_
      obtain ⟨x34, q34, hm⟩ := Kf hm
      refine pG (hg2 x32.2 a1 o0 T0 .no x34 q34) Wl Pf Pf ?_
      rintro _ _ _ ⟨w33, rfl, rfl, rfl⟩
      refine pu ?_
      refine pS2 (ds' := [iD (7 : Int), tD ByteArray.empty, tD ByteArray.empty, .lst 5 (x32.1.map Kg) (.cur w31), .lst 7 (x34.1.map Kk) (.cur w33), .lst 1 [] .full, iD x2.gAt]) ?_
      refine KC ?_
      refine KF ?_
      refine Ki ?_
      refine Kj ?_
      refine K8 (d := .agg [iD (7 : Int), tD ByteArray.empty, tD ByteArray.empty, .lst 5 (x32.1.map Kg) (.cur w31), .lst 7 (x34.1.map Kk) (.cur w33), .lst 1 [] .full, iD x2.gAt]) 2 htab rfl rfl rfl rfl rfl rfl rfl rfl ?_
      refine pS1 (ds' := [iD (7 : Int), tD ByteArray.empty, tD ByteArray.empty, .lst 5 (x32.1.map Kg) (.cur w31), .lst 7 (x34.1.map Kk) (.cur w33), .lst 1 [] .full, iD x2.gAt]) ?_
      refine Kh ?_
      refine Ks ?_
      have er35 := Kn hm; subst er35
      refine retX.wk (WkS.bl1 (ds' := [iD (7 : Int), tD ByteArray.empty, tD ByteArray.empty, .lst 5 (x32.1.map Kg) .no, .lst 7 (x34.1.map Kk) .no, .lst 7 (([] : List Kl).map Kk) .no, iD x2.gAt]) (rC (rC (rC (rO (rO (WkR.cons (WkC.nil) rfl (rC WkR.nil)))))))) ?_
      refine rP (t' := [(4, .ptr b1 0)]) [0,0] [] 1 (wC wN) (lC 1 lN) ?_
      exact ⟨by first | rfl | (simp only [wrapD, Kp]; done) | (simp only [wrapD, Kp]; rfl), rfl, rfl⟩
     ·replace hm := yes_f hc30 hm
      refine Kj ?_
      refine pu ?_
      refine pu ?_
      refine Kh ?_
      refine Ku rfl (fun hc36 => ?_) (fun hc36 => ?_)
      ·replace hm := yes_t hc36 hm
       refine Kj ?_
       iterate 3 refine pu ?_
       refine pL 0 ?_
       iterate 3 refine pu ?_
       refine pS0 (ds' := [.lst 4 (m0.gL.map Kc) c0_0, iD (IntKind.i64.wrap (m0.gAt + (1 : Int))), iD m0.gE]) ?_
       refine Ky ?_
       refine pu ?_
       refine pS2 (ds' := [iD (8 : Int), tD ByteArray.empty, tD ByteArray.empty, .lst 1 [] .full, .lst 1 [] .full, .lst 1 [] .full, iD x2.gAt]) ?_
       refine Ky ?_
       refine pu ?_
       obtain ⟨x37, q37, hm⟩ := Kf hm
       refine pG (KcR (⟨m0.gL, (IntKind.i64.wrap (m0.gAt + (1 : Int))), m0.gE⟩ : Kd) o0 T0 c0_0 x37 q37) Wl Pf Pf ?_
       rintro _ _ _ ⟨rfl, rfl, rfl⟩
       refine p_eq (i := 103) rfl (Wk.of_eq (Km x37.1)) ?_
       refine p_lit htab rfl rfl rfl rfl rfl rfl rfl rfl rfl rfl rfl rfl rfl rfl ?_
       refine p_eq (i := 104) (d' := .lst 5 (([x37.1] : List Ka).map Kg) .full) rfl (Wk.lst0 (.cons (WkC.trans (WkC.agg (WkR.refl _)) (WkC.of_eq (Km x37.1).symm)) (.nil))) ?_
       refine pu ?_
       refine pS2 (ds' := [iD (8 : Int), tD ByteArray.empty, tD ByteArray.empty, .lst 5 (([x37.1] : List Ka).map Kg) .full, .lst 1 [] .full, .lst 1 [] .full, iD x2.gAt]) ?_
       refine Kh ?_
       refine KD ?_
       refine pu ?_
       obtain ⟨x38, q38, hm⟩ := Kf hm
       refine pG (KaI x37.2 (ByteArray.mk #[59]) o0 T0 .no x38 q38) Wl Pf Pf ?_
       rintro _ _ _ ⟨rfl, rfl, rfl⟩
       refine KC ?_
       refine KF ?_
       refine Ki ?_
       refine Kj ?_
       refine K8 (d := .agg [iD (8 : Int), tD ByteArray.empty, tD ByteArray.empty, .lst 5 (([x37.1] : List Ka).map Kg) .full, .lst 1 [] .full, .lst 1 [] .full, iD x2.gAt]) 2 htab rfl rfl rfl rfl rfl rfl rfl rfl ?_
       refine pS1 (ds' := [iD (8 : Int), tD ByteArray.empty, tD ByteArray.empty, .lst 5 (([x37.1] : List Ka).map Kg) .full, .lst 1 [] .full, .lst 1 [] .full, iD x2.gAt]) ?_
       refine Kh ?_
       refine Ks ?_
       have er39 := Kn hm; subst er39
       refine retX.wk (WkS.bl1 (ds' := [iD (8 : Int), tD ByteArray.empty, tD ByteArray.empty, .lst 5 (([x37.1] : List Ka).map Kg) .no, .lst 7 (([] : List Kl).map Kk) .no, .lst 7 (([] : List Kl).map Kk) .no, iD x2.gAt]) (rC (rC (rC (rO (WkR.cons (WkC.nil) rfl (WkR.cons (WkC.nil) rfl (rC WkR.nil)))))))) ?_
       refine rP (t' := [(4, .ptr b1 0)]) [0,0] [] 1 (wC wN) (lC 1 lN) ?_
       exact ⟨by first | rfl | (simp only [wrapD, Kp]; done) | (simp only [wrapD, Kp]; rfl), rfl, rfl⟩
      ·replace hm := yes_f hc36 hm
       refine Kj ?_
       refine pu ?_
       refine pu ?_
       refine Kh ?_
       refine Ku rfl (fun hc40 => ?_) (fun hc40 => ?_)
       ·replace hm := yes_t hc40 hm
        refine Kj ?_
        iterate 3 refine pu ?_
        refine pL 0 ?_
        iterate 3 refine pu ?_
        refine pS0 (ds' := [.lst 4 (m0.gL.map Kc) c0_0, iD (IntKind.i64.wrap (m0.gAt + (1 : Int))), iD m0.gE]) ?_
        refine Ky ?_
        refine pu ?_
        refine pS2 (ds' := [iD (9 : Int), tD ByteArray.empty, tD ByteArray.empty, .lst 1 [] .full, .lst 1 [] .full, .lst 1 [] .full, iD x2.gAt]) ?_
        refine Ky ?_
        refine pu ?_
        obtain ⟨x42, q42, hm⟩ := Kf hm
        refine pG (Kha (⟨m0.gL, (IntKind.i64.wrap (m0.gAt + (1 : Int))), m0.gE⟩ : Kd) o0 T0 c0_0 x42 q42) Wl Pf Pf ?_
        rintro _ _ _ ⟨w41, rfl, rfl, rfl⟩
        refine pu ?_
        refine pS2 (ds' := [iD (9 : Int), tD ByteArray.empty, tD ByteArray.empty, .lst 5 (x42.1.map Kg) (.cur w41), .lst 1 [] .full, .lst 1 [] .full, iD x2.gAt]) ?_
        refine Kh ?_
        refine KD ?_
        refine pu ?_
        obtain ⟨x43, q43, hm⟩ := Kf hm
        refine pG (KaI x42.2 (ByteArray.mk #[59]) o0 T0 .no x43 q43) Wl Pf Pf ?_
        rintro _ _ _ ⟨rfl, rfl, rfl⟩
        refine KC ?_
        refine KF ?_
        refine Ki ?_
        refine Kj ?_
        refine K8 (d := .agg [iD (9 : Int), tD ByteArray.empty, tD ByteArray.empty, .lst 5 (x42.1.map Kg) (.cur w41), .lst 1 [] .full, .lst 1 [] .full, iD x2.gAt]) 2 htab rfl rfl rfl rfl rfl rfl rfl rfl ?_
        refine pS1 (ds' := [iD (9 : Int), tD ByteArray.empty, tD ByteArray.empty, .lst 5 (x42.1.map Kg) (.cur w41), .lst 1 [] .full, .lst 1 [] .full, iD x2.gAt]) ?_
        refine Kh ?_
        refine Ks ?_
        have er44 := Kn hm; subst er44
        refine retX.wk (WkS.bl1 (ds' := [iD (9 : Int), tD ByteArray.empty, tD ByteArray.empty, .lst 5 (x42.1.map Kg) .no, .lst 7 (([] : List Kl).map Kk) .no, .lst 7 (([] : List Kl).map Kk) .no, iD x2.gAt]) (rC (rC (rC (rO (WkR.cons (WkC.nil) rfl (WkR.cons (WkC.nil) rfl (rC WkR.nil)))))))) ?_
        refine rP (t' := [(4, .ptr b1 0)]) [0,0] [] 1 (wC wN) (lC 1 lN) ?_
        exact ⟨by first | rfl | (simp only [wrapD, Kp]; done) | (simp only [wrapD, Kp]; rfl), rfl, rfl⟩
       ·replace hm := yes_f hc40 hm
        refine KD ?_
        iterate 4 refine pu ?_
        refine pL 0 ?_
        obtain ⟨x45, q45, hm⟩ := Kf hm
        refine pG (KcQ m0 m0.gAt (3 : Int) o0 T0 c0_0 x45 q45) Wl Pf Pf ?_
        rintro _ _ _ ⟨rfl, rfl, rfl⟩
        refine KC ?_
        refine KF ?_
        refine Ki ?_
        refine Kj ?_
        refine K8 (d := .agg [iD (0 : Int), tD ByteArray.empty, tD ByteArray.empty, .lst 1 [] .full, .lst 1 [] .full, .lst 1 [] .full, iD x2.gAt]) 2 htab rfl rfl rfl rfl rfl rfl rfl rfl ?_
        refine pS1 (ds' := [iD (0 : Int), tD ByteArray.empty, tD ByteArray.empty, .lst 1 [] .full, .lst 1 [] .full, .lst 1 [] .full, iD x2.gAt]) ?_
        refine Kh ?_
        refine Ks ?_
        have er46 := Kn hm; subst er46
        refine retX.wk (WkS.bl1 (ds' := [iD (0 : Int), tD ByteArray.empty, tD ByteArray.empty, .lst 5 (([] : List Ka).map Kg) .no, .lst 7 (([] : List Kl).map Kk) .no, .lst 7 (([] : List Kl).map Kk) .no, iD x2.gAt]) (rC (rC (rC (WkR.cons (WkC.nil) rfl (WkR.cons (WkC.nil) rfl (WkR.cons (WkC.nil) rfl (rC WkR.nil)))))))) ?_
        refine retX.wk (WkS.bl0 (ds' := [.lst 4 (x45.gL.map Kc) .no, iD x45.gAt, iD x45.gE]) (rO (rC (rC WkR.nil)))) ?_
        refine rP (t' := [(4, .ptr b1 0)]) [0,0] [] 1 (wC wN) (lC 1 lN) ?_
        exact ⟨by first | rfl | (simp only [wrapD, Kp]; done) | (simp only [wrapD, Kp]; rfl), rfl, rfl⟩
noncomputable def KcS (g0 : (Kd) → (Int) → Option (List Kl × Kd)) (g1 : (Kd) → (Int) → Option (Kl × Kd)) (g2 : (Kd) → (Int) → Option (List Kl × Kd)) (m0 : Kd) (a1 : Int) : Option (List Kl × Kd) :=
 ((Kdg m0 a1).bind fun x1 => ((g0 x1 (IntKind.i64.wrap (a1 + (1 : Int)))).bind fun x3 => some (x3.1, x3.2)))
theorem KjK (g0 : (Kd) → (Int) → Option (List Kl × Kd)) (g1 : (Kd) → (Int) → Option (Kl × Kd)) (g2 : (Kd) → (Int) → Option (List Kl × Kd)) (hg0 : ∀ (m0 : Kd) (a1 : Int) (o0 : Nat) (T0 : TypeId) (c0_0 : Cap) (r : List Kl × Kd) (h0 : g0 m0 a1 = some r), CallsD Try.prog 30 [.ptr o0 0, iD a1] [(o0, Blk.cells [.lst 4 (m0.gL.map Kc) c0_0, iD m0.gAt, iD m0.gE] T0)] [] (fun d h k => ∃ y0, d = .lst 7 (r.1.map Kk) (.cur y0) ∧ h = [(o0, Blk.cells [.lst 4 (r.2.gL.map Kc) .no, iD r.2.gAt, iD r.2.gE] T0)] ∧ k = [(7, y0)])) (hg1 : ∀ (m0 : Kd) (a1 : Int) (o0 : Nat) (T0 : TypeId) (c0_0 : Cap) (r : Kl × Kd) (h0 : g1 m0 a1 = some r), CallsD Try.prog 50 [.ptr o0 0, iD a1] [(o0, Blk.cells [.lst 4 (m0.gL.map Kc) c0_0, iD m0.gAt, iD m0.gE] T0)] [] (fun d h k => d = Kk r.1 ∧ h = [(o0, Blk.cells [.lst 4 (r.2.gL.map Kc) .no, iD r.2.gAt, iD r.2.gE] T0)] ∧ k = [])) (hg2 : ∀ (m0 : Kd) (a1 : Int) (o0 : Nat) (T0 : TypeId) (c0_0 : Cap) (r : List Kl × Kd) (h0 : g2 m0 a1 = some r), CallsD Try.prog 63 [.ptr o0 0, iD a1] [(o0, Blk.cells [.lst 4 (m0.gL.map Kc) c0_0, iD m0.gAt, iD m0.gE] T0)] [] (fun d h k => ∃ y0, d = .lst 7 (r.1.map Kk) (.cur y0) ∧ h = [(o0, Blk.cells [.lst 4 (r.2.gL.map Kc) .no, iD r.2.gAt, iD r.2.gE] T0)] ∧ k = [(7, y0)])) (m0 : Kd) (a1 : Int) (o0 : Nat) (T0 : TypeId) (c0_0 : Cap) (r : List Kl × Kd) (h0 : KcS g0 g1 g2 m0 a1 = some r) : CallsD Try.prog 63 [.ptr o0 0, iD a1] [(o0, Blk.cells [.lst 4 (m0.gL.map Kc) c0_0, iD m0.gAt, iD m0.gE] T0)] [] (fun d h k => ∃ y0, d = .lst 7 (r.1.map Kk) (.cur y0) ∧ h = [(o0, Blk.cells [.lst 4 (r.2.gL.map Kc) .no, iD r.2.gAt, iD r.2.gE] T0)] ∧ k = [(7, y0)]) := by
 have hm := KE h0
 unfold KcS at hm
 clear h0
 refine KU htab Try.func63 rfl rfl rfl rfl rfl (fun C => ?_)
 refine Kj ?_
 refine pu ?_
 refine Ky ?_
 refine pu ?_
 refine pu ?_
 obtain ⟨x1, q1, hm⟩ := Kf hm
 refine pG (Kiv m0 a1 o0 T0 c0_0 x1 q1) Wl Pf Pf ?_
 rintro _ _ _ ⟨rfl, rfl, rfl⟩
 refine Ky ?_
 iterate 3 refine pu ?_
 obtain ⟨x3, q3, hm⟩ := Kf hm
 refine pG (hg0 x1 (IntKind.i64.wrap (a1 + (1 : Int))) o0 T0 c0_0 x3 q3) Wl Pf Pf ?_
 rintro _ _ _ ⟨w2, rfl, rfl, rfl⟩
 refine pu ?_
 refine Kh ?_
 refine Ks ?_
 have er4 := Kn hm; subst er4
 refine rP (t' := [(4, .lst 7 (x3.1.map Kk) (.cur w2))]) [0] [0] 1 (wC wN) (lT lN) ?_
 exact ⟨w2, rfl, rfl, rfl⟩
noncomputable def K1 : Nat → ((Kd) → (Int) → Option (List Kl × Kd)) × ((Kd) → (Int) → Option (Kl × Kd)) × ((Kd) → (Int) → Option (List Kl × Kd))
 | 0 => (fun _ _ => none, fun _ _ => none, fun _ _ => none)
 | n + 1 => (Kew ((K1 n).1) ((K1 n).2.1) ((K1 n).2.2), Kcz ((K1 n).1) ((K1 n).2.1) ((K1 n).2.2), KcS ((K1 n).1) ((K1 n).2.1) ((K1 n).2.2))
theorem Kic : ∀ n, (∀ (m0 : Kd) (a1 : Int) (o0 : Nat) (T0 : TypeId) (c0_0 : Cap) (r : List Kl × Kd) (h0 : (K1 n).1 m0 a1 = some r), CallsD Try.prog 30 [.ptr o0 0, iD a1] [(o0, Blk.cells [.lst 4 (m0.gL.map Kc) c0_0, iD m0.gAt, iD m0.gE] T0)] [] (fun d h k => ∃ y0, d = .lst 7 (r.1.map Kk) (.cur y0) ∧ h = [(o0, Blk.cells [.lst 4 (r.2.gL.map Kc) .no, iD r.2.gAt, iD r.2.gE] T0)] ∧ k = [(7, y0)])) ∧ (∀ (m0 : Kd) (a1 : Int) (o0 : Nat) (T0 : TypeId) (c0_0 : Cap) (r : Kl × Kd) (h0 : (K1 n).2.1 m0 a1 = some r), CallsD Try.prog 50 [.ptr o0 0, iD a1] [(o0, Blk.cells [.lst 4 (m0.gL.map Kc) c0_0, iD m0.gAt, iD m0.gE] T0)] [] (fun d h k => d = Kk r.1 ∧ h = [(o0, Blk.cells [.lst 4 (r.2.gL.map Kc) .no, iD r.2.gAt, iD r.2.gE] T0)] ∧ k = [])) ∧ (∀ (m0 : Kd) (a1 : Int) (o0 : Nat) (T0 : TypeId) (c0_0 : Cap) (r : List Kl × Kd) (h0 : (K1 n).2.2 m0 a1 = some r), CallsD Try.prog 63 [.ptr o0 0, iD a1] [(o0, Blk.cells [.lst 4 (m0.gL.map Kc) c0_0, iD m0.gAt, iD m0.gE] T0)] [] (fun d h k => ∃ y0, d = .lst 7 (r.1.map Kk) (.cur y0) ∧ h = [(o0, Blk.cells [.lst 4 (r.2.gL.map Kc) .no, iD r.2.gAt, iD r.2.gE] T0)] ∧ k = [(7, y0)]))
  | 0 => ⟨(fun _ _ _ _ _ _ h0 => by cases h0), (fun _ _ _ _ _ _ h0 => by cases h0), (fun _ _ _ _ _ _ h0 => by cases h0)⟩
  | n + 1 => by
    have ih := Kic n
    exact ⟨Kkw ((K1 n).1) ((K1 n).2.1) ((K1 n).2.2) (ih.1) (ih.2.1) (ih.2.2), Kkx ((K1 n).1) ((K1 n).2.1) ((K1 n).2.2) (ih.1) (ih.2.1) (ih.2.2), KjK ((K1 n).1) ((K1 n).2.1) ((K1 n).2.2) (ih.1) (ih.2.1) (ih.2.2)⟩
theorem Kid : ∀ n, (∀ (m0 : Kd) (a1 : Int), Le ((K1 n).1 m0 a1) ((K1 (n + 1)).1 m0 a1)) ∧ (∀ (m0 : Kd) (a1 : Int), Le ((K1 n).2.1 m0 a1) ((K1 (n + 1)).2.1 m0 a1)) ∧ (∀ (m0 : Kd) (a1 : Int), Le ((K1 n).2.2 m0 a1) ((K1 (n + 1)).2.2 m0 a1))
  | 0 => ⟨fun _ _ => Le.none _, fun _ _ => Le.none _, fun _ _ => Le.none _⟩
  | n + 1 => by
    have ih := Kid n
    exact ⟨fun m0 a1 => by show Le (Kew ((K1 n).1) ((K1 n).2.1) ((K1 n).2.2) m0 a1) (Kew ((K1 (n + 1)).1) ((K1 (n + 1)).2.1) ((K1 (n + 1)).2.2) m0 a1); unfold Kew; repeat (first | exact Le.refl _ | exact ih.1 _ _ | exact ih.2.1 _ _ | exact ih.2.2 _ _ | assumption | (refine Le.bind ?_ (fun _ => ?_)) | (refine Le.cond ?_ ?_) | (refine Le.loop (fun _ => ?_)) | (refine Le.elim (fun _ => ?_) (fun _ => ?_))), fun m0 a1 => by show Le (Kcz ((K1 n).1) ((K1 n).2.1) ((K1 n).2.2) m0 a1) (Kcz ((K1 (n + 1)).1) ((K1 (n + 1)).2.1) ((K1 (n + 1)).2.2) m0 a1); unfold Kcz; repeat (first | exact Le.refl _ | exact ih.1 _ _ | exact ih.2.1 _ _ | exact ih.2.2 _ _ | assumption | (refine Le.bind ?_ (fun _ => ?_)) | (refine Le.cond ?_ ?_) | (refine Le.loop (fun _ => ?_)) | (refine Le.elim (fun _ => ?_) (fun _ => ?_))), fun m0 a1 => by show Le (KcS ((K1 n).1) ((K1 n).2.1) ((K1 n).2.2) m0 a1) (KcS ((K1 (n + 1)).1) ((K1 (n + 1)).2.1) ((K1 (n + 1)).2.2) m0 a1); unfold KcS; repeat (first | exact Le.refl _ | exact ih.1 _ _ | exact ih.2.1 _ _ | exact ih.2.2 _ _ | assumption | (refine Le.bind ?_ (fun _ => ?_)) | (refine Le.cond ?_ ?_) | (refine Le.loop (fun _ => ?_)) | (refine Le.elim (fun _ => ?_) (fun _ => ?_)))⟩
noncomputable def Keh (m0 : Kd) (a1 : Int) : Option (List Kl × Kd) := anyN fun n => (K1 n).1 m0 a1
theorem KiV (m0 : Kd) (a1 : Int) {r : List Kl × Kd} (n : Nat) (h : (K1 n).1 m0 a1 = some r) : Keh m0 a1 = some r := Kc9 (fun m => (Kid m).1 m0 a1) h
theorem KkY (m0 : Kd) (a1 : Int) (o0 : Nat) (T0 : TypeId) (c0_0 : Cap) (r : List Kl × Kd) (h0 : Keh m0 a1 = some r) : CallsD Try.prog 30 [.ptr o0 0, iD a1] [(o0, Blk.cells [.lst 4 (m0.gL.map Kc) c0_0, iD m0.gAt, iD m0.gE] T0)] [] (fun d h k => ∃ y0, d = .lst 7 (r.1.map Kk) (.cur y0) ∧ h = [(o0, Blk.cells [.lst 4 (r.2.gL.map Kc) .no, iD r.2.gAt, iD r.2.gE] T0)] ∧ k = [(7, y0)]) :=
 let ⟨n, hn⟩ := KcI h0; (Kic n).1 m0 a1 o0 T0 c0_0 r hn
noncomputable def KcT (g0 : (List Kl) → Option (List Kl)) (a0 : List Kl) : Option (List Kl) :=
 (Option.bind (α := List Kl) (loopM (fun (s40 : List Kl × Int) => (bif (decide (s40.2 < (a0.length : Int))) then ((idx a0 s40.2).bind fun x67 => ((app 120 s40.1 ([x67] : List Kl)).bind fun x68 => ((idx a0 s40.2).bind fun x69 => ((g0 x69.gKids).bind fun x71 => ((app 120 x68 x71).bind fun x72 => ((idx a0 s40.2).bind fun x73 => ((g0 x73.gElse).bind fun x75 => ((app 120 x72 x75).bind fun x76 => some (.next (x76, (IntKind.i64.wrap (s40.2 + (1 : Int))))))))))))) else some (.done s40.1))) (([] : List Kl), (0 : Int))) fun y39 => some y39)
theorem KjL (g0 : (List Kl) → Option (List Kl)) (hg0 : ∀ (a0 : List Kl) (r : List Kl) (h0 : g0 a0 = some r), CallsD Try.prog 31 [.lst 7 (a0.map Kk) .no] [] [] (fun d h k => ∃ y0, d = .lst 7 (r.map Kk) (.cur y0) ∧ h = [] ∧ k = [(7, y0)])) (a0 : List Kl) (r : List Kl) (h0 : KcT g0 a0 = some r) : CallsD Try.prog 31 [.lst 7 (a0.map Kk) .no] [] [] (fun d h k => ∃ y0, d = .lst 7 (r.map Kk) (.cur y0) ∧ h = [] ∧ k = [(7, y0)]) := by
 have hm := KE h0
 unfold KcT at hm
 clear h0
 refine KU htab Try.func31 rfl rfl rfl rfl rfl (fun C => ?_)
 refine Kj ?_
 refine pu ?_
 refine Ky ?_
 refine pu ?_
 refine Kh ?_
 refine Kr ?_
 refine Kj ?_
 refine pu ?_
 refine Kh ?_
 obtain ⟨y39, q39, ho39⟩ := Kf hm
 refine K7 (Y := Value) (fun z39 => (⟨[(3, .lst 7 (y39.map Kk) (.cur z39))], [], [(7, z39)]⟩ : S)) ?_ ?_
 ·clear hm; have hm := KE q39
  refine KI ?_
  obtain ⟨u40, hl40, hq40⟩ := yes_m hm
  refine KaU (Y := Value) hl40 (fun s40 z40 => (⟨[(0, .lst 7 (a0.map Kk) .no), (3, .lst 7 (s40.1.map Kk) (.cur z40)), (4, iD s40.2)], [], [(7, z40)]⟩ : S)) ?_ ?_
  ·skip
   refine WkX.tokN (i := 3) 7 rfl (fun w65 => ?_)
   exact WkX.of w65 (WkS.perm (WkS.cons rfl (Wk.refl _) (WkS.cons rfl (Wk.refl _) (WkS.cons rfl (Wk.refl _) (WkS.nil)))) Pf Pf)
  ·intro G40 s40 z40 hm
   refine Kr ?_
   refine Kj ?_
   refine pu ?_
   refine pu ?_
   refine KaK htab rfl rfl rfl rfl rfl rfl rfl (by first | exact Kab | rfl) ?_
   refine pu ?_
   refine Kh ?_
   refine Ku rfl (fun hc66 => ?_) (fun hc66 => ?_)
   ·replace hm := yes_t hc66 hm
    refine Kv ?_
    refine Ki ?_
    refine Kr ?_
    refine KI ?_
    refine Kj ?_
    iterate 3 refine pu ?_
    obtain ⟨x67, q67, hm⟩ := Kf hm
    refine KaR htab rfl rfl rfl rfl rfl rfl rfl rfl rfl rfl (Kt q67) (KA q67) ?_
    refine p_eq (i := 14) rfl (Wk.of_eq (congrArg D.el (Kp x67))) ?_
    refine Kav (d := .agg [iD x67.gOp, tD x67.gName, tD x67.gFunc, .lst 5 (x67.gExps.map Kg) .no, .lst 7 (x67.gKids.map Kk) .no, .lst 7 (x67.gElse.map Kk) .no, iD x67.gAt]) htab rfl rfl rfl rfl rfl rfl rfl rfl ?_
    refine p_lit htab rfl rfl rfl rfl rfl rfl rfl rfl rfl rfl rfl rfl rfl rfl ?_
    refine p_eq (i := 16) (d' := .lst 7 (([x67] : List Kl).map Kk) .full) rfl (Wk.lst0 (.cons (WkC.trans (WkC.agg (WkR.refl _)) (WkC.of_eq (Kp x67).symm)) (.nil))) ?_
    obtain ⟨x68, q68, hm⟩ := Kf hm
    refine KcA 0 htab rfl rfl rfl rfl rfl rfl rfl rfl rfl rfl rfl rfl rfl rfl rfl rfl rfl (Kbe q68) (fun v68 => ?_)
    refine KcB (i := 17) q68 rfl ?_
    refine pu ?_
    refine Ky ?_
    iterate 3 refine pu ?_
    obtain ⟨x69, q69, hm⟩ := Kf hm
    refine KaR htab rfl rfl rfl rfl rfl rfl rfl rfl rfl rfl (Kt q69) (KA q69) ?_
    refine p_eq (i := 21) rfl (Wk.of_eq (congrArg D.el (Kp x69))) ?_
    refine pu ?_
    refine Kav htab rfl rfl rfl rfl rfl rfl rfl rfl ?_
    obtain ⟨x71, q71, hm⟩ := Kf hm
    refine pG (hg0 x69.gKids x71 q71) Wl Pf Pf ?_
    rintro _ _ _ ⟨w70, rfl, rfl, rfl⟩
    obtain ⟨x72, q72, hm⟩ := Kf hm
    refine KcA 1 htab rfl rfl rfl rfl rfl rfl rfl rfl rfl rfl rfl rfl rfl rfl rfl rfl rfl (Kbe q72) (fun v72 => ?_)
    refine KcB (i := 25) q72 rfl ?_
    refine pu ?_
    refine Kh ?_
    refine KD ?_
    iterate 3 refine pu ?_
    obtain ⟨x73, q73, hm⟩ := Kf hm
    refine KaR htab rfl rfl rfl rfl rfl rfl rfl rfl rfl rfl (Kt q73) (KA q73) ?_
    refine p_eq (i := 29) rfl (Wk.of_eq (congrArg D.el (Kp x73))) ?_
    refine pu ?_
    refine Kav htab rfl rfl rfl rfl rfl rfl rfl rfl ?_
    obtain ⟨x75, q75, hm⟩ := Kf hm
    refine pG (hg0 x73.gElse x75 q75) Wl Pf Pf ?_
    rintro _ _ _ ⟨w74, rfl, rfl, rfl⟩
    obtain ⟨x76, q76, hm⟩ := Kf hm
    refine KcA 1 htab rfl rfl rfl rfl rfl rfl rfl rfl rfl rfl rfl rfl rfl rfl rfl rfl rfl (Kbe q76) (fun v76 => ?_)
    refine KcB (i := 33) q76 rfl ?_
    refine pu ?_
    refine KC ?_
    refine KF ?_
    refine Ki ?_
    refine KD ?_
    iterate 3 refine pu ?_
    refine KC ?_
    refine Ki ⟨_, KaA hm, ?_⟩
    exact WkX.of v76 (WkS.perm (WkS.cons rfl (Wk.refl _) (WkS.cons rfl (Wk.refl _) (WkS.cons rfl (Wk.refl _) (WkS.nil)))) Pf Pf)
   ·replace hm := yes_f hc66 hm
    refine Kan ?_
    refine KJ ?_
    have e40 := Kac hm; subst e40; clear hm; have hm := hq40
    refine KJ ?_
    refine Kae ?_
    have e39 := Kn hm; subst e39
    refine ⟨rfl, ?_⟩
    exact WkX.of z40 (WkS.perm (WkS.cons rfl (Wk.refl _) (WkS.nil)) Pf Pf)
 ·intro s39 hw39; clear hm; have hm := ho39; clear q39 ho39
  refine Ki ?_
  refine KZ hw39 (fun z39 => ?_)
  refine Kj ?_
  refine pu ?_
  refine pu ?_
  refine Kh ?_
  refine Ks ?_
  have er77 := Kn hm; subst er77
  refine rP (t' := [(2, .lst 7 (y39.map Kk) (.cur z39))]) [] [0] 0 (wC wN) (lT lN) ?_
  exact ⟨z39, rfl, rfl, rfl⟩
noncomputable def KbZ : Nat → ((List Kl) → Option (List Kl))
 | 0 => (fun _ => none)
 | n + 1 => (KcT ((KbZ n)))
theorem Kht : ∀ n, (∀ (a0 : List Kl) (r : List Kl) (h0 : (KbZ n) a0 = some r), CallsD Try.prog 31 [.lst 7 (a0.map Kk) .no] [] [] (fun d h k => ∃ y0, d = .lst 7 (r.map Kk) (.cur y0) ∧ h = [] ∧ k = [(7, y0)]))
  | 0 => fun _ _ h0 => by cases h0
  | n + 1 => by
    have ih := Kht n
    exact KjL (KbZ n) ih
theorem Khu : ∀ n, (∀ (a0 : List Kl), Le ((KbZ n) a0) ((KbZ (n + 1)) a0))
  | 0 => fun _ => Le.none _
  | n + 1 => by
    have ih := Khu n
    exact fun a0 => by show Le (KcT ((KbZ n)) a0) (KcT ((KbZ (n + 1))) a0); unfold KcT; repeat (first | exact Le.refl _ | exact ih _ | assumption | (refine Le.bind ?_ (fun _ => ?_)) | (refine Le.cond ?_ ?_) | (refine Le.loop (fun _ => ?_)) | (refine Le.elim (fun _ => ?_) (fun _ => ?_)))
noncomputable def KeZ (a0 : List Kl) : Option (List Kl) := anyN fun n => (KbZ n) a0
theorem KkJ (a0 : List Kl) {r : List Kl} (n : Nat) (h : (KbZ n) a0 = some r) : KeZ a0 = some r := Kc9 (fun m => (Khu m) a0) h
theorem Kix (a0 : List Kl) (r : List Kl) (h0 : KeZ a0 = some r) : CallsD Try.prog 31 [.lst 7 (a0.map Kk) .no] [] [] (fun d h k => ∃ y0, d = .lst 7 (r.map Kk) (.cur y0) ∧ h = [] ∧ k = [(7, y0)]) :=
 let ⟨n, hn⟩ := KcI h0; (Kht n) a0  r hn
noncomputable def KdM (g0 : (Ka) → Option (List Ka)) (a0 : Ka) : Option (List Ka) :=
 (Option.bind (α := List Ka) (loopM (fun (s23 : List Ka × Int) => (bif (decide (s23.2 < (a0.gKids.length : Int))) then ((idx a0.gKids s23.2).bind fun x38 => ((g0 x38).bind fun x40 => ((app 64 s23.1 x40).bind fun x41 => some (.next (x41, (IntKind.i64.wrap (s23.2 + (1 : Int)))))))) else some (.done s23.1))) (([a0] : List Ka), (0 : Int))) fun y22 => some y22)
theorem KkK (g0 : (Ka) → Option (List Ka)) (hg0 : ∀ (a0 : Ka) (r : List Ka) (h0 : g0 a0 = some r), CallsD Try.prog 51 [Kg a0] [] [] (fun d h k => ∃ y0, d = .lst 5 (r.map Kg) (.cur y0) ∧ h = [] ∧ k = [(5, y0)])) (a0 : Ka) (r : List Ka) (h0 : KdM g0 a0 = some r) : CallsD Try.prog 51 [Kg a0] [] [] (fun d h k => ∃ y0, d = .lst 5 (r.map Kg) (.cur y0) ∧ h = [] ∧ k = [(5, y0)]) := by
 have hm := KE h0
 unfold KdM at hm
 clear h0
 refine KU htab Try.func51 rfl rfl rfl rfl rfl (fun C => ?_)
 refine w_eq (i := 0) rfl (Wk.of_eq (Km a0)) ?_
 refine Kj ?_
 refine p_box rfl rfl rfl rfl rfl rfl rfl (fun b1 => ?_)
 refine pu ?_
 refine Ky ?_
 refine K8 (d := .agg [iD a0.gOp, iD a0.gN, tD a0.gName, .lst 5 (a0.gKids.map Kg) .no, iD a0.gAt]) 0 htab rfl rfl rfl rfl rfl rfl rfl rfl ?_
 refine p_lit htab rfl rfl rfl rfl rfl rfl rfl rfl rfl rfl rfl rfl rfl rfl ?_
 refine p_eq (i := 6) (d' := .lst 5 (([a0] : List Ka).map Kg) .full) rfl (Wk.lst0 (.cons (WkC.trans (WkC.agg (WkR.refl _)) (WkC.of_eq (Km a0).symm)) (.nil))) ?_
 refine pu ?_
 refine Kh ?_
 refine Kr ?_
 refine Kj ?_
 refine pu ?_
 refine Kh ?_
 obtain ⟨y22, q22, ho22⟩ := Kf hm
 refine K7 (Y := Value) (fun z22 => (⟨[(3, .lst 5 (y22.map Kg) (.cur z22))], [], [(5, z22)]⟩ : S)) ?_ ?_
 ·clear hm; have hm := KE q22
  refine KI ?_
  obtain ⟨u23, hl23, hq23⟩ := yes_m hm
  refine KaU (Y := Value) hl23 (fun s23 z23 => (⟨[(1, .ptr b1 0), (3, .lst 5 (s23.1.map Kg) (.cur z23)), (4, iD s23.2)], [(b1, Blk.cells [iD a0.gOp, iD a0.gN, tD a0.gName, .lst 5 (a0.gKids.map Kg) .no, iD a0.gAt] 100)], [(5, z23)]⟩ : S)) ?_ ?_
  ·skip
   refine WkX.tokF (i := 3) rfl (fun w36 => ?_)
   exact WkX.of w36 (WkS.perm (WkS.cons rfl (Wk.refl _) (WkS.cons rfl (Wk.refl _) (WkS.cons rfl (Wk.refl _) (WkS.nil)))) Pf Pf)
  ·intro G23 s23 z23 hm
   refine Kr ?_
   refine Kj ?_
   refine pu ?_
   refine pu ?_
   refine pL 0 ?_
   refine KaK htab rfl rfl rfl rfl rfl rfl rfl (by first | exact Kab | rfl) ?_
   refine pu ?_
   refine Kh ?_
   refine Ku rfl (fun hc37 => ?_) (fun hc37 => ?_)
   ·replace hm := yes_t hc37 hm
    refine Kv ?_
    refine Ki ?_
    refine Kr ?_
    refine KI ?_
    refine KD ?_
    refine pu ?_
    refine pu ?_
    refine pL 0 ?_
    refine pu ?_
    obtain ⟨x38, q38, hm⟩ := Kf hm
    refine KaR htab rfl rfl rfl rfl rfl rfl rfl rfl rfl rfl (Kt q38) (KA q38) ?_
    refine p_eq (i := 18) rfl (Wk.of_eq (congrArg D.el (Km x38))) ?_
    refine Kav (d := .agg [iD x38.gOp, iD x38.gN, tD x38.gName, .lst 5 (x38.gKids.map Kg) .no, iD x38.gAt]) htab rfl rfl rfl rfl rfl rfl rfl rfl ?_
    obtain ⟨x40, q40, hm⟩ := Kf hm
    refine Kas (hg0 x38 x40 q40) rfl rfl rfl rfl rfl (WkL.cons (Wk.trans (Wk.agg (WkR.refl _)) (Wk.of_eq (Km x38).symm)) Wl) Pf Pf ?_
    rintro _ _ _ ⟨w39, rfl, rfl, rfl⟩
    obtain ⟨x41, q41, hm⟩ := Kf hm
    refine KcA 1 htab rfl rfl rfl rfl rfl rfl rfl rfl rfl rfl rfl rfl rfl rfl rfl rfl rfl (Kbe q41) (fun v41 => ?_)
    refine KcB (i := 21) q41 rfl ?_
    refine pu ?_
    refine KC ?_
    refine KF ?_
    refine Ki ?_
    refine KD ?_
    iterate 3 refine pu ?_
    refine KC ?_
    refine Ki ⟨_, KaA hm, ?_⟩
    exact WkX.of v41 (WkS.perm (WkS.cons rfl (Wk.refl _) (WkS.cons rfl (Wk.refl _) (WkS.cons rfl (Wk.refl _) (WkS.nil)))) Pf Pf)
   ·replace hm := yes_f hc37 hm
    refine Kan ?_
    refine KJ ?_
    have e23 := Kac hm; subst e23; clear hm; have hm := hq23
    refine KJ ?_
    refine Kae ?_
    have e22 := Kn hm; subst e22
    refine ⟨rfl, ?_⟩
    exact WkX.of z23 (WkS.perm (WkS.cons rfl (Wk.refl _) (WkS.nil)) Pf Pf)
 ·intro s22 hw22; clear hm; have hm := ho22; clear q22 ho22
  refine Ki ?_
  refine KZ hw22 (fun z22 => ?_)
  refine Kj ?_
  refine pu ?_
  refine pu ?_
  refine Kh ?_
  refine Ks ?_
  have er42 := Kn hm; subst er42
  refine rP (t' := [(2, .lst 5 (y22.map Kg) (.cur z22))]) [] [0] 0 (wC wN) (lT lN) ?_
  exact ⟨z22, rfl, rfl, rfl⟩
noncomputable def KcC : Nat → ((Ka) → Option (List Ka))
 | 0 => (fun _ => none)
 | n + 1 => (KdM ((KcC n)))
theorem Kiy : ∀ n, (∀ (a0 : Ka) (r : List Ka) (h0 : (KcC n) a0 = some r), CallsD Try.prog 51 [Kg a0] [] [] (fun d h k => ∃ y0, d = .lst 5 (r.map Kg) (.cur y0) ∧ h = [] ∧ k = [(5, y0)]))
  | 0 => fun _ _ h0 => by cases h0
  | n + 1 => by
    have ih := Kiy n
    exact KkK (KcC n) ih
theorem Kiz : ∀ n, (∀ (a0 : Ka), Le ((KcC n) a0) ((KcC (n + 1)) a0))
  | 0 => fun _ => Le.none _
  | n + 1 => by
    have ih := Kiz n
    exact fun a0 => by show Le (KdM ((KcC n)) a0) (KdM ((KcC (n + 1))) a0); unfold KdM; repeat (first | exact Le.refl _ | exact ih _ | assumption | (refine Le.bind ?_ (fun _ => ?_)) | (refine Le.cond ?_ ?_) | (refine Le.loop (fun _ => ?_)) | (refine Le.elim (fun _ => ?_) (fun _ => ?_)))
noncomputable def KiH (a0 : Ka) : Option (List Ka) := anyN fun n => (KcC n) a0
theorem r11_All_of (a0 : Ka) {r : List Ka} (n : Nat) (h : (KcC n) a0 = some r) : KiH a0 = some r := Kc9 (fun m => (Kiz m) a0) h
theorem r11_All_ok (a0 : Ka) (r : List Ka) (h0 : KiH a0 = some r) : CallsD Try.prog 51 [Kg a0] [] [] (fun d h k => ∃ y0, d = .lst 5 (r.map Kg) (.cur y0) ∧ h = [] ∧ k = [(5, y0)]) :=
 let ⟨n, hn⟩ := KcI h0; (Kiy n) a0  r hn
noncomputable def Ke0 (a0 : List Kl) : Option (List Ka) :=
 ((KeZ a0).bind fun x2 => (Option.bind (α := List Ka) (loopM (fun (s162 : List Ka × Int) => (bif (decide (s162.2 < (x2.length : Int))) then (Option.bind (α := List Ka) (loopM (fun (s294 : List Ka × Int) => ((idx x2 s162.2).bind fun x311 => (bif (decide (s294.2 < (x311.gExps.length : Int))) then ((idx x2 s162.2).bind fun x313 => ((idx x313.gExps s294.2).bind fun x314 => ((KiH x314).bind fun x316 => ((app 64 s294.1 x316).bind fun x317 => some (.next (x317, (IntKind.i64.wrap (s294.2 + (1 : Int))))))))) else some (.done s294.1)))) (s162.1, (0 : Int))) fun y293 => some (.next (y293, (IntKind.i64.wrap (s162.2 + (1 : Int)))))) else some (.done s162.1))) (([] : List Ka), (0 : Int))) fun y161 => some y161))
theorem KkL (a0 : List Kl) (r : List Ka) (h0 : Ke0 a0 = some r) : CallsD Try.prog 32 [.lst 7 (a0.map Kk) .no] [] [] (fun d h k => ∃ y0, d = .lst 5 (r.map Kg) (.cur y0) ∧ h = [] ∧ k = [(5, y0)]) := by
 have hm := KE h0
 unfold Ke0 at hm
 clear h0
 refine KU htab Try.func32 rfl rfl rfl rfl rfl (fun C => ?_)
 refine Kj ?_
 refine pu ?_
 refine Ky ?_
 refine pu ?_
 refine Ky ?_
 refine pu ?_
 obtain ⟨x2, q2, hm⟩ := Kf hm
 refine pG (Kix a0 x2 q2) Wl Pf Pf ?_
 rintro _ _ _ ⟨w1, rfl, rfl, rfl⟩
 refine pu ?_
 refine Kh ?_
 refine Kr ?_
 refine Kj ?_
 refine pu ?_
 refine Kh ?_
 obtain ⟨y161, q161, ho161⟩ := Kf hm
 refine K7 (Y := Value) (fun z161 => (⟨[(3, .lst 5 (y161.map Kg) (.cur z161))], [], [(5, z161)]⟩ : S)) ?_ ?_
 ·clear hm; have hm := KE q161
  refine KI ?_
  obtain ⟨u162, hl162, hq162⟩ := yes_m hm
  refine KaU (Y := Value) hl162 (fun s162 z162 => (⟨[(3, .lst 5 (s162.1.map Kg) (.cur z162)), (4, .lst 7 (x2.map Kk) (.cur w1)), (5, iD s162.2)], [], [(5, z162), (7, w1)]⟩ : S)) ?_ ?_
  ·skip
   refine WkX.tokN (i := 3) 5 rfl (fun w267 => ?_)
   exact WkX.of w267 (WkS.perm (WkS.cons rfl (Wk.refl _) (WkS.cons rfl (Wk.refl _) (WkS.cons rfl (Wk.refl _) (WkS.nil)))) Pf Pf)
  ·intro G162 s162 z162 hm
   refine Kr ?_
   refine Kj ?_
   refine pu ?_
   refine pu ?_
   refine KaK htab rfl rfl rfl rfl rfl rfl rfl (by first | exact Kab | rfl) ?_
   refine pu ?_
   refine Kh ?_
   refine Ku rfl (fun hc268 => ?_) (fun hc268 => ?_)
   ·replace hm := yes_t hc268 hm
    refine Kv ?_
    refine Ki ?_
    refine Kr ?_
    refine KI ?_
    refine Kj ?_
    refine pu ?_
    refine Kh ?_
    obtain ⟨y293, q293, ho293⟩ := Kf hm
    refine K7 (Y := Value) (fun z293 => (⟨[(3, .lst 5 (y293.map Kg) (.cur z293)), (4, .lst 7 (x2.map Kk) (.cur w1)), (5, iD s162.2)], [], [(5, z293), (7, w1)]⟩ : S)) ?_ ?_
    ·clear hm; have hm := KE q293
     refine KI ?_
     obtain ⟨u294, hl294, hq294⟩ := yes_m hm
     refine KaU (Y := Value) hl294 (fun s294 z294 => (⟨[(3, .lst 5 (s294.1.map Kg) (.cur z294)), (4, .lst 7 (x2.map Kk) (.cur w1)), (5, iD s162.2), (6, iD s294.2)], [], [(5, z294), (7, w1)]⟩ : S)) ?_ ?_
     ·skip
      exact WkX.of z162 (WkS.perm (WkS.cons rfl (Wk.refl _) (WkS.cons rfl (Wk.refl _) (WkS.cons rfl (Wk.refl _) (WkS.cons rfl (Wk.refl _) (WkS.nil))))) Pf Pf)
     ·intro G294 s294 z294 hm
      refine Kr ?_
      refine Kj ?_
      iterate 3 refine pu ?_
      obtain ⟨x311, q311, hm⟩ := Kf hm
      refine KaR htab rfl rfl rfl rfl rfl rfl rfl rfl rfl rfl (Kt q311) (KA q311) ?_
      refine p_eq (i := 18) rfl (Wk.of_eq (congrArg D.el (Kp x311))) ?_
      refine pu ?_
      refine Kav htab rfl rfl rfl rfl rfl rfl rfl rfl ?_
      refine KaK htab rfl rfl rfl rfl rfl rfl rfl (by first | exact Kab | rfl) ?_
      refine pu ?_
      refine Kh ?_
      refine Ku rfl (fun hc312 => ?_) (fun hc312 => ?_)
      ·replace hm := yes_t hc312 hm
       refine Kv ?_
       refine Ki ?_
       refine Kr ?_
       refine KI ?_
       refine KD ?_
       iterate 3 refine pu ?_
       obtain ⟨x313, q313, hm⟩ := Kf hm
       refine KaR htab rfl rfl rfl rfl rfl rfl rfl rfl rfl rfl (Kt q313) (KA q313) ?_
       refine p_eq (i := 28) rfl (Wk.of_eq (congrArg D.el (Kp x313))) ?_
       refine pu ?_
       refine Kav htab rfl rfl rfl rfl rfl rfl rfl rfl ?_
       refine pu ?_
       obtain ⟨x314, q314, hm⟩ := Kf hm
       refine KaR htab rfl rfl rfl rfl rfl rfl rfl rfl rfl rfl (Kt q314) (KA q314) ?_
       refine p_eq (i := 32) rfl (Wk.of_eq (congrArg D.el (Km x314))) ?_
       refine Kav (d := .agg [iD x314.gOp, iD x314.gN, tD x314.gName, .lst 5 (x314.gKids.map Kg) .no, iD x314.gAt]) htab rfl rfl rfl rfl rfl rfl rfl rfl ?_
       obtain ⟨x316, q316, hm⟩ := Kf hm
       refine Kas (r11_All_ok x314 x316 q316) rfl rfl rfl rfl rfl (WkL.cons (Wk.trans (Wk.agg (WkR.refl _)) (Wk.of_eq (Km x314).symm)) Wl) Pf Pf ?_
       rintro _ _ _ ⟨w315, rfl, rfl, rfl⟩
       obtain ⟨x317, q317, hm⟩ := Kf hm
       refine KcA 1 htab rfl rfl rfl rfl rfl rfl rfl rfl rfl rfl rfl rfl rfl rfl rfl rfl rfl (Kbe q317) (fun v317 => ?_)
       refine KcB (i := 35) q317 rfl ?_
       refine pu ?_
       refine KC ?_
       refine KF ?_
       refine Ki ?_
       refine KD ?_
       iterate 3 refine pu ?_
       refine KC ?_
       refine Ki ⟨_, KaA hm, ?_⟩
       exact WkX.of v317 (WkS.perm (WkS.cons rfl (Wk.refl _) (WkS.cons rfl (Wk.refl _) (WkS.cons rfl (Wk.refl _) (WkS.cons rfl (Wk.refl _) (WkS.nil))))) Pf ((Kat (j := 0) rfl).trans (List.Perm.cons _ ((Kat (j := 1) rfl).trans (List.Perm.cons _ Pf)))))
      ·replace hm := yes_f hc312 hm
       refine Kan ?_
       refine KJ ?_
       have e294 := Kac hm; subst e294; clear hm; have hm := hq294
       refine KJ ?_
       refine Kae ?_
       have e293 := Kn hm; subst e293
       refine ⟨rfl, ?_⟩
       exact WkX.of z294 (WkS.perm (WkS.cons rfl (Wk.refl _) (WkS.cons rfl (Wk.refl _) (WkS.cons rfl (Wk.refl _) (WkS.nil)))) Pf Pf)
    ·intro s293 hw293; clear hm; have hm := ho293; clear q293 ho293
     refine KF ?_
     refine Ki ?_
     refine KZ hw293 (fun z293 => ?_)
     refine KD ?_
     iterate 3 refine pu ?_
     refine KC ?_
     refine Ki ⟨_, KaA hm, ?_⟩
     exact WkX.of z293 (WkS.perm (WkS.cons rfl (Wk.refl _) (WkS.cons rfl (Wk.refl _) (WkS.cons rfl (Wk.refl _) (WkS.nil)))) Pf Pf)
   ·replace hm := yes_f hc268 hm
    refine Kan ?_
    refine KJ ?_
    have e162 := Kac hm; subst e162; clear hm; have hm := hq162
    refine KJ ?_
    refine Kae ?_
    have e161 := Kn hm; subst e161
    refine ⟨rfl, ?_⟩
    exact WkX.of z162 (WkS.perm (WkS.cons rfl (Wk.refl _) (WkS.nil)) Pf Pf)
 ·intro s161 hw161; clear hm; have hm := ho161; clear q161 ho161
  refine Ki ?_
  refine KZ hw161 (fun z161 => ?_)
  refine Kj ?_
  refine pu ?_
  refine pu ?_
  refine Kh ?_
  refine Ks ?_
  have er318 := Kn hm; subst er318
  refine rP (t' := [(2, .lst 5 (y161.map Kg) (.cur z161))]) [] [0] 0 (wC wN) (lT lN) ?_
  exact ⟨z161, rfl, rfl, rfl⟩
abbrev nlGm1_9 : List (List Nat) := nlD [] [(0,[]),(0,[0]),(0,[]),(0,[]),(0,[3]),(5,[4]),(0,[]),(0,[6]),(8,[7]),(6,[5,6,7,8]),(0,[2,3,4,5,6,7,8,9]),(11,[10]),(2,[1,2,3,4,5,6,7,8,9,10,11]),(13,[12]),(14,[13])]
abbrev nlGm1_10 : List (List Nat) := nlD [] [(0,[]),(0,[0]),(2,[1]),(3,[2]),(4,[3]),(5,[4]),(6,[5]),(7,[6]),(8,[7]),(9,[8]),(7,[]),(7,[10]),(10,[10,11]),(13,[12]),(10,[9,10,11,12,13]),(15,[14]),(16,[15])]
noncomputable def Kei (a0 : List Kq) (a1 : Int) : Option (KS × Int × Int) :=
 (Option.bind (α := Bool) (bif (decide (a1 < (0 : Int))) then some true else some (decide ((a0.length : Int) < a1))) fun y3 => (bif y3 then some ((⟨ByteArray.empty, [], [], [], (0 : Int)⟩ : KS), (0 : Int), (2 : Int)) else ((Kbq (⟨a0, a1, (0 : Int)⟩ : Kd)).bind fun x12 => ((Kam (⟨a0, a1, (0 : Int)⟩ : Kd) (ByteArray.mk #[105, 110, 116])).bind fun x14 => ((Kbt x14).bind fun x15 => ((Kco x15.2).bind fun x17 => ((Kdg x17.2 (0 : Int)).bind fun x18 => (Option.bind (α := List Kq × Int × Int × List KV) (loopM (fun (s52 : List Kq × Int × Int × List KV) => (Option.bind (α := Bool) (bif (s52.2.2.1 == (0 : Int)) then ((Kee (⟨s52.1, s52.2.1, s52.2.2.1⟩ : Kd) (ByteArray.mk #[105, 110, 116])).bind fun x78 => some x78) else some false) fun y76 => (bif y76 then ((KbF (⟨s52.1, s52.2.1, s52.2.2.1⟩ : Kd) (IntKind.i64.wrap ((x17.1.length : Int) + (s52.2.2.2.length : Int)))).bind fun x80 => ((app 24 s52.2.2.2 ([x80.1] : List KV)).bind fun x81 => ((Kam x80.2 (ByteArray.mk #[59])).bind fun x82 => some (.next (x82.gL, x82.gAt, x82.gE, x81))))) else some (.done (s52.1, s52.2.1, s52.2.2.1, s52.2.2.2))))) (x18.gL, x18.gAt, x18.gE, ([] : List KV))) fun y51 => ((Keh (⟨y51.1, y51.2.1, y51.2.2.1⟩ : Kd) (1 : Int)).bind fun x84 => (Option.bind (α := Bool) (bif (x84.2.gE == (0 : Int)) then ((KeZ x84.1).bind fun x101 => ((Ke0 x84.1).bind fun x103 => some (decide ((800 : Int) < (IntKind.i64.wrap ((x101.length : Int) + (x103.length : Int))))))) else some false) fun y98 => (Option.bind (α := List Kq × Int × Int) (bif y98 then ((KbA x84.2 x14.gAt (6 : Int)).bind fun x116 => some (x116.gL, x116.gAt, x116.gE)) else some (x84.2.gL, x84.2.gAt, x84.2.gE)) fun y114 => (bif (y114.2.2 != (0 : Int)) then some ((⟨ByteArray.empty, [], [], [], (0 : Int)⟩ : KS), y114.2.1, y114.2.2) else some ((⟨x15.1, x17.1, y51.2.2.2, x84.1, x12.gAt⟩ : KS), y114.2.1, (0 : Int))))))))))))))
theorem KkZ (a0 : List Kq) (a1 : Int) (r : KS × Int × Int) (h0 : Kei a0 a1 = some r) : CallsD Try.prog 11 [.lst 4 (a0.map Kc) .no, iD a1] [] [] (fun d h k => ∃ y0 y1 y2, d = .tup [.agg [tD r.1.gName, .lst 2 (r.1.gParams.map Kw) (.cur y0), .lst 2 (r.1.gLocals.map Kw) (.cur y1), .lst 7 (r.1.gBody.map Kk) (.cur y2), iD r.1.gAt], iD r.2.1, iD r.2.2] ∧ h = [] ∧ k = [(2, y0), (2, y1), (7, y2)]) := by
 have hm := KE h0
 unfold Kei at hm
 clear h0
 refine KU htab Try.func11 rfl rfl rfl rfl rfl (fun C => ?_)
 refine Kj ?_
 refine KW htab rfl rfl rfl rfl rfl rfl rfl (fun b1 => ?_)
 refine pu ?_
 refine pu ?_
 refine Kh ?_
 refine Kr ?_
 refine Kr ?_
 obtain ⟨y3, q3, ho3⟩ := Kf hm
 refine K7 (Y := Unit) (fun z3 => (⟨[(0, .lst 4 (a0.map Kc) .no), (1, iD a1), (4, .ptr b1 0), (17, .v (.bool y3))], [(b1, Blk.cells [tD ByteArray.empty, .lst 1 [] .full, .lst 1 [] .full, .lst 1 [] .full, iD (0 : Int)] 26)], []⟩ : S)) ?_ ?_
 ·clear hm; have hm := KE q3
  refine KD ?_
  iterate 3 refine pu ?_
  refine K5 (i := 12) rfl (fun hg4 => ?_) (fun hg4 => ?_)
  ·replace hm := yes_t hg4 hm
   iterate 4 refine pK ?_
   refine KP rfl rfl rfl rfl rfl rfl ?_
   refine KC ?_
   have e3 := Kn hm; subst e3
   refine ⟨rfl, ?_⟩
   exact WkX.of () (WkS.perm (WkS.cons rfl (Wk.refl _) (WkS.cons rfl (Wk.refl _) (WkS.cons rfl (Wk.refl _) (WkS.cons rfl (Wk.refl _) (WkS.nil))))) Pf Pf)
  ·replace hm := yes_f hg4 hm
   refine pu ?_
   refine pu ?_
   refine KaK htab rfl rfl rfl rfl rfl rfl rfl (by first | exact Kab | rfl) ?_
   refine pu ?_
   refine KL rfl rfl rfl rfl rfl rfl ?_
   refine KC ?_
   have e3 := Kn hm; subst e3
   refine ⟨rfl, ?_⟩
   exact WkX.of () (WkS.perm (WkS.cons rfl (Wk.refl _) (WkS.cons rfl (Wk.refl _) (WkS.cons rfl (Wk.refl _) (WkS.cons rfl (Wk.refl _) (WkS.nil))))) Pf Pf)
 ·intro s3 hw3; clear hm; have hm := ho3; clear q3 ho3
  refine Ki ?_
  refine KZ hw3 (fun z3 => ?_)
  refine Ku rfl (fun hc6 => ?_) (fun hc6 => ?_)
  ·replace hm := yes_t hc6 hm
   refine Kj ?_
   refine Kaf (r := [tD ByteArray.empty, .lst 1 [] .full, .lst 1 [] .full, .lst 1 [] .full, iD (0 : Int)]) htab rfl rfl rfl rfl rfl rfl rfl rfl rfl ?_
   refine pS0 (ds' := [tD ByteArray.empty, .lst 1 [] .full, .lst 1 [] .full, .lst 1 [] .full, iD (0 : Int)]) ?_
   refine pu ?_
   refine pu ?_
   refine Kh ?_
   refine Ks ?_
   refine Kx ?_
   have er7 := Kn hm; subst er7
   refine retX.cellF (off := 1) 2 0 rfl rfl (by first | exact Or.inl rfl | exact Or.inr rfl) (fun w8 => ?_)
   refine retX.cellF (off := 2) 2 0 rfl rfl (by first | exact Or.inl rfl | exact Or.inr rfl) (fun w9 => ?_)
   refine retX.cellF (off := 3) 7 0 rfl rfl (by first | exact Or.inl rfl | exact Or.inr rfl) (fun w10 => ?_)
   refine rP (t' := [(4, .ptr b1 0), (5, iD (0 : Int)), (6, iD (2 : Int))]) [0] [2,1,0] 0 (wC (wC (wC wN))) (lC 0 (lT (lT lN))) ?_
   exact ⟨w8, w9, w10, rfl, rfl, rfl⟩
  ·replace hm := yes_f hc6 hm
   refine Kv ?_
   refine Ki ?_
   refine Kj ?_
   refine pu ?_
   refine pu ?_
   refine Kaf (r := [.lst 4 (a0.map Kc) .no, iD a1, iD (0 : Int)]) htab rfl rfl rfl rfl rfl rfl rfl rfl rfl ?_
   refine p_box rfl rfl rfl rfl rfl rfl rfl (fun b11 => ?_)
   refine pu ?_
   refine Ky ?_
   refine pu ?_
   obtain ⟨x12, q12, hm⟩ := Kf hm
   refine pG (Kcb (⟨a0, a1, (0 : Int)⟩ : Kd) b11 67 .no x12 q12) Wl ((Kat (j := 1) rfl).trans (List.Perm.cons _ Pf)) Pf ?_
   rintro _ _ _ ⟨rfl, rfl, rfl⟩
   refine pu ?_
   refine Kaf (r := [tD ByteArray.empty, .lst 1 [] .full, .lst 1 [] .full, .lst 1 [] .full, iD x12.gAt]) htab rfl rfl rfl rfl rfl rfl rfl rfl rfl ?_
   refine KW htab rfl rfl rfl rfl rfl rfl rfl (fun b13 => ?_)
   refine pS2 (ds' := [tD ByteArray.empty, .lst 1 [] .full, .lst 1 [] .full, .lst 1 [] .full, iD x12.gAt]) ?_
   refine Ky ?_
   refine pu ?_
   obtain ⟨x14, q14, hm⟩ := Kf hm
   refine pG (KaI (⟨a0, a1, (0 : Int)⟩ : Kd) (ByteArray.mk #[105, 110, 116]) b11 67 .no x14 q14) Wl Pf Pf ?_
   rintro _ _ _ ⟨rfl, rfl, rfl⟩
   refine Ky ?_
   iterate 3 refine pu ?_
   refine pL 0 ?_
   refine pu ?_
   refine Ky ?_
   refine pu ?_
   obtain ⟨x15, q15, hm⟩ := Kf hm
   refine pG (Kdr x14 b11 67 .no x15 q15) Wl Pf Pf ?_
   rintro _ _ _ ⟨rfl, rfl, rfl⟩
   refine pu ?_
   refine pS2 (ds' := [tD x15.1, .lst 1 [] .full, .lst 1 [] .full, .lst 1 [] .full, iD x12.gAt]) ?_
   refine Ky ?_
   refine pu ?_
   obtain ⟨x17, q17, hm⟩ := Kf hm
   refine pG (Kkt x15.2 b11 67 .no x17 q17) Wl Pf Pf ?_
   rintro _ _ _ ⟨w16, rfl, rfl, rfl⟩
   refine pu ?_
   refine pS2 (ds' := [tD x15.1, .lst 2 (x17.1.map Kw) (.cur w16), .lst 1 [] .full, .lst 1 [] .full, iD x12.gAt]) ?_
   refine Ky ?_
   refine pu ?_
   obtain ⟨x18, q18, hm⟩ := Kf hm
   refine pG (Kiv x17.2 (0 : Int) b11 67 .no x18 q18) Wl Pf Pf ?_
   rintro _ _ _ ⟨rfl, rfl, rfl⟩
   refine Kh ?_
   refine Kr ?_
   obtain ⟨y51, q51, ho51⟩ := Kf hm
   refine K7 (Y := Value) (fun z51 => (⟨[(4, .ptr b1 0), (7, .ptr b11 0), (8, .ptr b13 0), (9, iD x14.gAt)], [(b11, Blk.cells [.lst 4 (y51.1.map Kc) .no, iD y51.2.1, iD y51.2.2.1] 67), (b1, Blk.cells [tD ByteArray.empty, .lst 1 [] .full, .lst 1 [] .full, .lst 1 [] .full, iD (0 : Int)] 26), (b13, Blk.cells [tD x15.1, .lst 2 (x17.1.map Kw) (.cur w16), .lst 2 (y51.2.2.2.map Kw) (.cur z51), .lst 1 [] .full, iD x12.gAt] 26)], [(2, z51), (2, w16)]⟩ : S)) ?_ ?_
   ·clear hm; have hm := KE q51
    refine KI ?_
    obtain ⟨u52, hl52, hq52⟩ := yes_m hm
    refine KaU (Y := Value) hl52 (fun s52 z52 => (⟨[(4, .ptr b1 0), (7, .ptr b11 0), (8, .ptr b13 0), (9, iD x14.gAt)], [(b11, Blk.cells [.lst 4 (s52.1.map Kc) .no, iD s52.2.1, iD s52.2.2.1] 67), (b1, Blk.cells [tD ByteArray.empty, .lst 1 [] .full, .lst 1 [] .full, .lst 1 [] .full, iD (0 : Int)] 26), (b13, Blk.cells [tD x15.1, .lst 2 (x17.1.map Kw) (.cur w16), .lst 2 (s52.2.2.2.map Kw) (.cur z52), .lst 1 [] .full, iD x12.gAt] 26)], [(2, z52), (2, w16)]⟩ : S)) ?_ ?_
    ·skip
     refine WkX.cellF (off := 2) 2 2 rfl rfl (by first | exact Or.inl rfl | exact Or.inr rfl) (fun w73 => ?_)
     exact WkX.of w73 (WkS.perm (WkS.cons rfl (Wk.refl _) (WkS.cons rfl (Wk.refl _) (WkS.cons rfl (Wk.refl _) (WkS.cons rfl (Wk.refl _) (WkS.nil))))) Pf Pf)
    ·intro G52 s52 z52 hm
     refine Kr ?_
     refine Kr ?_
     obtain ⟨y76, q76, ho76⟩ := Kf hm
     refine K7 (Y := Unit) (fun z76 => (⟨[(4, .ptr b1 0), (7, .ptr b11 0), (8, .ptr b13 0), (9, iD x14.gAt), (49, .v (.bool y76))], [(b11, Blk.cells [.lst 4 (s52.1.map Kc) .no, iD s52.2.1, iD s52.2.2.1] 67), (b1, Blk.cells [tD ByteArray.empty, .lst 1 [] .full, .lst 1 [] .full, .lst 1 [] .full, iD (0 : Int)] 26), (b13, Blk.cells [tD x15.1, .lst 2 (x17.1.map Kw) (.cur w16), .lst 2 (s52.2.2.2.map Kw) (.cur z52), .lst 1 [] .full, iD x12.gAt] 26)], [(2, z52), (2, w16)]⟩ : S)) ?_ ?_
     ·clear hm; have hm := KE q76
      refine KD ?_
      iterate 3 refine pu ?_
      refine pL 0 ?_
      refine pu ?_
      refine pu ?_
      refine K5 (i := 46) rfl (fun hg77 => ?_) (fun hg77 => ?_)
      ·replace hm := yes_t hg77 hm
       refine pu ?_
       obtain ⟨x78, q78, hm⟩ := Kf hm
       refine pG (KgY (⟨s52.1, s52.2.1, s52.2.2.1⟩ : Kd) (ByteArray.mk #[105, 110, 116]) b11 67 .no x78 q78) Wl Pf Pf ?_
       rintro _ _ _ ⟨rfl, rfl, rfl⟩
       refine KP rfl rfl rfl rfl rfl rfl ?_
       refine KC ?_
       have e76 := Kn hm; subst e76
       refine ⟨rfl, ?_⟩
       exact WkX.of () (WkS.perm (WkS.cons rfl (Wk.refl _) (WkS.cons rfl (Wk.refl _) (WkS.cons rfl (Wk.refl _) (WkS.cons rfl (Wk.refl _) (WkS.cons rfl (Wk.refl _) (WkS.nil)))))) Pf Pf)
      ·replace hm := yes_f hg77 hm
       refine pK ?_
       refine pK ?_
       refine KL rfl rfl rfl rfl rfl rfl ?_
       refine KC ?_
       have e76 := Kn hm; subst e76
       refine ⟨rfl, ?_⟩
       exact WkX.of () (WkS.perm (WkS.cons rfl (Wk.refl _) (WkS.cons rfl (Wk.refl _) (WkS.cons rfl (Wk.refl _) (WkS.cons rfl (Wk.refl _) (WkS.cons rfl (Wk.refl _) (WkS.nil)))))) Pf Pf)
     ·intro s76 hw76; clear hm; have hm := ho76; clear q76 ho76
      refine Ki ?_
      refine KZ hw76 (fun z76 => ?_)
      refine Ku rfl (fun hc79 => ?_) (fun hc79 => ?_)
      ·replace hm := yes_t hc79 hm
       refine Kv ?_
       refine Ki ?_
       refine KI ?_
       refine Kr ?_
       obtain ⟨x80, q80, hm⟩ := Kf hm
       refine KdP (X := BK) 12 [] [[],[0],[],[],[3],[3,4],[],[6],[6,7],[3,4,6,7],[2,3,4,6,7],[2,3,4,6,7,10]] [0,1,2,3,4,6,7,10,11] nlGm1_9 ⟨10, fun x => x.1 ++ [(b1, Blk.cells [tD ByteArray.empty, .lst 1 [] .full, .lst 1 [] .full, .lst 1 [] .full, iD (0 : Int)] 26), (b13, Blk.cells [tD x15.1, .lst 2 (x17.1.map Kw) (.cur w16), .lst 2 (s52.2.2.2.map Kw) (.cur z52), .lst 1 [] .full, iD x12.gAt] 26)], fun x => x.2 ++ [(2, z52), (2, w16)], fun x => x.1 = [(b11, Blk.cells [.lst 4 (x80.2.gL.map Kc) .no, iD x80.2.gAt, iD x80.2.gE] 67)] ∧ x.2 = []⟩ ([], []) (by kernel_rfl) (by kernel_rfl) (by kernel_rfl) (by rfl) (by rfl) (by kernel_rfl) ?_
       iterate 9 apply Exists.intro
       intro bs
       refine zx_e rfl rfl (K3 htab rfl) rfl rfl rfl rfl rfl rfl rfl rfl ?_
       refine zx_M rfl rfl (fun _ => KM 2 htab rfl rfl rfl rfl rfl) (fun _ ⟨x1, x2⟩ ⟨e1, e2⟩ => by cases e1; cases e2; exact KM 2 htab rfl rfl rfl rfl rfl) rfl rfl rfl rfl rfl rfl rfl rfl ?_
       refine zx_e rfl rfl (K3 htab rfl) rfl rfl rfl rfl rfl rfl rfl rfl ?_
       refine zx_e rfl rfl (K3 htab rfl) rfl rfl rfl rfl rfl rfl rfl rfl ?_
       refine zx_M rfl rfl (fun _ => KM 2 htab rfl rfl rfl rfl rfl) (offB rfl) rfl rfl rfl rfl rfl rfl rfl rfl ?_
       refine zx_q rfl rfl (KdW htab rfl rfl rfl rfl (by first | exact Kab | rfl)) rfl rfl rfl rfl rfl rfl ?_
       refine zx_e rfl rfl (K3 htab rfl) rfl rfl rfl rfl rfl rfl rfl rfl ?_
       refine zx_M rfl rfl (fun _ => KM 2 htab rfl rfl rfl rfl rfl) (offB rfl) rfl rfl rfl rfl rfl rfl rfl rfl ?_
       refine zx_q rfl rfl (KdW htab rfl rfl rfl rfl (by first | exact Kab | rfl)) rfl rfl rfl rfl rfl rfl ?_
       refine zx_q rfl rfl (K3 htab rfl) rfl rfl rfl rfl rfl rfl ?_
       refine KeN (h1 := [(b11, Blk.cells [.lst 4 (s52.1.map Kc) .no, iD s52.2.1, iD s52.2.2.1] 67)]) (k1 := []) (d := Kw x80.1) rfl rfl rfl (Kfd (⟨s52.1, s52.2.1, s52.2.2.1⟩ : Kd) (IntKind.i64.wrap ((x17.1.length : Int) + (s52.2.2.2.length : Int))) b11 67 .no x80 q80) rfl rfl Wl Pf Pf (fun _ => rfl) (fun _ => rfl) (fun d' h' k' ⟨e1, e2, e3⟩ => ⟨⟨e2, e3⟩, by subst e1; exact Wk.refl _⟩) rfl rfl rfl rfl rfl rfl ?_
       refine zx_E rfl rfl (ExE.wk (x_lit htab rfl rfl rfl rfl rfl rfl rfl rfl rfl rfl rfl) (show Wk _ (.lst 2 (([x80.1] : List KV).map Kw) .full) from Wk.lst0 (.cons (WkC.refl _) (.nil)))) rfl rfl rfl rfl rfl rfl rfl rfl ?_
       refine Kfq (h2 := [(b1, Blk.cells [tD ByteArray.empty, .lst 1 [] .full, .lst 1 [] .full, .lst 1 [] .full, iD (0 : Int)] 26), (b13, Blk.cells [tD x15.1, .lst 2 (x17.1.map Kw) (.cur w16), .lst 2 (s52.2.2.2.map Kw) (.cur z52), .lst 1 [] .full, iD x12.gAt] 26)]) (hz := [(b1, Blk.cells [tD ByteArray.empty, .lst 1 [] .full, .lst 1 [] .full, .lst 1 [] .full, iD (0 : Int)] 26), (b13, Blk.cells [tD x15.1, .lst 2 (x17.1.map Kw) (.cur w16), .lst 2 (s52.2.2.2.map Kw) (.cur z52), .lst 1 [] .full, iD x12.gAt] 26)]) rfl rfl (fun _ => rfl) (fun _ => rfl) rfl (fun e he => by simp [isAl] at he) ?_
       rintro _ _ ⟨rfl, rfl⟩
       obtain ⟨x81, q81, hm⟩ := Kf hm
       refine KcA 0 htab rfl rfl rfl rfl rfl rfl rfl rfl rfl rfl rfl rfl rfl rfl rfl rfl rfl (Kbe q81) (fun v81 => ?_)
       refine KcB (i := 62) q81 rfl ?_
       refine pu ?_
       refine pS2 (ds' := [tD x15.1, .lst 2 (x17.1.map Kw) (.cur w16), .lst 2 (x81.map Kw) (.cur v81), .lst 1 [] .full, iD x12.gAt]) ?_
       refine Kh ?_
       refine KD ?_
       refine pu ?_
       obtain ⟨x82, q82, hm⟩ := Kf hm
       refine pG (KaI x80.2 (ByteArray.mk #[59]) b11 67 .no x82 q82) Wl Pf Pf ?_
       rintro _ _ _ ⟨rfl, rfl, rfl⟩
       refine KC ?_
       refine KF ?_
       refine Ki ⟨_, KaA hm, ?_⟩
       exact WkX.of v81 (WkS.perm (WkS.cons rfl (Wk.refl _) (WkS.cons rfl (Wk.refl _) (WkS.cons rfl (Wk.refl _) (WkS.cons rfl (Wk.refl _) (WkS.nil))))) Pf Pf)
      ·replace hm := yes_f hc79 hm
       refine Kan ?_
       refine KJ ?_
       have e52 := Kac hm; subst e52; clear hm; have hm := hq52
       refine KJ ?_
       refine Kae ?_
       have e51 := Kn hm; subst e51
       refine ⟨rfl, ?_⟩
       exact WkX.of z52 (WkS.perm (WkS.cons rfl (Wk.refl _) (WkS.cons rfl (Wk.refl _) (WkS.cons rfl (Wk.refl _) (WkS.cons rfl (Wk.refl _) (WkS.nil))))) Pf Pf)
   ·intro s51 hw51; clear hm; have hm := ho51; clear q51 ho51
    refine Ki ?_
    refine KZ hw51 (fun z51 => ?_)
    refine Kj ?_
    refine pu ?_
    obtain ⟨x84, q84, hm⟩ := Kf hm
    refine pG (KkY (⟨y51.1, y51.2.1, y51.2.2.1⟩ : Kd) (1 : Int) b11 67 .no x84 q84) Wl Pf Pf ?_
    rintro _ _ _ ⟨w83, rfl, rfl, rfl⟩
    refine pu ?_
    refine pS2 (ds' := [tD x15.1, .lst 2 (x17.1.map Kw) (.cur w16), .lst 2 (y51.2.2.2.map Kw) (.cur z51), .lst 7 (x84.1.map Kk) (.cur w83), iD x12.gAt]) ?_
    refine Kh ?_
    refine Kr ?_
    refine Kr ?_
    obtain ⟨y98, q98, ho98⟩ := Kf hm
    refine K7 (Y := Unit) (fun z98 => (⟨[(4, .ptr b1 0), (7, .ptr b11 0), (8, .ptr b13 0), (9, iD x14.gAt), (85, .v (.bool y98))], [(b11, Blk.cells [.lst 4 (x84.2.gL.map Kc) .no, iD x84.2.gAt, iD x84.2.gE] 67), (b1, Blk.cells [tD ByteArray.empty, .lst 1 [] .full, .lst 1 [] .full, .lst 1 [] .full, iD (0 : Int)] 26), (b13, Blk.cells [tD x15.1, .lst 2 (x17.1.map Kw) (.cur w16), .lst 2 (y51.2.2.2.map Kw) (.cur z51), .lst 7 (x84.1.map Kk) (.cur w83), iD x12.gAt] 26)], [(7, w83), (2, z51), (2, w16)]⟩ : S)) ?_ ?_
    ·clear hm; have hm := KE q98
     refine bycB (x84.2.gE == (0 : Int)) (fun hs99 => ?_) (fun hs99 => ?_)
     ·replace hm := yes_t hs99 hm
      obtain ⟨x101, q101, hm⟩ := Kf hm
      obtain ⟨x103, q103, hm⟩ := Kf hm
      refine wpD_drawsT 14 [] [(8, 7), (12, 5)] [[],[0],[0,1],[0,1,2],[0,1,2],[0,1,2],[0,1,2],[0,1,2,6],[0,1,2,6,7],[0,1,2,6,7,8],[0,1,2],[0,1,2,10],[0,1,2,6,7,8,10,11],[0,1,2,6,7,8,10,11,12]] [0,1,2,6,7,8,10,11,12] nlGm1_10 (by kernel_rfl) (by kernel_rfl) (by kernel_rfl) (by rfl) (by rfl) (by kernel_rfl) ?_
      iterate 9 apply Exists.intro
      intro bs
      iterate 3 refine zt_e rfl rfl (K3 htab rfl) rfl rfl rfl rfl rfl rfl rfl ?_
      refine zt_qM rfl rfl (KM 0 htab rfl rfl rfl rfl rfl) rfl rfl rfl rfl rfl rfl ?_
      refine zt_q rfl rfl (K3 htab rfl) rfl rfl rfl rfl rfl rfl ?_
      refine zt_q rfl rfl (K3 htab rfl) rfl rfl rfl rfl rfl rfl ?_
      refine zt_known (j := 74) (b' := true) rfl hs99 ?_
      refine zt_e rfl rfl (K3 htab rfl) rfl rfl rfl rfl rfl rfl rfl ?_
      refine zt_eM rfl rfl (KM 2 htab rfl rfl rfl rfl rfl) rfl rfl rfl rfl rfl rfl rfl ?_
      refine zt_callT rfl rfl (Kix x84.1 x101 q101) rfl rfl (WkL.cons (Wk.no) Wl) rfl rfl rfl rfl rfl (by simp) (by decide) rfl ?_
      refine zt_q rfl rfl (KdW htab rfl rfl rfl rfl (by first | exact Kab | rfl)) rfl rfl rfl rfl rfl rfl ?_
      refine zt_e rfl rfl (K3 htab rfl) rfl rfl rfl rfl rfl rfl rfl ?_
      refine zt_eM rfl rfl (KM 2 htab rfl rfl rfl rfl rfl) rfl rfl rfl rfl rfl rfl rfl ?_
      refine zt_callT rfl rfl (KkL x84.1 x103 q103) rfl rfl (WkL.cons (Wk.no) Wl) rfl rfl rfl rfl rfl (by simp) (by decide) rfl ?_
      refine zt_q rfl rfl (KdW htab rfl rfl rfl rfl (by first | exact Kab | rfl)) rfl rfl rfl rfl rfl rfl ?_
      refine zt_nil (k' := [(7, w83), (2, z51), (2, w16), (7, (bs 8)), (5, (bs 12))]) rfl (fun e he => by simp [isT] at he; rcases he with rfl | rfl <;> rfl) rfl rfl (fun e he => by simp [isAl] at he) ?_
      obtain ⟨w110, hw110⟩ : ∃ y, bs 8 = y := ⟨_, rfl⟩
      obtain ⟨w111, hw111⟩ : ∃ y, bs 12 = y := ⟨_, rfl⟩
      simp only [hw110, hw111]
      clear hw110 hw111
      refine pu ?_
      refine pu ?_
      refine KP rfl rfl rfl rfl rfl rfl ?_
      refine KC ?_
      have e98 := Kn hm; subst e98
      refine ⟨rfl, ?_⟩
      exact WkX.of () (WkS.perm (WkS.cons rfl (Wk.refl _) (WkS.cons rfl (Wk.refl _) (WkS.cons rfl (Wk.refl _) (WkS.cons rfl (Wk.refl _) (WkS.cons rfl (Wk.refl _) (WkS.nil)))))) Pf Pf)
     ·replace hm := yes_f hs99 hm
      refine Kah 14 [] [[],[0],[0,1],[0,1,2],[0,1,2],[0,1,2],[0,1,2],[0,1,2],[0,1,2],[0,1,2],[0,1,2],[0,1,2],[0,1,2],[0,1,2]] [0,1,2] nlGm1_10 (by kernel_rfl) (by kernel_rfl) (by kernel_rfl) (by rfl) (by rfl) (by kernel_rfl) ?_
      iterate 3 apply Exists.intro
      intro bs
      iterate 3 refine zep ?_
      refine z_qM rfl rfl (KM 0 htab rfl rfl rfl rfl rfl) rfl rfl rfl rfl rfl rfl ?_
      refine zqp ?_
      refine zqp ?_
      refine KY (j := 74) (b' := false) rfl hs99 ?_
      iterate 8 refine zK ?_
      refine z_nil rfl rfl (fun e he => by simp [isAl] at he) ?_
      refine pK ?_
      refine pK ?_
      refine KL rfl rfl rfl rfl rfl rfl ?_
      refine KC ?_
      have e98 := Kn hm; subst e98
      refine ⟨rfl, ?_⟩
      exact WkX.of () (WkS.perm (WkS.cons rfl (Wk.refl _) (WkS.cons rfl (Wk.refl _) (WkS.cons rfl (Wk.refl _) (WkS.cons rfl (Wk.refl _) (WkS.cons rfl (Wk.refl _) (WkS.nil)))))) Pf Pf)
    ·intro s98 hw98; clear hm; have hm := ho98; clear q98 ho98
     refine Ki ?_
     refine KZ hw98 (fun z98 => ?_)
     obtain ⟨y114, q114, ho114⟩ := Kf hm
     refine K7 (Y := Unit) (fun z114 => (⟨[(4, .ptr b1 0), (7, .ptr b11 0), (8, .ptr b13 0)], [(b11, Blk.cells [.lst 4 (y114.1.map Kc) .no, iD y114.2.1, iD y114.2.2] 67), (b1, Blk.cells [tD ByteArray.empty, .lst 1 [] .full, .lst 1 [] .full, .lst 1 [] .full, iD (0 : Int)] 26), (b13, Blk.cells [tD x15.1, .lst 2 (x17.1.map Kw) (.cur w16), .lst 2 (y51.2.2.2.map Kw) (.cur z51), .lst 7 (x84.1.map Kk) (.cur w83), iD x12.gAt] 26)], [(7, w83), (2, z51), (2, w16)]⟩ : S)) ?_ ?_
     ·clear hm; have hm := KE q114
      refine Ku rfl (fun hc115 => ?_) (fun hc115 => ?_)
      ·replace hm := yes_t hc115 hm
       refine KD ?_
       refine pu ?_
       refine pu ?_
       obtain ⟨x116, q116, hm⟩ := Kf hm
       refine pG (KcQ x84.2 x14.gAt (6 : Int) b11 67 .no x116 q116) Wl Pf Pf ?_
       rintro _ _ _ ⟨rfl, rfl, rfl⟩
       refine KC ?_
       have e114 := Kn hm; subst e114
       refine ⟨rfl, ?_⟩
       exact WkX.of () (WkS.perm (WkS.cons rfl (Wk.refl _) (WkS.cons rfl (Wk.refl _) (WkS.cons rfl (Wk.refl _) (WkS.nil)))) Pf Pf)
      ·replace hm := yes_f hc115 hm
       refine Kv ?_
       have e114 := Kn hm; subst e114
       refine ⟨rfl, ?_⟩
       exact WkX.of () (WkS.perm (WkS.cons rfl (Wk.refl _) (WkS.cons rfl (Wk.refl _) (WkS.cons rfl (Wk.refl _) (WkS.nil)))) Pf Pf)
     ·intro s114 hw114; clear hm; have hm := ho114; clear q114 ho114
      refine Ki ?_
      refine KZ hw114 (fun z114 => ?_)
      refine Kr ?_
      refine Kj ?_
      iterate 3 refine pu ?_
      refine pL 0 ?_
      refine pu ?_
      refine Kh ?_
      refine Ku rfl (fun hc119 => ?_) (fun hc119 => ?_)
      ·replace hm := yes_t hc119 hm
       refine Kr ?_
       refine KdL 11 [] [[],[],[1],[1,2],[1,2,3],[],[5],[5,6],[5,6,7],[0],[0,1,2,3,4,9]] [0,1,2,3,4,5,6,7,8,9] [[],[],[1],[1,2],[1,2,3],[],[5],[5,6],[5,6,7],[0],[0,1,2,3,4,9],[0,1,2,3,4,5,6,7,8,9,10]] 9 (by kernel_rfl) (by kernel_rfl) (by kernel_rfl) (by rfl) (by rfl) (by kernel_rfl) ?_
       refine ⟨[(b11, Blk.cells [.lst 4 (y114.1.map Kc) .no, iD y114.2.1, iD y114.2.2] 67), (b1, Blk.cells [tD ByteArray.empty, .lst 1 [] .full, .lst 1 [] .full, .lst 1 [] .full, iD (0 : Int)] 26), (b13, Blk.cells [tD x15.1, .lst 2 (x17.1.map Kw) (.cur w16), .lst 2 (y51.2.2.2.map Kw) (.cur z51), .lst 7 (x84.1.map Kk) (.cur w83), iD x12.gAt] 26)], ?_⟩
       iterate 9 apply Exists.intro
       refine ⟨.any, ?_⟩
       intro bs v120
       refine zh_e rfl rfl (KeU (r := [tD ByteArray.empty, .lst 1 [] .full, .lst 1 [] .full, .lst 1 [] .full, iD (0 : Int)]) htab rfl rfl rfl rfl rfl rfl) rfl rfl rfl rfl rfl rfl rfl rfl ?_
       iterate 3 refine zh_e rfl rfl (K3 htab rfl) rfl rfl rfl rfl rfl rfl rfl rfl ?_
       refine zh_M rfl rfl (fun _ => KM 0 htab rfl rfl rfl rfl rfl) (fun _ => KM 0 htab rfl rfl rfl rfl rfl) rfl rfl rfl rfl rfl rfl rfl rfl ?_
       iterate 3 refine zh_e rfl rfl (K3 htab rfl) rfl rfl rfl rfl rfl rfl rfl rfl ?_
       refine zh_M rfl rfl (fun _ => KM 0 htab rfl rfl rfl rfl rfl) (fun _ => KM 0 htab rfl rfl rfl rfl rfl) rfl rfl rfl rfl rfl rfl rfl rfl ?_
       refine Kea 1 htab rfl rfl rfl rfl rfl rfl rfl rfl rfl rfl rfl rfl rfl rfl rfl rfl ?_
       refine zh_q rfl rfl (K3 htab rfl) rfl rfl rfl rfl rfl rfl ?_
       refine Kfb rfl rfl rfl rfl (fun e he => by simp [isAl] at he) ?_
       refine pu ?_
       refine Kh ?_
       refine Ks ?_
       refine Kx ?_
       have er121 := Kn hm; subst er121
       refine retX.cellF (off := 1) 2 1 rfl rfl (by first | exact Or.inl rfl | exact Or.inr rfl) (fun w122 => ?_)
       refine retX.cellF (off := 2) 2 1 rfl rfl (by first | exact Or.inl rfl | exact Or.inr rfl) (fun w123 => ?_)
       refine retX.cellF (off := 3) 7 1 rfl rfl (by first | exact Or.inl rfl | exact Or.inr rfl) (fun w124 => ?_)
       refine rP (t' := [(4, .ptr b1 0), (5, iD y114.2.1), (6, iD y114.2.2)]) [1] [2,1,0] 0 (wC (wC (wC wN))) (lC 0 (lT (lT lN))) ?_
       exact ⟨w122, w123, w124, rfl, rfl, rfl⟩
      ·replace hm := yes_f hc119 hm
       refine Kv ?_
       refine Ki ?_
       refine Kr ?_
       refine KdL 6 [] [[],[],[1],[1,2],[1,2,3],[0]] [0,1,2,3,4,5] [[],[],[1],[1,2],[1,2,3],[0],[0,1,2,3,4,5],[0,1,2,3,4,5,6]] 5 (by kernel_rfl) (by kernel_rfl) (by kernel_rfl) (by rfl) (by rfl) (by kernel_rfl) ?_
       refine ⟨[(b11, Blk.cells [.lst 4 (y114.1.map Kc) .no, iD y114.2.1, iD y114.2.2] 67), (b1, Blk.cells [tD x15.1, .lst 2 (x17.1.map Kw) (.cur w16), .lst 2 (y51.2.2.2.map Kw) (.cur z51), .lst 7 (x84.1.map Kk) (.cur w83), iD x12.gAt] 26), (b13, Blk.cells [tD x15.1, .lst 2 (x17.1.map Kw) (.cur w16), .lst 2 (y51.2.2.2.map Kw) (.cur z51), .lst 7 (x84.1.map Kk) (.cur w83), iD x12.gAt] 26)], ?_⟩
       iterate 5 apply Exists.intro
       refine ⟨.any, ?_⟩
       intro bs v125
       refine zh_M rfl rfl (fun _ => KM (d := .agg [tD x15.1, .lst 2 (x17.1.map Kw) (.cur w16), .lst 2 (y51.2.2.2.map Kw) (.cur z51), .lst 7 (x84.1.map Kk) (.cur w83), iD x12.gAt]) 2 htab rfl rfl rfl rfl rfl) (offB rfl) rfl rfl rfl rfl rfl rfl rfl rfl ?_
       iterate 3 refine zh_e rfl rfl (K3 htab rfl) rfl rfl rfl rfl rfl rfl rfl rfl ?_
       refine zh_M rfl rfl (fun _ => KM 0 htab rfl rfl rfl rfl rfl) (fun _ => KM 0 htab rfl rfl rfl rfl rfl) rfl rfl rfl rfl rfl rfl rfl rfl ?_
       refine Kea 1 htab rfl rfl rfl rfl rfl rfl rfl rfl rfl rfl rfl rfl rfl rfl rfl rfl ?_
       refine Kfb rfl rfl rfl rfl (fun e he => by simp [isAl] at he) ?_
       refine pu ?_
       refine pu ?_
       refine Kh ?_
       refine Ks ?_
       have er126 := Kn hm; subst er126
       refine rP (t' := [(4, .ptr b1 0), (5, iD y114.2.1), (6, iD (0 : Int))]) [1] [2,1,0] 0 (wC (wC (wC wN))) (lC 0 (lT (lT lN))) ?_
       exact ⟨w16, z51, w83, rfl, rfl, rfl⟩
noncomputable def KfO (a0 : List Kq) (a1 : List UInt8) (a2 : Int) (a3 : Int) : Option (Int × Int) :=
 (Option.bind (α := Int × Int) (bif (decide (a2 < (a0.length : Int))) then ((idx a0 a2).bind fun x6 => ((idx a0 a2).bind fun x7 => some (x6.gAt, x7.gKind))) else some ((a1.length : Int), (0 : Int))) fun y4 => (Option.bind (α := Bool) (bif (a3 == (0 : Int)) then some (y4.2 != (0 : Int)) else some false) fun y9 => (Option.bind (α := Int) (bif y9 then some (3 : Int) else some a3) fun y12 => (Option.bind (α := Int) (bif (y12 == (0 : Int)) then some (0 : Int) else some y4.1) fun y15 => some (y15, y12)))))
theorem KkM (a0 : List Kq) (a1 : List UInt8) (a2 : Int) (a3 : Int) (r : Int × Int) (h0 : KfO a0 a1 a2 a3 = some r) : CallsD Try.prog 18 [.lst 4 (a0.map Kc) .no, .lst 1 (a1.map byteD) .no, iD a2, iD a3] [] [] (fun d h k => d = .tup [iD r.1, iD r.2] ∧ h = [] ∧ k = []) := by
 have hm := KE h0
 unfold KfO at hm
 clear h0
 refine KU htab Try.func18 rfl rfl rfl rfl rfl (fun C => ?_)
 refine Kj ?_
 refine pu ?_
 refine pu ?_
 refine Ky ?_
 refine pu ?_
 refine KaK htab rfl rfl rfl rfl rfl rfl rfl (by first | exact Kab | rfl) ?_
 refine pu ?_
 refine pu ?_
 refine Kh ?_
 refine Kr ?_
 refine Kj ?_
 refine pu ?_
 refine pu ?_
 refine KaK htab rfl rfl rfl rfl rfl rfl rfl (by first | exact Kab | rfl) ?_
 refine pu ?_
 refine Kh ?_
 obtain ⟨y4, q4, ho4⟩ := Kf hm
 refine K7 (Y := Unit) (fun z4 => (⟨[(3, iD a3), (10, iD y4.1), (11, iD y4.2)], [], []⟩ : S)) ?_ ?_
 ·clear hm; have hm := KE q4
  refine Ku rfl (fun hc5 => ?_) (fun hc5 => ?_)
  ·replace hm := yes_t hc5 hm
   refine Kj ?_
   refine pu ?_
   refine pu ?_
   obtain ⟨x6, q6, hm⟩ := Kf hm
   refine KaR htab rfl rfl rfl rfl rfl rfl rfl rfl rfl rfl (Kt q6) (KA q6) ?_
   refine pu ?_
   refine Kav htab rfl rfl rfl rfl rfl rfl rfl rfl ?_
   refine pu ?_
   refine Kh ?_
   refine KD ?_
   refine pu ?_
   refine pu ?_
   obtain ⟨x7, q7, hm⟩ := Kf hm
   refine KaR htab rfl rfl rfl rfl rfl rfl rfl rfl rfl rfl (Kt q7) (KA q7) ?_
   refine pu ?_
   refine Kav htab rfl rfl rfl rfl rfl rfl rfl rfl ?_
   refine pu ?_
   refine KC ?_
   have e4 := Kn hm; subst e4
   refine ⟨rfl, ?_⟩
   exact WkX.of () (WkS.perm (WkS.cons rfl (Wk.refl _) (WkS.cons rfl (Wk.refl _) (WkS.cons rfl (Wk.refl _) (WkS.nil)))) Pf Pf)
  ·replace hm := yes_f hc5 hm
   refine Kv ?_
   have e4 := Kn hm; subst e4
   refine ⟨rfl, ?_⟩
   exact WkX.of () (WkS.perm (WkS.cons rfl (Wk.refl _) (WkS.cons rfl (Wk.refl _) (WkS.cons rfl (Wk.refl _) (WkS.nil)))) Pf Pf)
 ·intro s4 hw4; clear hm; have hm := ho4; clear q4 ho4
  refine Ki ?_
  refine KZ hw4 (fun z4 => ?_)
  refine Kr ?_
  refine Kr ?_
  obtain ⟨y9, q9, ho9⟩ := Kf hm
  refine K7 (Y := Unit) (fun z9 => (⟨[(3, iD a3), (10, iD y4.1), (33, .v (.bool y9))], [], []⟩ : S)) ?_ ?_
  ·clear hm; have hm := KE q9
   refine KD ?_
   iterate 3 refine pu ?_
   refine K5 (i := 30) rfl (fun hg10 => ?_) (fun hg10 => ?_)
   ·replace hm := yes_t hg10 hm
    refine pu ?_
    refine pu ?_
    refine KP rfl rfl rfl rfl rfl rfl ?_
    refine KC ?_
    have e9 := Kn hm; subst e9
    refine ⟨rfl, ?_⟩
    exact WkX.of () (WkS.perm (WkS.cons rfl (Wk.refl _) (WkS.cons rfl (Wk.refl _) (WkS.cons rfl (Wk.refl _) (WkS.nil)))) Pf Pf)
   ·replace hm := yes_f hg10 hm
    refine pK ?_
    refine pK ?_
    refine KL rfl rfl rfl rfl rfl rfl ?_
    refine KC ?_
    have e9 := Kn hm; subst e9
    refine ⟨rfl, ?_⟩
    exact WkX.of () (WkS.perm (WkS.cons rfl (Wk.refl _) (WkS.cons rfl (Wk.refl _) (WkS.cons rfl (Wk.refl _) (WkS.nil)))) Pf Pf)
  ·intro s9 hw9; clear hm; have hm := ho9; clear q9 ho9
   refine Ki ?_
   refine KZ hw9 (fun z9 => ?_)
   obtain ⟨y12, q12, ho12⟩ := Kf hm
   refine K7 (Y := Unit) (fun z12 => (⟨[(3, iD y12), (10, iD y4.1)], [], []⟩ : S)) ?_ ?_
   ·clear hm; have hm := KE q12
    refine Ku rfl (fun hc13 => ?_) (fun hc13 => ?_)
    ·replace hm := yes_t hc13 hm
     refine KD ?_
     refine pu ?_
     refine KC ?_
     have e12 := Kn hm; subst e12
     refine ⟨rfl, ?_⟩
     exact WkX.of () (WkS.perm (WkS.cons rfl (Wk.refl _) (WkS.cons rfl (Wk.refl _) (WkS.nil))) Pf Pf)
    ·replace hm := yes_f hc13 hm
     refine Kv ?_
     have e12 := Kn hm; subst e12
     refine ⟨rfl, ?_⟩
     exact WkX.of () (WkS.perm (WkS.cons rfl (Wk.refl _) (WkS.cons rfl (Wk.refl _) (WkS.nil))) Pf Pf)
   ·intro s12 hw12; clear hm; have hm := ho12; clear q12 ho12
    refine Ki ?_
    refine KZ hw12 (fun z12 => ?_)
    refine Kr ?_
    refine Kj ?_
    refine pu ?_
    refine pu ?_
    refine Kh ?_
    obtain ⟨y15, q15, ho15⟩ := Kf hm
    refine K7 (Y := Unit) (fun z15 => (⟨[(3, iD y12), (10, iD y15)], [], []⟩ : S)) ?_ ?_
    ·clear hm; have hm := KE q15
     refine Ku rfl (fun hc16 => ?_) (fun hc16 => ?_)
     ·replace hm := yes_t hc16 hm
      refine KD ?_
      refine pu ?_
      refine KC ?_
      have e15 := Kn hm; subst e15
      refine ⟨rfl, ?_⟩
      exact WkX.of () (WkS.perm (WkS.cons rfl (Wk.refl _) (WkS.cons rfl (Wk.refl _) (WkS.nil))) Pf Pf)
     ·replace hm := yes_f hc16 hm
      refine Kv ?_
      have e15 := Kn hm; subst e15
      refine ⟨rfl, ?_⟩
      exact WkX.of () (WkS.perm (WkS.cons rfl (Wk.refl _) (WkS.cons rfl (Wk.refl _) (WkS.nil))) Pf Pf)
    ·intro s15 hw15; clear hm; have hm := ho15; clear q15 ho15
     refine Ki ?_
     refine KZ hw15 (fun z15 => ?_)
     refine Kj ?_
     iterate 4 refine pu ?_
     refine Kh ?_
     refine Ks ?_
     have er17 := Kn hm; subst er17
     refine rP (t' := [(8, iD y15), (9, iD y12)]) [] [] 0 (wC (wC wN)) (lT (lT lN)) ?_
     exact ⟨rfl, rfl, rfl⟩
noncomputable def Kej (a0 : List UInt8) : Option (KS × Int × Int) :=
 ((Kfs a0).bind fun x3 => (bif (x3.2.2 != (0 : Int)) then some ((⟨ByteArray.empty, [], [], [], (0 : Int)⟩ : KS), x3.2.1, x3.2.2) else ((Kei x3.1 (0 : Int)).bind fun x13 => ((KfO x3.1 a0 x13.2.1 x13.2.2).bind fun x15 => (bif (x15.2 != (0 : Int)) then some ((⟨ByteArray.empty, [], [], [], (0 : Int)⟩ : KS), x15.1, x15.2) else some (x13.1, (0 : Int), (0 : Int)))))))
theorem Kjy (a0 : List UInt8) (r : KS × Int × Int) (h0 : Kej a0 = some r) : CallsD Try.prog 7 [.lst 1 (a0.map byteD) .no] [] [] (fun d h k => ∃ y0 y1 y2, d = .tup [.agg [tD r.1.gName, .lst 2 (r.1.gParams.map Kw) (.cur y0), .lst 2 (r.1.gLocals.map Kw) (.cur y1), .lst 7 (r.1.gBody.map Kk) (.cur y2), iD r.1.gAt], iD r.2.1, iD r.2.2] ∧ h = [] ∧ k = [(2, y0), (2, y1), (7, y2)]) := by
 have hm := KE h0
 unfold Kej at hm
 clear h0
 refine KU htab Try.func7 rfl rfl rfl rfl rfl (fun C => ?_)
 refine Kj ?_
 refine KW htab rfl rfl rfl rfl rfl rfl rfl (fun b1 => ?_)
 refine pu ?_
 refine pu ?_
 refine Ky ?_
 refine pu ?_
 obtain ⟨x3, q3, hm⟩ := Kf hm
 refine pG (KkV a0 x3 q3) Wl Pf Pf ?_
 rintro _ _ _ ⟨w2, rfl, rfl, rfl⟩
 iterate 7 refine pu ?_
 refine Kh ?_
 refine Kr ?_
 refine Kj ?_
 refine pu ?_
 refine pu ?_
 refine Kh ?_
 refine Ku rfl (fun hc5 => ?_) (fun hc5 => ?_)
 ·replace hm := yes_t hc5 hm
  refine Kj ?_
  refine Kaf (r := [tD ByteArray.empty, .lst 1 [] .full, .lst 1 [] .full, .lst 1 [] .full, iD (0 : Int)]) htab rfl rfl rfl rfl rfl rfl rfl rfl rfl ?_
  refine pu ?_
  refine pu ?_
  refine pS0 (ds' := [tD ByteArray.empty, .lst 1 [] .full, .lst 1 [] .full, .lst 1 [] .full, iD (0 : Int)]) ?_
  refine pu ?_
  refine pu ?_
  refine Kh ?_
  refine Ks ?_
  refine Kx ?_
  have er6 := Kn hm; subst er6
  refine retX.cellF (off := 1) 2 0 rfl rfl (by first | exact Or.inl rfl | exact Or.inr rfl) (fun w7 => ?_)
  refine retX.cellF (off := 2) 2 0 rfl rfl (by first | exact Or.inl rfl | exact Or.inr rfl) (fun w8 => ?_)
  refine retX.cellF (off := 3) 7 0 rfl rfl (by first | exact Or.inl rfl | exact Or.inr rfl) (fun w9 => ?_)
  refine rP (t' := [(2, .ptr b1 0), (3, iD x3.2.1), (4, iD x3.2.2)]) [0] [2,1,0] 0 (wC (wC (wC wN))) (lC 0 (lT (lT lN))) ?_
  exact ⟨w7, w8, w9, rfl, rfl, rfl⟩
 ·replace hm := yes_f hc5 hm
  refine Kv ?_
  refine Ki ?_
  refine Kj ?_
  refine pu ?_
  obtain ⟨x13, q13, hm⟩ := Kf hm
  refine Kas (KkZ x3.1 (0 : Int) x13 q13) rfl rfl rfl rfl rfl (WkL.cons (Wk.no) (WkL.cons (Wk.refl _) Wl)) Pf Pf ?_
  rintro _ _ _ ⟨w10, w11, w12, rfl, rfl, rfl⟩
  iterate 4 refine pu ?_
  refine KW htab rfl rfl rfl rfl rfl rfl rfl (fun b14 => ?_)
  refine pS1 (ds' := [tD x13.1.gName, .lst 2 (x13.1.gParams.map Kw) (.cur w10), .lst 2 (x13.1.gLocals.map Kw) (.cur w11), .lst 7 (x13.1.gBody.map Kk) (.cur w12), iD x13.1.gAt]) ?_
  refine pu ?_
  refine pu ?_
  refine Ky ?_
  iterate 4 refine pu ?_
  obtain ⟨x15, q15, hm⟩ := Kf hm
  refine Kaw (KkM x3.1 a0 x13.2.1 x13.2.2 x15 q15) rfl rfl rfl rfl rfl (WkL.cons (Wk.no) (WkL.cons (Wk.refl _) (WkL.cons (Wk.refl _) (WkL.cons (Wk.refl _) Wl)))) ?_
  rintro _ rfl
  iterate 5 refine pu ?_
  refine Kh ?_
  refine Kr ?_
  refine Kj ?_
  refine pu ?_
  refine pu ?_
  refine Kh ?_
  refine Ku rfl (fun hc17 => ?_) (fun hc17 => ?_)
  ·replace hm := yes_t hc17 hm
   refine Kj ?_
   refine Kaf (r := [tD ByteArray.empty, .lst 1 [] .full, .lst 1 [] .full, .lst 1 [] .full, iD (0 : Int)]) htab rfl rfl rfl rfl rfl rfl rfl rfl rfl ?_
   refine pu ?_
   refine pu ?_
   refine pS0 (ds' := [tD ByteArray.empty, .lst 1 [] .full, .lst 1 [] .full, .lst 1 [] .full, iD (0 : Int)]) ?_
   refine pu ?_
   refine pu ?_
   refine Kh ?_
   refine Ks ?_
   refine Kx ?_
   have er18 := Kn hm; subst er18
   refine retX.cellF (off := 1) 2 0 rfl rfl (by first | exact Or.inl rfl | exact Or.inr rfl) (fun w19 => ?_)
   refine retX.cellF (off := 2) 2 0 rfl rfl (by first | exact Or.inl rfl | exact Or.inr rfl) (fun w20 => ?_)
   refine retX.cellF (off := 3) 7 0 rfl rfl (by first | exact Or.inl rfl | exact Or.inr rfl) (fun w21 => ?_)
   refine rP (t' := [(2, .ptr b1 0), (3, iD x15.1), (4, iD x15.2)]) [0] [2,1,0] 0 (wC (wC (wC wN))) (lC 0 (lT (lT lN))) ?_
   exact ⟨w19, w20, w21, rfl, rfl, rfl⟩
  ·replace hm := yes_f hc17 hm
   refine Kv ?_
   refine Ki ?_
   refine Kj ?_
   refine K8 (d := .agg [tD x13.1.gName, .lst 2 (x13.1.gParams.map Kw) (.cur w10), .lst 2 (x13.1.gLocals.map Kw) (.cur w11), .lst 7 (x13.1.gBody.map Kk) (.cur w12), iD x13.1.gAt]) 1 htab rfl rfl rfl rfl rfl rfl rfl rfl ?_
   refine pS0 (ds' := [tD x13.1.gName, .lst 2 (x13.1.gParams.map Kw) (.cur w10), .lst 2 (x13.1.gLocals.map Kw) (.cur w11), .lst 7 (x13.1.gBody.map Kk) (.cur w12), iD x13.1.gAt]) ?_
   refine pu ?_
   refine pu ?_
   refine Kh ?_
   refine Ks ?_
   have er22 := Kn hm; subst er22
   refine rP (t' := [(2, .ptr b1 0), (3, iD (0 : Int)), (4, iD (0 : Int))]) [0] [0,0,0] 0 (wC (wC (wC wN))) (lC 0 (lT (lT lN))) ?_
   exact ⟨w10, w11, w12, rfl, rfl, rfl⟩
noncomputable def Kft (a0 : List KV) (a1 : List KV) : Option (Bool) :=
 (bif ((a0.length : Int) != (a1.length : Int)) then some false else (Option.bind (α := (Unit) ⊕ (Bool)) (loopM (fun (s21 : Int) => (bif (decide (s21 < (a0.length : Int))) then ((idx a0 s21).bind fun x33 => ((idx a1 s21).bind fun x34 => (bif (!(decide (x33.gName = x34.gName) && (x33.gPtr == x34.gPtr && true))) then some (.done (.inr false)) else some (.next (IntKind.i64.wrap (s21 + (1 : Int))))))) else some (.done (.inl ())))) (0 : Int)) (Sum.elim (fun y20 => some true) (fun r => some r))))
theorem KiW (a0 : List KV) (a1 : List KV) (r : Bool) (h0 : Kft a0 a1 = some r) : CallsD Try.prog 19 [.lst 2 (a0.map Kw) .no, .lst 2 (a1.map Kw) .no] [] [] (fun d h k => d = .v (.bool r) ∧ h = [] ∧ k = []) := by
 have hm := KE h0
 unfold Kft at hm
 clear h0
 refine KU htab Try.func19 rfl rfl rfl rfl rfl (fun C => ?_)
 refine Kj ?_
 refine pu ?_
 refine Kh ?_
 refine Kr ?_
 refine Kj ?_
 refine pu ?_
 refine KaK htab rfl rfl rfl rfl rfl rfl rfl (by first | exact Kab | rfl) ?_
 refine pu ?_
 refine KaK htab rfl rfl rfl rfl rfl rfl rfl (by first | exact Kab | rfl) ?_
 refine pu ?_
 refine Kh ?_
 refine Ku rfl (fun hc2 => ?_) (fun hc2 => ?_)
 ·replace hm := yes_t hc2 hm
  refine Kj ?_
  refine pu ?_
  refine Kh ?_
  refine Ks ?_
  refine Kx ?_
  have er3 := Kn hm; subst er3
  refine rP (t' := [(4, .v (.bool false))]) [] [] 0 (wC wN) (lT lN) ?_
  exact ⟨rfl, rfl, rfl⟩
 ·replace hm := yes_f hc2 hm
  refine Kv ?_
  refine Ki ?_
  refine Kr ?_
  refine Kj ?_
  refine pu ?_
  refine Kh ?_
  obtain ⟨x20, q20, ho20⟩ := Kf hm
  refine Kci (τ := Unit) (Y := Unit) (fun y20 z20 => (⟨[], [], []⟩ : S)) x20 ?_ ?_
  ·clear hm; have hm := KE q20
   refine KI ?_
   obtain ⟨u21, hl21, hq21⟩ := yes_m hm
   refine KaU (Y := Unit) hl21 (fun s21 z21 => (⟨[(0, .lst 2 (a0.map Kw) .no), (1, .lst 2 (a1.map Kw) .no), (5, iD s21)], [], []⟩ : S)) ?_ ?_
   ·skip
    exact WkX.of () (WkS.perm (WkS.cons rfl (Wk.refl _) (WkS.cons rfl (Wk.refl _) (WkS.cons rfl (Wk.refl _) (WkS.nil)))) Pf Pf)
   ·intro G21 s21 z21 hm
    refine Kr ?_
    refine Kj ?_
    refine pu ?_
    refine pu ?_
    refine KaK htab rfl rfl rfl rfl rfl rfl rfl (by first | exact Kab | rfl) ?_
    refine pu ?_
    refine Kh ?_
    refine Ku rfl (fun hc32 => ?_) (fun hc32 => ?_)
    ·replace hm := yes_t hc32 hm
     refine Kv ?_
     refine Ki ?_
     refine Kr ?_
     refine KI ?_
     refine Kr ?_
     obtain ⟨x33, q33, hm⟩ := Kf hm
     obtain ⟨x34, q34, hm⟩ := Kf hm
     refine Kah 8 [] [[],[],[0],[0,2],[],[],[4],[4,6]] [0,2,3,4,6,7] [[],[],[0,1],[0,1,2],[],[],[4,5],[4,5,6],[0,1,2,3,4,5,6,7]] (by kernel_rfl) (by kernel_rfl) (by kernel_rfl) (by rfl) (by rfl) (by kernel_rfl) ?_
     iterate 6 apply Exists.intro
     intro bs
     refine zep ?_
     refine zqp ?_
     refine z_e rfl rfl (KH htab rfl rfl rfl rfl rfl rfl rfl (Kt q33) (KA q33)) rfl rfl rfl rfl rfl rfl ?_
     refine z_eM rfl rfl (Kz (d := Kw x33) htab rfl rfl rfl rfl rfl) rfl rfl rfl rfl rfl rfl ?_
     refine zep ?_
     refine zqp ?_
     refine z_e rfl rfl (KH htab rfl rfl rfl rfl rfl rfl rfl (Kt q34) (KA q34)) rfl rfl rfl rfl rfl rfl ?_
     refine z_eM rfl rfl (Kz (d := Kw x34) htab rfl rfl rfl rfl rfl) rfl rfl rfl rfl rfl rfl ?_
     refine z_nil rfl rfl (fun e he => by simp [isAl] at he) ?_
     refine p_eqS htab rfl rfl rfl rfl rfl eqt55 rfl rfl rfl rfl rfl ?_
     refine Kh ?_
     refine Ku rfl (fun hc35 => ?_) (fun hc35 => ?_)
     ·replace hm := yes_t hc35 hm
      refine Kj ?_
      refine pu ?_
      refine Kh ?_
      refine Ks ?_
      refine KR ?_
      refine Kx ?_
      have e21 := Kac hm; subst e21; clear hm; have hm := hq21
      refine Kx ?_
      refine KR ?_
      have e20 := Kn hm; subst e20; refine Kbi ?_; clear hm; have hm := ho20; simp only [Sum.elim_inr] at hm
      refine Kx ?_
      have er36 := Kn hm; subst er36
      refine rP (t' := [(4, .v (.bool false))]) [] [] 0 (wC wN) (lT lN) ?_
      exact ⟨rfl, rfl, rfl⟩
     ·replace hm := yes_f hc35 hm
      refine Kv ?_
      refine KF ?_
      refine Ki ?_
      refine KD ?_
      iterate 3 refine pu ?_
      refine KC ?_
      refine Ki ⟨_, KaA hm, ?_⟩
      exact WkX.of () (WkS.perm (WkS.cons rfl (Wk.refl _) (WkS.cons rfl (Wk.refl _) (WkS.cons rfl (Wk.refl _) (WkS.nil)))) Pf Pf)
    ·replace hm := yes_f hc32 hm
     refine Kan ?_
     refine KJ ?_
     have e21 := Kac hm; subst e21; clear hm; have hm := hq21
     refine KJ ?_
     refine Kae ?_
     have e20 := Kn hm; subst e20
     refine Kb1 ?_
     exact WkX.of () (WkS.perm (WkS.nil) Pf Pf)
  ·intro y20 s20 hx20 hw20; subst hx20; clear hm; have hm := ho20; simp only [Sum.elim_inl] at hm; clear q20 ho20
   refine Ki ?_
   refine KZ hw20 (fun z20 => ?_)
   refine Kj ?_
   refine pu ?_
   refine Kh ?_
   refine Ks ?_
   have er37 := Kn hm; subst er37
   refine rP (t' := [(4, .v (.bool true))]) [] [] 0 (wC wN) (lT lN) ?_
   exact ⟨rfl, rfl, rfl⟩
end Go.Proofs.Ytmgklehakmdiiaa.Ab
namespace Go.Proofs.Ytmgklehakmdiiaa.Ab
open Go
set_option linter.all false
abbrev nlGm1_11 : List (List Nat) := nlD [] [(0,[]),(0,[]),(0,[0]),(3,[2]),(4,[3]),(0,[]),(0,[]),(0,[5]),(8,[7]),(9,[8]),(5,[5,7,8]),(11,[]),(11,[]),(11,[]),(11,[]),(11,[]),(11,[]),(11,[]),(11,[]),(11,[]),(11,[]),(11,[]),(11,[]),(11,[]),(11,[]),(11,[]),(11,[]),(11,[]),(11,[]),(11,[]),(11,[]),(11,[]),(11,[]),(11,[]),(11,[]),(11,[]),(11,[]),(11,[]),(11,[]),(11,[]),(11,[]),(11,[]),(11,[]),(11,[]),(11,[]),(11,[]),(11,[]),(11,[]),(11,[]),(11,[]),(11,[]),(11,[]),(11,[]),(11,[]),(11,[]),(11,[]),(11,[]),(11,[]),(11,[]),(11,[]),(11,[]),(11,[]),(11,[]),(11,[]),(11,[])]
abbrev Kfu : List (List Nat) := nlD [] [(0,[]),(0,[]),(0,[0,1]),(3,[2]),(4,[3]),(0,[]),(0,[]),(0,[5,6]),(8,[7]),(9,[8]),(5,[4,5,6,7,8,9]),(11,[10]),(12,[11]),(13,[]),(13,[12,13]),(15,[14]),(16,[15]),(13,[]),(13,[]),(13,[17,18]),(20,[19]),(21,[20]),(17,[16,17,18,19,20,21]),(23,[22]),(24,[23]),(25,[24]),(26,[]),(26,[25,26]),(28,[27]),(29,[28]),(26,[]),(26,[]),(26,[30,31]),(33,[32]),(34,[33]),(30,[29,30,31,32,33,34]),(36,[35]),(37,[36]),(38,[37]),(39,[38]),(40,[39]),(41,[]),(41,[40,41]),(43,[42]),(44,[43]),(41,[]),(41,[]),(41,[45,46]),(48,[47]),(49,[48]),(45,[44,45,46,47,48,49]),(51,[50]),(52,[51]),(53,[52]),(54,[53]),(55,[]),(55,[54,55]),(57,[56]),(58,[57]),(55,[]),(55,[]),(55,[59,60]),(62,[61]),(63,[62]),(55,[]),(59,[58,59,60,61,62,63,64]),(66,[65]),(67,[66])]
abbrev nlGm1_13 : List (List Nat) := nlD [] [(0,[]),(0,[]),(0,[0]),(3,[2]),(4,[3]),(0,[]),(0,[]),(0,[5]),(8,[7]),(9,[8]),(5,[5,7,8]),(11,[]),(11,[]),(11,[]),(11,[12]),(15,[14]),(16,[15]),(11,[]),(11,[]),(11,[17]),(20,[19]),(21,[20]),(17,[17,19,20]),(23,[]),(23,[]),(23,[]),(23,[]),(23,[]),(23,[]),(23,[]),(23,[]),(23,[]),(23,[]),(23,[]),(23,[]),(23,[]),(23,[]),(23,[]),(23,[]),(23,[]),(23,[]),(23,[]),(23,[]),(23,[]),(23,[]),(23,[]),(23,[]),(23,[]),(23,[]),(23,[]),(23,[]),(23,[]),(23,[]),(23,[]),(23,[]),(23,[]),(23,[]),(23,[]),(23,[]),(23,[]),(23,[]),(23,[]),(23,[]),(23,[]),(23,[])]
abbrev nlGm1_14 : List (List Nat) := nlD [] [(0,[]),(0,[]),(0,[0]),(3,[2]),(4,[3]),(0,[]),(0,[]),(0,[5]),(8,[7]),(9,[8]),(5,[5,7,8]),(11,[]),(11,[]),(11,[]),(11,[12]),(15,[14]),(16,[15]),(11,[]),(11,[]),(11,[17]),(20,[19]),(21,[20]),(17,[17,19,20]),(23,[]),(23,[]),(23,[]),(23,[]),(23,[25]),(28,[27]),(29,[28]),(23,[]),(23,[]),(23,[30]),(33,[32]),(34,[33]),(30,[30,32,33]),(36,[]),(36,[]),(36,[]),(36,[]),(36,[]),(36,[]),(36,[]),(36,[]),(36,[]),(36,[]),(36,[]),(36,[]),(36,[]),(36,[]),(36,[]),(36,[]),(36,[]),(36,[]),(36,[]),(36,[]),(36,[]),(36,[]),(36,[]),(36,[]),(36,[]),(36,[]),(36,[]),(36,[]),(36,[])]
abbrev nlGm1_15 : List (List Nat) := nlD [] [(0,[]),(0,[]),(0,[0]),(3,[2]),(4,[3]),(0,[]),(0,[]),(0,[5]),(8,[7]),(9,[8]),(5,[5,7,8]),(11,[]),(11,[]),(11,[]),(11,[12]),(15,[14]),(16,[15]),(11,[]),(11,[]),(11,[17]),(20,[19]),(21,[20]),(17,[17,19,20]),(23,[]),(23,[]),(23,[]),(23,[]),(23,[25]),(28,[27]),(29,[28]),(23,[]),(23,[]),(23,[30]),(33,[32]),(34,[33]),(30,[30,32,33]),(36,[]),(36,[]),(36,[]),(36,[]),(36,[]),(36,[]),(36,[40]),(43,[42]),(44,[43]),(36,[]),(36,[]),(36,[45]),(48,[47]),(49,[48]),(45,[45,47,48]),(51,[]),(51,[]),(51,[]),(51,[]),(51,[]),(51,[]),(51,[]),(51,[]),(51,[]),(51,[]),(51,[]),(51,[]),(51,[]),(51,[])]
abbrev nlGm1_16 : List (List Nat) := nlD [] [(0,[]),(0,[]),(0,[0]),(3,[2]),(4,[3]),(0,[]),(0,[]),(0,[5]),(8,[7]),(9,[8]),(5,[5,7,8]),(11,[]),(11,[]),(11,[]),(11,[12]),(15,[14]),(16,[15]),(11,[]),(11,[]),(11,[17]),(20,[19]),(21,[20]),(17,[17,19,20]),(23,[]),(23,[]),(23,[]),(23,[]),(23,[25]),(28,[27]),(29,[28]),(23,[]),(23,[]),(23,[30]),(33,[32]),(34,[33]),(30,[30,32,33]),(36,[]),(36,[]),(36,[]),(36,[]),(36,[]),(36,[]),(36,[40]),(43,[42]),(44,[43]),(36,[]),(36,[]),(36,[45]),(48,[47]),(49,[48]),(45,[45,47,48]),(51,[]),(51,[]),(51,[]),(51,[]),(51,[]),(51,[54]),(57,[56]),(58,[57]),(51,[]),(51,[]),(51,[59]),(62,[61]),(63,[62]),(51,[])]
abbrev nlGm1_17 : List (List Nat) := nlD [] [(0,[]),(0,[]),(0,[0]),(3,[2]),(4,[3]),(0,[]),(0,[]),(0,[5]),(8,[7]),(9,[8]),(5,[5,7,8]),(11,[]),(11,[]),(11,[]),(11,[12]),(15,[14]),(16,[15]),(11,[]),(11,[]),(11,[17]),(20,[19]),(21,[20]),(17,[17,19,20]),(23,[]),(23,[]),(23,[]),(23,[]),(23,[25]),(28,[27]),(29,[28]),(23,[]),(23,[]),(23,[30]),(33,[32]),(34,[33]),(30,[30,32,33]),(36,[]),(36,[]),(36,[]),(36,[]),(36,[]),(36,[]),(36,[]),(36,[]),(36,[]),(36,[]),(36,[]),(36,[]),(36,[]),(36,[]),(36,[]),(36,[]),(36,[]),(36,[]),(36,[]),(36,[]),(36,[54]),(57,[56]),(58,[57]),(36,[]),(36,[]),(36,[59]),(62,[61]),(63,[62]),(36,[])]
noncomputable def Kdj (g0 : (List Ka) → (List Ka) → (Bool) → Option (Bool)) (a0 : List Ka) (a1 : List Ka) (a2 : Bool) : Option (Bool) :=
 (bif ((a0.length : Int) != (a1.length : Int)) then some false else (Option.bind (α := (Unit) ⊕ (Bool)) (loopM (fun (s132 : Int) => (bif (decide (s132 < (a0.length : Int))) then (Option.bind (α := Bool) ((idx a0 s132).bind fun x238 => ((idx a1 s132).bind fun x239 => (bif (x238.gOp != x239.gOp) then some true else ((idx a0 s132).bind fun x241 => ((idx a1 s132).bind fun x242 => (bif (x241.gN != x242.gN) then some true else ((idx a0 s132).bind fun x244 => ((idx a1 s132).bind fun x245 => (bif (!decide (x244.gName = x245.gName)) then some true else (bif a2 then ((idx a0 s132).bind fun x248 => ((idx a1 s132).bind fun x249 => (bif (x248.gAt != x249.gAt) then some true else ((idx a0 s132).bind fun x251 => ((idx a1 s132).bind fun x252 => ((g0 x251.gKids x252.gKids a2).bind fun x253 => some (!x253))))))) else ((idx a0 s132).bind fun x254 => ((idx a1 s132).bind fun x255 => ((g0 x254.gKids x255.gKids a2).bind fun x256 => some (!x256)))))))))))))) fun y237 => (bif y237 then some (.done (.inr false)) else some (.next (IntKind.i64.wrap (s132 + (1 : Int)))))) else some (.done (.inl ())))) (0 : Int)) (Sum.elim (fun y131 => some true) (fun r => some r))))
theorem Kky (g0 : (List Ka) → (List Ka) → (Bool) → Option (Bool)) (hg0 : ∀ (a0 : List Ka) (a1 : List Ka) (a2 : Bool) (r : Bool) (h0 : g0 a0 a1 a2 = some r), CallsD Try.prog 39 [.lst 5 (a0.map Kg) .no, .lst 5 (a1.map Kg) .no, .v (.bool a2)] [] [] (fun d h k => d = .v (.bool r) ∧ h = [] ∧ k = [])) (a0 : List Ka) (a1 : List Ka) (a2 : Bool) (r : Bool) (h0 : Kdj g0 a0 a1 a2 = some r) : CallsD Try.prog 39 [.lst 5 (a0.map Kg) .no, .lst 5 (a1.map Kg) .no, .v (.bool a2)] [] [] (fun d h k => d = .v (.bool r) ∧ h = [] ∧ k = []) := by
 have hm := KE h0
 unfold Kdj at hm
 clear h0
 refine KU htab Try.func39 rfl rfl rfl rfl rfl (fun C => ?_)
 refine Kj ?_
 refine pu ?_
 refine Kh ?_
 refine Kr ?_
 refine Kj ?_
 refine pu ?_
 refine KaK htab rfl rfl rfl rfl rfl rfl rfl (by first | exact Kab | rfl) ?_
 refine pu ?_
 refine KaK htab rfl rfl rfl rfl rfl rfl rfl (by first | exact Kab | rfl) ?_
 refine pu ?_
 refine Kh ?_
 refine Ku rfl (fun hc2 => ?_) (fun hc2 => ?_)
 ·replace hm := yes_t hc2 hm
  refine Kj ?_
  refine pu ?_
  refine Kh ?_
  refine Ks ?_
  refine Kx ?_
  have er3 := Kn hm; subst er3
  refine rP (t' := [(6, .v (.bool false))]) [] [] 0 (wC wN) (lT lN) ?_
  exact ⟨rfl, rfl, rfl⟩
 ·replace hm := yes_f hc2 hm
  refine Kv ?_
  refine Ki ?_
  refine Kr ?_
  refine Kj ?_
  refine pu ?_
  refine Kh ?_
  obtain ⟨x131, q131, ho131⟩ := Kf hm
  refine Kci (τ := Unit) (Y := Unit) (fun y131 z131 => (⟨[], [], []⟩ : S)) x131 ?_ ?_
  ·clear hm; have hm := KE q131
   refine KI ?_
   obtain ⟨u132, hl132, hq132⟩ := yes_m hm
   refine KaU (Y := Unit) hl132 (fun s132 z132 => (⟨[(0, .lst 5 (a0.map Kg) .no), (1, .lst 5 (a1.map Kg) .no), (2, .v (.bool a2)), (7, iD s132)], [], []⟩ : S)) ?_ ?_
   ·skip
    exact WkX.of () (WkS.perm (WkS.cons rfl (Wk.refl _) (WkS.cons rfl (Wk.refl _) (WkS.cons rfl (Wk.refl _) (WkS.cons rfl (Wk.refl _) (WkS.nil))))) Pf Pf)
   ·intro G132 s132 z132 hm
    refine Kr ?_
    refine Kj ?_
    refine pu ?_
    refine pu ?_
    refine KaK htab rfl rfl rfl rfl rfl rfl rfl (by first | exact Kab | rfl) ?_
    refine pu ?_
    refine Kh ?_
    refine Ku rfl (fun hc217 => ?_) (fun hc217 => ?_)
    ·replace hm := yes_t hc217 hm
     refine Kv ?_
     refine Ki ?_
     refine Kr ?_
     refine KI ?_
     refine Kr ?_
     obtain ⟨y237, q237, ho237⟩ := Kf hm
     refine K7 (Y := Unit) (fun z237 => (⟨[(0, .lst 5 (a0.map Kg) .no), (1, .lst 5 (a1.map Kg) .no), (2, .v (.bool a2)), (7, iD s132), (86, .v (.bool y237))], [], []⟩ : S)) ?_ ?_
     ·clear hm; have hm := KE q237
      obtain ⟨x238, q238, hm⟩ := Kf hm
      obtain ⟨x239, q239, hm⟩ := Kf hm
      refine bycB (x238.gOp != x239.gOp) (fun hs240 => ?_) (fun hs240 => ?_)
      ·replace hm := yes_t hs240 hm
       refine Kah 65 [] nlGm1_11 [0,2,3,5,7,8] Kfu (by kernel_rfl) (by kernel_rfl) (by kernel_rfl) (by rfl) (by rfl) (by kernel_rfl) ?_
       iterate 6 apply Exists.intro
       intro bs
       refine zep ?_
       refine zqp ?_
       refine z_e rfl rfl (Ex.wk (KH htab rfl rfl rfl rfl rfl rfl rfl (Kt q238) (KA q238)) (Wk.of_eq (congrArg D.el (Km x238)))) rfl rfl rfl rfl rfl rfl ?_
       refine zep ?_
       refine z_qM rfl rfl (Kz htab rfl rfl rfl rfl rfl) rfl rfl rfl rfl rfl rfl ?_
       refine zep ?_
       refine zqp ?_
       refine z_e rfl rfl (Ex.wk (KH htab rfl rfl rfl rfl rfl rfl rfl (Kt q239) (KA q239)) (Wk.of_eq (congrArg D.el (Km x239)))) rfl rfl rfl rfl rfl rfl ?_
       refine zep ?_
       refine z_qM rfl rfl (Kz htab rfl rfl rfl rfl rfl) rfl rfl rfl rfl rfl rfl ?_
       refine zqp ?_
       refine zqp ?_
       refine KY (j := 30) (b' := true) rfl hs240 ?_
       iterate 11 refine zK ?_
       refine z_q rfl rfl (Ka5 rfl rfl rfl) rfl rfl rfl rfl rfl rfl ?_
       refine zqp ?_
       iterate 11 refine zK ?_
       refine z_q rfl rfl (Ka5 rfl rfl rfl) rfl rfl rfl rfl rfl rfl ?_
       refine zqp ?_
       iterate 14 refine zK ?_
       refine z_q rfl rfl (Ka5 rfl rfl rfl) rfl rfl rfl rfl rfl rfl ?_
       refine zqp ?_
       iterate 11 refine zK ?_
       refine z_nil rfl rfl (fun e he => by simp [isAl] at he) ?_
       refine pK ?_
       refine pK ?_
       refine KP rfl rfl rfl rfl rfl rfl ?_
       refine KC ?_
       have e237 := Kn hm; subst e237
       refine ⟨rfl, ?_⟩
       exact WkX.of () (WkS.perm (WkS.cons rfl (Wk.refl _) (WkS.cons rfl (Wk.refl _) (WkS.cons rfl (Wk.refl _) (WkS.cons rfl (Wk.refl _) (WkS.cons rfl (Wk.refl _) (WkS.nil)))))) Pf Pf)
      ·replace hm := yes_f hs240 hm
       obtain ⟨x241, q241, hm⟩ := Kf hm
       obtain ⟨x242, q242, hm⟩ := Kf hm
       refine bycB (x241.gN != x242.gN) (fun hs243 => ?_) (fun hs243 => ?_)
       ·replace hm := yes_t hs243 hm
        refine Kah 65 [] nlGm1_13 [0,2,3,5,7,8,12,14,15,17,19,20] Kfu (by kernel_rfl) (by kernel_rfl) (by kernel_rfl) (by rfl) (by rfl) (by kernel_rfl) ?_
        iterate 12 apply Exists.intro
        intro bs
        refine zep ?_
        refine zqp ?_
        refine z_e rfl rfl (Ex.wk (KH htab rfl rfl rfl rfl rfl rfl rfl (Kt q238) (KA q238)) (Wk.of_eq (congrArg D.el (Km x238)))) rfl rfl rfl rfl rfl rfl ?_
        refine zep ?_
        refine z_qM rfl rfl (Kz htab rfl rfl rfl rfl rfl) rfl rfl rfl rfl rfl rfl ?_
        refine zep ?_
        refine zqp ?_
        refine z_e rfl rfl (Ex.wk (KH htab rfl rfl rfl rfl rfl rfl rfl (Kt q239) (KA q239)) (Wk.of_eq (congrArg D.el (Km x239)))) rfl rfl rfl rfl rfl rfl ?_
        refine zep ?_
        refine z_qM rfl rfl (Kz htab rfl rfl rfl rfl rfl) rfl rfl rfl rfl rfl rfl ?_
        refine zqp ?_
        refine zqp ?_
        refine KY (j := 30) (b' := false) rfl hs240 ?_
        refine zep ?_
        refine zqp ?_
        refine z_e rfl rfl (Ex.wk (KH htab rfl rfl rfl rfl rfl rfl rfl (Kt q241) (KA q241)) (Wk.of_eq (congrArg D.el (Km x241)))) rfl rfl rfl rfl rfl rfl ?_
        refine zep ?_
        refine z_qM rfl rfl (Kz htab rfl rfl rfl rfl rfl) rfl rfl rfl rfl rfl rfl ?_
        refine zep ?_
        refine zqp ?_
        refine z_e rfl rfl (Ex.wk (KH htab rfl rfl rfl rfl rfl rfl rfl (Kt q242) (KA q242)) (Wk.of_eq (congrArg D.el (Km x242)))) rfl rfl rfl rfl rfl rfl ?_
        refine zep ?_
        refine z_qM rfl rfl (Kz htab rfl rfl rfl rfl rfl) rfl rfl rfl rfl rfl rfl ?_
        refine zqp ?_
        refine z_q rfl rfl (Kak rfl rfl rfl) rfl rfl rfl rfl rfl rfl ?_
        refine zqp ?_
        refine KY (j := 43) (b' := true) rfl hs243 ?_
        iterate 11 refine zK ?_
        refine z_q rfl rfl (Ka5 rfl rfl rfl) rfl rfl rfl rfl rfl rfl ?_
        refine zqp ?_
        iterate 14 refine zK ?_
        refine z_q rfl rfl (Ka5 rfl rfl rfl) rfl rfl rfl rfl rfl rfl ?_
        refine zqp ?_
        iterate 11 refine zK ?_
        refine z_nil rfl rfl (fun e he => by simp [isAl] at he) ?_
        refine pK ?_
        refine pK ?_
        refine KP rfl rfl rfl rfl rfl rfl ?_
        refine KC ?_
        have e237 := Kn hm; subst e237
        refine ⟨rfl, ?_⟩
        exact WkX.of () (WkS.perm (WkS.cons rfl (Wk.refl _) (WkS.cons rfl (Wk.refl _) (WkS.cons rfl (Wk.refl _) (WkS.cons rfl (Wk.refl _) (WkS.cons rfl (Wk.refl _) (WkS.nil)))))) Pf Pf)
       ·replace hm := yes_f hs243 hm
        obtain ⟨x244, q244, hm⟩ := Kf hm
        obtain ⟨x245, q245, hm⟩ := Kf hm
        refine bycB (!decide (x244.gName = x245.gName)) (fun hs246 => ?_) (fun hs246 => ?_)
        ·replace hm := yes_t hs246 hm
         refine Kah 65 [] nlGm1_14 [0,2,3,5,7,8,12,14,15,17,19,20,25,27,28,30,32,33] Kfu (by kernel_rfl) (by kernel_rfl) (by kernel_rfl) (by rfl) (by rfl) (by kernel_rfl) ?_
         iterate 18 apply Exists.intro
         intro bs
         refine zep ?_
         refine zqp ?_
         refine z_e rfl rfl (Ex.wk (KH htab rfl rfl rfl rfl rfl rfl rfl (Kt q238) (KA q238)) (Wk.of_eq (congrArg D.el (Km x238)))) rfl rfl rfl rfl rfl rfl ?_
         refine zep ?_
         refine z_qM rfl rfl (Kz htab rfl rfl rfl rfl rfl) rfl rfl rfl rfl rfl rfl ?_
         refine zep ?_
         refine zqp ?_
         refine z_e rfl rfl (Ex.wk (KH htab rfl rfl rfl rfl rfl rfl rfl (Kt q239) (KA q239)) (Wk.of_eq (congrArg D.el (Km x239)))) rfl rfl rfl rfl rfl rfl ?_
         refine zep ?_
         refine z_qM rfl rfl (Kz htab rfl rfl rfl rfl rfl) rfl rfl rfl rfl rfl rfl ?_
         refine zqp ?_
         refine zqp ?_
         refine KY (j := 30) (b' := false) rfl hs240 ?_
         refine zep ?_
         refine zqp ?_
         refine z_e rfl rfl (Ex.wk (KH htab rfl rfl rfl rfl rfl rfl rfl (Kt q241) (KA q241)) (Wk.of_eq (congrArg D.el (Km x241)))) rfl rfl rfl rfl rfl rfl ?_
         refine zep ?_
         refine z_qM rfl rfl (Kz htab rfl rfl rfl rfl rfl) rfl rfl rfl rfl rfl rfl ?_
         refine zep ?_
         refine zqp ?_
         refine z_e rfl rfl (Ex.wk (KH htab rfl rfl rfl rfl rfl rfl rfl (Kt q242) (KA q242)) (Wk.of_eq (congrArg D.el (Km x242)))) rfl rfl rfl rfl rfl rfl ?_
         refine zep ?_
         refine z_qM rfl rfl (Kz htab rfl rfl rfl rfl rfl) rfl rfl rfl rfl rfl rfl ?_
         refine zqp ?_
         refine z_q rfl rfl (Kak rfl rfl rfl) rfl rfl rfl rfl rfl rfl ?_
         refine zqp ?_
         refine KY (j := 43) (b' := false) rfl hs243 ?_
         refine zep ?_
         refine zqp ?_
         refine z_e rfl rfl (Ex.wk (KH htab rfl rfl rfl rfl rfl rfl rfl (Kt q244) (KA q244)) (Wk.of_eq (congrArg D.el (Km x244)))) rfl rfl rfl rfl rfl rfl ?_
         refine zep ?_
         refine z_qM rfl rfl (Kz htab rfl rfl rfl rfl rfl) rfl rfl rfl rfl rfl rfl ?_
         refine zep ?_
         refine zqp ?_
         refine z_e rfl rfl (Ex.wk (KH htab rfl rfl rfl rfl rfl rfl rfl (Kt q245) (KA q245)) (Wk.of_eq (congrArg D.el (Km x245)))) rfl rfl rfl rfl rfl rfl ?_
         refine zep ?_
         refine z_qM rfl rfl (Kz htab rfl rfl rfl rfl rfl) rfl rfl rfl rfl rfl rfl ?_
         refine zqp ?_
         refine z_q rfl rfl (Kak rfl rfl rfl) rfl rfl rfl rfl rfl rfl ?_
         refine zqp ?_
         refine KY (j := 56) (b' := true) rfl hs246 ?_
         iterate 14 refine zK ?_
         refine z_q rfl rfl (Ka5 rfl rfl rfl) rfl rfl rfl rfl rfl rfl ?_
         refine zqp ?_
         iterate 11 refine zK ?_
         refine z_nil rfl rfl (fun e he => by simp [isAl] at he) ?_
         refine pK ?_
         refine pK ?_
         refine KP rfl rfl rfl rfl rfl rfl ?_
         refine KC ?_
         have e237 := Kn hm; subst e237
         refine ⟨rfl, ?_⟩
         exact WkX.of () (WkS.perm (WkS.cons rfl (Wk.refl _) (WkS.cons rfl (Wk.refl _) (WkS.cons rfl (Wk.refl _) (WkS.cons rfl (Wk.refl _) (WkS.cons rfl (Wk.refl _) (WkS.nil)))))) Pf Pf)
        ·replace hm := yes_f hs246 hm
         refine bycB a2 (fun hs247 => ?_) (fun hs247 => ?_)
         ·replace hm := yes_t hs247 hm
          obtain ⟨x248, q248, hm⟩ := Kf hm
          obtain ⟨x249, q249, hm⟩ := Kf hm
          refine bycB (x248.gAt != x249.gAt) (fun hs250 => ?_) (fun hs250 => ?_)
          ·replace hm := yes_t hs250 hm
           refine Kah 65 [] nlGm1_15 [0,2,3,5,7,8,12,14,15,17,19,20,25,27,28,30,32,33,40,42,43,45,47,48] Kfu (by kernel_rfl) (by kernel_rfl) (by kernel_rfl) (by rfl) (by rfl) (by kernel_rfl) ?_
           iterate 24 apply Exists.intro
           intro bs
           refine zep ?_
           refine zqp ?_
           refine z_e rfl rfl (Ex.wk (KH htab rfl rfl rfl rfl rfl rfl rfl (Kt q238) (KA q238)) (Wk.of_eq (congrArg D.el (Km x238)))) rfl rfl rfl rfl rfl rfl ?_
           refine zep ?_
           refine z_qM rfl rfl (Kz htab rfl rfl rfl rfl rfl) rfl rfl rfl rfl rfl rfl ?_
           refine zep ?_
           refine zqp ?_
           refine z_e rfl rfl (Ex.wk (KH htab rfl rfl rfl rfl rfl rfl rfl (Kt q239) (KA q239)) (Wk.of_eq (congrArg D.el (Km x239)))) rfl rfl rfl rfl rfl rfl ?_
           refine zep ?_
           refine z_qM rfl rfl (Kz htab rfl rfl rfl rfl rfl) rfl rfl rfl rfl rfl rfl ?_
           refine zqp ?_
           refine zqp ?_
           refine KY (j := 30) (b' := false) rfl hs240 ?_
           refine zep ?_
           refine zqp ?_
           refine z_e rfl rfl (Ex.wk (KH htab rfl rfl rfl rfl rfl rfl rfl (Kt q241) (KA q241)) (Wk.of_eq (congrArg D.el (Km x241)))) rfl rfl rfl rfl rfl rfl ?_
           refine zep ?_
           refine z_qM rfl rfl (Kz htab rfl rfl rfl rfl rfl) rfl rfl rfl rfl rfl rfl ?_
           refine zep ?_
           refine zqp ?_
           refine z_e rfl rfl (Ex.wk (KH htab rfl rfl rfl rfl rfl rfl rfl (Kt q242) (KA q242)) (Wk.of_eq (congrArg D.el (Km x242)))) rfl rfl rfl rfl rfl rfl ?_
           refine zep ?_
           refine z_qM rfl rfl (Kz htab rfl rfl rfl rfl rfl) rfl rfl rfl rfl rfl rfl ?_
           refine zqp ?_
           refine z_q rfl rfl (Kak rfl rfl rfl) rfl rfl rfl rfl rfl rfl ?_
           refine zqp ?_
           refine KY (j := 43) (b' := false) rfl hs243 ?_
           refine zep ?_
           refine zqp ?_
           refine z_e rfl rfl (Ex.wk (KH htab rfl rfl rfl rfl rfl rfl rfl (Kt q244) (KA q244)) (Wk.of_eq (congrArg D.el (Km x244)))) rfl rfl rfl rfl rfl rfl ?_
           refine zep ?_
           refine z_qM rfl rfl (Kz htab rfl rfl rfl rfl rfl) rfl rfl rfl rfl rfl rfl ?_
           refine zep ?_
           refine zqp ?_
           refine z_e rfl rfl (Ex.wk (KH htab rfl rfl rfl rfl rfl rfl rfl (Kt q245) (KA q245)) (Wk.of_eq (congrArg D.el (Km x245)))) rfl rfl rfl rfl rfl rfl ?_
           refine zep ?_
           refine z_qM rfl rfl (Kz htab rfl rfl rfl rfl rfl) rfl rfl rfl rfl rfl rfl ?_
           refine zqp ?_
           refine z_q rfl rfl (Kak rfl rfl rfl) rfl rfl rfl rfl rfl rfl ?_
           refine zqp ?_
           refine KY (j := 56) (b' := false) rfl hs246 ?_
           refine zqp ?_
           refine zqp ?_
           refine KY (j := 58) (b' := true) rfl hs247 ?_
           refine zep ?_
           refine zqp ?_
           refine z_e rfl rfl (Ex.wk (KH htab rfl rfl rfl rfl rfl rfl rfl (Kt q248) (KA q248)) (Wk.of_eq (congrArg D.el (Km x248)))) rfl rfl rfl rfl rfl rfl ?_
           refine zep ?_
           refine z_qM rfl rfl (Kz htab rfl rfl rfl rfl rfl) rfl rfl rfl rfl rfl rfl ?_
           refine zep ?_
           refine zqp ?_
           refine z_e rfl rfl (Ex.wk (KH htab rfl rfl rfl rfl rfl rfl rfl (Kt q249) (KA q249)) (Wk.of_eq (congrArg D.el (Km x249)))) rfl rfl rfl rfl rfl rfl ?_
           refine zep ?_
           refine z_qM rfl rfl (Kz htab rfl rfl rfl rfl rfl) rfl rfl rfl rfl rfl rfl ?_
           refine zqp ?_
           refine z_q rfl rfl (Ka5 rfl rfl rfl) rfl rfl rfl rfl rfl rfl ?_
           refine z_q rfl rfl (Kak rfl rfl rfl) rfl rfl rfl rfl rfl rfl ?_
           refine zqp ?_
           refine KY (j := 72) (b' := true) rfl hs250 ?_
           iterate 11 refine zK ?_
           refine z_nil rfl rfl (fun e he => by simp [isAl] at he) ?_
           refine pK ?_
           refine pK ?_
           refine KP rfl rfl rfl rfl rfl rfl ?_
           refine KC ?_
           have e237 := Kn hm; subst e237
           refine ⟨rfl, ?_⟩
           exact WkX.of () (WkS.perm (WkS.cons rfl (Wk.refl _) (WkS.cons rfl (Wk.refl _) (WkS.cons rfl (Wk.refl _) (WkS.cons rfl (Wk.refl _) (WkS.cons rfl (Wk.refl _) (WkS.nil)))))) Pf Pf)
          ·replace hm := yes_f hs250 hm
           obtain ⟨x251, q251, hm⟩ := Kf hm
           obtain ⟨x252, q252, hm⟩ := Kf hm
           refine Kah 65 [] nlGm1_16 [0,2,3,5,7,8,12,14,15,17,19,20,25,27,28,30,32,33,40,42,43,45,47,48,54,56,57,58,59,61,62,63] Kfu (by kernel_rfl) (by kernel_rfl) (by kernel_rfl) (by rfl) (by rfl) (by kernel_rfl) ?_
           iterate 32 apply Exists.intro
           intro bs
           refine zep ?_
           refine zqp ?_
           refine z_e rfl rfl (Ex.wk (KH htab rfl rfl rfl rfl rfl rfl rfl (Kt q238) (KA q238)) (Wk.of_eq (congrArg D.el (Km x238)))) rfl rfl rfl rfl rfl rfl ?_
           refine zep ?_
           refine z_qM rfl rfl (Kz htab rfl rfl rfl rfl rfl) rfl rfl rfl rfl rfl rfl ?_
           refine zep ?_
           refine zqp ?_
           refine z_e rfl rfl (Ex.wk (KH htab rfl rfl rfl rfl rfl rfl rfl (Kt q239) (KA q239)) (Wk.of_eq (congrArg D.el (Km x239)))) rfl rfl rfl rfl rfl rfl ?_
           refine zep ?_
           refine z_qM rfl rfl (Kz htab rfl rfl rfl rfl rfl) rfl rfl rfl rfl rfl rfl ?_
           refine zqp ?_
           refine zqp ?_
           refine KY (j := 30) (b' := false) rfl hs240 ?_
           refine zep ?_
           refine zqp ?_
           refine z_e rfl rfl (Ex.wk (KH htab rfl rfl rfl rfl rfl rfl rfl (Kt q241) (KA q241)) (Wk.of_eq (congrArg D.el (Km x241)))) rfl rfl rfl rfl rfl rfl ?_
           refine zep ?_
           refine z_qM rfl rfl (Kz htab rfl rfl rfl rfl rfl) rfl rfl rfl rfl rfl rfl ?_
           refine zep ?_
           refine zqp ?_
           refine z_e rfl rfl (Ex.wk (KH htab rfl rfl rfl rfl rfl rfl rfl (Kt q242) (KA q242)) (Wk.of_eq (congrArg D.el (Km x242)))) rfl rfl rfl rfl rfl rfl ?_
           refine zep ?_
           refine z_qM rfl rfl (Kz htab rfl rfl rfl rfl rfl) rfl rfl rfl rfl rfl rfl ?_
           refine zqp ?_
           refine z_q rfl rfl (Kak rfl rfl rfl) rfl rfl rfl rfl rfl rfl ?_
           refine zqp ?_
           refine KY (j := 43) (b' := false) rfl hs243 ?_
           refine zep ?_
           refine zqp ?_
           refine z_e rfl rfl (Ex.wk (KH htab rfl rfl rfl rfl rfl rfl rfl (Kt q244) (KA q244)) (Wk.of_eq (congrArg D.el (Km x244)))) rfl rfl rfl rfl rfl rfl ?_
           refine zep ?_
           refine z_qM rfl rfl (Kz htab rfl rfl rfl rfl rfl) rfl rfl rfl rfl rfl rfl ?_
           refine zep ?_
           refine zqp ?_
           refine z_e rfl rfl (Ex.wk (KH htab rfl rfl rfl rfl rfl rfl rfl (Kt q245) (KA q245)) (Wk.of_eq (congrArg D.el (Km x245)))) rfl rfl rfl rfl rfl rfl ?_
           refine zep ?_
           refine z_qM rfl rfl (Kz htab rfl rfl rfl rfl rfl) rfl rfl rfl rfl rfl rfl ?_
           refine zqp ?_
           refine z_q rfl rfl (Kak rfl rfl rfl) rfl rfl rfl rfl rfl rfl ?_
           refine zqp ?_
           refine KY (j := 56) (b' := false) rfl hs246 ?_
           refine zqp ?_
           refine zqp ?_
           refine KY (j := 58) (b' := true) rfl hs247 ?_
           refine zep ?_
           refine zqp ?_
           refine z_e rfl rfl (Ex.wk (KH htab rfl rfl rfl rfl rfl rfl rfl (Kt q248) (KA q248)) (Wk.of_eq (congrArg D.el (Km x248)))) rfl rfl rfl rfl rfl rfl ?_
           refine zep ?_
           refine z_qM rfl rfl (Kz htab rfl rfl rfl rfl rfl) rfl rfl rfl rfl rfl rfl ?_
           refine zep ?_
           refine zqp ?_
           refine z_e rfl rfl (Ex.wk (KH htab rfl rfl rfl rfl rfl rfl rfl (Kt q249) (KA q249)) (Wk.of_eq (congrArg D.el (Km x249)))) rfl rfl rfl rfl rfl rfl ?_
           refine zep ?_
           refine z_qM rfl rfl (Kz htab rfl rfl rfl rfl rfl) rfl rfl rfl rfl rfl rfl ?_
           refine zqp ?_
           refine z_q rfl rfl (Ka5 rfl rfl rfl) rfl rfl rfl rfl rfl rfl ?_
           refine z_q rfl rfl (Kak rfl rfl rfl) rfl rfl rfl rfl rfl rfl ?_
           refine zqp ?_
           refine KY (j := 72) (b' := false) rfl hs250 ?_
           refine zep ?_
           refine zqp ?_
           refine z_e rfl rfl (Ex.wk (KH htab rfl rfl rfl rfl rfl rfl rfl (Kt q251) (KA q251)) (Wk.of_eq (congrArg D.el (Km x251)))) rfl rfl rfl rfl rfl rfl ?_
           refine zep ?_
           refine z_eM rfl rfl (Kz htab rfl rfl rfl rfl rfl) rfl rfl rfl rfl rfl rfl ?_
           refine zep ?_
           refine zqp ?_
           refine z_e rfl rfl (Ex.wk (KH htab rfl rfl rfl rfl rfl rfl rfl (Kt q252) (KA q252)) (Wk.of_eq (congrArg D.el (Km x252)))) rfl rfl rfl rfl rfl rfl ?_
           refine zep ?_
           refine z_eM rfl rfl (Kz htab rfl rfl rfl rfl rfl) rfl rfl rfl rfl rfl rfl ?_
           refine zqp ?_
           refine z_nil rfl rfl (fun e he => by simp [isAl] at he) ?_
           obtain ⟨x253, q253, hm⟩ := Kf hm
           refine Kaw (hg0 x251.gKids x252.gKids a2 x253 q253) rfl rfl rfl rfl rfl Wl ?_
           rintro _ rfl
           refine pu ?_
           refine KL rfl rfl rfl rfl rfl rfl ?_
           refine KC ?_
           have e237 := Kn hm; subst e237
           refine ⟨rfl, ?_⟩
           exact WkX.of () (WkS.perm (WkS.cons rfl (Wk.refl _) (WkS.cons rfl (Wk.refl _) (WkS.cons rfl (Wk.refl _) (WkS.cons rfl (Wk.refl _) (WkS.cons rfl (Wk.refl _) (WkS.nil)))))) Pf Pf)
         ·replace hm := yes_f hs247 hm
          obtain ⟨x254, q254, hm⟩ := Kf hm
          obtain ⟨x255, q255, hm⟩ := Kf hm
          refine Kah 65 [] nlGm1_17 [0,2,3,5,7,8,12,14,15,17,19,20,25,27,28,30,32,33,54,56,57,58,59,61,62,63] Kfu (by kernel_rfl) (by kernel_rfl) (by kernel_rfl) (by rfl) (by rfl) (by kernel_rfl) ?_
          iterate 26 apply Exists.intro
          intro bs
          refine zep ?_
          refine zqp ?_
          refine z_e rfl rfl (Ex.wk (KH htab rfl rfl rfl rfl rfl rfl rfl (Kt q238) (KA q238)) (Wk.of_eq (congrArg D.el (Km x238)))) rfl rfl rfl rfl rfl rfl ?_
          refine zep ?_
          refine z_qM rfl rfl (Kz htab rfl rfl rfl rfl rfl) rfl rfl rfl rfl rfl rfl ?_
          refine zep ?_
          refine zqp ?_
          refine z_e rfl rfl (Ex.wk (KH htab rfl rfl rfl rfl rfl rfl rfl (Kt q239) (KA q239)) (Wk.of_eq (congrArg D.el (Km x239)))) rfl rfl rfl rfl rfl rfl ?_
          refine zep ?_
          refine z_qM rfl rfl (Kz htab rfl rfl rfl rfl rfl) rfl rfl rfl rfl rfl rfl ?_
          refine zqp ?_
          refine zqp ?_
          refine KY (j := 30) (b' := false) rfl hs240 ?_
          refine zep ?_
          refine zqp ?_
          refine z_e rfl rfl (Ex.wk (KH htab rfl rfl rfl rfl rfl rfl rfl (Kt q241) (KA q241)) (Wk.of_eq (congrArg D.el (Km x241)))) rfl rfl rfl rfl rfl rfl ?_
          refine zep ?_
          refine z_qM rfl rfl (Kz htab rfl rfl rfl rfl rfl) rfl rfl rfl rfl rfl rfl ?_
          refine zep ?_
          refine zqp ?_
          refine z_e rfl rfl (Ex.wk (KH htab rfl rfl rfl rfl rfl rfl rfl (Kt q242) (KA q242)) (Wk.of_eq (congrArg D.el (Km x242)))) rfl rfl rfl rfl rfl rfl ?_
          refine zep ?_
          refine z_qM rfl rfl (Kz htab rfl rfl rfl rfl rfl) rfl rfl rfl rfl rfl rfl ?_
          refine zqp ?_
          refine z_q rfl rfl (Kak rfl rfl rfl) rfl rfl rfl rfl rfl rfl ?_
          refine zqp ?_
          refine KY (j := 43) (b' := false) rfl hs243 ?_
          refine zep ?_
          refine zqp ?_
          refine z_e rfl rfl (Ex.wk (KH htab rfl rfl rfl rfl rfl rfl rfl (Kt q244) (KA q244)) (Wk.of_eq (congrArg D.el (Km x244)))) rfl rfl rfl rfl rfl rfl ?_
          refine zep ?_
          refine z_qM rfl rfl (Kz htab rfl rfl rfl rfl rfl) rfl rfl rfl rfl rfl rfl ?_
          refine zep ?_
          refine zqp ?_
          refine z_e rfl rfl (Ex.wk (KH htab rfl rfl rfl rfl rfl rfl rfl (Kt q245) (KA q245)) (Wk.of_eq (congrArg D.el (Km x245)))) rfl rfl rfl rfl rfl rfl ?_
          refine zep ?_
          refine z_qM rfl rfl (Kz htab rfl rfl rfl rfl rfl) rfl rfl rfl rfl rfl rfl ?_
          refine zqp ?_
          refine z_q rfl rfl (Kak rfl rfl rfl) rfl rfl rfl rfl rfl rfl ?_
          refine zqp ?_
          refine KY (j := 56) (b' := false) rfl hs246 ?_
          refine zqp ?_
          refine zqp ?_
          refine KY (j := 58) (b' := false) rfl hs247 ?_
          iterate 11 refine zK ?_
          refine z_q rfl rfl (Kak rfl rfl rfl) rfl rfl rfl rfl rfl rfl ?_
          refine z_q rfl rfl (Kak rfl rfl rfl) rfl rfl rfl rfl rfl rfl ?_
          refine zqp ?_
          refine zep ?_
          refine zqp ?_
          refine z_e rfl rfl (Ex.wk (KH htab rfl rfl rfl rfl rfl rfl rfl (Kt q254) (KA q254)) (Wk.of_eq (congrArg D.el (Km x254)))) rfl rfl rfl rfl rfl rfl ?_
          refine zep ?_
          refine z_eM rfl rfl (Kz htab rfl rfl rfl rfl rfl) rfl rfl rfl rfl rfl rfl ?_
          refine zep ?_
          refine zqp ?_
          refine z_e rfl rfl (Ex.wk (KH htab rfl rfl rfl rfl rfl rfl rfl (Kt q255) (KA q255)) (Wk.of_eq (congrArg D.el (Km x255)))) rfl rfl rfl rfl rfl rfl ?_
          refine zep ?_
          refine z_eM rfl rfl (Kz htab rfl rfl rfl rfl rfl) rfl rfl rfl rfl rfl rfl ?_
          refine zqp ?_
          refine z_nil rfl rfl (fun e he => by simp [isAl] at he) ?_
          obtain ⟨x256, q256, hm⟩ := Kf hm
          refine Kaw (hg0 x254.gKids x255.gKids a2 x256 q256) rfl rfl rfl rfl rfl Wl ?_
          rintro _ rfl
          refine pu ?_
          refine KL rfl rfl rfl rfl rfl rfl ?_
          refine KC ?_
          have e237 := Kn hm; subst e237
          refine ⟨rfl, ?_⟩
          exact WkX.of () (WkS.perm (WkS.cons rfl (Wk.refl _) (WkS.cons rfl (Wk.refl _) (WkS.cons rfl (Wk.refl _) (WkS.cons rfl (Wk.refl _) (WkS.cons rfl (Wk.refl _) (WkS.nil)))))) Pf Pf)
     ·intro s237 hw237; clear hm; have hm := ho237; clear q237 ho237
      refine Ki ?_
      refine KZ hw237 (fun z237 => ?_)
      refine Ku rfl (fun hc257 => ?_) (fun hc257 => ?_)
      ·replace hm := yes_t hc257 hm
       refine Kj ?_
       refine pu ?_
       refine Kh ?_
       refine Ks ?_
       refine KR ?_
       refine Kx ?_
       have e132 := Kac hm; subst e132; clear hm; have hm := hq132
       refine Kx ?_
       refine KR ?_
       have e131 := Kn hm; subst e131; refine Kbi ?_; clear hm; have hm := ho131; simp only [Sum.elim_inr] at hm
       refine Kx ?_
       have er258 := Kn hm; subst er258
       refine rP (t' := [(6, .v (.bool false))]) [] [] 0 (wC wN) (lT lN) ?_
       exact ⟨rfl, rfl, rfl⟩
      ·replace hm := yes_f hc257 hm
       refine Kv ?_
       refine KF ?_
       refine Ki ?_
       refine KD ?_
       iterate 3 refine pu ?_
       refine KC ?_
       refine Ki ⟨_, KaA hm, ?_⟩
       exact WkX.of () (WkS.perm (WkS.cons rfl (Wk.refl _) (WkS.cons rfl (Wk.refl _) (WkS.cons rfl (Wk.refl _) (WkS.cons rfl (Wk.refl _) (WkS.nil))))) Pf Pf)
    ·replace hm := yes_f hc217 hm
     refine Kan ?_
     refine KJ ?_
     have e132 := Kac hm; subst e132; clear hm; have hm := hq132
     refine KJ ?_
     refine Kae ?_
     have e131 := Kn hm; subst e131
     refine Kb1 ?_
     exact WkX.of () (WkS.perm (WkS.nil) Pf Pf)
  ·intro y131 s131 hx131 hw131; subst hx131; clear hm; have hm := ho131; simp only [Sum.elim_inl] at hm; clear q131 ho131
   refine Ki ?_
   refine KZ hw131 (fun z131 => ?_)
   refine Kj ?_
   refine pu ?_
   refine Kh ?_
   refine Ks ?_
   have er259 := Kn hm; subst er259
   refine rP (t' := [(6, .v (.bool true))]) [] [] 0 (wC wN) (lT lN) ?_
   exact ⟨rfl, rfl, rfl⟩
noncomputable def Kcq : Nat → ((List Ka) → (List Ka) → (Bool) → Option (Bool))
 | 0 => (fun _ _ _ => none)
 | n + 1 => (Kdj ((Kcq n)))
theorem Kie : ∀ n, (∀ (a0 : List Ka) (a1 : List Ka) (a2 : Bool) (r : Bool) (h0 : (Kcq n) a0 a1 a2 = some r), CallsD Try.prog 39 [.lst 5 (a0.map Kg) .no, .lst 5 (a1.map Kg) .no, .v (.bool a2)] [] [] (fun d h k => d = .v (.bool r) ∧ h = [] ∧ k = []))
  | 0 => fun _ _ _ _ h0 => by cases h0
  | n + 1 => by
    have ih := Kie n
    exact Kky (Kcq n) ih
theorem Kif : ∀ n, (∀ (a0 : List Ka) (a1 : List Ka) (a2 : Bool), Le ((Kcq n) a0 a1 a2) ((Kcq (n + 1)) a0 a1 a2))
  | 0 => fun _ _ _ => Le.none _
  | n + 1 => by
    have ih := Kif n
    exact fun a0 a1 a2 => by show Le (Kdj ((Kcq n)) a0 a1 a2) (Kdj ((Kcq (n + 1))) a0 a1 a2); unfold Kdj; repeat (first | exact Le.refl _ | exact ih _ _ _ | assumption | (refine Le.bind ?_ (fun _ => ?_)) | (refine Le.cond ?_ ?_) | (refine Le.loop (fun _ => ?_)) | (refine Le.elim (fun _ => ?_) (fun _ => ?_)))
noncomputable def KgA (a0 : List Ka) (a1 : List Ka) (a2 : Bool) : Option (Bool) := anyN fun n => (Kcq n) a0 a1 a2
theorem Kk0 (a0 : List Ka) (a1 : List Ka) (a2 : Bool) {r : Bool} (n : Nat) (h : (Kcq n) a0 a1 a2 = some r) : KgA a0 a1 a2 = some r := Kc9 (fun m => (Kif m) a0 a1 a2) h
theorem Kd3 (a0 : List Ka) (a1 : List Ka) (a2 : Bool) (r : Bool) (h0 : KgA a0 a1 a2 = some r) : CallsD Try.prog 39 [.lst 5 (a0.map Kg) .no, .lst 5 (a1.map Kg) .no, .v (.bool a2)] [] [] (fun d h k => d = .v (.bool r) ∧ h = [] ∧ k = []) :=
 let ⟨n, hn⟩ := KcI h0; (Kie n) a0 a1 a2  r hn
end Go.Proofs.Ytmgklehakmdiiaa.Ab
