/- The texts that grammarFuncs_holds leans on, part 4. -/
import Derived.Test.YtmgklehakmdiiaaGe3
set_option maxRecDepth 100000
set_option maxHeartbeats 2000000
namespace Go.Proofs.Ytmgklehakmdiiaa.Ab
open Go
set_option linter.all false
noncomputable def Kbh (m0 : Ke) (a1 : Kl) : Option (Kl × Ke) :=
 ((KaC m0 (1 : Int) (ByteArray.mk #[40])).bind fun x3 => (bif x3 then ((KaQ m0 a1).bind fun x7 => some (x7.1, x7.2)) else ((KaF m0).bind fun x9 => ((K2 x9.2 (ByteArray.mk #[91])).bind fun x10 => (bif x10.1 then ((K9 x10.2).bind fun x18 => ((KO x18.2 ([(ByteArray.mk #[93]), (ByteArray.mk #[61])] : List ByteArray)).bind fun x20 => ((K9 x20).bind fun x21 => ((KO x21.2 ([(ByteArray.mk #[59])] : List ByteArray)).bind fun x22 => some ((⟨(2 : Int), x9.1, a1.gFunc, ([x18.1, x21.1] : List Ka), a1.gKids, a1.gElse, a1.gAt⟩ : Kl), x22))))) else ((KO x10.2 ([(ByteArray.mk #[61])] : List ByteArray)).bind fun x24 => ((KaO x24 (⟨a1.gOp, x9.1, a1.gFunc, a1.gExps, a1.gKids, a1.gElse, a1.gAt⟩ : Kl)).bind fun x25 => some (x25.1, x25.2))))))))
theorem KgO (m0 : Ke) (a1 : Kl) (o0 : Nat) (T0 : TypeId) (c0_0 : Cap) (r : Kl × Ke) (h0 : Kbh m0 a1 = some r) : CallsD Try.prog 70 [.ptr o0 0, Kk a1] [(o0, Blk.cells [.lst 4 (m0.gL.map Kc) c0_0, iD m0.gAt, iD m0.gE, iD m0.gVars, iD m0.gOpen] T0)] [] (fun d h k => d = Kk r.1 ∧ h = [(o0, Blk.cells [.lst 4 (r.2.gL.map Kc) .no, iD r.2.gAt, iD r.2.gE, iD r.2.gVars, iD r.2.gOpen] T0)] ∧ k = []) := by
 have hm := KE h0
 unfold Kbh at hm
 clear h0
 refine KU htab Try.func70 rfl rfl rfl rfl rfl (fun C => ?_)
 refine w_eq (i := 1) rfl (Wk.of_eq (Kp a1)) ?_
 refine Kj ?_
 refine p_box rfl rfl rfl rfl rfl rfl rfl (fun b1 => ?_)
 refine KW htab rfl rfl rfl rfl rfl rfl rfl (fun b2 => ?_)
 refine Kh ?_
 refine Kr ?_
 refine Kj ?_
 refine pu ?_
 obtain ⟨x3, q3, hm⟩ := Kf hm
 refine pG (Kck m0 (1 : Int) (ByteArray.mk #[40]) o0 T0 c0_0 x3 q3) Wl Pf Pf ?_
 rintro _ _ _ ⟨rfl, rfl, rfl⟩
 refine Kh ?_
 refine Ku rfl (fun hc6 => ?_) (fun hc6 => ?_)
 ·replace hm := yes_t hc6 hm
  refine Kj ?_
  refine pu ?_
  refine K8 (d := .agg [iD a1.gOp, tD a1.gName, tD a1.gFunc, .lst 5 (a1.gExps.map Kg) .no, .lst 7 (a1.gKids.map Kk) .no, .lst 7 (a1.gElse.map Kk) .no, iD a1.gAt]) 1 htab rfl rfl rfl rfl rfl rfl rfl rfl ?_
  obtain ⟨x7, q7, hm⟩ := Kf hm
  refine Kas (KeD m0 a1 o0 T0 c0_0 x7 q7) rfl rfl rfl rfl rfl (WkL.cons (Wk.refl _) (WkL.cons (Wk.trans (Wk.agg (WkR.refl _)) (Wk.of_eq (Kp a1).symm)) Wl)) Pf Pf ?_
  rintro _ _ _ ⟨rfl, rfl, rfl⟩
  refine p_eq (i := 10) rfl (Wk.of_eq (Kp x7.1)) ?_
  refine pS2 (ds' := [iD x7.1.gOp, tD x7.1.gName, tD x7.1.gFunc, .lst 5 (x7.1.gExps.map Kg) .no, .lst 7 (x7.1.gKids.map Kk) .no, .lst 7 (x7.1.gElse.map Kk) .no, iD x7.1.gAt]) ?_
  refine Kh ?_
  refine Ks ?_
  refine Kx ?_
  have er8 := Kn hm; subst er8
  refine rP (t' := [(4, .ptr b2 0)]) [0,1] [] 1 (wC wN) (lC 1 lN) ?_
  exact ⟨by first | rfl | (simp only [wrapD, Kp]; done) | (simp only [wrapD, Kp]; rfl), rfl, rfl⟩
 ·replace hm := yes_f hc6 hm
  refine Kv ?_
  refine Ki ?_
  refine Kj ?_
  refine pu ?_
  obtain ⟨x9, q9, hm⟩ := Kf hm
  refine pG (KbX m0 o0 T0 c0_0 x9 q9) Wl Pf Pf ?_
  rintro _ _ _ ⟨rfl, rfl, rfl⟩
  refine pu ?_
  refine pS1 (ds' := [iD a1.gOp, tD x9.1, tD a1.gFunc, .lst 5 (a1.gExps.map Kg) .no, .lst 7 (a1.gKids.map Kk) .no, .lst 7 (a1.gElse.map Kk) .no, iD a1.gAt]) ?_
  refine Kh ?_
  refine Kr ?_
  refine Kj ?_
  refine pu ?_
  obtain ⟨x10, q10, hm⟩ := Kf hm
  refine pG (Kap x9.2 (ByteArray.mk #[91]) o0 T0 c0_0 x10 q10) Wl Pf Pf ?_
  rintro _ _ _ ⟨rfl, rfl, rfl⟩
  refine Kh ?_
  refine Ku rfl (fun hc17 => ?_) (fun hc17 => ?_)
  ·replace hm := yes_t hc17 hm
   refine Kj ?_
   refine pu ?_
   refine pS1 (ds' := [iD (2 : Int), tD x9.1, tD a1.gFunc, .lst 5 (a1.gExps.map Kg) .no, .lst 7 (a1.gKids.map Kk) .no, .lst 7 (a1.gElse.map Kk) .no, iD a1.gAt]) ?_
   refine Ky ?_
   refine pu ?_
   obtain ⟨x18, q18, hm⟩ := Kf hm
   refine pG (Kbk x10.2 o0 T0 c0_0 x18 q18) Wl Pf Pf ?_
   rintro _ _ _ ⟨rfl, rfl, rfl⟩
   refine p_eq (i := 18) rfl (Wk.of_eq (Km x18.1)) ?_
   refine KW htab rfl rfl rfl rfl rfl rfl rfl (fun b19 => ?_)
   refine pS3 (ds' := [iD x18.1.gOp, iD x18.1.gN, tD x18.1.gName, .lst 5 (x18.1.gKids.map Kg) .no, iD x18.1.gAt]) ?_
   refine Ky ?_
   refine pu ?_
   refine p_lit htab rfl rfl rfl rfl rfl rfl rfl rfl rfl rfl rfl rfl rfl rfl ?_
   refine p_eq (i := 20) (d' := .lst 1 (([(ByteArray.mk #[93]), (ByteArray.mk #[61])] : List ByteArray).map eStr) .full) rfl (Wk.lst0 (.cons (WkC.refl _) (.cons (WkC.refl _) (.nil)))) ?_
   obtain ⟨x20, q20, hm⟩ := Kf hm
   refine Kas (K6 x18.2 ([(ByteArray.mk #[93]), (ByteArray.mk #[61])] : List ByteArray) o0 T0 c0_0 x20 q20) rfl rfl rfl rfl rfl (WkL.cons (Wk.refl _) (WkL.cons (Wk.no) Wl)) Pf Pf ?_
   rintro _ _ _ ⟨rfl, rfl, rfl⟩
   refine Kh ?_
   refine Kr ?_
   obtain ⟨x21, q21, hm⟩ := Kf hm
   refine KdP (X := BK) 3 [] [[],[],[1]] [0,1,2] [[],[],[1],[0,1,2],[0,1,2,3],[0,1,2,3,4]] ⟨2, fun x => x.1 ++ [(b1, Blk.cells [iD (2 : Int), tD x9.1, tD a1.gFunc, .lst 5 (a1.gExps.map Kg) .no, .lst 7 (a1.gKids.map Kk) .no, .lst 7 (a1.gElse.map Kk) .no, iD a1.gAt] 58), (b2, Blk.cells [iD (0 : Int), tD ByteArray.empty, tD ByteArray.empty, .lst 1 [] .full, .lst 1 [] .full, .lst 1 [] .full, iD (0 : Int)] 58), (b19, Blk.cells [iD x18.1.gOp, iD x18.1.gN, tD x18.1.gName, .lst 5 (x18.1.gKids.map Kg) .no, iD x18.1.gAt] 100)], fun x => x.2 ++ [], fun x => x.1 = [(o0, Blk.cells [.lst 4 (x21.2.gL.map Kc) c0_0, iD x21.2.gAt, iD x21.2.gE, iD x21.2.gVars, iD x21.2.gOpen] T0)] ∧ x.2 = []⟩ ([], []) (by kernel_rfl) (by kernel_rfl) (by kernel_rfl) (by rfl) (by rfl) (by kernel_rfl) ?_
   iterate 3 apply Exists.intro
   intro bs
   refine zx_M rfl rfl (fun _ => KM (d := .agg [iD x18.1.gOp, iD x18.1.gN, tD x18.1.gName, .lst 5 (x18.1.gKids.map Kg) .no, iD x18.1.gAt]) 3 htab rfl rfl rfl rfl rfl) (fun _ ⟨x1, x2⟩ ⟨e1, e2⟩ => by cases e1; cases e2; exact KM (d := .agg [iD x18.1.gOp, iD x18.1.gN, tD x18.1.gName, .lst 5 (x18.1.gKids.map Kg) .no, iD x18.1.gAt]) 3 htab rfl rfl rfl rfl rfl) rfl rfl rfl rfl rfl rfl rfl rfl ?_
   refine zx_e rfl rfl (K3 htab rfl) rfl rfl rfl rfl rfl rfl rfl rfl ?_
   refine KeN (h1 := [(o0, Blk.cells [.lst 4 (x20.gL.map Kc) c0_0, iD x20.gAt, iD x20.gE, iD x20.gVars, iD x20.gOpen] T0)]) (k1 := []) (d := .agg [iD x21.1.gOp, iD x21.1.gN, tD x21.1.gName, .lst 5 (x21.1.gKids.map Kg) .no, iD x21.1.gAt]) rfl rfl rfl (Kbk x20 o0 T0 c0_0 x21 q21) rfl rfl Wl Pf Pf (fun _ => rfl) (fun _ => rfl) (fun d' h' k' ⟨e1, e2, e3⟩ => ⟨⟨e2, e3⟩, by subst e1; exact Wk.of_eq (Km x21.1)⟩) rfl rfl rfl rfl rfl rfl ?_
   refine Kfq (h2 := [(b1, Blk.cells [iD (2 : Int), tD x9.1, tD a1.gFunc, .lst 5 (a1.gExps.map Kg) .no, .lst 7 (a1.gKids.map Kk) .no, .lst 7 (a1.gElse.map Kk) .no, iD a1.gAt] 58), (b2, Blk.cells [iD (0 : Int), tD ByteArray.empty, tD ByteArray.empty, .lst 1 [] .full, .lst 1 [] .full, .lst 1 [] .full, iD (0 : Int)] 58), (b19, Blk.cells [iD x18.1.gOp, iD x18.1.gN, tD x18.1.gName, .lst 5 (x18.1.gKids.map Kg) .no, iD x18.1.gAt] 100)]) (hz := [(b1, Blk.cells [iD (2 : Int), tD x9.1, tD a1.gFunc, .lst 5 (a1.gExps.map Kg) .no, .lst 7 (a1.gKids.map Kk) .no, .lst 7 (a1.gElse.map Kk) .no, iD a1.gAt] 58), (b2, Blk.cells [iD (0 : Int), tD ByteArray.empty, tD ByteArray.empty, .lst 1 [] .full, .lst 1 [] .full, .lst 1 [] .full, iD (0 : Int)] 58), (b19, Blk.cells [iD x18.1.gOp, iD x18.1.gN, tD x18.1.gName, .lst 5 (x18.1.gKids.map Kg) .no, iD x18.1.gAt] 100)]) rfl rfl (fun _ => rfl) (fun _ => rfl) rfl (fun e he => by simp [isAl] at he) ?_
   rintro _ _ ⟨rfl, rfl⟩
   refine p_lit htab rfl rfl rfl rfl rfl rfl rfl rfl rfl rfl rfl rfl rfl rfl ?_
   refine p_eq (i := 25) (d' := .lst 5 (([x18.1, x21.1] : List Ka).map Kg) .full) rfl (Wk.lst0 (.cons (WkC.trans (WkC.agg (WkR.refl _)) (WkC.of_eq (Km x18.1).symm)) (.cons (WkC.trans (WkC.agg (WkR.refl _)) (WkC.of_eq (Km x21.1).symm)) (.nil)))) ?_
   refine pu ?_
   refine pS1 (ds' := [iD (2 : Int), tD x9.1, tD a1.gFunc, .lst 5 (([x18.1, x21.1] : List Ka).map Kg) .full, .lst 7 (a1.gKids.map Kk) .no, .lst 7 (a1.gElse.map Kk) .no, iD a1.gAt]) ?_
   refine Ky ?_
   refine pu ?_
   refine p_lit htab rfl rfl rfl rfl rfl rfl rfl rfl rfl rfl rfl rfl rfl rfl ?_
   refine p_eq (i := 28) (d' := .lst 1 (([(ByteArray.mk #[59])] : List ByteArray).map eStr) .full) rfl (Wk.lst0 (.cons (WkC.refl _) (.nil))) ?_
   obtain ⟨x22, q22, hm⟩ := Kf hm
   refine Kas (K6 x21.2 ([(ByteArray.mk #[59])] : List ByteArray) o0 T0 c0_0 x22 q22) rfl rfl rfl rfl rfl (WkL.cons (Wk.refl _) (WkL.cons (Wk.no) Wl)) Pf Pf ?_
   rintro _ _ _ ⟨rfl, rfl, rfl⟩
   refine Ky ?_
   refine K8 (d := .agg [iD (2 : Int), tD x9.1, tD a1.gFunc, .lst 5 (([x18.1, x21.1] : List Ka).map Kg) .full, .lst 7 (a1.gKids.map Kk) .no, .lst 7 (a1.gElse.map Kk) .no, iD a1.gAt]) 1 htab rfl rfl rfl rfl rfl rfl rfl rfl ?_
   refine pS2 (ds' := [iD (2 : Int), tD x9.1, tD a1.gFunc, .lst 5 (([x18.1, x21.1] : List Ka).map Kg) .full, .lst 7 (a1.gKids.map Kk) .no, .lst 7 (a1.gElse.map Kk) .no, iD a1.gAt]) ?_
   refine Kh ?_
   refine Ks ?_
   refine Kx ?_
   have er23 := Kn hm; subst er23
   refine retX.wk (WkS.bl2 (ds' := [iD (2 : Int), tD x9.1, tD a1.gFunc, .lst 5 (([x18.1, x21.1] : List Ka).map Kg) .no, .lst 7 (a1.gKids.map Kk) .no, .lst 7 (a1.gElse.map Kk) .no, iD a1.gAt]) (rC (rC (rC (rO (rC (rC (rC WkR.nil)))))))) ?_
   refine retX.wk (WkS.bl0 (ds' := [.lst 4 (x22.gL.map Kc) .no, iD x22.gAt, iD x22.gE, iD x22.gVars, iD x22.gOpen]) (rO (rC (rC (rC (rC WkR.nil)))))) ?_
   refine rP (t' := [(4, .ptr b2 0)]) [0,1] [] 1 (wC wN) (lC 1 lN) ?_
   exact ⟨by first | rfl | (simp only [wrapD, Kp]; done) | (simp only [wrapD, Kp]; rfl), rfl, rfl⟩
  ·replace hm := yes_f hc17 hm
   refine Kv ?_
   refine Ki ?_
   refine Kj ?_
   refine pu ?_
   refine p_lit htab rfl rfl rfl rfl rfl rfl rfl rfl rfl rfl rfl rfl rfl rfl ?_
   refine p_eq (i := 32) (d' := .lst 1 (([(ByteArray.mk #[61])] : List ByteArray).map eStr) .full) rfl (Wk.lst0 (.cons (WkC.refl _) (.nil))) ?_
   obtain ⟨x24, q24, hm⟩ := Kf hm
   refine Kas (K6 x10.2 ([(ByteArray.mk #[61])] : List ByteArray) o0 T0 c0_0 x24 q24) rfl rfl rfl rfl rfl (WkL.cons (Wk.refl _) (WkL.cons (Wk.no) Wl)) Pf Pf ?_
   rintro _ _ _ ⟨rfl, rfl, rfl⟩
   refine Ky ?_
   refine pu ?_
   refine K8 (d := .agg [iD a1.gOp, tD x9.1, tD a1.gFunc, .lst 5 (a1.gExps.map Kg) .no, .lst 7 (a1.gKids.map Kk) .no, .lst 7 (a1.gElse.map Kk) .no, iD a1.gAt]) 1 htab rfl rfl rfl rfl rfl rfl rfl rfl ?_
   obtain ⟨x25, q25, hm⟩ := Kf hm
   refine Kas (Kgw x24 (⟨a1.gOp, x9.1, a1.gFunc, a1.gExps, a1.gKids, a1.gElse, a1.gAt⟩ : Kl) o0 T0 c0_0 x25 q25) rfl rfl rfl rfl rfl (WkL.cons (Wk.refl _) (WkL.cons (Wk.trans (Wk.agg (WkR.refl _)) (Wk.of_eq (Kp (⟨a1.gOp, x9.1, a1.gFunc, a1.gExps, a1.gKids, a1.gElse, a1.gAt⟩ : Kl)).symm)) Wl)) Pf Pf ?_
   rintro _ _ _ ⟨rfl, rfl, rfl⟩
   refine p_eq (i := 36) rfl (Wk.of_eq (Kp x25.1)) ?_
   refine pS2 (ds' := [iD x25.1.gOp, tD x25.1.gName, tD x25.1.gFunc, .lst 5 (x25.1.gExps.map Kg) .no, .lst 7 (x25.1.gKids.map Kk) .no, .lst 7 (x25.1.gElse.map Kk) .no, iD x25.1.gAt]) ?_
   refine Kh ?_
   refine Ks ?_
   have er26 := Kn hm; subst er26
   refine rP (t' := [(4, .ptr b2 0)]) [0,1] [] 1 (wC wN) (lC 1 lN) ?_
   exact ⟨by first | rfl | (simp only [wrapD, Kp]; done) | (simp only [wrapD, Kp]; rfl), rfl, rfl⟩
noncomputable def Kbc (m0 : Ke) : Option (List Ka × Ke) :=
 ((KO m0 ([(ByteArray.mk #[40])] : List ByteArray)).bind fun x1 => ((K9 x1).bind fun x2 => ((KO x2.2 ([(ByteArray.mk #[41])] : List ByteArray)).bind fun x4 => some (([x2.1] : List Ka), x4))))
theorem Kdq (m0 : Ke) (o0 : Nat) (T0 : TypeId) (c0_0 : Cap) (r : List Ka × Ke) (h0 : Kbc m0 = some r) : CallsD Try.prog 72 [.ptr o0 0] [(o0, Blk.cells [.lst 4 (m0.gL.map Kc) c0_0, iD m0.gAt, iD m0.gE, iD m0.gVars, iD m0.gOpen] T0)] [] (fun d h k => ∃ y0, d = .lst 5 (r.1.map Kg) (.cur y0) ∧ h = [(o0, Blk.cells [.lst 4 (r.2.gL.map Kc) c0_0, iD r.2.gAt, iD r.2.gE, iD r.2.gVars, iD r.2.gOpen] T0)] ∧ k = [(5, y0)]) := by
 have hm := KE h0
 unfold Kbc at hm
 clear h0
 refine KU htab Try.func72 rfl rfl rfl rfl rfl (fun C => ?_)
 refine Kj ?_
 refine pu ?_
 refine Ky ?_
 refine pu ?_
 refine p_lit htab rfl rfl rfl rfl rfl rfl rfl rfl rfl rfl rfl rfl rfl rfl ?_
 refine p_eq (i := 5) (d' := .lst 1 (([(ByteArray.mk #[40])] : List ByteArray).map eStr) .full) rfl (Wk.lst0 (.cons (WkC.refl _) (.nil))) ?_
 obtain ⟨x1, q1, hm⟩ := Kf hm
 refine Kas (K6 m0 ([(ByteArray.mk #[40])] : List ByteArray) o0 T0 c0_0 x1 q1) rfl rfl rfl rfl rfl (WkL.cons (Wk.refl _) (WkL.cons (Wk.no) Wl)) Pf Pf ?_
 rintro _ _ _ ⟨rfl, rfl, rfl⟩
 refine Ky ?_
 refine pu ?_
 obtain ⟨x2, q2, hm⟩ := Kf hm
 refine pG (Kbk x1 o0 T0 c0_0 x2 q2) Wl Pf Pf ?_
 rintro _ _ _ ⟨rfl, rfl, rfl⟩
 refine p_eq (i := 8) rfl (Wk.of_eq (Km x2.1)) ?_
 refine KW htab rfl rfl rfl rfl rfl rfl rfl (fun b3 => ?_)
 refine pS1 (ds' := [iD x2.1.gOp, iD x2.1.gN, tD x2.1.gName, .lst 5 (x2.1.gKids.map Kg) .no, iD x2.1.gAt]) ?_
 refine Ky ?_
 refine pu ?_
 refine p_lit htab rfl rfl rfl rfl rfl rfl rfl rfl rfl rfl rfl rfl rfl rfl ?_
 refine p_eq (i := 10) (d' := .lst 1 (([(ByteArray.mk #[41])] : List ByteArray).map eStr) .full) rfl (Wk.lst0 (.cons (WkC.refl _) (.nil))) ?_
 obtain ⟨x4, q4, hm⟩ := Kf hm
 refine Kas (K6 x2.2 ([(ByteArray.mk #[41])] : List ByteArray) o0 T0 c0_0 x4 q4) rfl rfl rfl rfl rfl (WkL.cons (Wk.refl _) (WkL.cons (Wk.no) Wl)) Pf Pf ?_
 rintro _ _ _ ⟨rfl, rfl, rfl⟩
 refine Ky ?_
 refine K8 (d := .agg [iD x2.1.gOp, iD x2.1.gN, tD x2.1.gName, .lst 5 (x2.1.gKids.map Kg) .no, iD x2.1.gAt]) 1 htab rfl rfl rfl rfl rfl rfl rfl rfl ?_
 refine p_lit htab rfl rfl rfl rfl rfl rfl rfl rfl rfl rfl rfl rfl rfl rfl ?_
 refine p_eq (i := 13) (d' := .lst 5 (([x2.1] : List Ka).map Kg) .full) rfl (Wk.lst0 (.cons (WkC.trans (WkC.agg (WkR.refl _)) (WkC.of_eq (Km x2.1).symm)) (.nil))) ?_
 refine pu ?_
 refine Kh ?_
 refine Ks ?_
 have er5 := Kn hm; subst er5
 refine retX.tokF (i := 2) rfl (fun w6 => ?_)
 refine rP (t' := [(2, .lst 5 (([x2.1] : List Ka).map Kg) (.cur w6))]) [0] [0] 1 (wC wN) (lT lN) ?_
 exact ⟨w6, rfl, rfl, rfl⟩
noncomputable def grammar_nothing : Option (Unit) :=
 some ()
theorem Kis  (r : Unit) (h0 : grammar_nothing = some r) : CallsD Try.prog 73 [] [] [] (fun d h k => d = .tup [] ∧ h = [] ∧ k = []) := by
 have hm := KE h0
 unfold grammar_nothing at hm
 clear h0
 refine KU htab Try.func73 rfl rfl rfl rfl rfl (fun C => ?_)
 refine Kv ?_
 have er1 := Kn hm; subst er1
 refine rP (t' := []) [] [] 0 wN lN ?_
 exact ⟨rfl, rfl, rfl⟩
noncomputable def KaB (g0 : (Ke) → Option (Kl × Ke)) (g1 : (Ke) → Option (List Kl × Ke)) (m0 : Ke) : Option (Kl × Ke) :=
 ((KaE m0 (0 : Int)).bind fun x2 => (bif (x2.gKind == (1 : Int)) then ((Kbh m0 (⟨(0 : Int), ByteArray.empty, ByteArray.empty, [], [], [], x2.gAt⟩ : Kl)).bind fun x6 => some (x6.1, x6.2)) else ((K2 m0 (ByteArray.mk #[42])).bind fun x8 => (bif x8.1 then ((KaF x8.2).bind fun x10 => ((KO x10.2 ([(ByteArray.mk #[61])] : List ByteArray)).bind fun x11 => ((K9 x11).bind fun x12 => ((KO x12.2 ([(ByteArray.mk #[59])] : List ByteArray)).bind fun x13 => some ((⟨(3 : Int), x10.1, ByteArray.empty, ([x12.1] : List Ka), [], [], x2.gAt⟩ : Kl), x13))))) else ((K2 x8.2 (ByteArray.mk #[105, 102])).bind fun x15 => (bif x15.1 then ((Kbc x15.2).bind fun x18 => ((g1 x18.2).bind fun x20 => ((K2 x20.2 (ByteArray.mk #[101, 108, 115, 101])).bind fun x21 => (bif x21.1 then ((g1 x21.2).bind fun x24 => some ((⟨(6 : Int), ByteArray.empty, ByteArray.empty, x18.1, x20.1, x24.1, x2.gAt⟩ : Kl), x24.2)) else some ((⟨(6 : Int), ByteArray.empty, ByteArray.empty, x18.1, x20.1, [], x2.gAt⟩ : Kl), x21.2))))) else ((K2 x15.2 (ByteArray.mk #[119, 104, 105, 108, 101])).bind fun x27 => (bif x27.1 then ((Kbc x27.2).bind fun x30 => ((g1 x30.2).bind fun x32 => some ((⟨(7 : Int), ByteArray.empty, ByteArray.empty, x30.1, x32.1, [], x2.gAt⟩ : Kl), x32.2))) else ((K2 x27.2 (ByteArray.mk #[114, 101, 116, 117, 114, 110])).bind fun x34 => (bif x34.1 then ((K9 x34.2).bind fun x36 => ((KO x36.2 ([(ByteArray.mk #[59])] : List ByteArray)).bind fun x37 => some ((⟨(8 : Int), ByteArray.empty, ByteArray.empty, ([x36.1] : List Ka), [], [], x2.gAt⟩ : Kl), x37))) else ((K2 x34.2 (ByteArray.mk #[97, 115, 115, 101, 114, 116])).bind fun x39 => (bif x39.1 then ((Kbc x39.2).bind fun x42 => ((KO x42.2 ([(ByteArray.mk #[59])] : List ByteArray)).bind fun x43 => some ((⟨(9 : Int), ByteArray.empty, ByteArray.empty, x42.1, [], [], x2.gAt⟩ : Kl), x43))) else ((Kao x39.2 x39.2.gAt (3 : Int)).bind fun x45 => some ((⟨(0 : Int), ByteArray.empty, ByteArray.empty, [], [], [], x2.gAt⟩ : Kl), x45))))))))))))))
theorem Kgx (g0 : (Ke) → Option (Kl × Ke)) (g1 : (Ke) → Option (List Kl × Ke)) (hg0 : ∀ (m0 : Ke) (o0 : Nat) (T0 : TypeId) (c0_0 : Cap) (r : Kl × Ke) (h0 : g0 m0 = some r), CallsD Try.prog 58 [.ptr o0 0] [(o0, Blk.cells [.lst 4 (m0.gL.map Kc) c0_0, iD m0.gAt, iD m0.gE, iD m0.gVars, iD m0.gOpen] T0)] [] (fun d h k => d = Kk r.1 ∧ h = [(o0, Blk.cells [.lst 4 (r.2.gL.map Kc) .no, iD r.2.gAt, iD r.2.gE, iD r.2.gVars, iD r.2.gOpen] T0)] ∧ k = [])) (hg1 : ∀ (m0 : Ke) (o0 : Nat) (T0 : TypeId) (c0_0 : Cap) (r : List Kl × Ke) (h0 : g1 m0 = some r), CallsD Try.prog 45 [.ptr o0 0, .fn (.func 73) [] []] [(o0, Blk.cells [.lst 4 (m0.gL.map Kc) c0_0, iD m0.gAt, iD m0.gE, iD m0.gVars, iD m0.gOpen] T0)] [] (fun d h k => ∃ y0, d = .lst 7 (r.1.map Kk) (.cur y0) ∧ h = [(o0, Blk.cells [.lst 4 (r.2.gL.map Kc) .no, iD r.2.gAt, iD r.2.gE, iD r.2.gVars, iD r.2.gOpen] T0)] ∧ k = [(7, y0)])) (m0 : Ke) (o0 : Nat) (T0 : TypeId) (c0_0 : Cap) (r : Kl × Ke) (h0 : KaB g0 g1 m0 = some r) : CallsD Try.prog 58 [.ptr o0 0] [(o0, Blk.cells [.lst 4 (m0.gL.map Kc) c0_0, iD m0.gAt, iD m0.gE, iD m0.gVars, iD m0.gOpen] T0)] [] (fun d h k => d = Kk r.1 ∧ h = [(o0, Blk.cells [.lst 4 (r.2.gL.map Kc) .no, iD r.2.gAt, iD r.2.gE, iD r.2.gVars, iD r.2.gOpen] T0)] ∧ k = []) := by
 have hm := KE h0
 unfold KaB at hm
 clear h0
 refine KU htab Try.func58 rfl rfl rfl rfl rfl (fun C => ?_)
 refine Kj ?_
 refine KW htab rfl rfl rfl rfl rfl rfl rfl (fun b1 => ?_)
 refine Ky ?_
 refine pu ?_
 obtain ⟨x2, q2, hm⟩ := Kf hm
 refine pG (KbW m0 (0 : Int) o0 T0 c0_0 x2 q2) Wl Pf Pf ?_
 rintro _ _ _ ⟨rfl, rfl, rfl⟩
 refine KW htab rfl rfl rfl rfl rfl rfl rfl (fun b3 => ?_)
 refine pS2 (ds' := [iD x2.gKind, tD x2.gText, iD x2.gN, iD x2.gAt]) ?_
 refine Ky ?_
 refine pu ?_
 refine pL 2 ?_
 refine Kaf (r := [iD (0 : Int), tD ByteArray.empty, tD ByteArray.empty, .lst 1 [] .full, .lst 1 [] .full, .lst 1 [] .full, iD x2.gAt]) htab rfl rfl rfl rfl rfl rfl rfl rfl rfl ?_
 refine KW htab rfl rfl rfl rfl rfl rfl rfl (fun b4 => ?_)
 refine pS3 (ds' := [iD (0 : Int), tD ByteArray.empty, tD ByteArray.empty, .lst 1 [] .full, .lst 1 [] .full, .lst 1 [] .full, iD x2.gAt]) ?_
 refine Kh ?_
 refine Kr ?_
 refine KI ?_
 refine Kj ?_
 refine pu ?_
 refine pL 2 ?_
 refine pu ?_
 refine pu ?_
 refine Kh ?_
 refine Ku rfl (fun hc5 => ?_) (fun hc5 => ?_)
 ·replace hm := yes_t hc5 hm
  refine Kj ?_
  refine pu ?_
  refine K8 (d := .agg [iD (0 : Int), tD ByteArray.empty, tD ByteArray.empty, .lst 1 [] .full, .lst 1 [] .full, .lst 1 [] .full, iD x2.gAt]) 3 htab rfl rfl rfl rfl rfl rfl rfl rfl ?_
  obtain ⟨x6, q6, hm⟩ := Kf hm
  refine Kas (KgO m0 (⟨(0 : Int), ByteArray.empty, ByteArray.empty, [], [], [], x2.gAt⟩ : Kl) o0 T0 c0_0 x6 q6) rfl rfl rfl rfl rfl (WkL.cons (Wk.refl _) (WkL.cons (Wk.trans (Wk.agg (rC (rC (rC (WkR.cons (WkC.nil) rfl (WkR.cons (WkC.nil) rfl (WkR.cons (WkC.nil) rfl (rC WkR.nil)))))))) (Wk.of_eq (Kp (⟨(0 : Int), ByteArray.empty, ByteArray.empty, [], [], [], x2.gAt⟩ : Kl)).symm)) Wl)) Pf Pf ?_
  rintro _ _ _ ⟨rfl, rfl, rfl⟩
  refine p_eq (i := 22) rfl (Wk.of_eq (Kp x6.1)) ?_
  refine pS1 (ds' := [iD x6.1.gOp, tD x6.1.gName, tD x6.1.gFunc, .lst 5 (x6.1.gExps.map Kg) .no, .lst 7 (x6.1.gKids.map Kk) .no, .lst 7 (x6.1.gElse.map Kk) .no, iD x6.1.gAt]) ?_
  refine Kh ?_
  refine Ks ?_
  refine KR ?_
  refine Kx ?_
  have er7 := Kn hm; subst er7
  refine rP (t' := [(2, .ptr b1 0)]) [0,0] [] 1 (wC wN) (lC 1 lN) ?_
  exact ⟨by first | rfl | (simp only [wrapD, Kp]; done) | (simp only [wrapD, Kp]; rfl), rfl, rfl⟩
 ·replace hm := yes_f hc5 hm
  refine Kj ?_
  refine pu ?_
  obtain ⟨x8, q8, hm⟩ := Kf hm
  refine pG (Kap m0 (ByteArray.mk #[42]) o0 T0 c0_0 x8 q8) Wl Pf Pf ?_
  rintro _ _ _ ⟨rfl, rfl, rfl⟩
  refine pu ?_
  refine Kh ?_
  refine Ku rfl (fun hc9 => ?_) (fun hc9 => ?_)
  ·replace hm := yes_t hc9 hm
   refine Kj ?_
   refine pu ?_
   obtain ⟨x10, q10, hm⟩ := Kf hm
   refine pG (KbX x8.2 o0 T0 c0_0 x10 q10) Wl Pf Pf ?_
   rintro _ _ _ ⟨rfl, rfl, rfl⟩
   refine pu ?_
   refine pS3 (ds' := [iD (3 : Int), tD ByteArray.empty, tD ByteArray.empty, .lst 1 [] .full, .lst 1 [] .full, .lst 1 [] .full, iD x2.gAt]) ?_
   refine pu ?_
   refine pS3 (ds' := [iD (3 : Int), tD x10.1, tD ByteArray.empty, .lst 1 [] .full, .lst 1 [] .full, .lst 1 [] .full, iD x2.gAt]) ?_
   refine Ky ?_
   refine pu ?_
   refine p_lit htab rfl rfl rfl rfl rfl rfl rfl rfl rfl rfl rfl rfl rfl rfl ?_
   refine p_eq (i := 31) (d' := .lst 1 (([(ByteArray.mk #[61])] : List ByteArray).map eStr) .full) rfl (Wk.lst0 (.cons (WkC.refl _) (.nil))) ?_
   obtain ⟨x11, q11, hm⟩ := Kf hm
   refine Kas (K6 x10.2 ([(ByteArray.mk #[61])] : List ByteArray) o0 T0 c0_0 x11 q11) rfl rfl rfl rfl rfl (WkL.cons (Wk.refl _) (WkL.cons (Wk.no) Wl)) Pf Pf ?_
   rintro _ _ _ ⟨rfl, rfl, rfl⟩
   refine Ky ?_
   refine pu ?_
   obtain ⟨x12, q12, hm⟩ := Kf hm
   refine pG (Kbk x11 o0 T0 c0_0 x12 q12) Wl Pf Pf ?_
   rintro _ _ _ ⟨rfl, rfl, rfl⟩
   refine p_eq (i := 34) rfl (Wk.of_eq (Km x12.1)) ?_
   refine p_lit htab rfl rfl rfl rfl rfl rfl rfl rfl rfl rfl rfl rfl rfl rfl ?_
   refine p_eq (i := 35) (d' := .lst 5 (([x12.1] : List Ka).map Kg) .full) rfl (Wk.lst0 (.cons (WkC.trans (WkC.agg (WkR.refl _)) (WkC.of_eq (Km x12.1).symm)) (.nil))) ?_
   refine pu ?_
   refine pS3 (ds' := [iD (3 : Int), tD x10.1, tD ByteArray.empty, .lst 5 (([x12.1] : List Ka).map Kg) .full, .lst 1 [] .full, .lst 1 [] .full, iD x2.gAt]) ?_
   refine Kh ?_
   refine KD ?_
   refine pu ?_
   refine p_lit htab rfl rfl rfl rfl rfl rfl rfl rfl rfl rfl rfl rfl rfl rfl ?_
   refine p_eq (i := 38) (d' := .lst 1 (([(ByteArray.mk #[59])] : List ByteArray).map eStr) .full) rfl (Wk.lst0 (.cons (WkC.refl _) (.nil))) ?_
   obtain ⟨x13, q13, hm⟩ := Kf hm
   refine Kas (K6 x12.2 ([(ByteArray.mk #[59])] : List ByteArray) o0 T0 c0_0 x13 q13) rfl rfl rfl rfl rfl (WkL.cons (Wk.refl _) (WkL.cons (Wk.no) Wl)) Pf Pf ?_
   rintro _ _ _ ⟨rfl, rfl, rfl⟩
   refine KC ?_
   refine KF ?_
   refine Ki ?_
   refine Kj ?_
   refine K8 (d := .agg [iD (3 : Int), tD x10.1, tD ByteArray.empty, .lst 5 (([x12.1] : List Ka).map Kg) .full, .lst 1 [] .full, .lst 1 [] .full, iD x2.gAt]) 3 htab rfl rfl rfl rfl rfl rfl rfl rfl ?_
   refine pS1 (ds' := [iD (3 : Int), tD x10.1, tD ByteArray.empty, .lst 5 (([x12.1] : List Ka).map Kg) .full, .lst 1 [] .full, .lst 1 [] .full, iD x2.gAt]) ?_
   refine Kh ?_
   refine Ks ?_
   have er14 := Kn hm; subst er14
   refine retX.wk (WkS.bl1 (ds' := [iD (3 : Int), tD x10.1, tD ByteArray.empty, .lst 5 (([x12.1] : List Ka).map Kg) .no, .lst 7 (([] : List Kl).map Kk) .no, .lst 7 (([] : List Kl).map Kk) .no, iD x2.gAt]) (rC (rC (rC (rO (WkR.cons (WkC.nil) rfl (WkR.cons (WkC.nil) rfl (rC WkR.nil)))))))) ?_
   refine retX.wk (WkS.bl0 (ds' := [.lst 4 (x13.gL.map Kc) .no, iD x13.gAt, iD x13.gE, iD x13.gVars, iD x13.gOpen]) (rO (rC (rC (rC (rC WkR.nil)))))) ?_
   refine rP (t' := [(2, .ptr b1 0)]) [0,0] [] 1 (wC wN) (lC 1 lN) ?_
   exact ⟨by first | rfl | (simp only [wrapD, Kp]; done) | (simp only [wrapD, Kp]; rfl), rfl, rfl⟩
  ·replace hm := yes_f hc9 hm
   refine Kj ?_
   refine pu ?_
   obtain ⟨x15, q15, hm⟩ := Kf hm
   refine pG (Kap x8.2 (ByteArray.mk #[105, 102]) o0 T0 c0_0 x15 q15) Wl Pf Pf ?_
   rintro _ _ _ ⟨rfl, rfl, rfl⟩
   refine pu ?_
   refine Kh ?_
   refine Ku rfl (fun hc16 => ?_) (fun hc16 => ?_)
   ·replace hm := yes_t hc16 hm
    refine Kj ?_
    refine pu ?_
    obtain ⟨x18, q18, hm⟩ := Kf hm
    refine pG (Kdq x15.2 o0 T0 c0_0 x18 q18) Wl Pf Pf ?_
    rintro _ _ _ ⟨w17, rfl, rfl, rfl⟩
    refine pu ?_
    refine pS3 (ds' := [iD (6 : Int), tD ByteArray.empty, tD ByteArray.empty, .lst 1 [] .full, .lst 1 [] .full, .lst 1 [] .full, iD x2.gAt]) ?_
    refine pu ?_
    refine pS3 (ds' := [iD (6 : Int), tD ByteArray.empty, tD ByteArray.empty, .lst 5 (x18.1.map Kg) (.cur w17), .lst 1 [] .full, .lst 1 [] .full, iD x2.gAt]) ?_
    refine Ky ?_
    refine pu ?_
    obtain ⟨x20, q20, hm⟩ := Kf hm
    refine pG (hg1 x18.2 o0 T0 c0_0 x20 q20) Wl Pf Pf ?_
    rintro _ _ _ ⟨w19, rfl, rfl, rfl⟩
    refine pu ?_
    refine pS3 (ds' := [iD (6 : Int), tD ByteArray.empty, tD ByteArray.empty, .lst 5 (x18.1.map Kg) (.cur w17), .lst 7 (x20.1.map Kk) (.cur w19), .lst 1 [] .full, iD x2.gAt]) ?_
    refine Ky ?_
    refine pu ?_
    obtain ⟨x21, q21, hm⟩ := Kf hm
    refine pG (Kap x20.2 (ByteArray.mk #[101, 108, 115, 101]) o0 T0 .no x21 q21) Wl Pf Pf ?_
    rintro _ _ _ ⟨rfl, rfl, rfl⟩
    refine Kh ?_
    refine Ku rfl (fun hc22 => ?_) (fun hc22 => ?_)
    ·replace hm := yes_t hc22 hm
     refine KD ?_
     refine pu ?_
     obtain ⟨x24, q24, hm⟩ := Kf hm
     refine pG (hg1 x21.2 o0 T0 .no x24 q24) Wl Pf Pf ?_
     rintro _ _ _ ⟨w23, rfl, rfl, rfl⟩
     refine pu ?_
     refine pS3 (ds' := [iD (6 : Int), tD ByteArray.empty, tD ByteArray.empty, .lst 5 (x18.1.map Kg) (.cur w17), .lst 7 (x20.1.map Kk) (.cur w19), .lst 7 (x24.1.map Kk) (.cur w23), iD x2.gAt]) ?_
     refine KC ?_
     refine KF ?_
     refine Ki ?_
     refine Kj ?_
     refine K8 (d := .agg [iD (6 : Int), tD ByteArray.empty, tD ByteArray.empty, .lst 5 (x18.1.map Kg) (.cur w17), .lst 7 (x20.1.map Kk) (.cur w19), .lst 7 (x24.1.map Kk) (.cur w23), iD x2.gAt]) 3 htab rfl rfl rfl rfl rfl rfl rfl rfl ?_
     refine pS1 (ds' := [iD (6 : Int), tD ByteArray.empty, tD ByteArray.empty, .lst 5 (x18.1.map Kg) (.cur w17), .lst 7 (x20.1.map Kk) (.cur w19), .lst 7 (x24.1.map Kk) (.cur w23), iD x2.gAt]) ?_
     refine Kh ?_
     refine Ks ?_
     have er25 := Kn hm; subst er25
     refine retX.wk (WkS.bl1 (ds' := [iD (6 : Int), tD ByteArray.empty, tD ByteArray.empty, .lst 5 (x18.1.map Kg) .no, .lst 7 (x20.1.map Kk) .no, .lst 7 (x24.1.map Kk) .no, iD x2.gAt]) (rC (rC (rC (rO (rO (rO (rC WkR.nil)))))))) ?_
     refine rP (t' := [(2, .ptr b1 0)]) [0,0] [] 1 (wC wN) (lC 1 lN) ?_
     exact ⟨by first | rfl | (simp only [wrapD, Kp]; done) | (simp only [wrapD, Kp]; rfl), rfl, rfl⟩
    ·replace hm := yes_f hc22 hm
     refine Kv ?_
     refine KF ?_
     refine Ki ?_
     refine Kj ?_
     refine K8 (d := .agg [iD (6 : Int), tD ByteArray.empty, tD ByteArray.empty, .lst 5 (x18.1.map Kg) (.cur w17), .lst 7 (x20.1.map Kk) (.cur w19), .lst 1 [] .full, iD x2.gAt]) 3 htab rfl rfl rfl rfl rfl rfl rfl rfl ?_
     refine pS1 (ds' := [iD (6 : Int), tD ByteArray.empty, tD ByteArray.empty, .lst 5 (x18.1.map Kg) (.cur w17), .lst 7 (x20.1.map Kk) (.cur w19), .lst 1 [] .full, iD x2.gAt]) ?_
     refine Kh ?_
     refine Ks ?_
     have er26 := Kn hm; subst er26
     refine retX.wk (WkS.bl1 (ds' := [iD (6 : Int), tD ByteArray.empty, tD ByteArray.empty, .lst 5 (x18.1.map Kg) .no, .lst 7 (x20.1.map Kk) .no, .lst 7 (([] : List Kl).map Kk) .no, iD x2.gAt]) (rC (rC (rC (rO (rO (WkR.cons (WkC.nil) rfl (rC WkR.nil)))))))) ?_
     refine rP (t' := [(2, .ptr b1 0)]) [0,0] [] 1 (wC wN) (lC 1 lN) ?_
     exact ⟨by first | rfl | (simp only [wrapD, Kp]; done) | (simp only [wrapD, Kp]; rfl), rfl, rfl⟩
   ·replace hm := yes_f hc16 hm
    refine Kj ?_
    refine pu ?_
    obtain ⟨x27, q27, hm⟩ := Kf hm
    refine pG (Kap x15.2 (ByteArray.mk #[119, 104, 105, 108, 101]) o0 T0 c0_0 x27 q27) Wl Pf Pf ?_
    rintro _ _ _ ⟨rfl, rfl, rfl⟩
    refine pu ?_
    refine Kh ?_
    refine Ku rfl (fun hc28 => ?_) (fun hc28 => ?_)
    ·replace hm := yes_t hc28 hm
     refine Kj ?_
     refine pu ?_
     obtain ⟨x30, q30, hm⟩ := Kf hm
     refine pG (Kdq x27.2 o0 T0 c0_0 x30 q30) Wl Pf Pf ?_
     rintro _ _ _ ⟨w29, rfl, rfl, rfl⟩
     refine pu ?_
     refine pS3 (ds' := [iD (7 : Int), tD ByteArray.empty, tD ByteArray.empty, .lst 1 [] .full, .lst 1 [] .full, .lst 1 [] .full, iD x2.gAt]) ?_
     refine pu ?_
     refine pS3 (ds' := [iD (7 : Int), tD ByteArray.empty, tD ByteArray.empty, .lst 5 (x30.1.map Kg) (.cur w29), .lst 1 [] .full, .lst 1 [] .full, iD x2.gAt]) ?_
     refine Kh ?_
     refine KD ?_
     refine pu ?_
     obtain ⟨x32, q32, hm⟩ := Kf hm
     refine pG (hg1 x30.2 o0 T0 c0_0 x32 q32) Wl Pf Pf ?_
     rintro _ _ _ ⟨w31, rfl, rfl, rfl⟩
     refine pu ?_
     refine pS3 (ds' := [iD (7 : Int), tD ByteArray.empty, tD ByteArray.empty, .lst 5 (x30.1.map Kg) (.cur w29), .lst 7 (x32.1.map Kk) (.cur w31), .lst 1 [] .full, iD x2.gAt]) ?_
     refine KC ?_
     refine KF ?_
     refine Ki ?_
     refine Kj ?_
     refine K8 (d := .agg [iD (7 : Int), tD ByteArray.empty, tD ByteArray.empty, .lst 5 (x30.1.map Kg) (.cur w29), .lst 7 (x32.1.map Kk) (.cur w31), .lst 1 [] .full, iD x2.gAt]) 3 htab rfl rfl rfl rfl rfl rfl rfl rfl ?_
     refine pS1 (ds' := [iD (7 : Int), tD ByteArray.empty, tD ByteArray.empty, .lst 5 (x30.1.map Kg) (.cur w29), .lst 7 (x32.1.map Kk) (.cur w31), .lst 1 [] .full, iD x2.gAt]) ?_
     refine Kh ?_
     refine Ks ?_
     have er33 := Kn hm; subst er33
     refine retX.wk (WkS.bl1 (ds' := [iD (7 : Int), tD ByteArray.empty, tD ByteArray.empty, .lst 5 (x30.1.map Kg) .no, .lst 7 (x32.1.map Kk) .no, .lst 7 (([] : List Kl).map Kk) .no, iD x2.gAt]) (rC (rC (rC (rO (rO (WkR.cons (WkC.nil) rfl (rC WkR.nil)))))))) ?_
     refine rP (t' := [(2, .ptr b1 0)]) [0,0] [] 1 (wC wN) (lC 1 lN) ?_
     exact ⟨by first | rfl | (simp only [wrapD, Kp]; done) | (simp only [wrapD, Kp]; rfl), rfl, rfl⟩
    ·replace hm := yes_f hc28 hm
     refine Kj ?_
     refine pu ?_
     obtain ⟨x34, q34, hm⟩ := Kf hm
     refine pG (Kap x27.2 (ByteArray.mk #[114, 101, 116, 117, 114, 110]) o0 T0 c0_0 x34 q34) Wl Pf Pf ?_
     rintro _ _ _ ⟨rfl, rfl, rfl⟩
     refine pu ?_
     refine Kh ?_
     refine Ku rfl (fun hc35 => ?_) (fun hc35 => ?_)
     ·replace hm := yes_t hc35 hm
      refine Kj ?_
      refine pu ?_
      obtain ⟨x36, q36, hm⟩ := Kf hm
      refine pG (Kbk x34.2 o0 T0 c0_0 x36 q36) Wl Pf Pf ?_
      rintro _ _ _ ⟨rfl, rfl, rfl⟩
      refine p_eq (i := 69) rfl (Wk.of_eq (Km x36.1)) ?_
      refine p_lit htab rfl rfl rfl rfl rfl rfl rfl rfl rfl rfl rfl rfl rfl rfl ?_
      refine p_eq (i := 70) (d' := .lst 5 (([x36.1] : List Ka).map Kg) .full) rfl (Wk.lst0 (.cons (WkC.trans (WkC.agg (WkR.refl _)) (WkC.of_eq (Km x36.1).symm)) (.nil))) ?_
      refine pu ?_
      refine pS3 (ds' := [iD (8 : Int), tD ByteArray.empty, tD ByteArray.empty, .lst 1 [] .full, .lst 1 [] .full, .lst 1 [] .full, iD x2.gAt]) ?_
      refine pu ?_
      refine pS3 (ds' := [iD (8 : Int), tD ByteArray.empty, tD ByteArray.empty, .lst 5 (([x36.1] : List Ka).map Kg) .full, .lst 1 [] .full, .lst 1 [] .full, iD x2.gAt]) ?_
      refine Kh ?_
      refine KD ?_
      refine pu ?_
      refine p_lit htab rfl rfl rfl rfl rfl rfl rfl rfl rfl rfl rfl rfl rfl rfl ?_
      refine p_eq (i := 74) (d' := .lst 1 (([(ByteArray.mk #[59])] : List ByteArray).map eStr) .full) rfl (Wk.lst0 (.cons (WkC.refl _) (.nil))) ?_
      obtain ⟨x37, q37, hm⟩ := Kf hm
      refine Kas (K6 x36.2 ([(ByteArray.mk #[59])] : List ByteArray) o0 T0 c0_0 x37 q37) rfl rfl rfl rfl rfl (WkL.cons (Wk.refl _) (WkL.cons (Wk.no) Wl)) Pf Pf ?_
      rintro _ _ _ ⟨rfl, rfl, rfl⟩
      refine KC ?_
      refine KF ?_
      refine Ki ?_
      refine Kj ?_
      refine K8 (d := .agg [iD (8 : Int), tD ByteArray.empty, tD ByteArray.empty, .lst 5 (([x36.1] : List Ka).map Kg) .full, .lst 1 [] .full, .lst 1 [] .full, iD x2.gAt]) 3 htab rfl rfl rfl rfl rfl rfl rfl rfl ?_
      refine pS1 (ds' := [iD (8 : Int), tD ByteArray.empty, tD ByteArray.empty, .lst 5 (([x36.1] : List Ka).map Kg) .full, .lst 1 [] .full, .lst 1 [] .full, iD x2.gAt]) ?_
      refine Kh ?_
      refine Ks ?_
      have er38 := Kn hm; subst er38
      refine retX.wk (WkS.bl1 (ds' := [iD (8 : Int), tD ByteArray.empty, tD ByteArray.empty, .lst 5 (([x36.1] : List Ka).map Kg) .no, .lst 7 (([] : List Kl).map Kk) .no, .lst 7 (([] : List Kl).map Kk) .no, iD x2.gAt]) (rC (rC (rC (rO (WkR.cons (WkC.nil) rfl (WkR.cons (WkC.nil) rfl (rC WkR.nil)))))))) ?_
      refine retX.wk (WkS.bl0 (ds' := [.lst 4 (x37.gL.map Kc) .no, iD x37.gAt, iD x37.gE, iD x37.gVars, iD x37.gOpen]) (rO (rC (rC (rC (rC WkR.nil)))))) ?_
      refine rP (t' := [(2, .ptr b1 0)]) [0,0] [] 1 (wC wN) (lC 1 lN) ?_
      exact ⟨by first | rfl | (simp only [wrapD, Kp]; done) | (simp only [wrapD, Kp]; rfl), rfl, rfl⟩
     ·replace hm := yes_f hc35 hm
      refine Kj ?_
      refine pu ?_
      obtain ⟨x39, q39, hm⟩ := Kf hm
      refine pG (Kap x34.2 (ByteArray.mk #[97, 115, 115, 101, 114, 116]) o0 T0 c0_0 x39 q39) Wl Pf Pf ?_
      rintro _ _ _ ⟨rfl, rfl, rfl⟩
      refine pu ?_
      refine Kh ?_
      refine Ku rfl (fun hc40 => ?_) (fun hc40 => ?_)
      ·replace hm := yes_t hc40 hm
       refine Kj ?_
       refine pu ?_
       obtain ⟨x42, q42, hm⟩ := Kf hm
       refine pG (Kdq x39.2 o0 T0 c0_0 x42 q42) Wl Pf Pf ?_
       rintro _ _ _ ⟨w41, rfl, rfl, rfl⟩
       refine pu ?_
       refine pS3 (ds' := [iD (9 : Int), tD ByteArray.empty, tD ByteArray.empty, .lst 1 [] .full, .lst 1 [] .full, .lst 1 [] .full, iD x2.gAt]) ?_
       refine pu ?_
       refine pS3 (ds' := [iD (9 : Int), tD ByteArray.empty, tD ByteArray.empty, .lst 5 (x42.1.map Kg) (.cur w41), .lst 1 [] .full, .lst 1 [] .full, iD x2.gAt]) ?_
       refine Kh ?_
       refine KD ?_
       refine pu ?_
       refine p_lit htab rfl rfl rfl rfl rfl rfl rfl rfl rfl rfl rfl rfl rfl rfl ?_
       refine p_eq (i := 84) (d' := .lst 1 (([(ByteArray.mk #[59])] : List ByteArray).map eStr) .full) rfl (Wk.lst0 (.cons (WkC.refl _) (.nil))) ?_
       obtain ⟨x43, q43, hm⟩ := Kf hm
       refine Kas (K6 x42.2 ([(ByteArray.mk #[59])] : List ByteArray) o0 T0 c0_0 x43 q43) rfl rfl rfl rfl rfl (WkL.cons (Wk.refl _) (WkL.cons (Wk.no) Wl)) Pf Pf ?_
       rintro _ _ _ ⟨rfl, rfl, rfl⟩
       refine KC ?_
       refine KF ?_
       refine Ki ?_
       refine Kj ?_
       refine K8 (d := .agg [iD (9 : Int), tD ByteArray.empty, tD ByteArray.empty, .lst 5 (x42.1.map Kg) (.cur w41), .lst 1 [] .full, .lst 1 [] .full, iD x2.gAt]) 3 htab rfl rfl rfl rfl rfl rfl rfl rfl ?_
       refine pS1 (ds' := [iD (9 : Int), tD ByteArray.empty, tD ByteArray.empty, .lst 5 (x42.1.map Kg) (.cur w41), .lst 1 [] .full, .lst 1 [] .full, iD x2.gAt]) ?_
       refine Kh ?_
       refine Ks ?_
       have er44 := Kn hm; subst er44
       refine retX.wk (WkS.bl1 (ds' := [iD (9 : Int), tD ByteArray.empty, tD ByteArray.empty, .lst 5 (x42.1.map Kg) .no, .lst 7 (([] : List Kl).map Kk) .no, .lst 7 (([] : List Kl).map Kk) .no, iD x2.gAt]) (rC (rC (rC (rO (WkR.cons (WkC.nil) rfl (WkR.cons (WkC.nil) rfl (rC WkR.nil)))))))) ?_
       refine retX.wk (WkS.bl0 (ds' := [.lst 4 (x43.gL.map Kc) .no, iD x43.gAt, iD x43.gE, iD x43.gVars, iD x43.gOpen]) (rO (rC (rC (rC (rC WkR.nil)))))) ?_
       refine rP (t' := [(2, .ptr b1 0)]) [0,0] [] 1 (wC wN) (lC 1 lN) ?_
       exact ⟨by first | rfl | (simp only [wrapD, Kp]; done) | (simp only [wrapD, Kp]; rfl), rfl, rfl⟩
      ·replace hm := yes_f hc40 hm
       refine KD ?_
       iterate 4 refine pu ?_
       refine pL 0 ?_
       obtain ⟨x45, q45, hm⟩ := Kf hm
       refine pG (Ka7 x39.2 x39.2.gAt (3 : Int) o0 T0 c0_0 x45 q45) Wl Pf Pf ?_
       rintro _ _ _ ⟨rfl, rfl, rfl⟩
       refine KC ?_
       refine KF ?_
       refine Ki ?_
       refine Kj ?_
       refine K8 (d := .agg [iD (0 : Int), tD ByteArray.empty, tD ByteArray.empty, .lst 1 [] .full, .lst 1 [] .full, .lst 1 [] .full, iD x2.gAt]) 3 htab rfl rfl rfl rfl rfl rfl rfl rfl ?_
       refine pS1 (ds' := [iD (0 : Int), tD ByteArray.empty, tD ByteArray.empty, .lst 1 [] .full, .lst 1 [] .full, .lst 1 [] .full, iD x2.gAt]) ?_
       refine Kh ?_
       refine Ks ?_
       have er46 := Kn hm; subst er46
       refine retX.wk (WkS.bl1 (ds' := [iD (0 : Int), tD ByteArray.empty, tD ByteArray.empty, .lst 5 (([] : List Ka).map Kg) .no, .lst 7 (([] : List Kl).map Kk) .no, .lst 7 (([] : List Kl).map Kk) .no, iD x2.gAt]) (rC (rC (rC (WkR.cons (WkC.nil) rfl (WkR.cons (WkC.nil) rfl (WkR.cons (WkC.nil) rfl (rC WkR.nil)))))))) ?_
       refine retX.wk (WkS.bl0 (ds' := [.lst 4 (x45.gL.map Kc) .no, iD x45.gAt, iD x45.gE, iD x45.gVars, iD x45.gOpen]) (rO (rC (rC (rC (rC WkR.nil)))))) ?_
       refine rP (t' := [(2, .ptr b1 0)]) [0,0] [] 1 (wC wN) (lC 1 lN) ?_
       exact ⟨by first | rfl | (simp only [wrapD, Kp]; done) | (simp only [wrapD, Kp]; rfl), rfl, rfl⟩
noncomputable def Kau (g0 : (Ke) → Option (Kl × Ke)) (g1 : (Ke) → Option (List Kl × Ke)) (m0 : Ke) : Option (List Kl × Ke) :=
 ((KO m0 ([(ByteArray.mk #[123])] : List ByteArray)).bind fun x1 => (Option.bind (α := List Kq × Int × Int × Int × Int) (bif (decide ((24 : Int) ≤ x1.gOpen)) then ((Kao x1 m0.gAt (5 : Int)).bind fun x6 => some (x6.gL, x6.gAt, x6.gE, x6.gVars, x6.gOpen)) else some (x1.gL, x1.gAt, x1.gE, x1.gVars, x1.gOpen)) fun y4 => (grammar_nothing.bind fun x7 => (Option.bind (α := List Kl × List Kq × Int × Int × Int × Int) (loopM (fun (s38 : List Kl × List Kq × Int × Int × Int × Int) => (Option.bind (α := Bool × List Kq × Int × Int × Int × Int) (bif (s38.2.2.2.1 == (0 : Int)) then ((K2 (⟨s38.2.1, s38.2.2.1, s38.2.2.2.1, s38.2.2.2.2.1, s38.2.2.2.2.2⟩ : Ke) (ByteArray.mk #[125])).bind fun x62 => some ((!x62.1), x62.2.gL, x62.2.gAt, x62.2.gE, x62.2.gVars, x62.2.gOpen)) else some (false, s38.2.1, s38.2.2.1, s38.2.2.2.1, s38.2.2.2.2.1, s38.2.2.2.2.2)) fun y60 => (bif y60.1 then ((g0 (⟨y60.2.1, y60.2.2.1, y60.2.2.2.1, y60.2.2.2.2.1, y60.2.2.2.2.2⟩ : Ke)).bind fun x64 => ((app 120 s38.1 ([x64.1] : List Kl)).bind fun x65 => some (.next (x65, x64.2.gL, x64.2.gAt, x64.2.gE, x64.2.gVars, x64.2.gOpen)))) else some (.done (s38.1, y60.2.1, y60.2.2.1, y60.2.2.2.1, y60.2.2.2.2.1, y60.2.2.2.2.2))))) (([] : List Kl), y4.1, y4.2.1, y4.2.2.1, y4.2.2.2.1, (IntKind.i64.wrap (y4.2.2.2.2 + (1 : Int))))) fun y37 => some (y37.1, (⟨y37.2.1, y37.2.2.1, y37.2.2.2.1, y37.2.2.2.2.1, (IntKind.i64.wrap (y37.2.2.2.2.2 - (1 : Int)))⟩ : Ke))))))
theorem KfW (g0 : (Ke) → Option (Kl × Ke)) (g1 : (Ke) → Option (List Kl × Ke)) (hg0 : ∀ (m0 : Ke) (o0 : Nat) (T0 : TypeId) (c0_0 : Cap) (r : Kl × Ke) (h0 : g0 m0 = some r), CallsD Try.prog 58 [.ptr o0 0] [(o0, Blk.cells [.lst 4 (m0.gL.map Kc) c0_0, iD m0.gAt, iD m0.gE, iD m0.gVars, iD m0.gOpen] T0)] [] (fun d h k => d = Kk r.1 ∧ h = [(o0, Blk.cells [.lst 4 (r.2.gL.map Kc) .no, iD r.2.gAt, iD r.2.gE, iD r.2.gVars, iD r.2.gOpen] T0)] ∧ k = [])) (hg1 : ∀ (m0 : Ke) (o0 : Nat) (T0 : TypeId) (c0_0 : Cap) (r : List Kl × Ke) (h0 : g1 m0 = some r), CallsD Try.prog 45 [.ptr o0 0, .fn (.func 73) [] []] [(o0, Blk.cells [.lst 4 (m0.gL.map Kc) c0_0, iD m0.gAt, iD m0.gE, iD m0.gVars, iD m0.gOpen] T0)] [] (fun d h k => ∃ y0, d = .lst 7 (r.1.map Kk) (.cur y0) ∧ h = [(o0, Blk.cells [.lst 4 (r.2.gL.map Kc) .no, iD r.2.gAt, iD r.2.gE, iD r.2.gVars, iD r.2.gOpen] T0)] ∧ k = [(7, y0)])) (m0 : Ke) (o0 : Nat) (T0 : TypeId) (c0_0 : Cap) (r : List Kl × Ke) (h0 : Kau g0 g1 m0 = some r) : CallsD Try.prog 45 [.ptr o0 0, .fn (.func 73) [] []] [(o0, Blk.cells [.lst 4 (m0.gL.map Kc) c0_0, iD m0.gAt, iD m0.gE, iD m0.gVars, iD m0.gOpen] T0)] [] (fun d h k => ∃ y0, d = .lst 7 (r.1.map Kk) (.cur y0) ∧ h = [(o0, Blk.cells [.lst 4 (r.2.gL.map Kc) .no, iD r.2.gAt, iD r.2.gE, iD r.2.gVars, iD r.2.gOpen] T0)] ∧ k = [(7, y0)]) := by
 have hm := KE h0
 unfold Kau at hm
 clear h0
 refine KU htab Try.func45 rfl rfl rfl rfl rfl (fun C => ?_)
 refine Kj ?_
 refine pu ?_
 refine Ky ?_
 iterate 3 refine pu ?_
 refine pL 0 ?_
 refine pu ?_
 refine Ky ?_
 refine pu ?_
 refine p_lit htab rfl rfl rfl rfl rfl rfl rfl rfl rfl rfl rfl rfl rfl rfl ?_
 refine p_eq (i := 12) (d' := .lst 1 (([(ByteArray.mk #[123])] : List ByteArray).map eStr) .full) rfl (Wk.lst0 (.cons (WkC.refl _) (.nil))) ?_
 obtain ⟨x1, q1, hm⟩ := Kf hm
 refine Kas (K6 m0 ([(ByteArray.mk #[123])] : List ByteArray) o0 T0 c0_0 x1 q1) rfl rfl rfl rfl rfl (WkL.cons (Wk.refl _) (WkL.cons (Wk.no) Wl)) Pf Pf ?_
 rintro _ _ _ ⟨rfl, rfl, rfl⟩
 refine Kh ?_
 refine Kr ?_
 refine Kj ?_
 iterate 3 refine pu ?_
 refine pL 0 ?_
 refine pu ?_
 refine Kh ?_
 obtain ⟨y4, q4, ho4⟩ := Kf hm
 refine K7 (Y := Unit) (fun z4 => (⟨[(0, .ptr o0 0), (1, .fn (.func 73) [] [])], [(o0, Blk.cells [.lst 4 (y4.1.map Kc) .no, iD y4.2.1, iD y4.2.2.1, iD y4.2.2.2.1, iD y4.2.2.2.2] T0)], []⟩ : S)) ?_ ?_
 ·clear hm; have hm := KE q4
  refine Ku rfl (fun hc5 => ?_) (fun hc5 => ?_)
  ·replace hm := yes_t hc5 hm
   refine KD ?_
   refine pu ?_
   refine pu ?_
   obtain ⟨x6, q6, hm⟩ := Kf hm
   refine pG (Ka7 x1 m0.gAt (5 : Int) o0 T0 c0_0 x6 q6) Wl Pf Pf ?_
   rintro _ _ _ ⟨rfl, rfl, rfl⟩
   refine KC ?_
   have e4 := Kn hm; subst e4
   refine ⟨rfl, ?_⟩
   refine WkX.wk (WkS.bl0 (ds' := [.lst 4 (x6.gL.map Kc) .no, iD x6.gAt, iD x6.gE, iD x6.gVars, iD x6.gOpen]) (rO (rC (rC (rC (rC WkR.nil)))))) ?_
   exact WkX.of () (WkS.perm (WkS.cons rfl (Wk.refl _) (WkS.cons rfl (Wk.refl _) (WkS.nil))) Pf Pf)
  ·replace hm := yes_f hc5 hm
   refine Kv ?_
   have e4 := Kn hm; subst e4
   refine ⟨rfl, ?_⟩
   refine WkX.wk (WkS.bl0 (ds' := [.lst 4 (x1.gL.map Kc) .no, iD x1.gAt, iD x1.gE, iD x1.gVars, iD x1.gOpen]) (rO (rC (rC (rC (rC WkR.nil)))))) ?_
   exact WkX.of () (WkS.perm (WkS.cons rfl (Wk.refl _) (WkS.cons rfl (Wk.refl _) (WkS.nil))) Pf Pf)
 ·intro s4 hw4; clear hm; have hm := ho4; clear q4 ho4
  refine Ki ?_
  refine KZ hw4 (fun z4 => ?_)
  refine Kj ?_
  iterate 3 refine pu ?_
  refine pL 0 ?_
  iterate 3 refine pu ?_
  refine pS0 (ds' := [.lst 4 (y4.1.map Kc) .no, iD y4.2.1, iD y4.2.2.1, iD y4.2.2.2.1, iD (IntKind.i64.wrap (y4.2.2.2.2 + (1 : Int)))]) ?_
  refine Ky ?_
  refine pu ?_
  obtain ⟨x7, q7, hm⟩ := Kf hm
  refine p_callV0 (Kis x7 q7) rfl rfl rfl rfl rfl rfl rfl Wl ?_
  rintro _ rfl
  refine Ky ?_
  refine pu ?_
  refine Kh ?_
  refine Kr ?_
  obtain ⟨y37, q37, ho37⟩ := Kf hm
  refine K7 (Y := Value) (fun z37 => (⟨[(0, .ptr o0 0), (6, .lst 7 (y37.1.map Kk) (.cur z37))], [(o0, Blk.cells [.lst 4 (y37.2.1.map Kc) .no, iD y37.2.2.1, iD y37.2.2.2.1, iD y37.2.2.2.2.1, iD y37.2.2.2.2.2] T0)], [(7, z37)]⟩ : S)) ?_ ?_
  ·clear hm; have hm := KE q37
   refine KI ?_
   obtain ⟨u38, hl38, hq38⟩ := yes_m hm
   refine KaU (Y := Value) hl38 (fun s38 z38 => (⟨[(0, .ptr o0 0), (6, .lst 7 (s38.1.map Kk) (.cur z38))], [(o0, Blk.cells [.lst 4 (s38.2.1.map Kc) .no, iD s38.2.2.1, iD s38.2.2.2.1, iD s38.2.2.2.2.1, iD s38.2.2.2.2.2] T0)], [(7, z38)]⟩ : S)) ?_ ?_
   ·skip
    refine WkX.tokN (i := 6) 7 rfl (fun w57 => ?_)
    exact WkX.of w57 (WkS.perm (WkS.cons rfl (Wk.refl _) (WkS.cons rfl (Wk.refl _) (WkS.nil))) Pf Pf)
   ·intro G38 s38 z38 hm
    refine Kr ?_
    refine Kr ?_
    obtain ⟨y60, q60, ho60⟩ := Kf hm
    refine K7 (Y := Unit) (fun z60 => (⟨[(0, .ptr o0 0), (6, .lst 7 (s38.1.map Kk) (.cur z38)), (40, .v (.bool y60.1))], [(o0, Blk.cells [.lst 4 (y60.2.1.map Kc) .no, iD y60.2.2.1, iD y60.2.2.2.1, iD y60.2.2.2.2.1, iD y60.2.2.2.2.2] T0)], [(7, z38)]⟩ : S)) ?_ ?_
    ·clear hm; have hm := KE q60
     refine KD ?_
     iterate 3 refine pu ?_
     refine pL 0 ?_
     refine pu ?_
     refine pu ?_
     refine K5 (i := 36) rfl (fun hg61 => ?_) (fun hg61 => ?_)
     ·replace hm := yes_t hg61 hm
      refine pu ?_
      obtain ⟨x62, q62, hm⟩ := Kf hm
      refine pG (Kap (⟨s38.2.1, s38.2.2.1, s38.2.2.2.1, s38.2.2.2.2.1, s38.2.2.2.2.2⟩ : Ke) (ByteArray.mk #[125]) o0 T0 .no x62 q62) Wl Pf Pf ?_
      rintro _ _ _ ⟨rfl, rfl, rfl⟩
      refine pu ?_
      refine KP rfl rfl rfl rfl rfl rfl ?_
      refine KC ?_
      have e60 := Kn hm; subst e60
      refine ⟨rfl, ?_⟩
      exact WkX.of () (WkS.perm (WkS.cons rfl (Wk.refl _) (WkS.cons rfl (Wk.refl _) (WkS.cons rfl (Wk.refl _) (WkS.nil)))) Pf Pf)
     ·replace hm := yes_f hg61 hm
      iterate 3 refine pK ?_
      refine KL rfl rfl rfl rfl rfl rfl ?_
      refine KC ?_
      have e60 := Kn hm; subst e60
      refine ⟨rfl, ?_⟩
      exact WkX.of () (WkS.perm (WkS.cons rfl (Wk.refl _) (WkS.cons rfl (Wk.refl _) (WkS.cons rfl (Wk.refl _) (WkS.nil)))) Pf Pf)
    ·intro s60 hw60; clear hm; have hm := ho60; clear q60 ho60
     refine Ki ?_
     refine KZ hw60 (fun z60 => ?_)
     refine Ku rfl (fun hc63 => ?_) (fun hc63 => ?_)
     ·replace hm := yes_t hc63 hm
      refine Kv ?_
      refine Ki ?_
      refine KI ?_
      refine KD ?_
      refine pu ?_
      refine pu ?_
      obtain ⟨x64, q64, hm⟩ := Kf hm
      refine pG (hg0 (⟨y60.2.1, y60.2.2.1, y60.2.2.2.1, y60.2.2.2.2.1, y60.2.2.2.2.2⟩ : Ke) o0 T0 .no x64 q64) Wl Pf Pf ?_
      rintro _ _ _ ⟨rfl, rfl, rfl⟩
      refine p_eq (i := 43) rfl (Wk.of_eq (Kp x64.1)) ?_
      refine p_lit htab rfl rfl rfl rfl rfl rfl rfl rfl rfl rfl rfl rfl rfl rfl ?_
      refine p_eq (i := 44) (d' := .lst 7 (([x64.1] : List Kl).map Kk) .full) rfl (Wk.lst0 (.cons (WkC.trans (WkC.agg (WkR.refl _)) (WkC.of_eq (Kp x64.1).symm)) (.nil))) ?_
      obtain ⟨x65, q65, hm⟩ := Kf hm
      refine KcA 0 htab rfl rfl rfl rfl rfl rfl rfl rfl rfl rfl rfl rfl rfl rfl rfl rfl rfl (Kbe q65) (fun v65 => ?_)
      refine KcB (i := 45) q65 rfl ?_
      refine pu ?_
      refine KC ?_
      refine KF ?_
      refine Ki ⟨_, KaA hm, ?_⟩
      exact WkX.of v65 (WkS.perm (WkS.cons rfl (Wk.refl _) (WkS.cons rfl (Wk.refl _) (WkS.nil))) Pf Pf)
     ·replace hm := yes_f hc63 hm
      refine Kan ?_
      refine KJ ?_
      have e38 := Kac hm; subst e38; clear hm; have hm := hq38
      refine KJ ?_
      refine Kae ?_
      have e37 := Kn hm; subst e37
      refine ⟨rfl, ?_⟩
      exact WkX.of z38 (WkS.perm (WkS.cons rfl (Wk.refl _) (WkS.cons rfl (Wk.refl _) (WkS.nil))) Pf Pf)
  ·intro s37 hw37; clear hm; have hm := ho37; clear q37 ho37
   refine Ki ?_
   refine KZ hw37 (fun z37 => ?_)
   refine Kj ?_
   iterate 3 refine pu ?_
   refine pL 0 ?_
   iterate 3 refine pu ?_
   refine pS0 (ds' := [.lst 4 (y37.2.1.map Kc) .no, iD y37.2.2.1, iD y37.2.2.2.1, iD y37.2.2.2.2.1, iD (IntKind.i64.wrap (y37.2.2.2.2.2 - (1 : Int)))]) ?_
   refine Ky ?_
   refine pu ?_
   refine pu ?_
   refine Kh ?_
   refine Ks ?_
   have er66 := Kn hm; subst er66
   refine rP (t' := [(4, .lst 7 (y37.1.map Kk) (.cur z37))]) [0] [0] 1 (wC wN) (lT lN) ?_
   exact ⟨z37, rfl, rfl, rfl⟩
noncomputable def KT : Nat → ((Ke) → Option (Kl × Ke)) × ((Ke) → Option (List Kl × Ke))
 | 0 => (fun _ => none, fun _ => none)
 | n + 1 => (KaB ((KT n).1) ((KT n).2), Kau ((KT n).1) ((KT n).2))
theorem Keb : ∀ n, (∀ (m0 : Ke) (o0 : Nat) (T0 : TypeId) (c0_0 : Cap) (r : Kl × Ke) (h0 : (KT n).1 m0 = some r), CallsD Try.prog 58 [.ptr o0 0] [(o0, Blk.cells [.lst 4 (m0.gL.map Kc) c0_0, iD m0.gAt, iD m0.gE, iD m0.gVars, iD m0.gOpen] T0)] [] (fun d h k => d = Kk r.1 ∧ h = [(o0, Blk.cells [.lst 4 (r.2.gL.map Kc) .no, iD r.2.gAt, iD r.2.gE, iD r.2.gVars, iD r.2.gOpen] T0)] ∧ k = [])) ∧ (∀ (m0 : Ke) (o0 : Nat) (T0 : TypeId) (c0_0 : Cap) (r : List Kl × Ke) (h0 : (KT n).2 m0 = some r), CallsD Try.prog 45 [.ptr o0 0, .fn (.func 73) [] []] [(o0, Blk.cells [.lst 4 (m0.gL.map Kc) c0_0, iD m0.gAt, iD m0.gE, iD m0.gVars, iD m0.gOpen] T0)] [] (fun d h k => ∃ y0, d = .lst 7 (r.1.map Kk) (.cur y0) ∧ h = [(o0, Blk.cells [.lst 4 (r.2.gL.map Kc) .no, iD r.2.gAt, iD r.2.gE, iD r.2.gVars, iD r.2.gOpen] T0)] ∧ k = [(7, y0)]))
  | 0 => ⟨(fun _ _ _ _ _ h0 => by cases h0), (fun _ _ _ _ _ h0 => by cases h0)⟩
  | n + 1 => by
    have ih := Keb n
    exact ⟨Kgx ((KT n).1) ((KT n).2) (ih.1) (ih.2), KfW ((KT n).1) ((KT n).2) (ih.1) (ih.2)⟩
theorem Kec : ∀ n, (∀ (m0 : Ke), Le ((KT n).1 m0) ((KT (n + 1)).1 m0)) ∧ (∀ (m0 : Ke), Le ((KT n).2 m0) ((KT (n + 1)).2 m0))
  | 0 => ⟨fun _ => Le.none _, fun _ => Le.none _⟩
  | n + 1 => by
    have ih := Kec n
    exact ⟨fun m0 => by show Le (KaB ((KT n).1) ((KT n).2) m0) (KaB ((KT (n + 1)).1) ((KT (n + 1)).2) m0); unfold KaB; repeat (first | exact Le.refl _ | exact ih.1 _ | exact ih.2 _ | assumption | (refine Le.bind ?_ (fun _ => ?_)) | (refine Le.cond ?_ ?_) | (refine Le.loop (fun _ => ?_)) | (refine Le.elim (fun _ => ?_) (fun _ => ?_))), fun m0 => by show Le (Kau ((KT n).1) ((KT n).2) m0) (Kau ((KT (n + 1)).1) ((KT (n + 1)).2) m0); unfold Kau; repeat (first | exact Le.refl _ | exact ih.1 _ | exact ih.2 _ | assumption | (refine Le.bind ?_ (fun _ => ?_)) | (refine Le.cond ?_ ?_) | (refine Le.loop (fun _ => ?_)) | (refine Le.elim (fun _ => ?_) (fun _ => ?_)))⟩
noncomputable def Kbd (m0 : Ke) : Option (Kl × Ke) := anyN fun n => (KT n).1 m0
theorem KeE (m0 : Ke) {r : Kl × Ke} (n : Nat) (h : (KT n).1 m0 = some r) : Kbd m0 = some r := Kc9 (fun m => (Kec m).1 m0) h
theorem Kg9 (m0 : Ke) (o0 : Nat) (T0 : TypeId) (c0_0 : Cap) (r : Kl × Ke) (h0 : Kbd m0 = some r) : CallsD Try.prog 58 [.ptr o0 0] [(o0, Blk.cells [.lst 4 (m0.gL.map Kc) c0_0, iD m0.gAt, iD m0.gE, iD m0.gVars, iD m0.gOpen] T0)] [] (fun d h k => d = Kk r.1 ∧ h = [(o0, Blk.cells [.lst 4 (r.2.gL.map Kc) .no, iD r.2.gAt, iD r.2.gE, iD r.2.gVars, iD r.2.gOpen] T0)] ∧ k = []) :=
 let ⟨n, hn⟩ := KcI h0; (Keb n).1 m0 o0 T0 c0_0 r hn
noncomputable def KaL (m0 : Ke) (m2 : KS) : Option (List Kl × Ke × KS) :=
 ((KO m0 ([(ByteArray.mk #[123])] : List ByteArray)).bind fun x1 => (Option.bind (α := List Kq × Int × Int × Int × Int) (bif (decide ((24 : Int) ≤ x1.gOpen)) then ((Kao x1 m0.gAt (5 : Int)).bind fun x6 => some (x6.gL, x6.gAt, x6.gE, x6.gVars, x6.gOpen)) else some (x1.gL, x1.gAt, x1.gE, x1.gVars, x1.gOpen)) fun y4 => ((Ka6 m2 (⟨y4.1, y4.2.1, y4.2.2.1, y4.2.2.2.1, (IntKind.i64.wrap (y4.2.2.2.2 + (1 : Int)))⟩ : Ke)).bind fun x8 => (Option.bind (α := List Kl × List Kq × Int × Int × Int × Int) (loopM (fun (s39 : List Kl × List Kq × Int × Int × Int × Int) => (Option.bind (α := Bool × List Kq × Int × Int × Int × Int) (bif (s39.2.2.2.1 == (0 : Int)) then ((K2 (⟨s39.2.1, s39.2.2.1, s39.2.2.2.1, s39.2.2.2.2.1, s39.2.2.2.2.2⟩ : Ke) (ByteArray.mk #[125])).bind fun x63 => some ((!x63.1), x63.2.gL, x63.2.gAt, x63.2.gE, x63.2.gVars, x63.2.gOpen)) else some (false, s39.2.1, s39.2.2.1, s39.2.2.2.1, s39.2.2.2.2.1, s39.2.2.2.2.2)) fun y61 => (bif y61.1 then ((Kbd (⟨y61.2.1, y61.2.2.1, y61.2.2.2.1, y61.2.2.2.2.1, y61.2.2.2.2.2⟩ : Ke)).bind fun x65 => ((app 120 s39.1 ([x65.1] : List Kl)).bind fun x66 => some (.next (x66, x65.2.gL, x65.2.gAt, x65.2.gE, x65.2.gVars, x65.2.gOpen)))) else some (.done (s39.1, y61.2.1, y61.2.2.1, y61.2.2.2.1, y61.2.2.2.2.1, y61.2.2.2.2.2))))) (([] : List Kl), x8.1.gL, x8.1.gAt, x8.1.gE, x8.1.gVars, x8.1.gOpen)) fun y38 => some (y38.1, (⟨y38.2.1, y38.2.2.1, y38.2.2.2.1, y38.2.2.2.2.1, (IntKind.i64.wrap (y38.2.2.2.2.2 - (1 : Int)))⟩ : Ke), x8.2)))))
theorem KgP (m0 : Ke) (m2 : KS) (o0 : Nat) (T0 : TypeId) (c0_0 : Cap) (o1 : Nat) (T1 : TypeId) (o2 : Nat) (T2 : TypeId) (c2_1 : Cap) (k2_2 : Value) (c2_3 : Cap) (r : List Kl × Ke × KS) (h0 : KaL m0 m2 = some r) : CallsD Try.prog 45 [.ptr o0 0, .fn (.func 46) [] [.ptr o1 0, .ptr o2 0]] [(o0, Blk.cells [.lst 4 (m0.gL.map Kc) c0_0, iD m0.gAt, iD m0.gE, iD m0.gVars, iD m0.gOpen] T0), (o1, Blk.cells [.ptr o0 0] T1), (o2, Blk.cells [tD m2.gName, .lst 2 (m2.gParams.map Kw) c2_1, .lst 2 (m2.gLocals.map Kw) (.cur k2_2), .lst 7 (m2.gBody.map Kk) c2_3, iD m2.gAt] T2)] [(2, k2_2)] (fun d h k => ∃ y0 y1, d = .lst 7 (r.1.map Kk) (.cur y0) ∧ h = [(o0, Blk.cells [.lst 4 (r.2.1.gL.map Kc) .no, iD r.2.1.gAt, iD r.2.1.gE, iD r.2.1.gVars, iD r.2.1.gOpen] T0), (o1, Blk.cells [.ptr o0 0] T1), (o2, Blk.cells [tD r.2.2.gName, .lst 2 (r.2.2.gParams.map Kw) c2_1, .lst 2 (r.2.2.gLocals.map Kw) (.cur y1), .lst 7 (r.2.2.gBody.map Kk) c2_3, iD r.2.2.gAt] T2)] ∧ k = [(7, y0), (2, y1)]) := by
 have hm := KE h0
 unfold KaL at hm
 clear h0
 refine KU htab Try.func45 rfl rfl rfl rfl rfl (fun C => ?_)
 refine Kj ?_
 refine pu ?_
 refine Ky ?_
 iterate 3 refine pu ?_
 refine pL 0 ?_
 refine pu ?_
 refine Ky ?_
 refine pu ?_
 refine p_lit htab rfl rfl rfl rfl rfl rfl rfl rfl rfl rfl rfl rfl rfl rfl ?_
 refine p_eq (i := 12) (d' := .lst 1 (([(ByteArray.mk #[123])] : List ByteArray).map eStr) .full) rfl (Wk.lst0 (.cons (WkC.refl _) (.nil))) ?_
 obtain ⟨x1, q1, hm⟩ := Kf hm
 refine Kas (K6 m0 ([(ByteArray.mk #[123])] : List ByteArray) o0 T0 c0_0 x1 q1) rfl rfl rfl rfl rfl (WkL.cons (Wk.refl _) (WkL.cons (Wk.no) Wl)) Pf Pf ?_
 rintro _ _ _ ⟨rfl, rfl, rfl⟩
 refine Kh ?_
 refine Kr ?_
 refine Kj ?_
 iterate 3 refine pu ?_
 refine pL 0 ?_
 refine pu ?_
 refine Kh ?_
 obtain ⟨y4, q4, ho4⟩ := Kf hm
 refine K7 (Y := Unit) (fun z4 => (⟨[(0, .ptr o0 0), (1, .fn (.func 46) [] [.ptr o1 0, .ptr o2 0])], [(o0, Blk.cells [.lst 4 (y4.1.map Kc) .no, iD y4.2.1, iD y4.2.2.1, iD y4.2.2.2.1, iD y4.2.2.2.2] T0), (o1, Blk.cells [.ptr o0 0] T1), (o2, Blk.cells [tD m2.gName, .lst 2 (m2.gParams.map Kw) c2_1, .lst 2 (m2.gLocals.map Kw) (.cur k2_2), .lst 7 (m2.gBody.map Kk) c2_3, iD m2.gAt] T2)], [(2, k2_2)]⟩ : S)) ?_ ?_
 ·clear hm; have hm := KE q4
  refine Ku rfl (fun hc5 => ?_) (fun hc5 => ?_)
  ·replace hm := yes_t hc5 hm
   refine KD ?_
   refine pu ?_
   refine pu ?_
   obtain ⟨x6, q6, hm⟩ := Kf hm
   refine pG (Ka7 x1 m0.gAt (5 : Int) o0 T0 c0_0 x6 q6) Wl Pf Pf ?_
   rintro _ _ _ ⟨rfl, rfl, rfl⟩
   refine KC ?_
   have e4 := Kn hm; subst e4
   refine ⟨rfl, ?_⟩
   refine WkX.wk (WkS.bl0 (ds' := [.lst 4 (x6.gL.map Kc) .no, iD x6.gAt, iD x6.gE, iD x6.gVars, iD x6.gOpen]) (rO (rC (rC (rC (rC WkR.nil)))))) ?_
   exact WkX.of () (WkS.perm (WkS.cons rfl (Wk.refl _) (WkS.cons rfl (Wk.refl _) (WkS.nil))) Pf Pf)
  ·replace hm := yes_f hc5 hm
   refine Kv ?_
   have e4 := Kn hm; subst e4
   refine ⟨rfl, ?_⟩
   refine WkX.wk (WkS.bl0 (ds' := [.lst 4 (x1.gL.map Kc) .no, iD x1.gAt, iD x1.gE, iD x1.gVars, iD x1.gOpen]) (rO (rC (rC (rC (rC WkR.nil)))))) ?_
   exact WkX.of () (WkS.perm (WkS.cons rfl (Wk.refl _) (WkS.cons rfl (Wk.refl _) (WkS.nil))) Pf Pf)
 ·intro s4 hw4; clear hm; have hm := ho4; clear q4 ho4
  refine Ki ?_
  refine KZ hw4 (fun z4 => ?_)
  refine Kj ?_
  iterate 3 refine pu ?_
  refine pL 0 ?_
  iterate 3 refine pu ?_
  refine pS0 (ds' := [.lst 4 (y4.1.map Kc) .no, iD y4.2.1, iD y4.2.2.1, iD y4.2.2.2.1, iD (IntKind.i64.wrap (y4.2.2.2.2 + (1 : Int)))]) ?_
  refine Ky ?_
  refine pu ?_
  obtain ⟨x8, q8, hm⟩ := Kf hm
  refine Kgg (Kfr m2 (⟨y4.1, y4.2.1, y4.2.2.1, y4.2.2.2.1, (IntKind.i64.wrap (y4.2.2.2.2 + (1 : Int)))⟩ : Ke) o1 T1 o0 T0 .no o2 T2 c2_1 k2_2 c2_3 x8 q8) rfl rfl rfl rfl rfl rfl rfl Wl ((Kat (j := 1) rfl).trans (List.Perm.cons _ ((Kat (j := 0) rfl).trans (List.Perm.cons _ ((Kat (j := 0) rfl).trans (List.Perm.cons _ Pf)))))) Pf ?_
  rintro _ _ _ ⟨w7, rfl, rfl, rfl⟩
  refine Ky ?_
  refine pu ?_
  refine Kh ?_
  refine Kr ?_
  obtain ⟨y38, q38, ho38⟩ := Kf hm
  refine K7 (Y := Value) (fun z38 => (⟨[(0, .ptr o0 0), (6, .lst 7 (y38.1.map Kk) (.cur z38))], [(o1, Blk.cells [.ptr o0 0] T1), (o0, Blk.cells [.lst 4 (y38.2.1.map Kc) .no, iD y38.2.2.1, iD y38.2.2.2.1, iD y38.2.2.2.2.1, iD y38.2.2.2.2.2] T0), (o2, Blk.cells [tD x8.2.gName, .lst 2 (x8.2.gParams.map Kw) c2_1, .lst 2 (x8.2.gLocals.map Kw) (.cur w7), .lst 7 (x8.2.gBody.map Kk) c2_3, iD x8.2.gAt] T2)], [(7, z38), (2, w7)]⟩ : S)) ?_ ?_
  ·clear hm; have hm := KE q38
   refine KI ?_
   obtain ⟨u39, hl39, hq39⟩ := yes_m hm
   refine KaU (Y := Value) hl39 (fun s39 z39 => (⟨[(0, .ptr o0 0), (6, .lst 7 (s39.1.map Kk) (.cur z39))], [(o1, Blk.cells [.ptr o0 0] T1), (o0, Blk.cells [.lst 4 (s39.2.1.map Kc) .no, iD s39.2.2.1, iD s39.2.2.2.1, iD s39.2.2.2.2.1, iD s39.2.2.2.2.2] T0), (o2, Blk.cells [tD x8.2.gName, .lst 2 (x8.2.gParams.map Kw) c2_1, .lst 2 (x8.2.gLocals.map Kw) (.cur w7), .lst 7 (x8.2.gBody.map Kk) c2_3, iD x8.2.gAt] T2)], [(7, z39), (2, w7)]⟩ : S)) ?_ ?_
   ·skip
    refine WkX.tokN (i := 6) 7 rfl (fun w58 => ?_)
    exact WkX.of w58 (WkS.perm (WkS.cons rfl (Wk.refl _) (WkS.cons rfl (Wk.refl _) (WkS.nil))) Pf Pf)
   ·intro G39 s39 z39 hm
    refine Kr ?_
    refine Kr ?_
    obtain ⟨y61, q61, ho61⟩ := Kf hm
    refine K7 (Y := Unit) (fun z61 => (⟨[(0, .ptr o0 0), (6, .lst 7 (s39.1.map Kk) (.cur z39)), (40, .v (.bool y61.1))], [(o1, Blk.cells [.ptr o0 0] T1), (o0, Blk.cells [.lst 4 (y61.2.1.map Kc) .no, iD y61.2.2.1, iD y61.2.2.2.1, iD y61.2.2.2.2.1, iD y61.2.2.2.2.2] T0), (o2, Blk.cells [tD x8.2.gName, .lst 2 (x8.2.gParams.map Kw) c2_1, .lst 2 (x8.2.gLocals.map Kw) (.cur w7), .lst 7 (x8.2.gBody.map Kk) c2_3, iD x8.2.gAt] T2)], [(7, z39), (2, w7)]⟩ : S)) ?_ ?_
    ·clear hm; have hm := KE q61
     refine KD ?_
     iterate 3 refine pu ?_
     refine pL 1 ?_
     refine pu ?_
     refine pu ?_
     refine K5 (i := 36) rfl (fun hg62 => ?_) (fun hg62 => ?_)
     ·replace hm := yes_t hg62 hm
      refine pu ?_
      obtain ⟨x63, q63, hm⟩ := Kf hm
      refine pG (Kap (⟨s39.2.1, s39.2.2.1, s39.2.2.2.1, s39.2.2.2.2.1, s39.2.2.2.2.2⟩ : Ke) (ByteArray.mk #[125]) o0 T0 .no x63 q63) Wl ((Kat (j := 1) rfl).trans (List.Perm.cons _ Pf)) Pf ?_
      rintro _ _ _ ⟨rfl, rfl, rfl⟩
      refine pu ?_
      refine KP rfl rfl rfl rfl rfl rfl ?_
      refine KC ?_
      have e61 := Kn hm; subst e61
      refine ⟨rfl, ?_⟩
      exact WkX.of () (WkS.perm (WkS.cons rfl (Wk.refl _) (WkS.cons rfl (Wk.refl _) (WkS.cons rfl (Wk.refl _) (WkS.nil)))) ((Kat (j := 1) rfl).trans (List.Perm.cons _ ((Kat (j := 0) rfl).trans (List.Perm.cons _ ((Kat (j := 0) rfl).trans (List.Perm.cons _ Pf)))))) Pf)
     ·replace hm := yes_f hg62 hm
      iterate 3 refine pK ?_
      refine KL rfl rfl rfl rfl rfl rfl ?_
      refine KC ?_
      have e61 := Kn hm; subst e61
      refine ⟨rfl, ?_⟩
      exact WkX.of () (WkS.perm (WkS.cons rfl (Wk.refl _) (WkS.cons rfl (Wk.refl _) (WkS.cons rfl (Wk.refl _) (WkS.nil)))) Pf Pf)
    ·intro s61 hw61; clear hm; have hm := ho61; clear q61 ho61
     refine Ki ?_
     refine KZ hw61 (fun z61 => ?_)
     refine Ku rfl (fun hc64 => ?_) (fun hc64 => ?_)
     ·replace hm := yes_t hc64 hm
      refine Kv ?_
      refine Ki ?_
      refine KI ?_
      refine KD ?_
      refine pu ?_
      refine pu ?_
      obtain ⟨x65, q65, hm⟩ := Kf hm
      refine pG (Kg9 (⟨y61.2.1, y61.2.2.1, y61.2.2.2.1, y61.2.2.2.2.1, y61.2.2.2.2.2⟩ : Ke) o0 T0 .no x65 q65) Wl ((Kat (j := 1) rfl).trans (List.Perm.cons _ Pf)) Pf ?_
      rintro _ _ _ ⟨rfl, rfl, rfl⟩
      refine p_eq (i := 43) rfl (Wk.of_eq (Kp x65.1)) ?_
      refine p_lit htab rfl rfl rfl rfl rfl rfl rfl rfl rfl rfl rfl rfl rfl rfl ?_
      refine p_eq (i := 44) (d' := .lst 7 (([x65.1] : List Kl).map Kk) .full) rfl (Wk.lst0 (.cons (WkC.trans (WkC.agg (WkR.refl _)) (WkC.of_eq (Kp x65.1).symm)) (.nil))) ?_
      obtain ⟨x66, q66, hm⟩ := Kf hm
      refine KcA 0 htab rfl rfl rfl rfl rfl rfl rfl rfl rfl rfl rfl rfl rfl rfl rfl rfl rfl (Kbe q66) (fun v66 => ?_)
      refine KcB (i := 45) q66 rfl ?_
      refine pu ?_
      refine KC ?_
      refine KF ?_
      refine Ki ⟨_, KaA hm, ?_⟩
      exact WkX.of v66 (WkS.perm (WkS.cons rfl (Wk.refl _) (WkS.cons rfl (Wk.refl _) (WkS.nil))) ((Kat (j := 1) rfl).trans (List.Perm.cons _ ((Kat (j := 0) rfl).trans (List.Perm.cons _ ((Kat (j := 0) rfl).trans (List.Perm.cons _ Pf)))))) Pf)
     ·replace hm := yes_f hc64 hm
      refine Kan ?_
      refine KJ ?_
      have e39 := Kac hm; subst e39; clear hm; have hm := hq39
      refine KJ ?_
      refine Kae ?_
      have e38 := Kn hm; subst e38
      refine ⟨rfl, ?_⟩
      exact WkX.of z39 (WkS.perm (WkS.cons rfl (Wk.refl _) (WkS.cons rfl (Wk.refl _) (WkS.nil))) Pf Pf)
  ·intro s38 hw38; clear hm; have hm := ho38; clear q38 ho38
   refine Ki ?_
   refine KZ hw38 (fun z38 => ?_)
   refine Kj ?_
   iterate 3 refine pu ?_
   refine pL 1 ?_
   iterate 3 refine pu ?_
   refine pS1 (ds' := [.lst 4 (y38.2.1.map Kc) .no, iD y38.2.2.1, iD y38.2.2.2.1, iD y38.2.2.2.2.1, iD (IntKind.i64.wrap (y38.2.2.2.2.2 - (1 : Int)))]) ?_
   refine Ky ?_
   refine pu ?_
   refine pu ?_
   refine Kh ?_
   refine Ks ?_
   have er67 := Kn hm; subst er67
   refine rP (t' := [(4, .lst 7 (y38.1.map Kk) (.cur z38))]) [1,0,0] [0,0] 3 (wC wN) (lT lN) ?_
   exact ⟨z38, w7, rfl, rfl, rfl⟩
noncomputable def Kca (g0 : (Ka) → Option (Int)) (a0 : Ka) : Option (Int) :=
 (Option.bind (α := Int) (loopM (fun (s19 : Int × Int) => (bif (decide (s19.2 < (a0.gKids.length : Int))) then ((idx a0.gKids s19.2).bind fun x31 => ((g0 x31).bind fun x33 => some (.next ((IntKind.i64.wrap (s19.1 + x33)), (IntKind.i64.wrap (s19.2 + (1 : Int))))))) else some (.done s19.1))) ((1 : Int), (0 : Int))) fun y18 => some y18)
theorem KjH (g0 : (Ka) → Option (Int)) (hg0 : ∀ (a0 : Ka) (r : Int) (h0 : g0 a0 = some r), CallsD Try.prog 59 [Kg a0] [] [] (fun d h k => d = iD r ∧ h = [] ∧ k = [])) (a0 : Ka) (r : Int) (h0 : Kca g0 a0 = some r) : CallsD Try.prog 59 [Kg a0] [] [] (fun d h k => d = iD r ∧ h = [] ∧ k = []) := by
 have hm := KE h0
 unfold Kca at hm
 clear h0
 refine KU htab Try.func59 rfl rfl rfl rfl rfl (fun C => ?_)
 refine w_eq (i := 0) rfl (Wk.of_eq (Km a0)) ?_
 refine Kj ?_
 refine p_box rfl rfl rfl rfl rfl rfl rfl (fun b1 => ?_)
 refine pu ?_
 refine Ky ?_
 refine pu ?_
 refine Kh ?_
 refine Kr ?_
 refine Kj ?_
 refine pu ?_
 refine pL 0 ?_
 refine KaK htab rfl rfl rfl rfl rfl rfl rfl (by first | exact Kab | rfl) ?_
 refine pu ?_
 refine Kh ?_
 obtain ⟨y18, q18, ho18⟩ := Kf hm
 refine K7 (Y := Unit) (fun z18 => (⟨[(3, iD y18)], [], []⟩ : S)) ?_ ?_
 ·clear hm; have hm := KE q18
  refine KI ?_
  obtain ⟨u19, hl19, hq19⟩ := yes_m hm
  refine KaU (Y := Unit) hl19 (fun s19 z19 => (⟨[(3, iD s19.1), (7, .lst 5 (a0.gKids.map Kg) .no), (8, iD (a0.gKids.length : Int)), (9, iD s19.2)], [], []⟩ : S)) ?_ ?_
  ·skip
   exact WkX.of () (WkS.perm (WkS.cons rfl (Wk.refl _) (WkS.cons rfl (Wk.refl _) (WkS.cons rfl (Wk.refl _) (WkS.cons rfl (Wk.refl _) (WkS.nil))))) Pf Pf)
  ·intro G19 s19 z19 hm
   refine Kj ?_
   refine pu ?_
   refine Kh ?_
   refine Kr ?_
   refine Ku rfl (fun hc30 => ?_) (fun hc30 => ?_)
   ·replace hm := yes_t hc30 hm
    refine Kv ?_
    refine Ki ?_
    refine Kr ?_
    refine KI ?_
    refine Kj ?_
    obtain ⟨x31, q31, hm⟩ := Kf hm
    refine KaR htab rfl rfl rfl rfl rfl rfl rfl rfl rfl rfl (Kt q31) (KA q31) ?_
    refine p_eq (i := 11) rfl (Wk.of_eq (congrArg D.el (Km x31))) ?_
    refine Kav (d := .agg [iD x31.gOp, iD x31.gN, tD x31.gName, .lst 5 (x31.gKids.map Kg) .no, iD x31.gAt]) htab rfl rfl rfl rfl rfl rfl rfl rfl ?_
    refine KW htab rfl rfl rfl rfl rfl rfl rfl (fun b32 => ?_)
    refine pS0 (ds' := [iD x31.gOp, iD x31.gN, tD x31.gName, .lst 5 (x31.gKids.map Kg) .no, iD x31.gAt]) ?_
    refine Kh ?_
    refine KD ?_
    refine pu ?_
    refine K8 (d := .agg [iD x31.gOp, iD x31.gN, tD x31.gName, .lst 5 (x31.gKids.map Kg) .no, iD x31.gAt]) 0 htab rfl rfl rfl rfl rfl rfl rfl rfl ?_
    obtain ⟨x33, q33, hm⟩ := Kf hm
    refine Kaw (hg0 x31 x33 q33) rfl rfl rfl rfl rfl (WkL.cons (Wk.trans (Wk.agg (WkR.refl _)) (Wk.of_eq (Km x31).symm)) Wl) ?_
    rintro _ rfl
    refine pu ?_
    refine pu ?_
    refine KC ?_
    refine KF ?_
    refine Ki ?_
    refine KD ?_
    refine pu ?_
    refine pu ?_
    refine KC ?_
    refine Ki ⟨_, KaA hm, ?_⟩
    exact WkX.of () (WkS.perm (WkS.cons rfl (Wk.refl _) (WkS.cons rfl (Wk.refl _) (WkS.cons rfl (Wk.refl _) (WkS.cons rfl (Wk.refl _) (WkS.nil))))) Pf Pf)
   ·replace hm := yes_f hc30 hm
    refine Kan ?_
    refine KJ ?_
    have e19 := Kac hm; subst e19; clear hm; have hm := hq19
    refine KJ ?_
    refine Kae ?_
    have e18 := Kn hm; subst e18
    refine ⟨rfl, ?_⟩
    exact WkX.of () (WkS.perm (WkS.cons rfl (Wk.refl _) (WkS.nil)) Pf Pf)
 ·intro s18 hw18; clear hm; have hm := ho18; clear q18 ho18
  refine Ki ?_
  refine KZ hw18 (fun z18 => ?_)
  refine Kj ?_
  refine pu ?_
  refine pu ?_
  refine Kh ?_
  refine Ks ?_
  have er34 := Kn hm; subst er34
  refine rP (t' := [(2, iD y18)]) [] [] 0 (wC wN) (lT lN) ?_
  exact ⟨rfl, rfl, rfl⟩
noncomputable def KbJ : Nat → ((Ka) → Option (Int))
 | 0 => (fun _ => none)
 | n + 1 => (Kca ((KbJ n)))
theorem Khp : ∀ n, (∀ (a0 : Ka) (r : Int) (h0 : (KbJ n) a0 = some r), CallsD Try.prog 59 [Kg a0] [] [] (fun d h k => d = iD r ∧ h = [] ∧ k = []))
  | 0 => fun _ _ h0 => by cases h0
  | n + 1 => by
    have ih := Khp n
    exact KjH (KbJ n) ih
theorem Khq : ∀ n, (∀ (a0 : Ka), Le ((KbJ n) a0) ((KbJ (n + 1)) a0))
  | 0 => fun _ => Le.none _
  | n + 1 => by
    have ih := Khq n
    exact fun a0 => by show Le (Kca ((KbJ n)) a0) (Kca ((KbJ (n + 1))) a0); unfold Kca; repeat (first | exact Le.refl _ | exact ih _ | assumption | (refine Le.bind ?_ (fun _ => ?_)) | (refine Le.cond ?_ ?_) | (refine Le.loop (fun _ => ?_)) | (refine Le.elim (fun _ => ?_) (fun _ => ?_)))
noncomputable def KfN (a0 : Ka) : Option (Int) := anyN fun n => (KbJ n) a0
theorem Kit (a0 : Ka) {r : Int} (n : Nat) (h : (KbJ n) a0 = some r) : KfN a0 = some r := Kc9 (fun m => (Khq m) a0) h
theorem KkE (a0 : Ka) (r : Int) (h0 : KfN a0 = some r) : CallsD Try.prog 59 [Kg a0] [] [] (fun d h k => d = iD r ∧ h = [] ∧ k = []) :=
 let ⟨n, hn⟩ := KcI h0; (Khp n) a0  r hn
noncomputable def KbY (g0 : (List Kl) → Option (Int)) (a0 : List Kl) : Option (Int) :=
 (Option.bind (α := Int) (loopM (fun (s115 : Int × Int) => (bif (decide (s115.2 < (a0.length : Int))) then ((idx a0 s115.2).bind fun x191 => ((g0 x191.gKids).bind fun x193 => ((g0 x191.gElse).bind fun x194 => (Option.bind (α := Int) (loopM (fun (s211 : Int × Int) => (bif (decide (s211.2 < (x191.gExps.length : Int))) then ((idx x191.gExps s211.2).bind fun x223 => ((KfN x223).bind fun x225 => some (.next ((IntKind.i64.wrap (s211.1 + x225)), (IntKind.i64.wrap (s211.2 + (1 : Int))))))) else some (.done s211.1))) ((IntKind.i64.wrap (s115.1 + (IntKind.i64.wrap ((IntKind.i64.wrap ((1 : Int) + x193)) + x194)))), (0 : Int))) fun y210 => some (.next (y210, (IntKind.i64.wrap (s115.2 + (1 : Int))))))))) else some (.done s115.1))) ((0 : Int), (0 : Int))) fun y114 => some y114)
theorem Kjw (g0 : (List Kl) → Option (Int)) (hg0 : ∀ (a0 : List Kl) (r : Int) (h0 : g0 a0 = some r), CallsD Try.prog 48 [.lst 7 (a0.map Kk) .no] [] [] (fun d h k => d = iD r ∧ h = [] ∧ k = [])) (a0 : List Kl) (r : Int) (h0 : KbY g0 a0 = some r) : CallsD Try.prog 48 [.lst 7 (a0.map Kk) .no] [] [] (fun d h k => d = iD r ∧ h = [] ∧ k = []) := by
 have hm := KE h0
 unfold KbY at hm
 clear h0
 refine KU htab Try.func48 rfl rfl rfl rfl rfl (fun C => ?_)
 refine Kj ?_
 refine pu ?_
 refine Ky ?_
 refine pu ?_
 refine Kh ?_
 refine Kr ?_
 refine Kj ?_
 refine pu ?_
 refine KaK htab rfl rfl rfl rfl rfl rfl rfl (by first | exact Kab | rfl) ?_
 refine pu ?_
 refine Kh ?_
 obtain ⟨y114, q114, ho114⟩ := Kf hm
 refine K7 (Y := Unit) (fun z114 => (⟨[(3, iD y114)], [], []⟩ : S)) ?_ ?_
 ·clear hm; have hm := KE q114
  refine KI ?_
  obtain ⟨u115, hl115, hq115⟩ := yes_m hm
  refine KaU (Y := Unit) hl115 (fun s115 z115 => (⟨[(3, iD s115.1), (8, .lst 7 (a0.map Kk) .no), (9, iD (a0.length : Int)), (10, iD s115.2)], [], []⟩ : S)) ?_ ?_
  ·skip
   exact WkX.of () (WkS.perm (WkS.cons rfl (Wk.refl _) (WkS.cons rfl (Wk.refl _) (WkS.cons rfl (Wk.refl _) (WkS.cons rfl (Wk.refl _) (WkS.nil))))) Pf Pf)
  ·intro G115 s115 z115 hm
   refine Kj ?_
   refine pu ?_
   refine Kh ?_
   refine Kr ?_
   refine Ku rfl (fun hc190 => ?_) (fun hc190 => ?_)
   ·replace hm := yes_t hc190 hm
    refine Kv ?_
    refine Ki ?_
    refine Kr ?_
    refine KI ?_
    refine Kj ?_
    obtain ⟨x191, q191, hm⟩ := Kf hm
    refine KaR htab rfl rfl rfl rfl rfl rfl rfl rfl rfl rfl (Kt q191) (KA q191) ?_
    refine p_eq (i := 12) rfl (Wk.of_eq (congrArg D.el (Kp x191))) ?_
    refine Kav (d := .agg [iD x191.gOp, tD x191.gName, tD x191.gFunc, .lst 5 (x191.gExps.map Kg) .no, .lst 7 (x191.gKids.map Kk) .no, .lst 7 (x191.gElse.map Kk) .no, iD x191.gAt]) htab rfl rfl rfl rfl rfl rfl rfl rfl ?_
    refine KW htab rfl rfl rfl rfl rfl rfl rfl (fun b192 => ?_)
    refine pS0 (ds' := [iD x191.gOp, tD x191.gName, tD x191.gFunc, .lst 5 (x191.gExps.map Kg) .no, .lst 7 (x191.gKids.map Kk) .no, .lst 7 (x191.gElse.map Kk) .no, iD x191.gAt]) ?_
    refine Kh ?_
    refine Kr ?_
    obtain ⟨x193, q193, hm⟩ := Kf hm
    obtain ⟨x194, q194, hm⟩ := Kf hm
    refine Kah 9 [] [[],[],[1],[1,2],[1,2,3],[],[5],[1,2,3,5,6],[1,2,3,5,6,7]] [1,2,3,5,6,7] [[],[],[1],[1,2],[1,2,3],[],[5],[1,2,3,5,6],[1,2,3,4,5,6,7],[0,1,2,3,4,5,6,7,8],[0,1,2,3,4,5,6,7,8,9]] (by kernel_rfl) (by kernel_rfl) (by kernel_rfl) (by rfl) (by rfl) (by kernel_rfl) ?_
    iterate 6 apply Exists.intro
    intro bs
    refine zqp ?_
    refine zep ?_
    refine z_eM rfl rfl (KM 0 htab rfl rfl rfl rfl rfl) rfl rfl rfl rfl rfl rfl ?_
    refine KdE rfl rfl (hg0 x191.gKids x193 q193) rfl rfl Wl rfl rfl rfl rfl rfl rfl ?_
    refine zqp ?_
    refine zep ?_
    refine z_eM rfl rfl (KM 0 htab rfl rfl rfl rfl rfl) rfl rfl rfl rfl rfl rfl ?_
    refine KdE rfl rfl (hg0 x191.gElse x194 q194) rfl rfl Wl rfl rfl rfl rfl rfl rfl ?_
    refine zqp ?_
    refine z_nil rfl rfl (fun e he => by simp [isAl] at he) ?_
    refine pu ?_
    refine pu ?_
    refine Ky ?_
    refine pu ?_
    refine pL 0 ?_
    refine KaK htab rfl rfl rfl rfl rfl rfl rfl (by first | exact Kab | rfl) ?_
    refine pu ?_
    refine Kh ?_
    obtain ⟨y210, q210, ho210⟩ := Kf hm
    refine K7 (Y := Unit) (fun z210 => (⟨[(3, iD y210), (8, .lst 7 (a0.map Kk) .no), (9, iD (a0.length : Int)), (10, iD s115.2)], [], []⟩ : S)) ?_ ?_
    ·clear hm; have hm := KE q210
     refine KI ?_
     obtain ⟨u211, hl211, hq211⟩ := yes_m hm
     refine KaU (Y := Unit) hl211 (fun s211 z211 => (⟨[(3, iD s211.1), (8, .lst 7 (a0.map Kk) .no), (9, iD (a0.length : Int)), (10, iD s115.2), (25, .lst 5 (x191.gExps.map Kg) .no), (26, iD (x191.gExps.length : Int)), (27, iD s211.2)], [], []⟩ : S)) ?_ ?_
     ·skip
      exact WkX.of () (WkS.perm (WkS.cons rfl (Wk.refl _) (WkS.cons rfl (Wk.refl _) (WkS.cons rfl (Wk.refl _) (WkS.cons rfl (Wk.refl _) (WkS.cons rfl (Wk.refl _) (WkS.cons rfl (Wk.refl _) (WkS.cons rfl (Wk.refl _) (WkS.nil)))))))) Pf Pf)
     ·intro G211 s211 z211 hm
      refine Kj ?_
      refine pu ?_
      refine Kh ?_
      refine Kr ?_
      refine Ku rfl (fun hc222 => ?_) (fun hc222 => ?_)
      ·replace hm := yes_t hc222 hm
       refine Kv ?_
       refine Ki ?_
       refine Kr ?_
       refine KI ?_
       refine Kj ?_
       obtain ⟨x223, q223, hm⟩ := Kf hm
       refine KaR htab rfl rfl rfl rfl rfl rfl rfl rfl rfl rfl (Kt q223) (KA q223) ?_
       refine p_eq (i := 29) rfl (Wk.of_eq (congrArg D.el (Km x223))) ?_
       refine Kav (d := .agg [iD x223.gOp, iD x223.gN, tD x223.gName, .lst 5 (x223.gKids.map Kg) .no, iD x223.gAt]) htab rfl rfl rfl rfl rfl rfl rfl rfl ?_
       refine KW htab rfl rfl rfl rfl rfl rfl rfl (fun b224 => ?_)
       refine pS0 (ds' := [iD x223.gOp, iD x223.gN, tD x223.gName, .lst 5 (x223.gKids.map Kg) .no, iD x223.gAt]) ?_
       refine Kh ?_
       refine KD ?_
       refine pu ?_
       refine K8 (d := .agg [iD x223.gOp, iD x223.gN, tD x223.gName, .lst 5 (x223.gKids.map Kg) .no, iD x223.gAt]) 0 htab rfl rfl rfl rfl rfl rfl rfl rfl ?_
       obtain ⟨x225, q225, hm⟩ := Kf hm
       refine Kaw (KkE x223 x225 q225) rfl rfl rfl rfl rfl (WkL.cons (Wk.trans (Wk.agg (WkR.refl _)) (Wk.of_eq (Km x223).symm)) Wl) ?_
       rintro _ rfl
       refine pu ?_
       refine pu ?_
       refine KC ?_
       refine KF ?_
       refine Ki ?_
       refine KD ?_
       refine pu ?_
       refine pu ?_
       refine KC ?_
       refine Ki ⟨_, KaA hm, ?_⟩
       exact WkX.of () (WkS.perm (WkS.cons rfl (Wk.refl _) (WkS.cons rfl (Wk.refl _) (WkS.cons rfl (Wk.refl _) (WkS.cons rfl (Wk.refl _) (WkS.cons rfl (Wk.refl _) (WkS.cons rfl (Wk.refl _) (WkS.cons rfl (Wk.refl _) (WkS.nil)))))))) Pf Pf)
      ·replace hm := yes_f hc222 hm
       refine Kan ?_
       refine KJ ?_
       have e211 := Kac hm; subst e211; clear hm; have hm := hq211
       refine KJ ?_
       refine Kae ?_
       have e210 := Kn hm; subst e210
       refine ⟨rfl, ?_⟩
       exact WkX.of () (WkS.perm (WkS.cons rfl (Wk.refl _) (WkS.cons rfl (Wk.refl _) (WkS.cons rfl (Wk.refl _) (WkS.cons rfl (Wk.refl _) (WkS.nil))))) Pf Pf)
    ·intro s210 hw210; clear hm; have hm := ho210; clear q210 ho210
     refine KF ?_
     refine Ki ?_
     refine KZ hw210 (fun z210 => ?_)
     refine KD ?_
     refine pu ?_
     refine pu ?_
     refine KC ?_
     refine Ki ⟨_, KaA hm, ?_⟩
     exact WkX.of () (WkS.perm (WkS.cons rfl (Wk.refl _) (WkS.cons rfl (Wk.refl _) (WkS.cons rfl (Wk.refl _) (WkS.cons rfl (Wk.refl _) (WkS.nil))))) Pf Pf)
   ·replace hm := yes_f hc190 hm
    refine Kan ?_
    refine KJ ?_
    have e115 := Kac hm; subst e115; clear hm; have hm := hq115
    refine KJ ?_
    refine Kae ?_
    have e114 := Kn hm; subst e114
    refine ⟨rfl, ?_⟩
    exact WkX.of () (WkS.perm (WkS.cons rfl (Wk.refl _) (WkS.nil)) Pf Pf)
 ·intro s114 hw114; clear hm; have hm := ho114; clear q114 ho114
  refine Ki ?_
  refine KZ hw114 (fun z114 => ?_)
  refine Kj ?_
  refine pu ?_
  refine pu ?_
  refine Kh ?_
  refine Ks ?_
  have er226 := Kn hm; subst er226
  refine rP (t' := [(2, iD y114)]) [] [] 0 (wC wN) (lT lN) ?_
  exact ⟨rfl, rfl, rfl⟩
noncomputable def Kbu : Nat → ((List Kl) → Option (Int))
 | 0 => (fun _ => none)
 | n + 1 => (KbY ((Kbu n)))
theorem KgW : ∀ n, (∀ (a0 : List Kl) (r : Int) (h0 : (Kbu n) a0 = some r), CallsD Try.prog 48 [.lst 7 (a0.map Kk) .no] [] [] (fun d h k => d = iD r ∧ h = [] ∧ k = []))
  | 0 => fun _ _ h0 => by cases h0
  | n + 1 => by
    have ih := KgW n
    exact Kjw (Kbu n) ih
theorem KgX : ∀ n, (∀ (a0 : List Kl), Le ((Kbu n) a0) ((Kbu (n + 1)) a0))
  | 0 => fun _ => Le.none _
  | n + 1 => by
    have ih := KgX n
    exact fun a0 => by show Le (KbY ((Kbu n)) a0) (KbY ((Kbu (n + 1))) a0); unfold KbY; repeat (first | exact Le.refl _ | exact ih _ | assumption | (refine Le.bind ?_ (fun _ => ?_)) | (refine Le.cond ?_ ?_) | (refine Le.loop (fun _ => ?_)) | (refine Le.elim (fun _ => ?_) (fun _ => ?_)))
noncomputable def Keu (a0 : List Kl) : Option (Int) := anyN fun n => (Kbu n) a0
theorem Kh9 (a0 : List Kl) {r : Int} (n : Nat) (h : (Kbu n) a0 = some r) : Keu a0 = some r := Kc9 (fun m => (KgX m) a0) h
theorem Kkr (a0 : List Kl) (r : Int) (h0 : Keu a0 = some r) : CallsD Try.prog 48 [.lst 7 (a0.map Kk) .no] [] [] (fun d h k => d = iD r ∧ h = [] ∧ k = []) :=
 let ⟨n, hn⟩ := KcI h0; (KgW n) a0  r hn
noncomputable def Ka2 (m0 : Ke) : Option (KS × Ke) :=
 ((KaE m0 (0 : Int)).bind fun x3 => ((KO m0 ([(ByteArray.mk #[105, 110, 116])] : List ByteArray)).bind fun x5 => ((KaF x5).bind fun x6 => ((Kaz x6.2).bind fun x8 => ((KaL x8.2 (⟨x6.1, x8.1, [], [], x3.gAt⟩ : KS)).bind fun x12 => (Option.bind (α := Bool) (bif (x12.2.1.gE == (0 : Int)) then ((Keu x12.1).bind fun x17 => some (decide ((800 : Int) < x17))) else some false) fun y15 => (bif y15 then ((Kao x12.2.1 x5.gAt (6 : Int)).bind fun x19 => some ((⟨x12.2.2.gName, x12.2.2.gParams, x12.2.2.gLocals, x12.1, x12.2.2.gAt⟩ : KS), x19)) else some ((⟨x12.2.2.gName, x12.2.2.gParams, x12.2.2.gLocals, x12.1, x12.2.2.gAt⟩ : KS), x12.2.1))))))))
theorem KfX (m0 : Ke) (o0 : Nat) (T0 : TypeId) (c0_0 : Cap) (r : KS × Ke) (h0 : Ka2 m0 = some r) : CallsD Try.prog 22 [.ptr o0 0] [(o0, Blk.cells [.lst 4 (m0.gL.map Kc) c0_0, iD m0.gAt, iD m0.gE, iD m0.gVars, iD m0.gOpen] T0)] [] (fun d h k => ∃ y0 y1 y2, d = .agg [tD r.1.gName, .lst 2 (r.1.gParams.map Kw) (.cur y0), .lst 2 (r.1.gLocals.map Kw) (.cur y1), .lst 7 (r.1.gBody.map Kk) (.cur y2), iD r.1.gAt] ∧ h = [(o0, Blk.cells [.lst 4 (r.2.gL.map Kc) .no, iD r.2.gAt, iD r.2.gE, iD r.2.gVars, iD r.2.gOpen] T0)] ∧ k = [(2, y0), (2, y1), (7, y2)]) := by
 have hm := KE h0
 unfold Ka2 at hm
 clear h0
 refine KU htab Try.func22 rfl rfl rfl rfl rfl (fun C => ?_)
 refine Kj ?_
 refine p_box rfl rfl rfl rfl rfl rfl rfl (fun b1 => ?_)
 refine KW htab rfl rfl rfl rfl rfl rfl rfl (fun b2 => ?_)
 refine Ky ?_
 refine pL 1 ?_
 obtain ⟨x3, q3, hm⟩ := Kf hm
 refine pG (KbW m0 (0 : Int) o0 T0 c0_0 x3 q3) Wl Pf Pf ?_
 rintro _ _ _ ⟨rfl, rfl, rfl⟩
 refine pu ?_
 refine Kaf (r := [tD ByteArray.empty, .lst 1 [] .full, .lst 1 [] .full, .lst 1 [] .full, iD x3.gAt]) htab rfl rfl rfl rfl rfl rfl rfl rfl rfl ?_
 refine KW htab rfl rfl rfl rfl rfl rfl rfl (fun b4 => ?_)
 refine pS3 (ds' := [tD ByteArray.empty, .lst 1 [] .full, .lst 1 [] .full, .lst 1 [] .full, iD x3.gAt]) ?_
 refine Ky ?_
 refine pL 1 ?_
 refine p_lit htab rfl rfl rfl rfl rfl rfl rfl rfl rfl rfl rfl rfl rfl rfl ?_
 refine p_eq (i := 10) (d' := .lst 1 (([(ByteArray.mk #[105, 110, 116])] : List ByteArray).map eStr) .full) rfl (Wk.lst0 (.cons (WkC.refl _) (.nil))) ?_
 obtain ⟨x5, q5, hm⟩ := Kf hm
 refine Kas (K6 m0 ([(ByteArray.mk #[105, 110, 116])] : List ByteArray) o0 T0 c0_0 x5 q5) rfl rfl rfl rfl rfl (WkL.cons (Wk.refl _) (WkL.cons (Wk.no) Wl)) Pf Pf ?_
 rintro _ _ _ ⟨rfl, rfl, rfl⟩
 refine Ky ?_
 refine pL 1 ?_
 refine pu ?_
 refine pu ?_
 refine pL 0 ?_
 refine pu ?_
 refine Ky ?_
 refine pL 1 ?_
 obtain ⟨x6, q6, hm⟩ := Kf hm
 refine pG (KbX x5 o0 T0 c0_0 x6 q6) Wl Pf Pf ?_
 rintro _ _ _ ⟨rfl, rfl, rfl⟩
 refine pu ?_
 refine pS3 (ds' := [tD x6.1, .lst 1 [] .full, .lst 1 [] .full, .lst 1 [] .full, iD x3.gAt]) ?_
 refine Ky ?_
 refine pL 1 ?_
 refine pL 1 ?_
 refine pu ?_
 obtain ⟨x8, q8, hm⟩ := Kf hm
 refine pG (KgN x6.2 o0 T0 c0_0 x8 q8) Wl Pf Pf ?_
 rintro _ _ _ ⟨w7, rfl, rfl, rfl⟩
 refine pu ?_
 refine pS3 (ds' := [tD x6.1, .lst 2 (x8.1.map Kw) (.cur w7), .lst 1 [] .full, .lst 1 [] .full, iD x3.gAt]) ?_
 refine Ky ?_
 refine pL 1 ?_
 refine pu ?_
 refine p_cellF (off := 2) 2 3 rfl rfl (by first | exact Or.inl rfl | exact Or.inr rfl) (fun w9 => ?_)
 refine o_blk 3 rfl (ds' := [tD x6.1, .lst 2 (x8.1.map Kw) (.cur w7), .lst 2 (([] : List KV).map Kw) (.cur w9), .lst 7 (([] : List Kl).map Kk) .full, iD x3.gAt]) (rC (rC (rC (WkR.cons (WkC.nilF) rfl (rC WkR.nil))))) rfl ?_
 obtain ⟨x12, q12, hm⟩ := Kf hm
 refine pG (KgP x8.2 (⟨x6.1, x8.1, [], [], x3.gAt⟩ : KS) o0 T0 .no b1 59 b4 26 (.cur w7) w9 .full x12 q12) Wl ((Kat (j := 0) rfl).trans (List.Perm.cons _ ((Kat (j := 0) rfl).trans (List.Perm.cons _ ((Kat (j := 1) rfl).trans (List.Perm.cons _ Pf)))))) Pf ?_
 rintro _ _ _ ⟨w10, w11, rfl, rfl, rfl⟩
 refine pu ?_
 refine pS2 (ds' := [tD x12.2.2.gName, .lst 2 (x12.2.2.gParams.map Kw) (.cur w7), .lst 2 (x12.2.2.gLocals.map Kw) (.cur w11), .lst 7 (x12.1.map Kk) (.cur w10), iD x12.2.2.gAt]) ?_
 refine Kh ?_
 refine Kr ?_
 refine Kr ?_
 obtain ⟨y15, q15, ho15⟩ := Kf hm
 refine K7 (Y := Unit) (fun z15 => (⟨[(1, .ptr b1 0), (2, .ptr b2 0), (3, .ptr b4 0), (4, iD x5.gAt), (38, .v (.bool y15))], [(o0, Blk.cells [.lst 4 (x12.2.1.gL.map Kc) .no, iD x12.2.1.gAt, iD x12.2.1.gE, iD x12.2.1.gVars, iD x12.2.1.gOpen] T0), (b1, Blk.cells [.ptr o0 0] 59), (b4, Blk.cells [tD x12.2.2.gName, .lst 2 (x12.2.2.gParams.map Kw) (.cur w7), .lst 2 (x12.2.2.gLocals.map Kw) (.cur w11), .lst 7 (x12.1.map Kk) (.cur w10), iD x12.2.2.gAt] 26), (b2, Blk.cells [tD ByteArray.empty, .lst 1 [] .full, .lst 1 [] .full, .lst 1 [] .full, iD (0 : Int)] 26)], [(7, w10), (2, w11), (2, w7)]⟩ : S)) ?_ ?_
 ·clear hm; have hm := KE q15
  refine KD ?_
  refine pL 1 ?_
  refine pu ?_
  refine pu ?_
  refine pL 0 ?_
  refine pu ?_
  refine pu ?_
  refine K5 (i := 33) rfl (fun hg16 => ?_) (fun hg16 => ?_)
  ·replace hm := yes_t hg16 hm
   refine pu ?_
   refine pL 2 ?_
   obtain ⟨x17, q17, hm⟩ := Kf hm
   refine Kaw (Kkr x12.1 x17 q17) rfl rfl rfl rfl rfl (WkL.cons (Wk.no) Wl) ?_
   rintro _ rfl
   refine pu ?_
   refine KP rfl rfl rfl rfl rfl rfl ?_
   refine KC ?_
   have e15 := Kn hm; subst e15
   refine ⟨rfl, ?_⟩
   exact WkX.of () (WkS.perm (WkS.cons rfl (Wk.refl _) (WkS.cons rfl (Wk.refl _) (WkS.cons rfl (Wk.refl _) (WkS.cons rfl (Wk.refl _) (WkS.cons rfl (Wk.refl _) (WkS.nil)))))) Pf Pf)
  ·replace hm := yes_f hg16 hm
   iterate 4 refine pK ?_
   refine KL rfl rfl rfl rfl rfl rfl ?_
   refine KC ?_
   have e15 := Kn hm; subst e15
   refine ⟨rfl, ?_⟩
   exact WkX.of () (WkS.perm (WkS.cons rfl (Wk.refl _) (WkS.cons rfl (Wk.refl _) (WkS.cons rfl (Wk.refl _) (WkS.cons rfl (Wk.refl _) (WkS.cons rfl (Wk.refl _) (WkS.nil)))))) Pf Pf)
 ·intro s15 hw15; clear hm; have hm := ho15; clear q15 ho15
  refine Ki ?_
  refine KZ hw15 (fun z15 => ?_)
  refine Ku rfl (fun hc18 => ?_) (fun hc18 => ?_)
  ·replace hm := yes_t hc18 hm
   refine KD ?_
   refine pL 1 ?_
   refine pu ?_
   obtain ⟨x19, q19, hm⟩ := Kf hm
   refine pG (Ka7 x12.2.1 x5.gAt (6 : Int) o0 T0 .no x19 q19) Wl Pf Pf ?_
   rintro _ _ _ ⟨rfl, rfl, rfl⟩
   refine Ky ?_
   refine K8 (d := .agg [tD x12.2.2.gName, .lst 2 (x12.2.2.gParams.map Kw) (.cur w7), .lst 2 (x12.2.2.gLocals.map Kw) (.cur w11), .lst 7 (x12.1.map Kk) (.cur w10), iD x12.2.2.gAt]) 2 htab rfl rfl rfl rfl rfl rfl rfl rfl ?_
   refine pS3 (ds' := [tD x12.2.2.gName, .lst 2 (x12.2.2.gParams.map Kw) (.cur w7), .lst 2 (x12.2.2.gLocals.map Kw) (.cur w11), .lst 7 (x12.1.map Kk) (.cur w10), iD x12.2.2.gAt]) ?_
   refine Kh ?_
   refine Ks ?_
   have er20 := Kn hm; subst er20
   refine rP (t' := [(2, .ptr b2 0)]) [0,2] [2,1,0] 1 (wC wN) (lC 1 lN) ?_
   exact ⟨w7, w11, w10, rfl, rfl, rfl⟩
  ·replace hm := yes_f hc18 hm
   refine Kv ?_
   refine Ki ?_
   refine Kj ?_
   refine K8 (d := .agg [tD x12.2.2.gName, .lst 2 (x12.2.2.gParams.map Kw) (.cur w7), .lst 2 (x12.2.2.gLocals.map Kw) (.cur w11), .lst 7 (x12.1.map Kk) (.cur w10), iD x12.2.2.gAt]) 2 htab rfl rfl rfl rfl rfl rfl rfl rfl ?_
   refine pS3 (ds' := [tD x12.2.2.gName, .lst 2 (x12.2.2.gParams.map Kw) (.cur w7), .lst 2 (x12.2.2.gLocals.map Kw) (.cur w11), .lst 7 (x12.1.map Kk) (.cur w10), iD x12.2.2.gAt]) ?_
   refine Kh ?_
   refine Ks ?_
   have er21 := Kn hm; subst er21
   refine rP (t' := [(2, .ptr b2 0)]) [0,2] [2,1,0] 1 (wC wN) (lC 1 lN) ?_
   exact ⟨w7, w11, w10, rfl, rfl, rfl⟩
noncomputable def Kcn (a0 : List Kq) (a1 : Int) : Option (KS × Int × Int) :=
 ((Kct a0 a1).bind fun x3 => (bif (!x3.2) then some ((⟨ByteArray.empty, [], [], [], (0 : Int)⟩ : KS), (0 : Int), (2 : Int)) else ((Ka2 x3.1).bind fun x13 => (bif (x13.2.gE != (0 : Int)) then some ((⟨ByteArray.empty, [], [], [], (0 : Int)⟩ : KS), x13.2.gAt, x13.2.gE) else some (x13.1, x13.2.gAt, (0 : Int))))))
theorem Kjx (a0 : List Kq) (a1 : Int) (r : KS × Int × Int) (h0 : Kcn a0 a1 = some r) : CallsD Try.prog 10 [.lst 4 (a0.map Kc) .no, iD a1] [] [] (fun d h k => ∃ y0 y1 y2, d = .tup [.agg [tD r.1.gName, .lst 2 (r.1.gParams.map Kw) (.cur y0), .lst 2 (r.1.gLocals.map Kw) (.cur y1), .lst 7 (r.1.gBody.map Kk) (.cur y2), iD r.1.gAt], iD r.2.1, iD r.2.2] ∧ h = [] ∧ k = [(2, y0), (2, y1), (7, y2)]) := by
 have hm := KE h0
 unfold Kcn at hm
 clear h0
 refine KU htab Try.func10 rfl rfl rfl rfl rfl (fun C => ?_)
 refine Kj ?_
 refine KW htab rfl rfl rfl rfl rfl rfl rfl (fun b1 => ?_)
 refine pu ?_
 refine pu ?_
 refine Ky ?_
 refine pu ?_
 refine pu ?_
 obtain ⟨x3, q3, hm⟩ := Kf hm
 refine pG (Kjc a0 a1 x3 q3) Wl Pf Pf ?_
 rintro _ _ _ ⟨w2, rfl, rfl, rfl⟩
 iterate 5 refine pu ?_
 refine Kh ?_
 refine Kr ?_
 refine Kj ?_
 refine pu ?_
 refine pu ?_
 refine Kh ?_
 refine Ku rfl (fun hc5 => ?_) (fun hc5 => ?_)
 ·replace hm := yes_t hc5 hm
  refine Kj ?_
  refine Kaf (r := [tD ByteArray.empty, .lst 1 [] .full, .lst 1 [] .full, .lst 1 [] .full, iD (0 : Int)]) htab rfl rfl rfl rfl rfl rfl rfl rfl rfl ?_
  refine pS1 (ds' := [tD ByteArray.empty, .lst 1 [] .full, .lst 1 [] .full, .lst 1 [] .full, iD (0 : Int)]) ?_
  refine pu ?_
  refine pu ?_
  refine Kh ?_
  refine Ks ?_
  refine Kx ?_
  have er6 := Kn hm; subst er6
  refine retX.cellF (off := 1) 2 1 rfl rfl (by first | exact Or.inl rfl | exact Or.inr rfl) (fun w7 => ?_)
  refine retX.cellF (off := 2) 2 1 rfl rfl (by first | exact Or.inl rfl | exact Or.inr rfl) (fun w8 => ?_)
  refine retX.cellF (off := 3) 7 1 rfl rfl (by first | exact Or.inl rfl | exact Or.inr rfl) (fun w9 => ?_)
  refine rP (t' := [(4, .ptr b1 0), (5, iD (0 : Int)), (6, iD (2 : Int))]) [1] [2,1,0] 0 (wC (wC (wC wN))) (lC 0 (lT (lT lN))) ?_
  exact ⟨w7, w8, w9, rfl, rfl, rfl⟩
 ·replace hm := yes_f hc5 hm
  refine Kv ?_
  refine Ki ?_
  refine Kj ?_
  refine pu ?_
  obtain ⟨x13, q13, hm⟩ := Kf hm
  refine pG (KfX x3.1 w2 64 .no x13 q13) Wl Pf Pf ?_
  rintro _ _ _ ⟨w10, w11, w12, rfl, rfl, rfl⟩
  refine KW htab rfl rfl rfl rfl rfl rfl rfl (fun b14 => ?_)
  refine pS2 (ds' := [tD x13.1.gName, .lst 2 (x13.1.gParams.map Kw) (.cur w10), .lst 2 (x13.1.gLocals.map Kw) (.cur w11), .lst 7 (x13.1.gBody.map Kk) (.cur w12), iD x13.1.gAt]) ?_
  refine Kh ?_
  refine Kr ?_
  refine Kj ?_
  iterate 3 refine pu ?_
  refine pL 0 ?_
  refine pu ?_
  refine Kh ?_
  refine Ku rfl (fun hc17 => ?_) (fun hc17 => ?_)
  ·replace hm := yes_t hc17 hm
   refine Kr ?_
   refine KdL 11 [] [[],[],[1],[1,2],[1,2,3],[],[5],[5,6],[5,6,7],[0],[0,1,2,3,4,9]] [0,1,2,3,4,5,6,7,8,9] [[],[],[1],[1,2],[1,2,3],[],[5],[5,6],[5,6,7],[0],[0,1,2,3,4,9],[0,1,2,3,4,5,6,7,8,9,10]] 9 (by kernel_rfl) (by kernel_rfl) (by kernel_rfl) (by rfl) (by rfl) (by kernel_rfl) ?_
   refine ⟨[(w2, Blk.cells [.lst 4 (x13.2.gL.map Kc) .no, iD x13.2.gAt, iD x13.2.gE, iD x13.2.gVars, iD x13.2.gOpen] 64), (b1, Blk.cells [tD ByteArray.empty, .lst 1 [] .full, .lst 1 [] .full, .lst 1 [] .full, iD (0 : Int)] 26), (b14, Blk.cells [tD x13.1.gName, .lst 2 (x13.1.gParams.map Kw) (.cur w10), .lst 2 (x13.1.gLocals.map Kw) (.cur w11), .lst 7 (x13.1.gBody.map Kk) (.cur w12), iD x13.1.gAt] 26)], ?_⟩
   iterate 9 apply Exists.intro
   refine ⟨.any, ?_⟩
   intro bs v18
   refine zh_e rfl rfl (KeU (r := [tD ByteArray.empty, .lst 1 [] .full, .lst 1 [] .full, .lst 1 [] .full, iD (0 : Int)]) htab rfl rfl rfl rfl rfl rfl) rfl rfl rfl rfl rfl rfl rfl rfl ?_
   iterate 3 refine zh_e rfl rfl (K3 htab rfl) rfl rfl rfl rfl rfl rfl rfl rfl ?_
   refine zh_M rfl rfl (fun _ => KM 0 htab rfl rfl rfl rfl rfl) (fun _ => KM 0 htab rfl rfl rfl rfl rfl) rfl rfl rfl rfl rfl rfl rfl rfl ?_
   iterate 3 refine zh_e rfl rfl (K3 htab rfl) rfl rfl rfl rfl rfl rfl rfl rfl ?_
   refine zh_M rfl rfl (fun _ => KM 0 htab rfl rfl rfl rfl rfl) (fun _ => KM 0 htab rfl rfl rfl rfl rfl) rfl rfl rfl rfl rfl rfl rfl rfl ?_
   refine Kea 1 htab rfl rfl rfl rfl rfl rfl rfl rfl rfl rfl rfl rfl rfl rfl rfl rfl ?_
   refine zh_q rfl rfl (K3 htab rfl) rfl rfl rfl rfl rfl rfl ?_
   refine Kfb rfl rfl rfl rfl (fun e he => by simp [isAl] at he) ?_
   refine pu ?_
   refine Kh ?_
   refine Ks ?_
   refine Kx ?_
   have er19 := Kn hm; subst er19
   refine retX.cellF (off := 1) 2 1 rfl rfl (by first | exact Or.inl rfl | exact Or.inr rfl) (fun w20 => ?_)
   refine retX.cellF (off := 2) 2 1 rfl rfl (by first | exact Or.inl rfl | exact Or.inr rfl) (fun w21 => ?_)
   refine retX.cellF (off := 3) 7 1 rfl rfl (by first | exact Or.inl rfl | exact Or.inr rfl) (fun w22 => ?_)
   refine rP (t' := [(4, .ptr b1 0), (5, iD x13.2.gAt), (6, iD x13.2.gE)]) [1] [2,1,0] 0 (wC (wC (wC wN))) (lC 0 (lT (lT lN))) ?_
   exact ⟨w20, w21, w22, rfl, rfl, rfl⟩
  ·replace hm := yes_f hc17 hm
   refine Kv ?_
   refine Ki ?_
   refine Kr ?_
   refine KdL 6 [] [[],[],[1],[1,2],[1,2,3],[0]] [0,1,2,3,4,5] [[],[],[1],[1,2],[1,2,3],[0],[0,1,2,3,4,5],[0,1,2,3,4,5,6]] 5 (by kernel_rfl) (by kernel_rfl) (by kernel_rfl) (by rfl) (by rfl) (by kernel_rfl) ?_
   refine ⟨[(w2, Blk.cells [.lst 4 (x13.2.gL.map Kc) .no, iD x13.2.gAt, iD x13.2.gE, iD x13.2.gVars, iD x13.2.gOpen] 64), (b1, Blk.cells [tD x13.1.gName, .lst 2 (x13.1.gParams.map Kw) (.cur w10), .lst 2 (x13.1.gLocals.map Kw) (.cur w11), .lst 7 (x13.1.gBody.map Kk) (.cur w12), iD x13.1.gAt] 26), (b14, Blk.cells [tD x13.1.gName, .lst 2 (x13.1.gParams.map Kw) (.cur w10), .lst 2 (x13.1.gLocals.map Kw) (.cur w11), .lst 7 (x13.1.gBody.map Kk) (.cur w12), iD x13.1.gAt] 26)], ?_⟩
   iterate 5 apply Exists.intro
   refine ⟨.any, ?_⟩
   intro bs v23
   refine zh_M rfl rfl (fun _ => KM (d := .agg [tD x13.1.gName, .lst 2 (x13.1.gParams.map Kw) (.cur w10), .lst 2 (x13.1.gLocals.map Kw) (.cur w11), .lst 7 (x13.1.gBody.map Kk) (.cur w12), iD x13.1.gAt]) 2 htab rfl rfl rfl rfl rfl) (offB rfl) rfl rfl rfl rfl rfl rfl rfl rfl ?_
   iterate 3 refine zh_e rfl rfl (K3 htab rfl) rfl rfl rfl rfl rfl rfl rfl rfl ?_
   refine zh_M rfl rfl (fun _ => KM 0 htab rfl rfl rfl rfl rfl) (fun _ => KM 0 htab rfl rfl rfl rfl rfl) rfl rfl rfl rfl rfl rfl rfl rfl ?_
   refine Kea 1 htab rfl rfl rfl rfl rfl rfl rfl rfl rfl rfl rfl rfl rfl rfl rfl rfl ?_
   refine Kfb rfl rfl rfl rfl (fun e he => by simp [isAl] at he) ?_
   refine pu ?_
   refine pu ?_
   refine Kh ?_
   refine Ks ?_
   have er24 := Kn hm; subst er24
   refine rP (t' := [(4, .ptr b1 0), (5, iD x13.2.gAt), (6, iD (0 : Int))]) [1] [0,0,0] 0 (wC (wC (wC wN))) (lC 0 (lT (lT lN))) ?_
   exact ⟨w10, w11, w12, rfl, rfl, rfl⟩
noncomputable def KbD (a0 : List UInt8) : Option (KS × Int × Int) :=
 ((Kdf a0).bind fun x4 => (bif (x4.2.2 != (0 : Int)) then some ((⟨ByteArray.empty, [], [], [], (0 : Int)⟩ : KS), x4.2.1, x4.2.2) else ((Kcn x4.1 (0 : Int)).bind fun x14 => ((idx x4.1 (min x14.2.1 (IntKind.i64.wrap ((x4.1.length : Int) - (1 : Int))))).bind fun x16 => (bif (x14.2.2 != (0 : Int)) then some ((⟨ByteArray.empty, [], [], [], (0 : Int)⟩ : KS), x16.gAt, x14.2.2) else (bif (x16.gKind != (0 : Int)) then some ((⟨ByteArray.empty, [], [], [], (0 : Int)⟩ : KS), x16.gAt, (3 : Int)) else some (x14.1, (0 : Int), (0 : Int))))))))
theorem Kgy (a0 : List UInt8) (r : KS × Int × Int) (h0 : KbD a0 = some r) : CallsD Try.prog 16 [.lst 1 (a0.map byteD) .no, .fn (.func 10) [] []] [] [] (fun d h k => ∃ y0 y1 y2, d = .tup [.agg [tD r.1.gName, .lst 2 (r.1.gParams.map Kw) (.cur y0), .lst 2 (r.1.gLocals.map Kw) (.cur y1), .lst 7 (r.1.gBody.map Kk) (.cur y2), iD r.1.gAt], iD r.2.1, iD r.2.2] ∧ h = [] ∧ k = [(2, y0), (2, y1), (7, y2)]) := by
 have hm := KE h0
 unfold KbD at hm
 clear h0
 refine KU htab Try.func16 rfl rfl rfl rfl rfl (fun C => ?_)
 refine Kj ?_
 refine KW htab rfl rfl rfl rfl rfl rfl rfl (fun b1 => ?_)
 refine pu ?_
 refine pu ?_
 refine Ky ?_
 refine KW htab rfl rfl rfl rfl rfl rfl rfl (fun b2 => ?_)
 refine Ky ?_
 refine pu ?_
 obtain ⟨x4, q4, hm⟩ := Kf hm
 refine pG (Kkp a0 x4 q4) Wl Pf Pf ?_
 rintro _ _ _ ⟨w3, rfl, rfl, rfl⟩
 iterate 7 refine pu ?_
 refine Kh ?_
 refine Kr ?_
 refine Kj ?_
 refine pu ?_
 refine pu ?_
 refine Kh ?_
 refine Ku rfl (fun hc6 => ?_) (fun hc6 => ?_)
 ·replace hm := yes_t hc6 hm
  refine Kj ?_
  refine K8 (d := .agg [tD ByteArray.empty, .lst 1 [] .full, .lst 1 [] .full, .lst 1 [] .full, iD (0 : Int)]) 1 htab rfl rfl rfl rfl rfl rfl rfl rfl ?_
  refine pu ?_
  refine pu ?_
  refine pS0 (ds' := [tD ByteArray.empty, .lst 1 [] .full, .lst 1 [] .full, .lst 1 [] .full, iD (0 : Int)]) ?_
  refine pu ?_
  refine pu ?_
  refine Kh ?_
  refine Ks ?_
  refine Kx ?_
  have er7 := Kn hm; subst er7
  refine retX.cellF (off := 1) 2 0 rfl rfl (by first | exact Or.inl rfl | exact Or.inr rfl) (fun w8 => ?_)
  refine retX.cellF (off := 2) 2 0 rfl rfl (by first | exact Or.inl rfl | exact Or.inr rfl) (fun w9 => ?_)
  refine retX.cellF (off := 3) 7 0 rfl rfl (by first | exact Or.inl rfl | exact Or.inr rfl) (fun w10 => ?_)
  refine rP (t' := [(4, .ptr b1 0), (5, iD x4.2.1), (6, iD x4.2.2)]) [0] [2,1,0] 0 (wC (wC (wC wN))) (lC 0 (lT (lT lN))) ?_
  exact ⟨w8, w9, w10, rfl, rfl, rfl⟩
 ·replace hm := yes_f hc6 hm
  refine Kv ?_
  refine Ki ?_
  refine Kj ?_
  refine pu ?_
  refine pu ?_
  obtain ⟨x14, q14, hm⟩ := Kf hm
  refine Kgg (Kjx x4.1 (0 : Int) x14 q14) rfl rfl rfl rfl rfl rfl rfl (WkL.cons (Wk.no) (WkL.cons (Wk.refl _) Wl)) Pf Pf ?_
  rintro _ _ _ ⟨w11, w12, w13, rfl, rfl, rfl⟩
  iterate 4 refine pu ?_
  refine KW htab rfl rfl rfl rfl rfl rfl rfl (fun b15 => ?_)
  refine pS2 (ds' := [tD x14.1.gName, .lst 2 (x14.1.gParams.map Kw) (.cur w11), .lst 2 (x14.1.gLocals.map Kw) (.cur w12), .lst 7 (x14.1.gBody.map Kk) (.cur w13), iD x14.1.gAt]) ?_
  refine pu ?_
  refine pu ?_
  refine Ky ?_
  iterate 3 refine pu ?_
  refine KaK htab rfl rfl rfl rfl rfl rfl rfl (by first | exact Kab | rfl) ?_
  refine pu ?_
  refine p_min rfl rfl rfl rfl rfl rfl ?_
  obtain ⟨x16, q16, hm⟩ := Kf hm
  refine KaR htab rfl rfl rfl rfl rfl rfl rfl rfl rfl rfl (Kt q16) (KA q16) ?_
  refine Kav (d := Kc x16) htab rfl rfl rfl rfl rfl rfl rfl rfl ?_
  refine KW htab rfl rfl rfl rfl rfl rfl rfl (fun b17 => ?_)
  refine pS3 (ds' := [iD x16.gKind, tD x16.gText, iD x16.gN, iD x16.gAt]) ?_
  refine Kh ?_
  refine Kr ?_
  refine KI ?_
  refine Kj ?_
  iterate 3 refine pu ?_
  refine Kh ?_
  refine Ku rfl (fun hc26 => ?_) (fun hc26 => ?_)
  ·replace hm := yes_t hc26 hm
   refine Kr ?_
   refine KdL 6 [] [[],[],[1],[],[0],[0,1,2,4]] [0,1,2,4] [[],[],[1],[],[0],[0,1,2,4],[0,1,2,3,4,5]] 4 (by kernel_rfl) (by kernel_rfl) (by kernel_rfl) (by rfl) (by rfl) (by kernel_rfl) ?_
   refine ⟨[(b1, Blk.cells [tD ByteArray.empty, .lst 1 [] .full, .lst 1 [] .full, .lst 1 [] .full, iD (0 : Int)] 26), (b2, Blk.cells [tD ByteArray.empty, .lst 1 [] .full, .lst 1 [] .full, .lst 1 [] .full, iD (0 : Int)] 26), (b15, Blk.cells [tD x14.1.gName, .lst 2 (x14.1.gParams.map Kw) (.cur w11), .lst 2 (x14.1.gLocals.map Kw) (.cur w12), .lst 7 (x14.1.gBody.map Kk) (.cur w13), iD x14.1.gAt] 26), (b17, Blk.cells [iD x16.gKind, tD x16.gText, iD x16.gN, iD x16.gAt] 69)], ?_⟩
   iterate 3 apply Exists.intro
   refine ⟨.any, ?_⟩
   intro bs v27
   refine zh_M rfl rfl (fun _ => KM (d := .agg [tD ByteArray.empty, .lst 1 [] .full, .lst 1 [] .full, .lst 1 [] .full, iD (0 : Int)]) 1 htab rfl rfl rfl rfl rfl) (offB rfl) rfl rfl rfl rfl rfl rfl rfl rfl ?_
   refine zh_e rfl rfl (K3 htab rfl) rfl rfl rfl rfl rfl rfl rfl rfl ?_
   refine zh_M rfl rfl (fun _ => KM 3 htab rfl rfl rfl rfl rfl) (fun _ => KM 3 htab rfl rfl rfl rfl rfl) rfl rfl rfl rfl rfl rfl rfl rfl ?_
   refine zh_q rfl rfl (K3 htab rfl) rfl rfl rfl rfl rfl rfl ?_
   refine Kea 0 htab rfl rfl rfl rfl rfl rfl rfl rfl rfl rfl rfl rfl rfl rfl rfl rfl ?_
   refine zh_q rfl rfl (K3 htab rfl) rfl rfl rfl rfl rfl rfl ?_
   refine Kfb rfl rfl rfl rfl (fun e he => by simp [isAl] at he) ?_
   refine pu ?_
   refine Kh ?_
   refine Ks ?_
   refine KR ?_
   refine Kx ?_
   have er28 := Kn hm; subst er28
   refine retX.cellF (off := 1) 2 0 rfl rfl (by first | exact Or.inl rfl | exact Or.inr rfl) (fun w29 => ?_)
   refine retX.cellF (off := 2) 2 0 rfl rfl (by first | exact Or.inl rfl | exact Or.inr rfl) (fun w30 => ?_)
   refine retX.cellF (off := 3) 7 0 rfl rfl (by first | exact Or.inl rfl | exact Or.inr rfl) (fun w31 => ?_)
   refine rP (t' := [(4, .ptr b1 0), (5, iD x16.gAt), (6, iD x14.2.2)]) [0] [2,1,0] 0 (wC (wC (wC wN))) (lC 0 (lT (lT lN))) ?_
   exact ⟨w29, w30, w31, rfl, rfl, rfl⟩
  ·replace hm := yes_f hc26 hm
   refine Kj ?_
   refine pu ?_
   refine pL 3 ?_
   refine pu ?_
   refine pu ?_
   refine Kh ?_
   refine Ku rfl (fun hc34 => ?_) (fun hc34 => ?_)
   ·replace hm := yes_t hc34 hm
    refine Kr ?_
    refine KdL 4 [] [[],[],[1],[0]] [0,1,2,3] [[],[],[1],[0],[0,1,2,3],[0,1,2,3,4]] 3 (by kernel_rfl) (by kernel_rfl) (by kernel_rfl) (by rfl) (by rfl) (by kernel_rfl) ?_
    refine ⟨[(b1, Blk.cells [tD ByteArray.empty, .lst 1 [] .full, .lst 1 [] .full, .lst 1 [] .full, iD (0 : Int)] 26), (b2, Blk.cells [tD ByteArray.empty, .lst 1 [] .full, .lst 1 [] .full, .lst 1 [] .full, iD (0 : Int)] 26), (b15, Blk.cells [tD x14.1.gName, .lst 2 (x14.1.gParams.map Kw) (.cur w11), .lst 2 (x14.1.gLocals.map Kw) (.cur w12), .lst 7 (x14.1.gBody.map Kk) (.cur w13), iD x14.1.gAt] 26), (b17, Blk.cells [iD x16.gKind, tD x16.gText, iD x16.gN, iD x16.gAt] 69)], ?_⟩
    iterate 3 apply Exists.intro
    refine ⟨.any, ?_⟩
    intro bs v35
    refine zh_M rfl rfl (fun _ => KM (d := .agg [tD ByteArray.empty, .lst 1 [] .full, .lst 1 [] .full, .lst 1 [] .full, iD (0 : Int)]) 1 htab rfl rfl rfl rfl rfl) (offB rfl) rfl rfl rfl rfl rfl rfl rfl rfl ?_
    refine zh_e rfl rfl (K3 htab rfl) rfl rfl rfl rfl rfl rfl rfl rfl ?_
    refine zh_M rfl rfl (fun _ => KM 3 htab rfl rfl rfl rfl rfl) (fun _ => KM 3 htab rfl rfl rfl rfl rfl) rfl rfl rfl rfl rfl rfl rfl rfl ?_
    refine Kea 0 htab rfl rfl rfl rfl rfl rfl rfl rfl rfl rfl rfl rfl rfl rfl rfl rfl ?_
    refine Kfb rfl rfl rfl rfl (fun e he => by simp [isAl] at he) ?_
    refine pu ?_
    refine pu ?_
    refine Kh ?_
    refine Ks ?_
    refine KR ?_
    refine Kx ?_
    have er36 := Kn hm; subst er36
    refine retX.cellF (off := 1) 2 0 rfl rfl (by first | exact Or.inl rfl | exact Or.inr rfl) (fun w37 => ?_)
    refine retX.cellF (off := 2) 2 0 rfl rfl (by first | exact Or.inl rfl | exact Or.inr rfl) (fun w38 => ?_)
    refine retX.cellF (off := 3) 7 0 rfl rfl (by first | exact Or.inl rfl | exact Or.inr rfl) (fun w39 => ?_)
    refine rP (t' := [(4, .ptr b1 0), (5, iD x16.gAt), (6, iD (3 : Int))]) [0] [2,1,0] 0 (wC (wC (wC wN))) (lC 0 (lT (lT lN))) ?_
    exact ⟨w37, w38, w39, rfl, rfl, rfl⟩
   ·replace hm := yes_f hc34 hm
    refine Kv ?_
    refine KF ?_
    refine Ki ?_
    refine Kj ?_
    refine K8 (d := .agg [tD x14.1.gName, .lst 2 (x14.1.gParams.map Kw) (.cur w11), .lst 2 (x14.1.gLocals.map Kw) (.cur w12), .lst 7 (x14.1.gBody.map Kk) (.cur w13), iD x14.1.gAt]) 2 htab rfl rfl rfl rfl rfl rfl rfl rfl ?_
    refine pS0 (ds' := [tD x14.1.gName, .lst 2 (x14.1.gParams.map Kw) (.cur w11), .lst 2 (x14.1.gLocals.map Kw) (.cur w12), .lst 7 (x14.1.gBody.map Kk) (.cur w13), iD x14.1.gAt]) ?_
    refine pu ?_
    refine pu ?_
    refine Kh ?_
    refine Ks ?_
    have er40 := Kn hm; subst er40
    refine rP (t' := [(4, .ptr b1 0), (5, iD (0 : Int)), (6, iD (0 : Int))]) [0] [0,0,0] 0 (wC (wC (wC wN))) (lC 0 (lT (lT lN))) ?_
    exact ⟨w11, w12, w13, rfl, rfl, rfl⟩
noncomputable def KbE (a0 : List UInt8) : Option (KS × Int × Int) :=
 ((KbD a0).bind fun x5 => some (x5.1, x5.2.1, x5.2.2))
theorem Kfo (a0 : List UInt8) (r : KS × Int × Int) (h0 : KbE a0 = some r) : CallsD Try.prog 6 [.lst 1 (a0.map byteD) .no] [] [] (fun d h k => ∃ y0 y1 y2, d = .tup [.agg [tD r.1.gName, .lst 2 (r.1.gParams.map Kw) (.cur y0), .lst 2 (r.1.gLocals.map Kw) (.cur y1), .lst 7 (r.1.gBody.map Kk) (.cur y2), iD r.1.gAt], iD r.2.1, iD r.2.2] ∧ h = [] ∧ k = [(2, y0), (2, y1), (7, y2)]) := by
 have hm := KE h0
 unfold KbE at hm
 clear h0
 refine KU htab Try.func6 rfl rfl rfl rfl rfl (fun C => ?_)
 refine Kj ?_
 refine KW htab rfl rfl rfl rfl rfl rfl rfl (fun b1 => ?_)
 refine pu ?_
 refine pu ?_
 refine Ky ?_
 refine pu ?_
 obtain ⟨x5, q5, hm⟩ := Kf hm
 refine pG (Kgy a0 x5 q5) Wl Pf Pf ?_
 rintro _ _ _ ⟨w2, w3, w4, rfl, rfl, rfl⟩
 iterate 3 refine pu ?_
 refine pS0 (ds' := [tD x5.1.gName, .lst 2 (x5.1.gParams.map Kw) (.cur w2), .lst 2 (x5.1.gLocals.map Kw) (.cur w3), .lst 7 (x5.1.gBody.map Kk) (.cur w4), iD x5.1.gAt]) ?_
 refine pu ?_
 refine pu ?_
 refine Kh ?_
 refine Ks ?_
 have er6 := Kn hm; subst er6
 refine rP (t' := [(2, .ptr b1 0), (3, iD x5.2.1), (4, iD x5.2.2)]) [0] [0,0,0] 0 (wC (wC (wC wN))) (lC 0 (lT (lT lN))) ?_
 exact ⟨w2, w3, w4, rfl, rfl, rfl⟩
noncomputable def KcL (a0 : Int) : Option (Bool) :=
 (bif (decide ((97 : Int) ≤ a0)) then (bif (decide (a0 ≤ (122 : Int))) then some true else (bif (decide ((65 : Int) ≤ a0)) then (bif (decide (a0 ≤ (90 : Int))) then some true else some (a0 == (95 : Int))) else some (a0 == (95 : Int)))) else (bif (decide ((65 : Int) ≤ a0)) then (bif (decide (a0 ≤ (90 : Int))) then some true else some (a0 == (95 : Int))) else some (a0 == (95 : Int))))
theorem KfY (a0 : Int) (r : Bool) (h0 : KcL a0 = some r) : CallsD Try.prog 54 [.v (.int .u8 a0)] [] [] (fun d h k => d = .v (.bool r) ∧ h = [] ∧ k = []) := by
 have hm := KE h0
 unfold KcL at hm
 clear h0
 refine KU htab Try.func54 rfl rfl rfl rfl rfl (fun C => ?_)
 refine Kj ?_
 refine pu ?_
 refine Ky ?_
 iterate 3 refine pu ?_
 refine K5 (i := 5) rfl (fun hg1 => ?_) (fun hg1 => ?_)
 ·replace hm := yes_t hg1 hm
  refine pu ?_
  refine pu ?_
  refine KP rfl rfl rfl rfl rfl rfl ?_
  refine pu ?_
  refine K5 (i := 9) rfl (fun hg2 => ?_) (fun hg2 => ?_)
  ·replace hm := yes_t hg2 hm
   iterate 6 refine pK ?_
   refine KP rfl rfl rfl rfl rfl rfl ?_
   refine pu ?_
   refine pK ?_
   refine pK ?_
   refine KP rfl rfl rfl rfl rfl rfl ?_
   refine pu ?_
   refine Kh ?_
   refine Ks ?_
   have er3 := Kn hm; subst er3
   refine rP (t' := [(2, .v (.bool true))]) [] [] 0 (wC wN) (lT lN) ?_
   exact ⟨rfl, rfl, rfl⟩
  ·replace hm := yes_f hg2 hm
   iterate 3 refine pu ?_
   refine K5 (i := 12) rfl (fun hg4 => ?_) (fun hg4 => ?_)
   ·replace hm := yes_t hg4 hm
    refine pu ?_
    refine pu ?_
    refine KP rfl rfl rfl rfl rfl rfl ?_
    refine KL rfl rfl rfl rfl rfl rfl ?_
    refine pu ?_
    refine K5 (i := 17) rfl (fun hg5 => ?_) (fun hg5 => ?_)
    ·replace hm := yes_t hg5 hm
     refine pK ?_
     refine pK ?_
     refine KP rfl rfl rfl rfl rfl rfl ?_
     refine pu ?_
     refine Kh ?_
     refine Ks ?_
     have er6 := Kn hm; subst er6
     refine rP (t' := [(2, .v (.bool true))]) [] [] 0 (wC wN) (lT lN) ?_
     exact ⟨rfl, rfl, rfl⟩
    ·replace hm := yes_f hg5 hm
     refine pu ?_
     refine pu ?_
     refine KL rfl rfl rfl rfl rfl rfl ?_
     refine pu ?_
     refine Kh ?_
     refine Ks ?_
     have er7 := Kn hm; subst er7
     refine rP (t' := [(2, .v (.bool (a0 == (95 : Int))))]) [] [] 0 (wC wN) (lT lN) ?_
     exact ⟨rfl, rfl, rfl⟩
   ·replace hm := yes_f hg4 hm
    refine pK ?_
    refine pK ?_
    refine KL rfl rfl rfl rfl rfl rfl ?_
    refine KL rfl rfl rfl rfl rfl rfl ?_
    iterate 3 refine pu ?_
    refine KL rfl rfl rfl rfl rfl rfl ?_
    refine pu ?_
    refine Kh ?_
    refine Ks ?_
    have er8 := Kn hm; subst er8
    refine rP (t' := [(2, .v (.bool (a0 == (95 : Int))))]) [] [] 0 (wC wN) (lT lN) ?_
    exact ⟨rfl, rfl, rfl⟩
 ·replace hm := yes_f hg1 hm
  refine pK ?_
  refine pK ?_
  refine KL rfl rfl rfl rfl rfl rfl ?_
  iterate 4 refine pu ?_
  refine K5 (i := 12) rfl (fun hg9 => ?_) (fun hg9 => ?_)
  ·replace hm := yes_t hg9 hm
   refine pu ?_
   refine pu ?_
   refine KP rfl rfl rfl rfl rfl rfl ?_
   refine KL rfl rfl rfl rfl rfl rfl ?_
   refine pu ?_
   refine K5 (i := 17) rfl (fun hg10 => ?_) (fun hg10 => ?_)
   ·replace hm := yes_t hg10 hm
    refine pK ?_
    refine pK ?_
    refine KP rfl rfl rfl rfl rfl rfl ?_
    refine pu ?_
    refine Kh ?_
    refine Ks ?_
    have er11 := Kn hm; subst er11
    refine rP (t' := [(2, .v (.bool true))]) [] [] 0 (wC wN) (lT lN) ?_
    exact ⟨rfl, rfl, rfl⟩
   ·replace hm := yes_f hg10 hm
    refine pu ?_
    refine pu ?_
    refine KL rfl rfl rfl rfl rfl rfl ?_
    refine pu ?_
    refine Kh ?_
    refine Ks ?_
    have er12 := Kn hm; subst er12
    refine rP (t' := [(2, .v (.bool (a0 == (95 : Int))))]) [] [] 0 (wC wN) (lT lN) ?_
    exact ⟨rfl, rfl, rfl⟩
  ·replace hm := yes_f hg9 hm
   refine pK ?_
   refine pK ?_
   refine KL rfl rfl rfl rfl rfl rfl ?_
   refine KL rfl rfl rfl rfl rfl rfl ?_
   iterate 3 refine pu ?_
   refine KL rfl rfl rfl rfl rfl rfl ?_
   refine pu ?_
   refine Kh ?_
   refine Ks ?_
   have er13 := Kn hm; subst er13
   refine rP (t' := [(2, .v (.bool (a0 == (95 : Int))))]) [] [] 0 (wC wN) (lT lN) ?_
   exact ⟨rfl, rfl, rfl⟩
noncomputable def Ked (a0 : Int) : Option (Bool) :=
 (bif (decide ((48 : Int) ≤ a0)) then some (decide (a0 ≤ (57 : Int))) else some false)
theorem Kiu (a0 : Int) (r : Bool) (h0 : Ked a0 = some r) : CallsD Try.prog 55 [.v (.int .u8 a0)] [] [] (fun d h k => d = .v (.bool r) ∧ h = [] ∧ k = []) := by
 have hm := KE h0
 unfold Ked at hm
 clear h0
 refine KU htab Try.func55 rfl rfl rfl rfl rfl (fun C => ?_)
 refine Kj ?_
 refine pu ?_
 refine Ky ?_
 iterate 3 refine pu ?_
 refine K5 (i := 5) rfl (fun hg1 => ?_) (fun hg1 => ?_)
 ·replace hm := yes_t hg1 hm
  refine pu ?_
  refine pu ?_
  refine KP rfl rfl rfl rfl rfl rfl ?_
  refine pu ?_
  refine Kh ?_
  refine Ks ?_
  have er2 := Kn hm; subst er2
  refine rP (t' := [(2, .v (.bool (decide (a0 ≤ (57 : Int)))))]) [] [] 0 (wC wN) (lT lN) ?_
  exact ⟨rfl, rfl, rfl⟩
 ·replace hm := yes_f hg1 hm
  refine pK ?_
  refine pK ?_
  refine KL rfl rfl rfl rfl rfl rfl ?_
  refine pu ?_
  refine Kh ?_
  refine Ks ?_
  have er3 := Kn hm; subst er3
  refine rP (t' := [(2, .v (.bool false))]) [] [] 0 (wC wN) (lT lN) ?_
  exact ⟨rfl, rfl, rfl⟩
noncomputable def r10_in (a0 : List ByteArray) (a1 : ByteArray) : Option (Bool) :=
 (Option.bind (α := (Unit) ⊕ (Bool)) (loopM (fun (s15 : Int) => (bif (decide (s15 < (a0.length : Int))) then ((idx a0 s15).bind fun x25 => (bif (decide (x25 = a1)) then some (.done (.inr true)) else some (.next (IntKind.i64.wrap (s15 + (1 : Int)))))) else some (.done (.inl ())))) (0 : Int)) (Sum.elim (fun y14 => some false) (fun r => some r)))
theorem r10_in_ok (a0 : List ByteArray) (a1 : ByteArray) (r : Bool) (h0 : r10_in a0 a1 = some r) : CallsD Try.prog 69 [.lst 1 (a0.map eStr) .no, tD a1] [] [] (fun d h k => d = .v (.bool r) ∧ h = [] ∧ k = []) := by
 have hm := KE h0
 unfold r10_in at hm
 clear h0
 refine KU htab Try.func69 rfl rfl rfl rfl rfl (fun C => ?_)
 refine Kj ?_
 refine pu ?_
 refine Kh ?_
 refine Kr ?_
 refine Kj ?_
 refine pu ?_
 refine Kh ?_
 obtain ⟨x14, q14, ho14⟩ := Kf hm
 refine Kci (τ := Unit) (Y := Unit) (fun y14 z14 => (⟨[], [], []⟩ : S)) x14 ?_ ?_
 ·clear hm; have hm := KE q14
  refine KI ?_
  obtain ⟨u15, hl15, hq15⟩ := yes_m hm
  refine KaU (Y := Unit) hl15 (fun s15 z15 => (⟨[(0, .lst 1 (a0.map eStr) .no), (1, tD a1), (5, iD s15)], [], []⟩ : S)) ?_ ?_
  ·skip
   exact WkX.of () (WkS.perm (WkS.cons rfl (Wk.refl _) (WkS.cons rfl (Wk.refl _) (WkS.cons rfl (Wk.refl _) (WkS.nil)))) Pf Pf)
  ·intro G15 s15 z15 hm
   refine Kr ?_
   refine Kj ?_
   refine pu ?_
   refine pu ?_
   refine KaK htab rfl rfl rfl rfl rfl rfl rfl (by first | exact Kab | rfl) ?_
   refine pu ?_
   refine Kh ?_
   refine Ku rfl (fun hc24 => ?_) (fun hc24 => ?_)
   ·replace hm := yes_t hc24 hm
    refine Kv ?_
    refine Ki ?_
    refine Kr ?_
    refine KI ?_
    refine Kj ?_
    refine pu ?_
    refine pu ?_
    obtain ⟨x25, q25, hm⟩ := Kf hm
    refine KaR htab rfl rfl rfl rfl rfl rfl rfl rfl rfl rfl (Kt q25) (KA q25) ?_
    refine Kav htab rfl rfl rfl rfl rfl rfl rfl rfl ?_
    refine pu ?_
    refine pu ?_
    refine Kh ?_
    refine Ku rfl (fun hc26 => ?_) (fun hc26 => ?_)
    ·replace hm := yes_t hc26 hm
     refine Kj ?_
     refine pu ?_
     refine Kh ?_
     refine Ks ?_
     refine KR ?_
     refine Kx ?_
     have e15 := Kac hm; subst e15; clear hm; have hm := hq15
     refine Kx ?_
     refine KR ?_
     have e14 := Kn hm; subst e14; refine Kbi ?_; clear hm; have hm := ho14; simp only [Sum.elim_inr] at hm
     refine Kx ?_
     have er27 := Kn hm; subst er27
     refine rP (t' := [(4, .v (.bool true))]) [] [] 0 (wC wN) (lT lN) ?_
     exact ⟨rfl, rfl, rfl⟩
    ·replace hm := yes_f hc26 hm
     refine Kv ?_
     refine KF ?_
     refine Ki ?_
     refine KD ?_
     iterate 3 refine pu ?_
     refine KC ?_
     refine Ki ⟨_, KaA hm, ?_⟩
     exact WkX.of () (WkS.perm (WkS.cons rfl (Wk.refl _) (WkS.cons rfl (Wk.refl _) (WkS.cons rfl (Wk.refl _) (WkS.nil)))) Pf Pf)
   ·replace hm := yes_f hc24 hm
    refine Kan ?_
    refine KJ ?_
    have e15 := Kac hm; subst e15; clear hm; have hm := hq15
    refine KJ ?_
    refine Kae ?_
    have e14 := Kn hm; subst e14
    refine Kb1 ?_
    exact WkX.of () (WkS.perm (WkS.nil) Pf Pf)
 ·intro y14 s14 hx14 hw14; subst hx14; clear hm; have hm := ho14; simp only [Sum.elim_inl] at hm; clear q14 ho14
  refine Ki ?_
  refine KZ hw14 (fun z14 => ?_)
  refine Kj ?_
  refine pu ?_
  refine Kh ?_
  refine Ks ?_
  have er28 := Kn hm; subst er28
  refine rP (t' := [(4, .v (.bool false))]) [] [] 0 (wC wN) (lT lN) ?_
  exact ⟨rfl, rfl, rfl⟩
noncomputable def Kgz (a0 : ByteArray) : Option (Bool) :=
 ((r10_in ([(ByteArray.mk #[97, 115, 115, 101, 114, 116]), (ByteArray.mk #[101, 108, 115, 101]), (ByteArray.mk #[105, 102]), (ByteArray.mk #[105, 110, 112, 117, 116]), (ByteArray.mk #[105, 110, 116]), (ByteArray.mk #[110, 117, 108, 108]), (ByteArray.mk #[114, 101, 116, 117, 114, 110]), (ByteArray.mk #[119, 104, 105, 108, 101])] : List ByteArray) a0).bind fun x1 => some x1)
theorem KkU (a0 : ByteArray) (r : Bool) (h0 : Kgz a0 = some r) : CallsD Try.prog 56 [tD a0] [] [] (fun d h k => d = .v (.bool r) ∧ h = [] ∧ k = []) := by
 have hm := KE h0
 unfold Kgz at hm
 clear h0
 refine KU htab Try.func56 rfl rfl rfl rfl rfl (fun C => ?_)
 refine Kj ?_
 refine pu ?_
 refine Ky ?_
 refine p_lit htab rfl rfl rfl rfl rfl rfl rfl rfl rfl rfl rfl rfl rfl rfl ?_
 refine p_eq (i := 3) (d' := .lst 1 (([(ByteArray.mk #[97, 115, 115, 101, 114, 116]), (ByteArray.mk #[101, 108, 115, 101]), (ByteArray.mk #[105, 102]), (ByteArray.mk #[105, 110, 112, 117, 116]), (ByteArray.mk #[105, 110, 116]), (ByteArray.mk #[110, 117, 108, 108]), (ByteArray.mk #[114, 101, 116, 117, 114, 110]), (ByteArray.mk #[119, 104, 105, 108, 101])] : List ByteArray).map eStr) .full) rfl (Wk.lst0 (.cons (WkC.refl _) (.cons (WkC.refl _) (.cons (WkC.refl _) (.cons (WkC.refl _) (.cons (WkC.refl _) (.cons (WkC.refl _) (.cons (WkC.refl _) (.cons (WkC.refl _) (.nil)))))))))) ?_
 refine pu ?_
 obtain ⟨x1, q1, hm⟩ := Kf hm
 refine Kaw (r10_in_ok ([(ByteArray.mk #[97, 115, 115, 101, 114, 116]), (ByteArray.mk #[101, 108, 115, 101]), (ByteArray.mk #[105, 102]), (ByteArray.mk #[105, 110, 112, 117, 116]), (ByteArray.mk #[105, 110, 116]), (ByteArray.mk #[110, 117, 108, 108]), (ByteArray.mk #[114, 101, 116, 117, 114, 110]), (ByteArray.mk #[119, 104, 105, 108, 101])] : List ByteArray) a0 x1 q1) rfl rfl rfl rfl rfl (WkL.cons (Wk.no) (WkL.cons (Wk.refl _) Wl)) ?_
 rintro _ rfl
 refine pu ?_
 refine Kh ?_
 refine Ks ?_
 have er2 := Kn hm; subst er2
 refine rP (t' := [(2, .v (.bool x1))]) [] [] 0 (wC wN) (lT lN) ?_
 exact ⟨rfl, rfl, rfl⟩
noncomputable def Kev (a0 : ByteArray) : Option (Int × Int) :=
 (Option.bind (α := Bool) ((bAt a0 (0 : Int)).bind fun x4 => (bif ((x4.toNat : Int) == (48 : Int)) then some (decide ((1 : Int) < (a0.size : Int))) else some false)) fun y3 => (bif y3 then some ((0 : Int), (3 : Int)) else (Option.bind (α := (Int) ⊕ (Int × Int)) (loopM (fun (s24 : Int × Int) => (bif (decide (s24.2 < (a0.size : Int))) then (bif (decide ((19 : Int) < (a0.size : Int))) then some (.done (.inr ((0 : Int), (4 : Int)))) else ((bAt a0 s24.2).bind fun x36 => some (.next ((IntKind.u64.wrap ((IntKind.u64.wrap (s24.1 * (10 : Int))) + (IntKind.u64.wrap (IntKind.u8.wrap ((x36.toNat : Int) - (48 : Int)))))), (IntKind.i64.wrap (s24.2 + (1 : Int))))))) else some (.done (.inl s24.1)))) ((0 : Int), (0 : Int))) (Sum.elim (fun y23 => (bif (decide ((9223372036854775807 : Int) < y23)) then some ((0 : Int), (4 : Int)) else some ((IntKind.i64.wrap y23), (0 : Int)))) (fun r => some r)))))
theorem Kks (a0 : ByteArray) (r : Int × Int) (h0 : Kev a0 = some r) : CallsD Try.prog 57 [tD a0] [] [] (fun d h k => d = .tup [iD r.1, iD r.2] ∧ h = [] ∧ k = []) := by
 have hm := KE h0
 unfold Kev at hm
 clear h0
 refine KU htab Try.func57 rfl rfl rfl rfl rfl (fun C => ?_)
 refine Kj ?_
 refine pu ?_
 refine pu ?_
 refine Kh ?_
 refine Kr ?_
 refine Kr ?_
 obtain ⟨y3, q3, ho3⟩ := Kf hm
 refine K7 (Y := Unit) (fun z3 => (⟨[(0, tD a0), (13, .v (.bool y3))], [], []⟩ : S)) ?_ ?_
 ·clear hm; have hm := KE q3
  refine KD ?_
  refine pu ?_
  obtain ⟨x4, q4, hm⟩ := Kf hm
  refine KfI htab rfl rfl rfl rfl rfl rfl rfl rfl (Kdd q4) (KfK q4) ?_
  refine pu ?_
  refine pu ?_
  refine K5 (i := 9) rfl (fun hg5 => ?_) (fun hg5 => ?_)
  ·replace hm := yes_t hg5 hm
   refine pu ?_
   refine Kgo htab rfl rfl rfl rfl rfl rfl rfl rfl ?_
   refine pu ?_
   refine KP rfl rfl rfl rfl rfl rfl ?_
   refine KC ?_
   have e3 := Kn hm; subst e3
   refine ⟨rfl, ?_⟩
   exact WkX.of () (WkS.perm (WkS.cons rfl (Wk.refl _) (WkS.cons rfl (Wk.refl _) (WkS.nil))) Pf Pf)
  ·replace hm := yes_f hg5 hm
   iterate 3 refine pK ?_
   refine KL rfl rfl rfl rfl rfl rfl ?_
   refine KC ?_
   have e3 := Kn hm; subst e3
   refine ⟨rfl, ?_⟩
   exact WkX.of () (WkS.perm (WkS.cons rfl (Wk.refl _) (WkS.cons rfl (Wk.refl _) (WkS.nil))) Pf Pf)
 ·intro s3 hw3; clear hm; have hm := ho3; clear q3 ho3
  refine Ki ?_
  refine KZ hw3 (fun z3 => ?_)
  refine Ku rfl (fun hc7 => ?_) (fun hc7 => ?_)
  ·replace hm := yes_t hc7 hm
   refine Kj ?_
   refine pu ?_
   refine pu ?_
   refine Kh ?_
   refine Ks ?_
   refine Kx ?_
   have er8 := Kn hm; subst er8
   refine rP (t' := [(2, iD (0 : Int)), (3, iD (3 : Int))]) [] [] 0 (wC (wC wN)) (lT (lT lN)) ?_
   exact ⟨rfl, rfl, rfl⟩
  ·replace hm := yes_f hc7 hm
   refine Kv ?_
   refine Ki ?_
   refine Kj ?_
   refine pu ?_
   refine Kh ?_
   refine Kr ?_
   refine Kj ?_
   refine pu ?_
   refine Kh ?_
   obtain ⟨x23, q23, ho23⟩ := Kf hm
   refine Kci (τ := Int) (Y := Unit) (fun y23 z23 => (⟨[(4, .v (.int .u64 y23))], [], []⟩ : S)) x23 ?_ ?_
   ·clear hm; have hm := KE q23
    refine KI ?_
    obtain ⟨u24, hl24, hq24⟩ := yes_m hm
    refine KaU (Y := Unit) hl24 (fun s24 z24 => (⟨[(0, tD a0), (4, .v (.int .u64 s24.1)), (5, iD s24.2)], [], []⟩ : S)) ?_ ?_
    ·skip
     exact WkX.of () (WkS.perm (WkS.cons rfl (Wk.refl _) (WkS.cons rfl (Wk.refl _) (WkS.cons rfl (Wk.refl _) (WkS.nil)))) Pf Pf)
    ·intro G24 s24 z24 hm
     refine Kr ?_
     refine Kj ?_
     refine pu ?_
     refine pu ?_
     refine Kgo htab rfl rfl rfl rfl rfl rfl rfl rfl ?_
     refine pu ?_
     refine Kh ?_
     refine Ku rfl (fun hc33 => ?_) (fun hc33 => ?_)
     ·replace hm := yes_t hc33 hm
      refine Kv ?_
      refine Ki ?_
      refine Kr ?_
      refine KI ?_
      refine Kr ?_
      refine Kj ?_
      refine pu ?_
      refine Kgo htab rfl rfl rfl rfl rfl rfl rfl rfl ?_
      refine pu ?_
      refine Kh ?_
      refine Ku rfl (fun hc34 => ?_) (fun hc34 => ?_)
      ·replace hm := yes_t hc34 hm
       refine Kj ?_
       refine pu ?_
       refine pu ?_
       refine Kh ?_
       refine Ks ?_
       refine Kx ?_
       refine KR ?_
       refine Kx ?_
       have e24 := Kac hm; subst e24; clear hm; have hm := hq24
       refine Kx ?_
       refine KR ?_
       have e23 := Kn hm; subst e23; refine Kbi ?_; clear hm; have hm := ho23; simp only [Sum.elim_inr] at hm
       refine Kx ?_
       have er35 := Kn hm; subst er35
       refine rP (t' := [(2, iD (0 : Int)), (3, iD (4 : Int))]) [] [] 0 (wC (wC wN)) (lT (lT lN)) ?_
       exact ⟨rfl, rfl, rfl⟩
      ·replace hm := yes_f hc34 hm
       refine Kv ?_
       refine Ki ?_
       refine KD ?_
       iterate 4 refine pu ?_
       obtain ⟨x36, q36, hm⟩ := Kf hm
       refine KfI htab rfl rfl rfl rfl rfl rfl rfl rfl (Kdd q36) (KfK q36) ?_
       iterate 4 refine pu ?_
       refine KC ?_
       refine KF ?_
       refine Ki ?_
       refine KD ?_
       iterate 3 refine pu ?_
       refine KC ?_
       refine Ki ⟨_, KaA hm, ?_⟩
       exact WkX.of () (WkS.perm (WkS.cons rfl (Wk.refl _) (WkS.cons rfl (Wk.refl _) (WkS.cons rfl (Wk.refl _) (WkS.nil)))) Pf Pf)
     ·replace hm := yes_f hc33 hm
      refine Kan ?_
      refine KJ ?_
      have e24 := Kac hm; subst e24; clear hm; have hm := hq24
      refine KJ ?_
      refine Kae ?_
      have e23 := Kn hm; subst e23
      refine Kb1 ?_
      exact WkX.of () (WkS.perm (WkS.cons rfl (Wk.refl _) (WkS.nil)) Pf Pf)
   ·intro y23 s23 hx23 hw23; subst hx23; clear hm; have hm := ho23; simp only [Sum.elim_inl] at hm; clear q23 ho23
    refine Ki ?_
    refine KZ hw23 (fun z23 => ?_)
    refine Kr ?_
    refine Kj ?_
    refine pu ?_
    refine pu ?_
    refine Kh ?_
    refine Ku rfl (fun hc38 => ?_) (fun hc38 => ?_)
    ·replace hm := yes_t hc38 hm
     refine Kj ?_
     refine pu ?_
     refine pu ?_
     refine Kh ?_
     refine Ks ?_
     refine Kx ?_
     have er39 := Kn hm; subst er39
     refine rP (t' := [(2, iD (0 : Int)), (3, iD (4 : Int))]) [] [] 0 (wC (wC wN)) (lT (lT lN)) ?_
     exact ⟨rfl, rfl, rfl⟩
    ·replace hm := yes_f hc38 hm
     refine Kv ?_
     refine Ki ?_
     refine Kj ?_
     iterate 4 refine pu ?_
     refine Kh ?_
     refine Ks ?_
     have er40 := Kn hm; subst er40
     refine rP (t' := [(2, iD (IntKind.i64.wrap y23)), (3, iD (0 : Int))]) [] [] 0 (wC (wC wN)) (lT (lT lN)) ?_
     exact ⟨rfl, rfl, rfl⟩
end Go.Proofs.Ytmgklehakmdiiaa.Ab
namespace Go.Proofs.Ytmgklehakmdiiaa.Ab
open Go
set_option linter.all false
abbrev nlGm1_8 : List (List Nat) := nlD [] [(0,[]),(0,[0]),(0,[]),(2,[1,2]),(4,[3]),(5,[4]),(6,[]),(6,[5,6]),(6,[]),(6,[]),(6,[8,9]),(11,[10]),(8,[7,8,9,10,11]),(13,[12])]
noncomputable def KeX (a0 : ByteArray) (a1 : Bool) : Option (Kq × Int) :=
 (Option.bind (α := Int) (loopM (fun (s27 : Int) => (bif (decide (s27 < (a0.size : Int))) then ((bAt a0 s27).bind fun x45 => ((KcL (x45.toNat : Int)).bind fun x46 => (bif x46 then some (.next (IntKind.i64.wrap (s27 + (1 : Int)))) else ((bAt a0 s27).bind fun x48 => ((Ked (x48.toNat : Int)).bind fun x49 => (bif x49 then some (.next (IntKind.i64.wrap (s27 + (1 : Int)))) else some (.done s27))))))) else some (.done s27))) (0 : Int)) fun y26 => ((bAt a0 (0 : Int)).bind fun x51 => ((KcL (x51.toNat : Int)).bind fun x52 => (bif x52 then (Option.bind (α := Bool) (bif (decide ((20 : Int) < y26)) then some true else some a1) fun y68 => (bif y68 then some ((⟨(0 : Int), ByteArray.empty, (0 : Int), (0 : Int)⟩ : Kq), (6 : Int)) else ((cutS a0 (0 : Int) y26).bind fun x72 => ((Kgz x72).bind fun x73 => (bif x73 then ((cutS a0 (0 : Int) y26).bind fun x75 => some ((⟨(3 : Int), x75, (0 : Int), (0 : Int)⟩ : Kq), (0 : Int))) else ((cutS a0 (0 : Int) y26).bind fun x77 => some ((⟨(1 : Int), x77, (0 : Int), (0 : Int)⟩ : Kq), (0 : Int)))))))) else ((bAt a0 (0 : Int)).bind fun x79 => ((Ked (x79.toNat : Int)).bind fun x80 => (bif x80 then (bif a1 then some ((⟨(0 : Int), ByteArray.empty, (0 : Int), (0 : Int)⟩ : Kq), (6 : Int)) else (Option.bind (α := (Unit) ⊕ (Kq × Int)) (loopM (fun (s140 : Int) => (bif (decide (s140 < y26)) then ((bAt a0 s140).bind fun x152 => ((KcL (x152.toNat : Int)).bind fun x153 => (bif x153 then some (.done (.inr ((⟨(0 : Int), ByteArray.empty, (0 : Int), (0 : Int)⟩ : Kq), (3 : Int)))) else some (.next (IntKind.i64.wrap (s140 + (1 : Int))))))) else some (.done (.inl ())))) (0 : Int)) (Sum.elim (fun y139 => ((cutS a0 (0 : Int) y26).bind fun x156 => ((Kev x156).bind fun x157 => (bif (x157.2 != (0 : Int)) then some ((⟨(0 : Int), ByteArray.empty, (0 : Int), (0 : Int)⟩ : Kq), x157.2) else ((cutS a0 (0 : Int) y26).bind fun x160 => some ((⟨(2 : Int), x160, x157.1, (0 : Int)⟩ : Kq), (0 : Int))))))) (fun r => some r)))) else (Option.bind (α := (Unit) ⊕ (Kq × Int)) (loopM (fun (s204 : Int) => (bif (decide (s204 < (([(ByteArray.mk #[61, 61]), (ByteArray.mk #[33, 61]), (ByteArray.mk #[60, 61]), (ByteArray.mk #[38, 38]), (ByteArray.mk #[124, 124]), (ByteArray.mk #[40]), (ByteArray.mk #[41]), (ByteArray.mk #[123]), (ByteArray.mk #[125]), (ByteArray.mk #[91]), (ByteArray.mk #[93]), (ByteArray.mk #[59]), (ByteArray.mk #[44]), (ByteArray.mk #[61]), (ByteArray.mk #[60]), (ByteArray.mk #[43]), (ByteArray.mk #[45]), (ByteArray.mk #[42]), (ByteArray.mk #[47]), (ByteArray.mk #[37]), (ByteArray.mk #[33]), (ByteArray.mk #[38])] : List ByteArray).length : Int))) then ((idx ([(ByteArray.mk #[61, 61]), (ByteArray.mk #[33, 61]), (ByteArray.mk #[60, 61]), (ByteArray.mk #[38, 38]), (ByteArray.mk #[124, 124]), (ByteArray.mk #[40]), (ByteArray.mk #[41]), (ByteArray.mk #[123]), (ByteArray.mk #[125]), (ByteArray.mk #[91]), (ByteArray.mk #[93]), (ByteArray.mk #[59]), (ByteArray.mk #[44]), (ByteArray.mk #[61]), (ByteArray.mk #[60]), (ByteArray.mk #[43]), (ByteArray.mk #[45]), (ByteArray.mk #[42]), (ByteArray.mk #[47]), (ByteArray.mk #[37]), (ByteArray.mk #[33]), (ByteArray.mk #[38])] : List ByteArray) s204).bind fun x232 => (Option.bind (α := Bool) (bif (decide ((x232.size : Int) ≤ (a0.size : Int))) then ((cutS a0 (0 : Int) (x232.size : Int)).bind fun x238 => ((idx ([(ByteArray.mk #[61, 61]), (ByteArray.mk #[33, 61]), (ByteArray.mk #[60, 61]), (ByteArray.mk #[38, 38]), (ByteArray.mk #[124, 124]), (ByteArray.mk #[40]), (ByteArray.mk #[41]), (ByteArray.mk #[123]), (ByteArray.mk #[125]), (ByteArray.mk #[91]), (ByteArray.mk #[93]), (ByteArray.mk #[59]), (ByteArray.mk #[44]), (ByteArray.mk #[61]), (ByteArray.mk #[60]), (ByteArray.mk #[43]), (ByteArray.mk #[45]), (ByteArray.mk #[42]), (ByteArray.mk #[47]), (ByteArray.mk #[37]), (ByteArray.mk #[33]), (ByteArray.mk #[38])] : List ByteArray) s204).bind fun x239 => some (decide (x238 = x239)))) else some false) fun y236 => (bif y236 then (bif a1 then some (.done (.inr ((⟨(0 : Int), ByteArray.empty, (0 : Int), (0 : Int)⟩ : Kq), (6 : Int)))) else ((idx ([(ByteArray.mk #[61, 61]), (ByteArray.mk #[33, 61]), (ByteArray.mk #[60, 61]), (ByteArray.mk #[38, 38]), (ByteArray.mk #[124, 124]), (ByteArray.mk #[40]), (ByteArray.mk #[41]), (ByteArray.mk #[123]), (ByteArray.mk #[125]), (ByteArray.mk #[91]), (ByteArray.mk #[93]), (ByteArray.mk #[59]), (ByteArray.mk #[44]), (ByteArray.mk #[61]), (ByteArray.mk #[60]), (ByteArray.mk #[43]), (ByteArray.mk #[45]), (ByteArray.mk #[42]), (ByteArray.mk #[47]), (ByteArray.mk #[37]), (ByteArray.mk #[33]), (ByteArray.mk #[38])] : List ByteArray) s204).bind fun x243 => some (.done (.inr ((⟨(3 : Int), x243, (0 : Int), (0 : Int)⟩ : Kq), (0 : Int)))))) else some (.next (IntKind.i64.wrap (s204 + (1 : Int))))))) else some (.done (.inl ())))) (0 : Int)) (Sum.elim (fun y203 => some ((⟨(0 : Int), ByteArray.empty, (0 : Int), (0 : Int)⟩ : Kq), (3 : Int))) (fun r => some r))))))))))
theorem r10_one_ok (a0 : ByteArray) (a1 : Bool) (r : Kq × Int) (h0 : KeX a0 a1 = some r) : CallsD Try.prog 38 [tD a0, .v (.bool a1)] [] [] (fun d h k => d = .tup [Kc r.1, iD r.2] ∧ h = [] ∧ k = []) := by
 have hm := KE h0
 unfold KeX at hm
 clear h0
 refine KU htab Try.func38 rfl rfl rfl rfl rfl (fun C => ?_)
 refine Kj ?_
 refine KW htab rfl rfl rfl rfl rfl rfl rfl (fun b1 => ?_)
 refine pu ?_
 refine Ky ?_
 refine pu ?_
 refine Kh ?_
 refine Kr ?_
 obtain ⟨y26, q26, ho26⟩ := Kf hm
 refine K7 (Y := Unit) (fun z26 => (⟨[(0, tD a0), (1, .v (.bool a1)), (4, .ptr b1 0), (6, iD y26)], [(b1, Blk.cells [iD (0 : Int), tD ByteArray.empty, iD (0 : Int), iD (0 : Int)] 69)], []⟩ : S)) ?_ ?_
 ·clear hm; have hm := KE q26
  refine KI ?_
  obtain ⟨u27, hl27, hq27⟩ := yes_m hm
  refine KaU (Y := Unit) hl27 (fun s27 z27 => (⟨[(0, tD a0), (1, .v (.bool a1)), (4, .ptr b1 0), (6, iD s27)], [(b1, Blk.cells [iD (0 : Int), tD ByteArray.empty, iD (0 : Int), iD (0 : Int)] 69)], []⟩ : S)) ?_ ?_
  ·skip
   exact WkX.of () (WkS.perm (WkS.cons rfl (Wk.refl _) (WkS.cons rfl (Wk.refl _) (WkS.cons rfl (Wk.refl _) (WkS.cons rfl (Wk.refl _) (WkS.nil))))) Pf Pf)
  ·intro G27 s27 z27 hm
   refine Kr ?_
   refine Kj ?_
   refine pu ?_
   refine pu ?_
   refine Kgo htab rfl rfl rfl rfl rfl rfl rfl rfl ?_
   refine pu ?_
   refine pu ?_
   refine K5 (i := 17) rfl (fun hg44 => ?_) (fun hg44 => ?_)
   ·replace hm := yes_t hg44 hm
    refine pu ?_
    refine pu ?_
    obtain ⟨x45, q45, hm⟩ := Kf hm
    refine KfI htab rfl rfl rfl rfl rfl rfl rfl rfl (Kdd q45) (KfK q45) ?_
    obtain ⟨x46, q46, hm⟩ := Kf hm
    refine Kaw (KfY (x45.toNat : Int) x46 q46) rfl rfl rfl rfl rfl Wl ?_
    rintro _ rfl
    refine pu ?_
    refine K5 (i := 22) rfl (fun hg47 => ?_) (fun hg47 => ?_)
    ·replace hm := yes_t hg47 hm
     iterate 4 refine pK ?_
     refine KP rfl rfl rfl rfl rfl rfl ?_
     refine KP rfl rfl rfl rfl rfl rfl ?_
     refine Kh ?_
     refine wpD_true rfl ?_
     refine Kv ?_
     refine Ki ?_
     refine KI ?_
     refine KD ?_
     iterate 3 refine pu ?_
     refine KC ?_
     refine KF ?_
     refine Ki ⟨_, KaA hm, ?_⟩
     exact WkX.of () (WkS.perm (WkS.cons rfl (Wk.refl _) (WkS.cons rfl (Wk.refl _) (WkS.cons rfl (Wk.refl _) (WkS.cons rfl (Wk.refl _) (WkS.nil))))) Pf Pf)
    ·replace hm := yes_f hg47 hm
     refine pu ?_
     refine pu ?_
     obtain ⟨x48, q48, hm⟩ := Kf hm
     refine KfI htab rfl rfl rfl rfl rfl rfl rfl rfl (Kdd q48) (KfK q48) ?_
     obtain ⟨x49, q49, hm⟩ := Kf hm
     refine Kaw (Kiu (x48.toNat : Int) x49 q49) rfl rfl rfl rfl rfl Wl ?_
     rintro _ rfl
     refine KL rfl rfl rfl rfl rfl rfl ?_
     refine KP rfl rfl rfl rfl rfl rfl ?_
     refine Kh ?_
     refine Ku rfl (fun hc50 => ?_) (fun hc50 => ?_)
     ·replace hm := yes_t hc50 hm
      refine Kv ?_
      refine Ki ?_
      refine KI ?_
      refine KD ?_
      iterate 3 refine pu ?_
      refine KC ?_
      refine KF ?_
      refine Ki ⟨_, KaA hm, ?_⟩
      exact WkX.of () (WkS.perm (WkS.cons rfl (Wk.refl _) (WkS.cons rfl (Wk.refl _) (WkS.cons rfl (Wk.refl _) (WkS.cons rfl (Wk.refl _) (WkS.nil))))) Pf Pf)
     ·replace hm := yes_f hc50 hm
      refine Kan ?_
      refine KJ ?_
      have e27 := Kac hm; subst e27; clear hm; have hm := hq27
      refine KJ ?_
      refine Kae ?_
      have e26 := Kn hm; subst e26
      refine ⟨rfl, ?_⟩
      exact WkX.of () (WkS.perm (WkS.cons rfl (Wk.refl _) (WkS.cons rfl (Wk.refl _) (WkS.cons rfl (Wk.refl _) (WkS.cons rfl (Wk.refl _) (WkS.nil))))) Pf Pf)
   ·replace hm := yes_f hg44 hm
    iterate 10 refine pK ?_
    refine KL rfl rfl rfl rfl rfl rfl ?_
    refine Kh ?_
    refine Kio rfl ?_
    refine Kan ?_
    refine KJ ?_
    have e27 := Kac hm; subst e27; clear hm; have hm := hq27
    refine KJ ?_
    refine Kae ?_
    have e26 := Kn hm; subst e26
    refine ⟨rfl, ?_⟩
    exact WkX.of () (WkS.perm (WkS.cons rfl (Wk.refl _) (WkS.cons rfl (Wk.refl _) (WkS.cons rfl (Wk.refl _) (WkS.cons rfl (Wk.refl _) (WkS.nil))))) Pf Pf)
 ·intro s26 hw26; clear hm; have hm := ho26; clear q26 ho26
  refine Ki ?_
  refine KZ hw26 (fun z26 => ?_)
  refine Kr ?_
  refine Kj ?_
  refine pu ?_
  obtain ⟨x51, q51, hm⟩ := Kf hm
  refine KfI htab rfl rfl rfl rfl rfl rfl rfl rfl (Kdd q51) (KfK q51) ?_
  obtain ⟨x52, q52, hm⟩ := Kf hm
  refine Kaw (KfY (x51.toNat : Int) x52 q52) rfl rfl rfl rfl rfl Wl ?_
  rintro _ rfl
  refine Kh ?_
  refine Ku rfl (fun hc66 => ?_) (fun hc66 => ?_)
  ·replace hm := yes_t hc66 hm
   refine Kr ?_
   refine Kr ?_
   obtain ⟨y68, q68, ho68⟩ := Kf hm
   refine K7 (Y := Unit) (fun z68 => (⟨[(0, tD a0), (4, .ptr b1 0), (6, iD y26), (38, .v (.bool y68))], [(b1, Blk.cells [iD (0 : Int), tD ByteArray.empty, iD (0 : Int), iD (0 : Int)] 69)], []⟩ : S)) ?_ ?_
   ·clear hm; have hm := KE q68
    refine KD ?_
    iterate 3 refine pu ?_
    refine K5 (i := 36) rfl (fun hg69 => ?_) (fun hg69 => ?_)
    ·replace hm := yes_t hg69 hm
     refine pK ?_
     refine KP rfl rfl rfl rfl rfl rfl ?_
     refine KC ?_
     have e68 := Kn hm; subst e68
     refine ⟨rfl, ?_⟩
     exact WkX.of () (WkS.perm (WkS.cons rfl (Wk.refl _) (WkS.cons rfl (Wk.refl _) (WkS.cons rfl (Wk.refl _) (WkS.cons rfl (Wk.refl _) (WkS.nil))))) Pf Pf)
    ·replace hm := yes_f hg69 hm
     refine pu ?_
     refine KL rfl rfl rfl rfl rfl rfl ?_
     refine KC ?_
     have e68 := Kn hm; subst e68
     refine ⟨rfl, ?_⟩
     exact WkX.of () (WkS.perm (WkS.cons rfl (Wk.refl _) (WkS.cons rfl (Wk.refl _) (WkS.cons rfl (Wk.refl _) (WkS.cons rfl (Wk.refl _) (WkS.nil))))) Pf Pf)
   ·intro s68 hw68; clear hm; have hm := ho68; clear q68 ho68
    refine Ki ?_
    refine KZ hw68 (fun z68 => ?_)
    refine Ku rfl (fun hc70 => ?_) (fun hc70 => ?_)
    ·replace hm := yes_t hc70 hm
     refine Kj ?_
     refine Kaf (r := [iD (0 : Int), tD ByteArray.empty, iD (0 : Int), iD (0 : Int)]) htab rfl rfl rfl rfl rfl rfl rfl rfl rfl ?_
     refine pS0 (ds' := [iD (0 : Int), tD ByteArray.empty, iD (0 : Int), iD (0 : Int)]) ?_
     refine pu ?_
     refine Kh ?_
     refine Ks ?_
     refine Kx ?_
     refine Kx ?_
     have er71 := Kn hm; subst er71
     refine rP (t' := [(4, .ptr b1 0), (5, iD (6 : Int))]) [0] [] 0 (wC (wC wN)) (lC 0 (lT lN)) ?_
     exact ⟨rfl, rfl, rfl⟩
    ·replace hm := yes_f hc70 hm
     refine Kv ?_
     refine Ki ?_
     refine Kr ?_
     refine Kj ?_
     refine pu ?_
     refine pu ?_
     obtain ⟨x72, q72, hm⟩ := Kf hm
     refine Khk q72 htab rfl rfl rfl rfl rfl rfl rfl rfl rfl rfl rfl ?_
     obtain ⟨x73, q73, hm⟩ := Kf hm
     refine Kaw (KkU x72 x73 q73) rfl rfl rfl rfl rfl Wl ?_
     rintro _ rfl
     refine Kh ?_
     refine Ku rfl (fun hc74 => ?_) (fun hc74 => ?_)
     ·replace hm := yes_t hc74 hm
      refine Kj ?_
      refine pu ?_
      refine pu ?_
      obtain ⟨x75, q75, hm⟩ := Kf hm
      refine Khk q75 htab rfl rfl rfl rfl rfl rfl rfl rfl rfl rfl rfl ?_
      refine Kaf (r := [iD (3 : Int), tD x75, iD (0 : Int), iD (0 : Int)]) htab rfl rfl rfl rfl rfl rfl rfl rfl rfl ?_
      refine pS0 (ds' := [iD (3 : Int), tD x75, iD (0 : Int), iD (0 : Int)]) ?_
      refine pu ?_
      refine Kh ?_
      refine Ks ?_
      refine Kx ?_
      refine Kx ?_
      have er76 := Kn hm; subst er76
      refine rP (t' := [(4, .ptr b1 0), (5, iD (0 : Int))]) [0] [] 0 (wC (wC wN)) (lC 0 (lT lN)) ?_
      exact ⟨rfl, rfl, rfl⟩
     ·replace hm := yes_f hc74 hm
      refine Kv ?_
      refine Ki ?_
      refine Kj ?_
      refine pu ?_
      refine pu ?_
      obtain ⟨x77, q77, hm⟩ := Kf hm
      refine Khk q77 htab rfl rfl rfl rfl rfl rfl rfl rfl rfl rfl rfl ?_
      refine Kaf (r := [iD (1 : Int), tD x77, iD (0 : Int), iD (0 : Int)]) htab rfl rfl rfl rfl rfl rfl rfl rfl rfl ?_
      refine pS0 (ds' := [iD (1 : Int), tD x77, iD (0 : Int), iD (0 : Int)]) ?_
      refine pu ?_
      refine Kh ?_
      refine Ks ?_
      refine Kx ?_
      have er78 := Kn hm; subst er78
      refine rP (t' := [(4, .ptr b1 0), (5, iD (0 : Int))]) [0] [] 0 (wC (wC wN)) (lC 0 (lT lN)) ?_
      exact ⟨rfl, rfl, rfl⟩
  ·replace hm := yes_f hc66 hm
   refine Kv ?_
   refine Ki ?_
   refine Kr ?_
   refine Kj ?_
   refine pu ?_
   obtain ⟨x79, q79, hm⟩ := Kf hm
   refine KfI htab rfl rfl rfl rfl rfl rfl rfl rfl (Kdd q79) (KfK q79) ?_
   obtain ⟨x80, q80, hm⟩ := Kf hm
   refine Kaw (Kiu (x79.toNat : Int) x80 q80) rfl rfl rfl rfl rfl Wl ?_
   rintro _ rfl
   refine Kh ?_
   refine Ku rfl (fun hc121 => ?_) (fun hc121 => ?_)
   ·replace hm := yes_t hc121 hm
    refine Kr ?_
    refine Kj ?_
    refine pu ?_
    refine Kh ?_
    refine Ku rfl (fun hc122 => ?_) (fun hc122 => ?_)
    ·replace hm := yes_t hc122 hm
     refine Kj ?_
     refine Kaf (r := [iD (0 : Int), tD ByteArray.empty, iD (0 : Int), iD (0 : Int)]) htab rfl rfl rfl rfl rfl rfl rfl rfl rfl ?_
     refine pS0 (ds' := [iD (0 : Int), tD ByteArray.empty, iD (0 : Int), iD (0 : Int)]) ?_
     refine pu ?_
     refine Kh ?_
     refine Ks ?_
     refine Kx ?_
     refine Kx ?_
     have er123 := Kn hm; subst er123
     refine rP (t' := [(4, .ptr b1 0), (5, iD (6 : Int))]) [0] [] 0 (wC (wC wN)) (lC 0 (lT lN)) ?_
     exact ⟨rfl, rfl, rfl⟩
    ·replace hm := yes_f hc122 hm
     refine Kv ?_
     refine Ki ?_
     refine Kr ?_
     refine Kj ?_
     refine pu ?_
     refine Kh ?_
     obtain ⟨x139, q139, ho139⟩ := Kf hm
     refine Kci (τ := Unit) (Y := Unit) (fun y139 z139 => (⟨[(0, tD a0), (4, .ptr b1 0), (6, iD y26)], [(b1, Blk.cells [iD (0 : Int), tD ByteArray.empty, iD (0 : Int), iD (0 : Int)] 69)], []⟩ : S)) x139 ?_ ?_
     ·clear hm; have hm := KE q139
      refine KI ?_
      obtain ⟨u140, hl140, hq140⟩ := yes_m hm
      refine KaU (Y := Unit) hl140 (fun s140 z140 => (⟨[(0, tD a0), (4, .ptr b1 0), (6, iD y26), (7, iD s140)], [(b1, Blk.cells [iD (0 : Int), tD ByteArray.empty, iD (0 : Int), iD (0 : Int)] 69)], []⟩ : S)) ?_ ?_
      ·skip
       exact WkX.of () (WkS.perm (WkS.cons rfl (Wk.refl _) (WkS.cons rfl (Wk.refl _) (WkS.cons rfl (Wk.refl _) (WkS.cons rfl (Wk.refl _) (WkS.nil))))) Pf Pf)
      ·intro G140 s140 z140 hm
       refine Kr ?_
       refine Kj ?_
       iterate 3 refine pu ?_
       refine Kh ?_
       refine Ku rfl (fun hc151 => ?_) (fun hc151 => ?_)
       ·replace hm := yes_t hc151 hm
        refine Kv ?_
        refine Ki ?_
        refine Kr ?_
        refine KI ?_
        refine Kj ?_
        refine pu ?_
        refine pu ?_
        obtain ⟨x152, q152, hm⟩ := Kf hm
        refine KfI htab rfl rfl rfl rfl rfl rfl rfl rfl (Kdd q152) (KfK q152) ?_
        obtain ⟨x153, q153, hm⟩ := Kf hm
        refine Kaw (KfY (x152.toNat : Int) x153 q153) rfl rfl rfl rfl rfl Wl ?_
        rintro _ rfl
        refine Kh ?_
        refine Ku rfl (fun hc154 => ?_) (fun hc154 => ?_)
        ·replace hm := yes_t hc154 hm
         refine Kj ?_
         refine Kaf (r := [iD (0 : Int), tD ByteArray.empty, iD (0 : Int), iD (0 : Int)]) htab rfl rfl rfl rfl rfl rfl rfl rfl rfl ?_
         refine pS0 (ds' := [iD (0 : Int), tD ByteArray.empty, iD (0 : Int), iD (0 : Int)]) ?_
         refine pu ?_
         refine Kh ?_
         refine Ks ?_
         refine KR ?_
         refine Kx ?_
         have e140 := Kac hm; subst e140; clear hm; have hm := hq140
         refine Kx ?_
         refine KR ?_
         have e139 := Kn hm; subst e139; refine Kbi ?_; clear hm; have hm := ho139; simp only [Sum.elim_inr] at hm
         refine Kx ?_
         refine Kx ?_
         have er155 := Kn hm; subst er155
         refine rP (t' := [(4, .ptr b1 0), (5, iD (3 : Int))]) [0] [] 0 (wC (wC wN)) (lC 0 (lT lN)) ?_
         exact ⟨rfl, rfl, rfl⟩
        ·replace hm := yes_f hc154 hm
         refine Kv ?_
         refine KF ?_
         refine Ki ?_
         refine KD ?_
         iterate 3 refine pu ?_
         refine KC ?_
         refine Ki ⟨_, KaA hm, ?_⟩
         exact WkX.of () (WkS.perm (WkS.cons rfl (Wk.refl _) (WkS.cons rfl (Wk.refl _) (WkS.cons rfl (Wk.refl _) (WkS.cons rfl (Wk.refl _) (WkS.nil))))) Pf Pf)
       ·replace hm := yes_f hc151 hm
        refine Kan ?_
        refine KJ ?_
        have e140 := Kac hm; subst e140; clear hm; have hm := hq140
        refine KJ ?_
        refine Kae ?_
        have e139 := Kn hm; subst e139
        refine Kb1 ?_
        exact WkX.of () (WkS.perm (WkS.cons rfl (Wk.refl _) (WkS.cons rfl (Wk.refl _) (WkS.cons rfl (Wk.refl _) (WkS.nil)))) Pf Pf)
     ·intro y139 s139 hx139 hw139; subst hx139; clear hm; have hm := ho139; simp only [Sum.elim_inl] at hm; clear q139 ho139
      refine Ki ?_
      refine KZ hw139 (fun z139 => ?_)
      refine Kj ?_
      refine pu ?_
      refine pu ?_
      obtain ⟨x156, q156, hm⟩ := Kf hm
      refine Khk q156 htab rfl rfl rfl rfl rfl rfl rfl rfl rfl rfl rfl ?_
      obtain ⟨x157, q157, hm⟩ := Kf hm
      refine Kaw (Kks x156 x157 q157) rfl rfl rfl rfl rfl Wl ?_
      rintro _ rfl
      iterate 5 refine pu ?_
      refine Kh ?_
      refine Kr ?_
      refine Kj ?_
      refine pu ?_
      refine pu ?_
      refine Kh ?_
      refine Ku rfl (fun hc158 => ?_) (fun hc158 => ?_)
      ·replace hm := yes_t hc158 hm
       refine Kj ?_
       refine Kaf (r := [iD (0 : Int), tD ByteArray.empty, iD (0 : Int), iD (0 : Int)]) htab rfl rfl rfl rfl rfl rfl rfl rfl rfl ?_
       refine pu ?_
       refine pS0 (ds' := [iD (0 : Int), tD ByteArray.empty, iD (0 : Int), iD (0 : Int)]) ?_
       refine pu ?_
       refine Kh ?_
       refine Ks ?_
       refine Kx ?_
       refine Kx ?_
       have er159 := Kn hm; subst er159
       refine rP (t' := [(4, .ptr b1 0), (5, iD x157.2)]) [0] [] 0 (wC (wC wN)) (lC 0 (lT lN)) ?_
       exact ⟨rfl, rfl, rfl⟩
      ·replace hm := yes_f hc158 hm
       refine Kv ?_
       refine Ki ?_
       refine Kj ?_
       refine pu ?_
       refine pu ?_
       obtain ⟨x160, q160, hm⟩ := Kf hm
       refine Khk q160 htab rfl rfl rfl rfl rfl rfl rfl rfl rfl rfl rfl ?_
       refine pu ?_
       refine Kaf (r := [iD (2 : Int), tD x160, iD x157.1, iD (0 : Int)]) htab rfl rfl rfl rfl rfl rfl rfl rfl rfl ?_
       refine pS0 (ds' := [iD (2 : Int), tD x160, iD x157.1, iD (0 : Int)]) ?_
       refine pu ?_
       refine Kh ?_
       refine Ks ?_
       refine Kx ?_
       have er161 := Kn hm; subst er161
       refine rP (t' := [(4, .ptr b1 0), (5, iD (0 : Int))]) [0] [] 0 (wC (wC wN)) (lC 0 (lT lN)) ?_
       exact ⟨rfl, rfl, rfl⟩
   ·replace hm := yes_f hc121 hm
    refine Kv ?_
    refine Ki ?_
    refine Kj ?_
    refine p_lit htab rfl rfl rfl rfl rfl rfl rfl rfl rfl rfl rfl rfl rfl rfl ?_
    refine p_eq (i := 83) (d' := .lst 1 (([(ByteArray.mk #[61, 61]), (ByteArray.mk #[33, 61]), (ByteArray.mk #[60, 61]), (ByteArray.mk #[38, 38]), (ByteArray.mk #[124, 124]), (ByteArray.mk #[40]), (ByteArray.mk #[41]), (ByteArray.mk #[123]), (ByteArray.mk #[125]), (ByteArray.mk #[91]), (ByteArray.mk #[93]), (ByteArray.mk #[59]), (ByteArray.mk #[44]), (ByteArray.mk #[61]), (ByteArray.mk #[60]), (ByteArray.mk #[43]), (ByteArray.mk #[45]), (ByteArray.mk #[42]), (ByteArray.mk #[47]), (ByteArray.mk #[37]), (ByteArray.mk #[33]), (ByteArray.mk #[38])] : List ByteArray).map eStr) .full) rfl (Wk.lst0 (.cons (WkC.refl _) (.cons (WkC.refl _) (.cons (WkC.refl _) (.cons (WkC.refl _) (.cons (WkC.refl _) (.cons (WkC.refl _) (.cons (WkC.refl _) (.cons (WkC.refl _) (.cons (WkC.refl _) (.cons (WkC.refl _) (.cons (WkC.refl _) (.cons (WkC.refl _) (.cons (WkC.refl _) (.cons (WkC.refl _) (.cons (WkC.refl _) (.cons (WkC.refl _) (.cons (WkC.refl _) (.cons (WkC.refl _) (.cons (WkC.refl _) (.cons (WkC.refl _) (.cons (WkC.refl _) (.cons (WkC.refl _) (.nil)))))))))))))))))))))))) ?_
    refine pu ?_
    refine Kh ?_
    refine Kr ?_
    refine Kj ?_
    refine pu ?_
    refine Kh ?_
    obtain ⟨x203, q203, ho203⟩ := Kf hm
    refine Kci (τ := Unit) (Y := Unit) (fun y203 z203 => (⟨[(4, .ptr b1 0)], [(b1, Blk.cells [iD (0 : Int), tD ByteArray.empty, iD (0 : Int), iD (0 : Int)] 69)], []⟩ : S)) x203 ?_ ?_
    ·clear hm; have hm := KE q203
     refine KI ?_
     obtain ⟨u204, hl204, hq204⟩ := yes_m hm
     refine KaU (Y := Unit) hl204 (fun s204 z204 => (⟨[(0, tD a0), (1, .v (.bool a1)), (4, .ptr b1 0), (10, .lst 1 (([(ByteArray.mk #[61, 61]), (ByteArray.mk #[33, 61]), (ByteArray.mk #[60, 61]), (ByteArray.mk #[38, 38]), (ByteArray.mk #[124, 124]), (ByteArray.mk #[40]), (ByteArray.mk #[41]), (ByteArray.mk #[123]), (ByteArray.mk #[125]), (ByteArray.mk #[91]), (ByteArray.mk #[93]), (ByteArray.mk #[59]), (ByteArray.mk #[44]), (ByteArray.mk #[61]), (ByteArray.mk #[60]), (ByteArray.mk #[43]), (ByteArray.mk #[45]), (ByteArray.mk #[42]), (ByteArray.mk #[47]), (ByteArray.mk #[37]), (ByteArray.mk #[33]), (ByteArray.mk #[38])] : List ByteArray).map eStr) .full), (11, iD s204)], [(b1, Blk.cells [iD (0 : Int), tD ByteArray.empty, iD (0 : Int), iD (0 : Int)] 69)], []⟩ : S)) ?_ ?_
     ·skip
      exact WkX.of () (WkS.perm (WkS.cons rfl (Wk.refl _) (WkS.cons rfl (Wk.refl _) (WkS.cons rfl (Wk.refl _) (WkS.cons rfl (Wk.refl _) (WkS.cons rfl (Wk.refl _) (WkS.nil)))))) Pf Pf)
     ·intro G204 s204 z204 hm
      refine Kr ?_
      refine Kj ?_
      refine pu ?_
      refine pu ?_
      refine KaK htab rfl rfl rfl rfl rfl rfl rfl (by first | exact Kab | rfl) ?_
      refine pu ?_
      refine Kh ?_
      refine Ku rfl (fun hc231 => ?_) (fun hc231 => ?_)
      ·replace hm := yes_t hc231 hm
       refine Kv ?_
       refine Ki ?_
       refine Kr ?_
       refine KI ?_
       refine Kj ?_
       refine pu ?_
       refine pu ?_
       obtain ⟨x232, q232, hm⟩ := Kf hm
       refine KaR htab rfl rfl rfl rfl rfl rfl rfl rfl rfl rfl (Kt q232) (KA q232) ?_
       refine Kav htab rfl rfl rfl rfl rfl rfl rfl rfl ?_
       refine Kgo htab rfl rfl rfl rfl rfl rfl rfl rfl ?_
       refine pu ?_
       refine Kh ?_
       refine Kr ?_
       obtain ⟨y236, q236, ho236⟩ := Kf hm
       refine K7 (Y := Unit) (fun z236 => (⟨[(0, tD a0), (1, .v (.bool a1)), (4, .ptr b1 0), (10, .lst 1 (([(ByteArray.mk #[61, 61]), (ByteArray.mk #[33, 61]), (ByteArray.mk #[60, 61]), (ByteArray.mk #[38, 38]), (ByteArray.mk #[124, 124]), (ByteArray.mk #[40]), (ByteArray.mk #[41]), (ByteArray.mk #[123]), (ByteArray.mk #[125]), (ByteArray.mk #[91]), (ByteArray.mk #[93]), (ByteArray.mk #[59]), (ByteArray.mk #[44]), (ByteArray.mk #[61]), (ByteArray.mk #[60]), (ByteArray.mk #[43]), (ByteArray.mk #[45]), (ByteArray.mk #[42]), (ByteArray.mk #[47]), (ByteArray.mk #[37]), (ByteArray.mk #[33]), (ByteArray.mk #[38])] : List ByteArray).map eStr) .full), (11, iD s204), (108, .v (.bool y236))], [(b1, Blk.cells [iD (0 : Int), tD ByteArray.empty, iD (0 : Int), iD (0 : Int)] 69)], []⟩ : S)) ?_ ?_
       ·clear hm; have hm := KE q236
        refine bycB (decide ((x232.size : Int) ≤ (a0.size : Int))) (fun hs237 => ?_) (fun hs237 => ?_)
        ·replace hm := yes_t hs237 hm
         obtain ⟨x238, q238, hm⟩ := Kf hm
         obtain ⟨x239, q239, hm⟩ := Kf hm
         refine Kah 12 [] [[],[],[],[],[],[],[],[],[],[],[8],[8,10]] [8,10] nlGm1_8 (by kernel_rfl) (by kernel_rfl) (by kernel_rfl) (by rfl) (by rfl) (by kernel_rfl) ?_
         apply Exists.intro
         apply Exists.intro
         intro bs
         refine zqp ?_
         refine z_q rfl rfl (x_lenS htab rfl rfl rfl rfl rfl) rfl rfl rfl rfl rfl rfl ?_
         iterate 3 refine zqp ?_
         refine KY (j := 99) (b' := true) rfl hs237 ?_
         refine zqp ?_
         refine zqp ?_
         refine z_q rfl rfl (x_cutS q238 htab rfl rfl rfl rfl rfl rfl rfl rfl) rfl rfl rfl rfl rfl rfl ?_
         refine zep ?_
         refine zqp ?_
         refine z_e rfl rfl (KH htab rfl rfl rfl rfl rfl rfl rfl (Kt q239) (KA q239)) rfl rfl rfl rfl rfl rfl ?_
         refine z_qM rfl rfl (Kz htab rfl rfl rfl rfl rfl) rfl rfl rfl rfl rfl rfl ?_
         refine z_nil rfl rfl (fun e he => by simp [isAl] at he) ?_
         refine pu ?_
         refine KP rfl rfl rfl rfl rfl rfl ?_
         refine KC ?_
         have e236 := Kn hm; subst e236
         refine ⟨rfl, ?_⟩
         exact WkX.of () (WkS.perm (WkS.cons rfl (Wk.refl _) (WkS.cons rfl (Wk.refl _) (WkS.cons rfl (Wk.refl _) (WkS.cons rfl (Wk.refl _) (WkS.cons rfl (Wk.refl _) (WkS.cons rfl (Wk.refl _) (WkS.nil))))))) Pf Pf)
        ·replace hm := yes_f hs237 hm
         refine Kah 12 [] [[],[],[],[],[],[],[],[],[],[],[],[]] [] nlGm1_8 (by kernel_rfl) (by kernel_rfl) (by kernel_rfl) (by rfl) (by rfl) (by kernel_rfl) ?_
         intro bs
         refine zqp ?_
         refine z_q rfl rfl (x_lenS htab rfl rfl rfl rfl rfl) rfl rfl rfl rfl rfl rfl ?_
         iterate 3 refine zqp ?_
         refine KY (j := 99) (b' := false) rfl hs237 ?_
         iterate 7 refine zK ?_
         refine z_nil rfl rfl (fun e he => by simp [isAl] at he) ?_
         refine pK ?_
         refine KL rfl rfl rfl rfl rfl rfl ?_
         refine KC ?_
         have e236 := Kn hm; subst e236
         refine ⟨rfl, ?_⟩
         exact WkX.of () (WkS.perm (WkS.cons rfl (Wk.refl _) (WkS.cons rfl (Wk.refl _) (WkS.cons rfl (Wk.refl _) (WkS.cons rfl (Wk.refl _) (WkS.cons rfl (Wk.refl _) (WkS.cons rfl (Wk.refl _) (WkS.nil))))))) Pf Pf)
       ·intro s236 hw236; clear hm; have hm := ho236; clear q236 ho236
        refine Ki ?_
        refine KZ hw236 (fun z236 => ?_)
        refine Ku rfl (fun hc240 => ?_) (fun hc240 => ?_)
        ·replace hm := yes_t hc240 hm
         refine Kr ?_
         refine Kj ?_
         refine pu ?_
         refine Kh ?_
         refine Ku rfl (fun hc241 => ?_) (fun hc241 => ?_)
         ·replace hm := yes_t hc241 hm
          refine Kj ?_
          refine Kaf (r := [iD (0 : Int), tD ByteArray.empty, iD (0 : Int), iD (0 : Int)]) htab rfl rfl rfl rfl rfl rfl rfl rfl rfl ?_
          refine pS0 (ds' := [iD (0 : Int), tD ByteArray.empty, iD (0 : Int), iD (0 : Int)]) ?_
          refine pu ?_
          refine Kh ?_
          refine Ks ?_
          refine Kx ?_
          refine KR ?_
          refine Kx ?_
          have e204 := Kac hm; subst e204; clear hm; have hm := hq204
          refine Kx ?_
          refine KR ?_
          have e203 := Kn hm; subst e203; refine Kbi ?_; clear hm; have hm := ho203; simp only [Sum.elim_inr] at hm
          refine Kx ?_
          have er242 := Kn hm; subst er242
          refine rP (t' := [(4, .ptr b1 0), (5, iD (6 : Int))]) [0] [] 0 (wC (wC wN)) (lC 0 (lT lN)) ?_
          exact ⟨rfl, rfl, rfl⟩
         ·replace hm := yes_f hc241 hm
          refine Kv ?_
          refine Ki ?_
          refine Kj ?_
          refine pu ?_
          refine pu ?_
          obtain ⟨x243, q243, hm⟩ := Kf hm
          refine KaR htab rfl rfl rfl rfl rfl rfl rfl rfl rfl rfl (Kt q243) (KA q243) ?_
          refine Kav htab rfl rfl rfl rfl rfl rfl rfl rfl ?_
          refine Kaf (r := [iD (3 : Int), tD x243, iD (0 : Int), iD (0 : Int)]) htab rfl rfl rfl rfl rfl rfl rfl rfl rfl ?_
          refine pS0 (ds' := [iD (3 : Int), tD x243, iD (0 : Int), iD (0 : Int)]) ?_
          refine pu ?_
          refine Kh ?_
          refine Ks ?_
          refine KR ?_
          refine Kx ?_
          have e204 := Kac hm; subst e204; clear hm; have hm := hq204
          refine Kx ?_
          refine KR ?_
          have e203 := Kn hm; subst e203; refine Kbi ?_; clear hm; have hm := ho203; simp only [Sum.elim_inr] at hm
          refine Kx ?_
          have er244 := Kn hm; subst er244
          refine rP (t' := [(4, .ptr b1 0), (5, iD (0 : Int))]) [0] [] 0 (wC (wC wN)) (lC 0 (lT lN)) ?_
          exact ⟨rfl, rfl, rfl⟩
        ·replace hm := yes_f hc240 hm
         refine Kv ?_
         refine KF ?_
         refine Ki ?_
         refine KD ?_
         iterate 3 refine pu ?_
         refine KC ?_
         refine Ki ⟨_, KaA hm, ?_⟩
         exact WkX.of () (WkS.perm (WkS.cons rfl (Wk.refl _) (WkS.cons rfl (Wk.refl _) (WkS.cons rfl (Wk.refl _) (WkS.cons rfl (Wk.refl _) (WkS.cons rfl (Wk.refl _) (WkS.nil)))))) Pf Pf)
      ·replace hm := yes_f hc231 hm
       refine Kan ?_
       refine KJ ?_
       have e204 := Kac hm; subst e204; clear hm; have hm := hq204
       refine KJ ?_
       refine Kae ?_
       have e203 := Kn hm; subst e203
       refine Kb1 ?_
       exact WkX.of () (WkS.perm (WkS.cons rfl (Wk.refl _) (WkS.nil)) Pf Pf)
    ·intro y203 s203 hx203 hw203; subst hx203; clear hm; have hm := ho203; simp only [Sum.elim_inl] at hm; clear q203 ho203
     refine Ki ?_
     refine KZ hw203 (fun z203 => ?_)
     refine Kj ?_
     refine Kaf (r := [iD (0 : Int), tD ByteArray.empty, iD (0 : Int), iD (0 : Int)]) htab rfl rfl rfl rfl rfl rfl rfl rfl rfl ?_
     refine pS0 (ds' := [iD (0 : Int), tD ByteArray.empty, iD (0 : Int), iD (0 : Int)]) ?_
     refine pu ?_
     refine Kh ?_
     refine Ks ?_
     have er245 := Kn hm; subst er245
     refine rP (t' := [(4, .ptr b1 0), (5, iD (3 : Int))]) [0] [] 0 (wC (wC wN)) (lC 0 (lT lN)) ?_
     exact ⟨rfl, rfl, rfl⟩
noncomputable def Kfs (a0 : List UInt8) : Option (List Kq × Int × Int) :=
 (bif (decide ((20000 : Int) < (a0.length : Int))) then some (([] : List Kq), (0 : Int), (6 : Int)) else (Option.bind (α := (List Kq) ⊕ (List Kq × Int × Int)) (loopM (fun (s58 : List Kq × Int) => (bif (decide (s58.2 < ((ByteArray.mk a0.toArray).size : Int))) then ((bAt (ByteArray.mk a0.toArray) s58.2).bind fun x93 => (Option.bind (α := Bool) (bif ((x93.toNat : Int) == (32 : Int)) then some true else (bif ((x93.toNat : Int) == (9 : Int)) then some true else (bif ((x93.toNat : Int) == (10 : Int)) then some true else some ((x93.toNat : Int) == (13 : Int))))) fun y97 => (bif y97 then some (.next (s58.1, (IntKind.i64.wrap (s58.2 + (1 : Int))))) else ((cutS (ByteArray.mk a0.toArray) s58.2 (((ByteArray.mk a0.toArray)).size : Int)).bind fun x102 => ((KeX x102 (decide ((4000 : Int) ≤ (s58.1.length : Int)))).bind fun x103 => (bif (x103.2 != (0 : Int)) then some (.done (.inr (([] : List Kq), s58.2, x103.2))) else ((app 40 s58.1 ([(⟨x103.1.gKind, x103.1.gText, x103.1.gN, s58.2⟩ : Kq)] : List Kq)).bind fun x108 => some (.next (x108, (IntKind.i64.wrap (s58.2 + (x103.1.gText.size : Int)))))))))))) else some (.done (.inl s58.1)))) (([] : List Kq), (0 : Int))) (Sum.elim (fun y57 => ((app 40 y57 ([(⟨(0 : Int), ByteArray.empty, (0 : Int), (a0.length : Int)⟩ : Kq)] : List Kq)).bind fun x109 => some (x109, (0 : Int), (0 : Int)))) (fun r => some r))))
theorem KkV (a0 : List UInt8) (r : List Kq × Int × Int) (h0 : Kfs a0 = some r) : CallsD Try.prog 17 [.lst 1 (a0.map byteD) .no] [] [] (fun d h k => ∃ y0, d = .tup [.lst 4 (r.1.map Kc) (.cur y0), iD r.2.1, iD r.2.2] ∧ h = [] ∧ k = [(4, y0)]) := by
 have hm := KE h0
 unfold Kfs at hm
 clear h0
 refine KU htab Try.func17 rfl rfl rfl rfl rfl (fun C => ?_)
 refine Kj ?_
 iterate 3 refine pu ?_
 refine Kh ?_
 refine Kr ?_
 refine Kj ?_
 refine pu ?_
 refine KaK htab rfl rfl rfl rfl rfl rfl rfl (by first | exact Kab | rfl) ?_
 refine pu ?_
 refine Kh ?_
 refine Ku rfl (fun hc2 => ?_) (fun hc2 => ?_)
 ·replace hm := yes_t hc2 hm
  refine Kj ?_
  iterate 3 refine pu ?_
  refine Kh ?_
  refine Ks ?_
  refine Kx ?_
  have er3 := Kn hm; subst er3
  refine retX.tokN (i := 2) 4 rfl (fun w4 => ?_)
  refine rP (t' := [(2, .lst 4 (([] : List Kq).map Kc) (.cur w4)), (3, iD (0 : Int)), (4, iD (6 : Int))]) [] [0] 0 (wC (wC (wC wN))) (lT (lT (lT lN))) ?_
  exact ⟨w4, rfl, rfl, rfl⟩
 ·replace hm := yes_f hc2 hm
  refine Kv ?_
  refine Ki ?_
  refine Kj ?_
  refine pu ?_
  refine p_toStr htab rfl rfl rfl rfl rfl rfl rfl rfl rfl rfl rfl ?_
  refine pu ?_
  refine Ky ?_
  refine pu ?_
  refine Ky ?_
  refine pu ?_
  refine Kh ?_
  refine Kr ?_
  obtain ⟨x57, q57, ho57⟩ := Kf hm
  refine Kci (τ := List Kq) (Y := Value) (fun y57 z57 => (⟨[(0, .lst 1 (a0.map byteD) .no), (6, .lst 4 (y57.map Kc) (.cur z57))], [], [(4, z57)]⟩ : S)) x57 ?_ ?_
  ·clear hm; have hm := KE q57
   refine KI ?_
   obtain ⟨u58, hl58, hq58⟩ := yes_m hm
   refine KaU (Y := Value) hl58 (fun s58 z58 => (⟨[(0, .lst 1 (a0.map byteD) .no), (5, tD (ByteArray.mk a0.toArray)), (6, .lst 4 (s58.1.map Kc) (.cur z58)), (7, iD s58.2)], [], [(4, z58)]⟩ : S)) ?_ ?_
   ·skip
    refine WkX.tokN (i := 6) 4 rfl (fun w91 => ?_)
    exact WkX.of w91 (WkS.perm (WkS.cons rfl (Wk.refl _) (WkS.cons rfl (Wk.refl _) (WkS.cons rfl (Wk.refl _) (WkS.cons rfl (Wk.refl _) (WkS.nil))))) Pf Pf)
   ·intro G58 s58 z58 hm
    refine Kr ?_
    refine Kj ?_
    refine pu ?_
    refine pu ?_
    refine Kgo htab rfl rfl rfl rfl rfl rfl rfl rfl ?_
    refine pu ?_
    refine Kh ?_
    refine Ku rfl (fun hc92 => ?_) (fun hc92 => ?_)
    ·replace hm := yes_t hc92 hm
     refine Kv ?_
     refine Ki ?_
     refine KI ?_
     refine Kj ?_
     refine pu ?_
     refine pu ?_
     obtain ⟨x93, q93, hm⟩ := Kf hm
     refine KfI htab rfl rfl rfl rfl rfl rfl rfl rfl (Kdd q93) (KfK q93) ?_
     refine pu ?_
     refine Kh ?_
     refine Kr ?_
     refine Kr ?_
     obtain ⟨y97, q97, ho97⟩ := Kf hm
     refine K7 (Y := Unit) (fun z97 => (⟨[(0, .lst 1 (a0.map byteD) .no), (5, tD (ByteArray.mk a0.toArray)), (6, .lst 4 (s58.1.map Kc) (.cur z58)), (7, iD s58.2), (36, .v (.bool y97))], [], [(4, z58)]⟩ : S)) ?_ ?_
     ·clear hm; have hm := KE q97
      refine KD ?_
      iterate 3 refine pu ?_
      refine K5 (i := 25) rfl (fun hg98 => ?_) (fun hg98 => ?_)
      ·replace hm := yes_t hg98 hm
       refine pK ?_
       refine pK ?_
       refine KP rfl rfl rfl rfl rfl rfl ?_
       refine pu ?_
       refine pK ?_
       refine pK ?_
       refine KP rfl rfl rfl rfl rfl rfl ?_
       refine pu ?_
       refine pK ?_
       refine pK ?_
       refine KP rfl rfl rfl rfl rfl rfl ?_
       refine KC ?_
       have e97 := Kn hm; subst e97
       refine ⟨rfl, ?_⟩
       exact WkX.of () (WkS.perm (WkS.cons rfl (Wk.refl _) (WkS.cons rfl (Wk.refl _) (WkS.cons rfl (Wk.refl _) (WkS.cons rfl (Wk.refl _) (WkS.cons rfl (Wk.refl _) (WkS.nil)))))) Pf Pf)
      ·replace hm := yes_f hg98 hm
       refine pu ?_
       refine pu ?_
       refine KL rfl rfl rfl rfl rfl rfl ?_
       refine pu ?_
       refine K5 (i := 29) rfl (fun hg99 => ?_) (fun hg99 => ?_)
       ·replace hm := yes_t hg99 hm
        refine pK ?_
        refine pK ?_
        refine KP rfl rfl rfl rfl rfl rfl ?_
        refine pu ?_
        refine pK ?_
        refine pK ?_
        refine KP rfl rfl rfl rfl rfl rfl ?_
        refine KC ?_
        have e97 := Kn hm; subst e97
        refine ⟨rfl, ?_⟩
        exact WkX.of () (WkS.perm (WkS.cons rfl (Wk.refl _) (WkS.cons rfl (Wk.refl _) (WkS.cons rfl (Wk.refl _) (WkS.cons rfl (Wk.refl _) (WkS.cons rfl (Wk.refl _) (WkS.nil)))))) Pf Pf)
       ·replace hm := yes_f hg99 hm
        refine pu ?_
        refine pu ?_
        refine KL rfl rfl rfl rfl rfl rfl ?_
        refine pu ?_
        refine K5 (i := 33) rfl (fun hg100 => ?_) (fun hg100 => ?_)
        ·replace hm := yes_t hg100 hm
         refine pK ?_
         refine pK ?_
         refine KP rfl rfl rfl rfl rfl rfl ?_
         refine KC ?_
         have e97 := Kn hm; subst e97
         refine ⟨rfl, ?_⟩
         exact WkX.of () (WkS.perm (WkS.cons rfl (Wk.refl _) (WkS.cons rfl (Wk.refl _) (WkS.cons rfl (Wk.refl _) (WkS.cons rfl (Wk.refl _) (WkS.cons rfl (Wk.refl _) (WkS.nil)))))) Pf Pf)
        ·replace hm := yes_f hg100 hm
         refine pu ?_
         refine pu ?_
         refine KL rfl rfl rfl rfl rfl rfl ?_
         refine KC ?_
         have e97 := Kn hm; subst e97
         refine ⟨rfl, ?_⟩
         exact WkX.of () (WkS.perm (WkS.cons rfl (Wk.refl _) (WkS.cons rfl (Wk.refl _) (WkS.cons rfl (Wk.refl _) (WkS.cons rfl (Wk.refl _) (WkS.cons rfl (Wk.refl _) (WkS.nil)))))) Pf Pf)
     ·intro s97 hw97; clear hm; have hm := ho97; clear q97 ho97
      refine Ki ?_
      refine KZ hw97 (fun z97 => ?_)
      refine Ku rfl (fun hc101 => ?_) (fun hc101 => ?_)
      ·replace hm := yes_t hc101 hm
       refine Kj ?_
       iterate 3 refine pu ?_
       refine Kh ?_
       refine Kan ?_
       refine KJ ?_
       refine Kae ?_
       refine Ki ⟨_, KaA hm, ?_⟩
       exact WkX.of z58 (WkS.perm (WkS.cons rfl (Wk.refl _) (WkS.cons rfl (Wk.refl _) (WkS.cons rfl (Wk.refl _) (WkS.cons rfl (Wk.refl _) (WkS.nil))))) Pf Pf)
      ·replace hm := yes_f hc101 hm
       refine Kv ?_
       refine Ki ?_
       refine Kj ?_
       refine pu ?_
       refine pu ?_
       obtain ⟨x102, q102, hm⟩ := Kf hm
       refine Khk q102 htab rfl rfl rfl rfl rfl rfl rfl rfl rfl rfl rfl ?_
       refine pu ?_
       refine KaK htab rfl rfl rfl rfl rfl rfl rfl (by first | exact Kab | rfl) ?_
       refine pu ?_
       obtain ⟨x103, q103, hm⟩ := Kf hm
       refine Kaw (r10_one_ok x102 (decide ((4000 : Int) ≤ (s58.1.length : Int))) x103 q103) rfl rfl rfl rfl rfl Wl ?_
       rintro _ rfl
       iterate 3 refine pu ?_
       refine KW htab rfl rfl rfl rfl rfl rfl rfl (fun b104 => ?_)
       refine pS0 (ds' := [iD x103.1.gKind, tD x103.1.gText, iD x103.1.gN, iD x103.1.gAt]) ?_
       refine pu ?_
       refine Kh ?_
       refine Kr ?_
       refine Kj ?_
       refine pu ?_
       refine pu ?_
       refine Kh ?_
       refine Ku rfl (fun hc105 => ?_) (fun hc105 => ?_)
       ·replace hm := yes_t hc105 hm
        refine Kj ?_
        iterate 5 refine pu ?_
        refine Kh ?_
        refine Ks ?_
        refine Kx ?_
        refine KR ?_
        have e58 := Kac hm; subst e58; clear hm; have hm := hq58
        refine Kx ?_
        refine KR ?_
        have e57 := Kn hm; subst e57; refine Kbi ?_; clear hm; have hm := ho57; simp only [Sum.elim_inr] at hm
        refine Kx ?_
        have er106 := Kn hm; subst er106
        refine retX.tokN (i := 2) 4 rfl (fun w107 => ?_)
        refine rP (t' := [(2, .lst 4 (([] : List Kq).map Kc) (.cur w107)), (3, iD s58.2), (4, iD x103.2)]) [] [0] 0 (wC (wC (wC wN))) (lT (lT (lT lN))) ?_
        exact ⟨w107, rfl, rfl, rfl⟩
       ·replace hm := yes_f hc105 hm
        refine Kv ?_
        refine Ki ?_
        refine Kj ?_
        refine pu ?_
        refine pu ?_
        refine pS0 (ds' := [iD x103.1.gKind, tD x103.1.gText, iD x103.1.gN, iD s58.2]) ?_
        refine Ky ?_
        refine pu ?_
        refine K8 (d := Kc (⟨x103.1.gKind, x103.1.gText, x103.1.gN, s58.2⟩ : Kq)) 0 htab rfl rfl rfl rfl rfl rfl rfl rfl ?_
        refine p_lit htab rfl rfl rfl rfl rfl rfl rfl rfl rfl rfl rfl rfl rfl rfl ?_
        refine p_eq (i := 57) (d' := .lst 4 (([(⟨x103.1.gKind, x103.1.gText, x103.1.gN, s58.2⟩ : Kq)] : List Kq).map Kc) .full) rfl (Wk.lst0 (.cons (WkC.refl _) (.nil))) ?_
        obtain ⟨x108, q108, hm⟩ := Kf hm
        refine KcA 0 htab rfl rfl rfl rfl rfl rfl rfl rfl rfl rfl rfl rfl rfl rfl rfl rfl rfl (Kbe q108) (fun v108 => ?_)
        refine KcB (i := 58) q108 rfl ?_
        refine pu ?_
        refine Kh ?_
        refine KD ?_
        refine pu ?_
        refine pu ?_
        refine pL 0 ?_
        refine Kgo htab rfl rfl rfl rfl rfl rfl rfl rfl ?_
        refine pu ?_
        refine pu ?_
        refine KC ?_
        refine KF ?_
        refine Ki ⟨_, KaA hm, ?_⟩
        exact WkX.of v108 (WkS.perm (WkS.cons rfl (Wk.refl _) (WkS.cons rfl (Wk.refl _) (WkS.cons rfl (Wk.refl _) (WkS.cons rfl (Wk.refl _) (WkS.nil))))) Pf Pf)
    ·replace hm := yes_f hc92 hm
     refine Kan ?_
     refine KJ ?_
     have e58 := Kac hm; subst e58; clear hm; have hm := hq58
     refine KJ ?_
     refine Kae ?_
     have e57 := Kn hm; subst e57
     refine Kb1 ?_
     exact WkX.of z58 (WkS.perm (WkS.cons rfl (Wk.refl _) (WkS.cons rfl (Wk.refl _) (WkS.nil))) Pf Pf)
  ·intro y57 s57 hx57 hw57; subst hx57; clear hm; have hm := ho57; simp only [Sum.elim_inl] at hm; clear q57 ho57
   refine Ki ?_
   refine KZ hw57 (fun z57 => ?_)
   refine Kj ?_
   refine pu ?_
   refine pu ?_
   refine KaK htab rfl rfl rfl rfl rfl rfl rfl (by first | exact Kab | rfl) ?_
   refine Kaf (r := [iD (0 : Int), tD ByteArray.empty, iD (0 : Int), iD (a0.length : Int)]) htab rfl rfl rfl rfl rfl rfl rfl rfl rfl ?_
   refine p_lit htab rfl rfl rfl rfl rfl rfl rfl rfl rfl rfl rfl rfl rfl rfl ?_
   refine p_eq (i := 68) (d' := .lst 4 (([(⟨(0 : Int), ByteArray.empty, (0 : Int), (a0.length : Int)⟩ : Kq)] : List Kq).map Kc) .full) rfl (Wk.lst0 (.cons (WkC.refl _) (.nil))) ?_
   obtain ⟨x109, q109, hm⟩ := Kf hm
   refine KcA 0 htab rfl rfl rfl rfl rfl rfl rfl rfl rfl rfl rfl rfl rfl rfl rfl rfl rfl (Kbe q109) (fun v109 => ?_)
   refine KcB (i := 69) q109 rfl ?_
   iterate 3 refine pu ?_
   refine Kh ?_
   refine Ks ?_
   have er110 := Kn hm; subst er110
   refine rP (t' := [(2, .lst 4 (x109.map Kc) (.cur v109)), (3, iD (0 : Int)), (4, iD (0 : Int))]) [] [0] 0 (wC (wC (wC wN))) (lT (lT (lT lN))) ?_
   exact ⟨v109, rfl, rfl, rfl⟩
structure Kd where
 gL : List Kq
 gAt : Int
 gE : Int
noncomputable def Kbq (m0 : Kd) : Option (Kq) :=
 (bif (decide (m0.gAt < (m0.gL.length : Int))) then ((idx m0.gL m0.gAt).bind fun x3 => some x3) else some (⟨(0 : Int), ByteArray.empty, (0 : Int), (0 : Int)⟩ : Kq))
theorem Kcb (m0 : Kd) (o0 : Nat) (T0 : TypeId) (c0_0 : Cap) (r : Kq) (h0 : Kbq m0 = some r) : CallsD Try.prog 23 [.ptr o0 0] [(o0, Blk.cells [.lst 4 (m0.gL.map Kc) c0_0, iD m0.gAt, iD m0.gE] T0)] [] (fun d h k => d = Kc r ∧ h = [(o0, Blk.cells [.lst 4 (m0.gL.map Kc) c0_0, iD m0.gAt, iD m0.gE] T0)] ∧ k = []) := by
 have hm := KE h0
 unfold Kbq at hm
 clear h0
 refine KU htab Try.func23 rfl rfl rfl rfl rfl (fun C => ?_)
 refine Kj ?_
 refine KW htab rfl rfl rfl rfl rfl rfl rfl (fun b1 => ?_)
 refine Kh ?_
 refine Kr ?_
 refine Kr ?_
 refine Kah 9 [] [[],[0],[0,1],[0,1,2],[],[4],[4,5],[4,5,6],[4,5,6,7]] [0,1,2,4,5,6,7] [[],[0],[0,1],[0,1,2],[],[4],[4,5],[4,5,6],[4,5,6,7],[0,1,2,3,4,5,6,7,8]] (by kernel_rfl) (by kernel_rfl) (by kernel_rfl) (by rfl) (by rfl) (by kernel_rfl) ?_
 iterate 7 apply Exists.intro
 intro bs
 iterate 3 refine zep ?_
 refine z_qM rfl rfl (KM 0 htab rfl rfl rfl rfl rfl) rfl rfl rfl rfl rfl rfl ?_
 iterate 3 refine zep ?_
 refine z_eM rfl rfl (KM 0 htab rfl rfl rfl rfl rfl) rfl rfl rfl rfl rfl rfl ?_
 refine z_q rfl rfl (KdW htab rfl rfl rfl rfl (by first | exact Kab | rfl)) rfl rfl rfl rfl rfl rfl ?_
 refine z_nil rfl rfl (fun e he => by simp [isAl] at he) ?_
 refine pu ?_
 refine Kh ?_
 refine Ku rfl (fun hc2 => ?_) (fun hc2 => ?_)
 ·replace hm := yes_t hc2 hm
  refine Kr ?_
  refine Kah 8 [] [[],[0],[0,1],[0,1,2],[],[4],[4,5],[4,5,6]] [0,1,2,3,4,5,6] [[],[0],[0,1],[0,1,2],[],[4],[4,5],[4,5,6],[0,1,2,3,4,5,6,7],[0,1,2,3,4,5,6,7,8],[0,1,2,3,4,5,6,7,8,9]] (by kernel_rfl) (by kernel_rfl) (by kernel_rfl) (by rfl) (by rfl) (by kernel_rfl) ?_
  iterate 7 apply Exists.intro
  intro bs
  iterate 3 refine zep ?_
  refine z_eM rfl rfl (KM 0 htab rfl rfl rfl rfl rfl) rfl rfl rfl rfl rfl rfl ?_
  iterate 3 refine zep ?_
  refine z_qM rfl rfl (KM 0 htab rfl rfl rfl rfl rfl) rfl rfl rfl rfl rfl rfl ?_
  refine z_nil rfl rfl (fun e he => by simp [isAl] at he) ?_
  obtain ⟨x3, q3, hm⟩ := Kf hm
  refine KaR htab rfl rfl rfl rfl rfl rfl rfl rfl rfl rfl (Kt q3) (KA q3) ?_
  refine Kav (d := Kc x3) htab rfl rfl rfl rfl rfl rfl rfl rfl ?_
  refine pS1 (ds' := [iD x3.gKind, tD x3.gText, iD x3.gN, iD x3.gAt]) ?_
  refine Kh ?_
  refine Ks ?_
  refine Kx ?_
  have er4 := Kn hm; subst er4
  refine rP (t' := [(2, .ptr b1 0)]) [0,0] [] 1 (wC wN) (lC 1 lN) ?_
  exact ⟨rfl, rfl, rfl⟩
 ·replace hm := yes_f hc2 hm
  refine Kv ?_
  refine Ki ?_
  refine Kj ?_
  refine Kaf (r := [iD (0 : Int), tD ByteArray.empty, iD (0 : Int), iD (0 : Int)]) htab rfl rfl rfl rfl rfl rfl rfl rfl rfl ?_
  refine pS1 (ds' := [iD (0 : Int), tD ByteArray.empty, iD (0 : Int), iD (0 : Int)]) ?_
  refine Kh ?_
  refine Ks ?_
  have er5 := Kn hm; subst er5
  refine rP (t' := [(2, .ptr b1 0)]) [0,0] [] 1 (wC wN) (lC 1 lN) ?_
  exact ⟨rfl, rfl, rfl⟩
noncomputable def Kee (m0 : Kd) (a1 : ByteArray) : Option (Bool) :=
 ((Kbq m0).bind fun x1 => (bif (x1.gKind == (3 : Int)) then ((Kbq m0).bind fun x3 => some (decide (x3.gText = a1))) else some false))
theorem KgY (m0 : Kd) (a1 : ByteArray) (o0 : Nat) (T0 : TypeId) (c0_0 : Cap) (r : Bool) (h0 : Kee m0 a1 = some r) : CallsD Try.prog 28 [.ptr o0 0, tD a1] [(o0, Blk.cells [.lst 4 (m0.gL.map Kc) c0_0, iD m0.gAt, iD m0.gE] T0)] [] (fun d h k => d = .v (.bool r) ∧ h = [(o0, Blk.cells [.lst 4 (m0.gL.map Kc) c0_0, iD m0.gAt, iD m0.gE] T0)] ∧ k = []) := by
 have hm := KE h0
 unfold Kee at hm
 clear h0
 refine KU htab Try.func28 rfl rfl rfl rfl rfl (fun C => ?_)
 refine Kj ?_
 refine pu ?_
 refine Ky ?_
 refine pu ?_
 obtain ⟨x1, q1, hm⟩ := Kf hm
 refine pG (Kcb m0 o0 T0 c0_0 x1 q1) Wl Pf Pf ?_
 rintro _ _ _ ⟨rfl, rfl, rfl⟩
 iterate 3 refine pu ?_
 refine K5 (i := 9) rfl (fun hg2 => ?_) (fun hg2 => ?_)
 ·replace hm := yes_t hg2 hm
  refine pu ?_
  obtain ⟨x3, q3, hm⟩ := Kf hm
  refine pG (Kcb m0 o0 T0 c0_0 x3 q3) Wl Pf Pf ?_
  rintro _ _ _ ⟨rfl, rfl, rfl⟩
  iterate 3 refine pu ?_
  refine KP rfl rfl rfl rfl rfl rfl ?_
  refine pu ?_
  refine Kh ?_
  refine Ks ?_
  have er4 := Kn hm; subst er4
  refine rP (t' := [(4, .v (.bool (decide (x3.gText = a1))))]) [0] [] 1 (wC wN) (lT lN) ?_
  exact ⟨rfl, rfl, rfl⟩
 ·replace hm := yes_f hg2 hm
  iterate 5 refine pK ?_
  refine KL rfl rfl rfl rfl rfl rfl ?_
  refine pu ?_
  refine Kh ?_
  refine Ks ?_
  have er5 := Kn hm; subst er5
  refine rP (t' := [(4, .v (.bool false))]) [0] [] 1 (wC wN) (lT lN) ?_
  exact ⟨rfl, rfl, rfl⟩
noncomputable def KbA (m0 : Kd) (a1 : Int) (a2 : Int) : Option (Kd) :=
 (bif (m0.gE == (0 : Int)) then some (⟨m0.gL, a1, a2⟩ : Kd) else some m0)
theorem KcQ (m0 : Kd) (a1 : Int) (a2 : Int) (o0 : Nat) (T0 : TypeId) (c0_0 : Cap) (r : Kd) (h0 : KbA m0 a1 a2 = some r) : CallsD Try.prog 33 [.ptr o0 0, iD a1, iD a2] [(o0, Blk.cells [.lst 4 (m0.gL.map Kc) c0_0, iD m0.gAt, iD m0.gE] T0)] [] (fun d h k => d = .tup [] ∧ h = [(o0, Blk.cells [.lst 4 (r.gL.map Kc) c0_0, iD r.gAt, iD r.gE] T0)] ∧ k = []) := by
 have hm := KE h0
 unfold KbA at hm
 clear h0
 refine KU htab Try.func33 rfl rfl rfl rfl rfl (fun C => ?_)
 refine Kj ?_
 iterate 3 refine pu ?_
 refine pL 0 ?_
 refine pu ?_
 refine Kh ?_
 refine Ku rfl (fun hc1 => ?_) (fun hc1 => ?_)
 ·replace hm := yes_t hc1 hm
  refine Kj ?_
  iterate 4 refine pu ?_
  refine pS0 (ds' := [.lst 4 (m0.gL.map Kc) c0_0, iD m0.gAt, iD a2]) ?_
  refine Kh ?_
  refine KD ?_
  iterate 4 refine pu ?_
  refine pS0 (ds' := [.lst 4 (m0.gL.map Kc) c0_0, iD a1, iD a2]) ?_
  refine KC ?_
  have er2 := Kn hm; subst er2
  refine rP (t' := []) [0] [] 1 wN lN ?_
  exact ⟨rfl, rfl, rfl⟩
 ·replace hm := yes_f hc1 hm
  refine Kv ?_
  have er3 := Kn hm; subst er3
  refine rP (t' := []) [0] [] 1 wN lN ?_
  exact ⟨rfl, rfl, rfl⟩
noncomputable def Kam (m0 : Kd) (a1 : ByteArray) : Option (Kd) :=
 (bif (m0.gE != (0 : Int)) then some m0 else ((Kee m0 a1).bind fun x4 => (bif x4 then some (⟨m0.gL, (IntKind.i64.wrap (m0.gAt + (1 : Int))), m0.gE⟩ : Kd) else ((KbA m0 m0.gAt (3 : Int)).bind fun x7 => some x7))))
theorem KaI (m0 : Kd) (a1 : ByteArray) (o0 : Nat) (T0 : TypeId) (c0_0 : Cap) (r : Kd) (h0 : Kam m0 a1 = some r) : CallsD Try.prog 24 [.ptr o0 0, tD a1] [(o0, Blk.cells [.lst 4 (m0.gL.map Kc) c0_0, iD m0.gAt, iD m0.gE] T0)] [] (fun d h k => d = .tup [] ∧ h = [(o0, Blk.cells [.lst 4 (r.gL.map Kc) c0_0, iD r.gAt, iD r.gE] T0)] ∧ k = []) := by
 have hm := KE h0
 unfold Kam at hm
 clear h0
 refine KU htab Try.func24 rfl rfl rfl rfl rfl (fun C => ?_)
 refine Kr ?_
 refine Kj ?_
 iterate 3 refine pu ?_
 refine pL 0 ?_
 refine pu ?_
 refine Kh ?_
 refine Ku rfl (fun hc2 => ?_) (fun hc2 => ?_)
 ·replace hm := yes_t hc2 hm
  refine Ks ?_
  refine Kx ?_
  have er3 := Kn hm; subst er3
  refine rP (t' := []) [0] [] 1 wN lN ?_
  exact ⟨rfl, rfl, rfl⟩
 ·replace hm := yes_f hc2 hm
  refine Kv ?_
  refine Ki ?_
  refine Kj ?_
  refine pu ?_
  refine pu ?_
  obtain ⟨x4, q4, hm⟩ := Kf hm
  refine pG (KgY m0 a1 o0 T0 c0_0 x4 q4) Wl Pf Pf ?_
  rintro _ _ _ ⟨rfl, rfl, rfl⟩
  refine Kh ?_
  refine Ku rfl (fun hc5 => ?_) (fun hc5 => ?_)
  ·replace hm := yes_t hc5 hm
   refine KD ?_
   iterate 3 refine pu ?_
   refine pL 0 ?_
   iterate 3 refine pu ?_
   refine pS0 (ds' := [.lst 4 (m0.gL.map Kc) c0_0, iD (IntKind.i64.wrap (m0.gAt + (1 : Int))), iD m0.gE]) ?_
   refine KC ?_
   have er6 := Kn hm; subst er6
   refine rP (t' := []) [0] [] 1 wN lN ?_
   exact ⟨rfl, rfl, rfl⟩
  ·replace hm := yes_f hc5 hm
   refine KD ?_
   iterate 4 refine pu ?_
   refine pL 0 ?_
   obtain ⟨x7, q7, hm⟩ := Kf hm
   refine pG (KcQ m0 m0.gAt (3 : Int) o0 T0 c0_0 x7 q7) Wl Pf Pf ?_
   rintro _ _ _ ⟨rfl, rfl, rfl⟩
   refine KC ?_
   have er8 := Kn hm; subst er8
   refine rP (t' := []) [0] [] 1 wN lN ?_
   exact ⟨rfl, rfl, rfl⟩
noncomputable def Kbt (m0 : Kd) : Option (ByteArray × Kd) :=
 (bif (m0.gE != (0 : Int)) then some ((ByteArray.mk #[]), m0) else ((Kbq m0).bind fun x4 => (bif (x4.gKind != (1 : Int)) then ((KbA m0 m0.gAt (3 : Int)).bind fun x9 => some ((ByteArray.mk #[]), x9)) else some (x4.gText, (⟨m0.gL, (IntKind.i64.wrap (m0.gAt + (1 : Int))), m0.gE⟩ : Kd)))))
theorem Kdr (m0 : Kd) (o0 : Nat) (T0 : TypeId) (c0_0 : Cap) (r : ByteArray × Kd) (h0 : Kbt m0 = some r) : CallsD Try.prog 25 [.ptr o0 0] [(o0, Blk.cells [.lst 4 (m0.gL.map Kc) c0_0, iD m0.gAt, iD m0.gE] T0)] [] (fun d h k => d = tD r.1 ∧ h = [(o0, Blk.cells [.lst 4 (r.2.gL.map Kc) c0_0, iD r.2.gAt, iD r.2.gE] T0)] ∧ k = []) := by
 have hm := KE h0
 unfold Kbt at hm
 clear h0
 refine KU htab Try.func25 rfl rfl rfl rfl rfl (fun C => ?_)
 refine Kj ?_
 refine pu ?_
 refine Kh ?_
 refine Kr ?_
 refine Kj ?_
 iterate 3 refine pu ?_
 refine pL 0 ?_
 refine pu ?_
 refine Kh ?_
 refine Ku rfl (fun hc2 => ?_) (fun hc2 => ?_)
 ·replace hm := yes_t hc2 hm
  refine Kj ?_
  refine pu ?_
  refine Kh ?_
  refine Ks ?_
  refine Kx ?_
  have er3 := Kn hm; subst er3
  refine rP (t' := [(2, tD (ByteArray.mk #[]))]) [0] [] 1 (wC wN) (lT lN) ?_
  exact ⟨rfl, rfl, rfl⟩
 ·replace hm := yes_f hc2 hm
  refine Kv ?_
  refine Ki ?_
  refine Kj ?_
  refine pu ?_
  obtain ⟨x4, q4, hm⟩ := Kf hm
  refine pG (Kcb m0 o0 T0 c0_0 x4 q4) Wl Pf Pf ?_
  rintro _ _ _ ⟨rfl, rfl, rfl⟩
  refine KW htab rfl rfl rfl rfl rfl rfl rfl (fun b5 => ?_)
  refine pS1 (ds' := [iD x4.gKind, tD x4.gText, iD x4.gN, iD x4.gAt]) ?_
  refine Kh ?_
  refine Kr ?_
  refine Kj ?_
  refine pu ?_
  refine pL 1 ?_
  refine pu ?_
  refine Kh ?_
  refine Ku rfl (fun hc8 => ?_) (fun hc8 => ?_)
  ·replace hm := yes_t hc8 hm
   refine Kj ?_
   iterate 4 refine pu ?_
   refine pL 0 ?_
   obtain ⟨x9, q9, hm⟩ := Kf hm
   refine pG (KcQ m0 m0.gAt (3 : Int) o0 T0 c0_0 x9 q9) Wl Pf Pf ?_
   rintro _ _ _ ⟨rfl, rfl, rfl⟩
   refine Ky ?_
   refine pu ?_
   refine Kh ?_
   refine Ks ?_
   refine Kx ?_
   have er10 := Kn hm; subst er10
   refine rP (t' := [(2, tD (ByteArray.mk #[]))]) [0] [] 1 (wC wN) (lT lN) ?_
   exact ⟨rfl, rfl, rfl⟩
  ·replace hm := yes_f hc8 hm
   refine Kv ?_
   refine Ki ?_
   refine Kj ?_
   iterate 3 refine pu ?_
   refine pL 0 ?_
   iterate 3 refine pu ?_
   refine pS0 (ds' := [.lst 4 (m0.gL.map Kc) c0_0, iD (IntKind.i64.wrap (m0.gAt + (1 : Int))), iD m0.gE]) ?_
   refine Ky ?_
   refine pu ?_
   refine pL 1 ?_
   refine pu ?_
   refine Kh ?_
   refine Ks ?_
   have er11 := Kn hm; subst er11
   refine rP (t' := [(2, tD x4.gText)]) [0] [] 1 (wC wN) (lT lN) ?_
   exact ⟨rfl, rfl, rfl⟩
noncomputable def KbN (m0 : Kd) (a1 : ByteArray) : Option (Bool × Kd) :=
 (Option.bind (α := Bool) (bif (m0.gE == (0 : Int)) then ((Kee m0 a1).bind fun x5 => some x5) else some false) fun y3 => (bif y3 then some (true, (⟨m0.gL, (IntKind.i64.wrap (m0.gAt + (1 : Int))), m0.gE⟩ : Kd)) else some (false, m0)))
theorem KcM (m0 : Kd) (a1 : ByteArray) (o0 : Nat) (T0 : TypeId) (c0_0 : Cap) (r : Bool × Kd) (h0 : KbN m0 a1 = some r) : CallsD Try.prog 35 [.ptr o0 0, tD a1] [(o0, Blk.cells [.lst 4 (m0.gL.map Kc) c0_0, iD m0.gAt, iD m0.gE] T0)] [] (fun d h k => d = .v (.bool r.1) ∧ h = [(o0, Blk.cells [.lst 4 (r.2.gL.map Kc) c0_0, iD r.2.gAt, iD r.2.gE] T0)] ∧ k = []) := by
 have hm := KE h0
 unfold KbN at hm
 clear h0
 refine KU htab Try.func35 rfl rfl rfl rfl rfl (fun C => ?_)
 refine Kj ?_
 refine pu ?_
 refine Kh ?_
 refine Kr ?_
 refine Kr ?_
 obtain ⟨y3, q3, ho3⟩ := Kf hm
 refine K7 (Y := Unit) (fun z3 => (⟨[(0, .ptr o0 0), (14, .v (.bool y3))], [(o0, Blk.cells [.lst 4 (m0.gL.map Kc) c0_0, iD m0.gAt, iD m0.gE] T0)], []⟩ : S)) ?_ ?_
 ·clear hm; have hm := KE q3
  refine KD ?_
  iterate 3 refine pu ?_
  refine pL 0 ?_
  refine pu ?_
  refine pu ?_
  refine K5 (i := 10) rfl (fun hg4 => ?_) (fun hg4 => ?_)
  ·replace hm := yes_t hg4 hm
   refine pu ?_
   refine pu ?_
   obtain ⟨x5, q5, hm⟩ := Kf hm
   refine pG (KgY m0 a1 o0 T0 c0_0 x5 q5) Wl Pf Pf ?_
   rintro _ _ _ ⟨rfl, rfl, rfl⟩
   refine KP rfl rfl rfl rfl rfl rfl ?_
   refine KC ?_
   have e3 := Kn hm; subst e3
   refine ⟨rfl, ?_⟩
   exact WkX.of () (WkS.perm (WkS.cons rfl (Wk.refl _) (WkS.cons rfl (Wk.refl _) (WkS.nil))) Pf Pf)
  ·replace hm := yes_f hg4 hm
   iterate 3 refine pK ?_
   refine KL rfl rfl rfl rfl rfl rfl ?_
   refine KC ?_
   have e3 := Kn hm; subst e3
   refine ⟨rfl, ?_⟩
   exact WkX.of () (WkS.perm (WkS.cons rfl (Wk.refl _) (WkS.cons rfl (Wk.refl _) (WkS.nil))) Pf Pf)
 ·intro s3 hw3; clear hm; have hm := ho3; clear q3 ho3
  refine Ki ?_
  refine KZ hw3 (fun z3 => ?_)
  refine Ku rfl (fun hc6 => ?_) (fun hc6 => ?_)
  ·replace hm := yes_t hc6 hm
   refine Kj ?_
   iterate 3 refine pu ?_
   refine pL 0 ?_
   iterate 3 refine pu ?_
   refine pS0 (ds' := [.lst 4 (m0.gL.map Kc) c0_0, iD (IntKind.i64.wrap (m0.gAt + (1 : Int))), iD m0.gE]) ?_
   refine Ky ?_
   refine pu ?_
   refine Kh ?_
   refine Ks ?_
   refine Kx ?_
   have er7 := Kn hm; subst er7
   refine rP (t' := [(4, .v (.bool true))]) [0] [] 1 (wC wN) (lT lN) ?_
   exact ⟨rfl, rfl, rfl⟩
  ·replace hm := yes_f hc6 hm
   refine Kv ?_
   refine Ki ?_
   refine Kj ?_
   refine pu ?_
   refine Kh ?_
   refine Ks ?_
   have er8 := Kn hm; subst er8
   refine rP (t' := [(4, .v (.bool false))]) [0] [] 1 (wC wN) (lT lN) ?_
   exact ⟨rfl, rfl, rfl⟩
noncomputable def KbF (m0 : Kd) (a1 : Int) : Option (KV × Kd) :=
 ((Kam m0 (ByteArray.mk #[105, 110, 116])).bind fun x2 => ((KbN x2 (ByteArray.mk #[42])).bind fun x3 => ((Kbt x3.2).bind fun x5 => (bif (decide ((16 : Int) ≤ a1)) then ((KbA x5.2 x3.2.gAt (6 : Int)).bind fun x7 => some ((⟨x5.1, x3.1⟩ : KV), x7)) else some ((⟨x5.1, x3.1⟩ : KV), x5.2)))))
theorem Kfd (m0 : Kd) (a1 : Int) (o0 : Nat) (T0 : TypeId) (c0_0 : Cap) (r : KV × Kd) (h0 : KbF m0 a1 = some r) : CallsD Try.prog 29 [.ptr o0 0, iD a1] [(o0, Blk.cells [.lst 4 (m0.gL.map Kc) c0_0, iD m0.gAt, iD m0.gE] T0)] [] (fun d h k => d = Kw r.1 ∧ h = [(o0, Blk.cells [.lst 4 (r.2.gL.map Kc) c0_0, iD r.2.gAt, iD r.2.gE] T0)] ∧ k = []) := by
 have hm := KE h0
 unfold KbF at hm
 clear h0
 refine KU htab Try.func29 rfl rfl rfl rfl rfl (fun C => ?_)
 refine Kj ?_
 refine KW htab rfl rfl rfl rfl rfl rfl rfl (fun b1 => ?_)
 refine Ky ?_
 refine pu ?_
 obtain ⟨x2, q2, hm⟩ := Kf hm
 refine pG (KaI m0 (ByteArray.mk #[105, 110, 116]) o0 T0 c0_0 x2 q2) Wl Pf Pf ?_
 rintro _ _ _ ⟨rfl, rfl, rfl⟩
 refine Ky ?_
 refine pu ?_
 obtain ⟨x3, q3, hm⟩ := Kf hm
 refine pG (KcM x2 (ByteArray.mk #[42]) o0 T0 c0_0 x3 q3) Wl Pf Pf ?_
 rintro _ _ _ ⟨rfl, rfl, rfl⟩
 refine Kaf (r := [tD ByteArray.empty, .v (.bool x3.1)]) htab rfl rfl rfl rfl rfl rfl rfl rfl rfl ?_
 refine KW htab rfl rfl rfl rfl rfl rfl rfl (fun b4 => ?_)
 refine pS2 (ds' := [tD ByteArray.empty, .v (.bool x3.1)]) ?_
 refine Ky ?_
 iterate 3 refine pu ?_
 refine pL 0 ?_
 refine pu ?_
 refine Ky ?_
 refine pu ?_
 obtain ⟨x5, q5, hm⟩ := Kf hm
 refine pG (Kdr x3.2 o0 T0 c0_0 x5 q5) Wl Pf Pf ?_
 rintro _ _ _ ⟨rfl, rfl, rfl⟩
 refine pu ?_
 refine pS2 (ds' := [tD x5.1, .v (.bool x3.1)]) ?_
 refine Kh ?_
 refine Kr ?_
 refine Kj ?_
 refine pu ?_
 refine pu ?_
 refine Kh ?_
 refine Ku rfl (fun hc6 => ?_) (fun hc6 => ?_)
 ·replace hm := yes_t hc6 hm
  refine KD ?_
  refine pu ?_
  refine pu ?_
  obtain ⟨x7, q7, hm⟩ := Kf hm
  refine pG (KcQ x5.2 x3.2.gAt (6 : Int) o0 T0 c0_0 x7 q7) Wl Pf Pf ?_
  rintro _ _ _ ⟨rfl, rfl, rfl⟩
  refine Ky ?_
  refine K8 (d := Kw (⟨x5.1, x3.1⟩ : KV)) 2 htab rfl rfl rfl rfl rfl rfl rfl rfl ?_
  refine pS1 (ds' := [tD x5.1, .v (.bool x3.1)]) ?_
  refine Kh ?_
  refine Ks ?_
  have er8 := Kn hm; subst er8
  refine rP (t' := [(4, .ptr b1 0)]) [0,0] [] 1 (wC wN) (lC 1 lN) ?_
  exact ⟨rfl, rfl, rfl⟩
 ·replace hm := yes_f hc6 hm
  refine Kv ?_
  refine Ki ?_
  refine Kj ?_
  refine K8 (d := Kw (⟨x5.1, x3.1⟩ : KV)) 2 htab rfl rfl rfl rfl rfl rfl rfl rfl ?_
  refine pS1 (ds' := [tD x5.1, .v (.bool x3.1)]) ?_
  refine Kh ?_
  refine Ks ?_
  have er9 := Kn hm; subst er9
  refine rP (t' := [(4, .ptr b1 0)]) [0,0] [] 1 (wC wN) (lC 1 lN) ?_
  exact ⟨rfl, rfl, rfl⟩
noncomputable def Kco (m0 : Kd) : Option (List KV × Kd) :=
 ((Kam m0 (ByteArray.mk #[40])).bind fun x1 => ((KbN x1 (ByteArray.mk #[41])).bind fun x2 => (bif x2.1 then some (([] : List KV), x2.2) else ((KbF x2.2 (0 : Int)).bind fun x7 => ((app 24 ([] : List KV) ([x7.1] : List KV)).bind fun x8 => (Option.bind (α := List KV × List Kq × Int × Int) (loopM (fun (s26 : List KV × List Kq × Int × Int) => ((KbN (⟨s26.2.1, s26.2.2.1, s26.2.2.2⟩ : Kd) (ByteArray.mk #[44])).bind fun x37 => (bif x37.1 then ((KbF x37.2 (s26.1.length : Int)).bind fun x39 => ((app 24 s26.1 ([x39.1] : List KV)).bind fun x40 => some (.next (x40, x39.2.gL, x39.2.gAt, x39.2.gE)))) else some (.done (s26.1, x37.2.gL, x37.2.gAt, x37.2.gE))))) (x8, x7.2.gL, x7.2.gAt, x7.2.gE)) fun y25 => ((Kam (⟨y25.2.1, y25.2.2.1, y25.2.2.2⟩ : Kd) (ByteArray.mk #[41])).bind fun x41 => some (y25.1, x41))))))))
theorem Kkt (m0 : Kd) (o0 : Nat) (T0 : TypeId) (c0_0 : Cap) (r : List KV × Kd) (h0 : Kco m0 = some r) : CallsD Try.prog 26 [.ptr o0 0] [(o0, Blk.cells [.lst 4 (m0.gL.map Kc) c0_0, iD m0.gAt, iD m0.gE] T0)] [] (fun d h k => ∃ y0, d = .lst 2 (r.1.map Kw) (.cur y0) ∧ h = [(o0, Blk.cells [.lst 4 (r.2.gL.map Kc) .no, iD r.2.gAt, iD r.2.gE] T0)] ∧ k = [(2, y0)]) := by
 have hm := KE h0
 unfold Kco at hm
 clear h0
 refine KU htab Try.func26 rfl rfl rfl rfl rfl (fun C => ?_)
 refine Kj ?_
 refine pu ?_
 refine Ky ?_
 refine pu ?_
 refine Ky ?_
 refine pu ?_
 obtain ⟨x1, q1, hm⟩ := Kf hm
 refine pG (KaI m0 (ByteArray.mk #[40]) o0 T0 c0_0 x1 q1) Wl Pf Pf ?_
 rintro _ _ _ ⟨rfl, rfl, rfl⟩
 refine Kh ?_
 refine Kr ?_
 refine Kj ?_
 refine pu ?_
 obtain ⟨x2, q2, hm⟩ := Kf hm
 refine pG (KcM x1 (ByteArray.mk #[41]) o0 T0 c0_0 x2 q2) Wl Pf Pf ?_
 rintro _ _ _ ⟨rfl, rfl, rfl⟩
 refine Kh ?_
 refine Ku rfl (fun hc4 => ?_) (fun hc4 => ?_)
 ·replace hm := yes_t hc4 hm
  refine Kj ?_
  refine pu ?_
  refine Kh ?_
  refine Ks ?_
  refine Kx ?_
  have er5 := Kn hm; subst er5
  refine retX.tokN (i := 2) 2 rfl (fun w6 => ?_)
  refine retX.wk (WkS.bl0 (ds' := [.lst 4 (x2.2.gL.map Kc) .no, iD x2.2.gAt, iD x2.2.gE]) (rO (rC (rC WkR.nil)))) ?_
  refine rP (t' := [(2, .lst 2 (([] : List KV).map Kw) (.cur w6))]) [0] [0] 1 (wC wN) (lT lN) ?_
  exact ⟨w6, rfl, rfl, rfl⟩
 ·replace hm := yes_f hc4 hm
  refine Kv ?_
  refine Ki ?_
  refine Kj ?_
  refine pu ?_
  refine pu ?_
  obtain ⟨x7, q7, hm⟩ := Kf hm
  refine pG (Kfd x2.2 (0 : Int) o0 T0 c0_0 x7 q7) Wl Pf Pf ?_
  rintro _ _ _ ⟨rfl, rfl, rfl⟩
  refine p_lit htab rfl rfl rfl rfl rfl rfl rfl rfl rfl rfl rfl rfl rfl rfl ?_
  refine p_eq (i := 11) (d' := .lst 2 (([x7.1] : List KV).map Kw) .full) rfl (Wk.lst0 (.cons (WkC.refl _) (.nil))) ?_
  obtain ⟨x8, q8, hm⟩ := Kf hm
  refine p_app0 htab rfl rfl rfl rfl rfl rfl rfl rfl rfl rfl rfl rfl rfl rfl rfl (by simpa using Kbe (e := Kw) q8) (fun v8 => ?_)
  refine p_mapD0 (i := 12) q8 rfl ?_
  refine pu ?_
  refine Kh ?_
  refine Kr ?_
  obtain ⟨y25, q25, ho25⟩ := Kf hm
  refine K7 (Y := Value) (fun z25 => (⟨[(0, .ptr o0 0), (3, .lst 2 (y25.1.map Kw) (.cur z25))], [(o0, Blk.cells [.lst 4 (y25.2.1.map Kc) .no, iD y25.2.2.1, iD y25.2.2.2] T0)], [(2, z25)]⟩ : S)) ?_ ?_
  ·clear hm; have hm := KE q25
   refine KI ?_
   obtain ⟨u26, hl26, hq26⟩ := yes_m hm
   refine KaU (Y := Value) hl26 (fun s26 z26 => (⟨[(0, .ptr o0 0), (3, .lst 2 (s26.1.map Kw) (.cur z26))], [(o0, Blk.cells [.lst 4 (s26.2.1.map Kc) .no, iD s26.2.2.1, iD s26.2.2.2] T0)], [(2, z26)]⟩ : S)) ?_ ?_
   ·skip
    refine WkX.wk (WkS.bl0 (ds' := [.lst 4 (x7.2.gL.map Kc) .no, iD x7.2.gAt, iD x7.2.gE]) (rO (rC (rC WkR.nil)))) ?_
    exact WkX.of v8 (WkS.perm (WkS.cons rfl (Wk.refl _) (WkS.cons rfl (Wk.refl _) (WkS.nil))) Pf Pf)
   ·intro G26 s26 z26 hm
    refine Kr ?_
    refine Kj ?_
    refine pu ?_
    obtain ⟨x37, q37, hm⟩ := Kf hm
    refine pG (KcM (⟨s26.2.1, s26.2.2.1, s26.2.2.2⟩ : Kd) (ByteArray.mk #[44]) o0 T0 .no x37 q37) Wl Pf Pf ?_
    rintro _ _ _ ⟨rfl, rfl, rfl⟩
    refine Kh ?_
    refine Ku rfl (fun hc38 => ?_) (fun hc38 => ?_)
    ·replace hm := yes_t hc38 hm
     refine Kv ?_
     refine Ki ?_
     refine KI ?_
     refine KD ?_
     iterate 3 refine pu ?_
     refine KaK htab rfl rfl rfl rfl rfl rfl rfl (by first | exact Kab | rfl) ?_
     obtain ⟨x39, q39, hm⟩ := Kf hm
     refine pG (Kfd x37.2 (s26.1.length : Int) o0 T0 .no x39 q39) Wl Pf Pf ?_
     rintro _ _ _ ⟨rfl, rfl, rfl⟩
     refine p_lit htab rfl rfl rfl rfl rfl rfl rfl rfl rfl rfl rfl rfl rfl rfl ?_
     refine p_eq (i := 20) (d' := .lst 2 (([x39.1] : List KV).map Kw) .full) rfl (Wk.lst0 (.cons (WkC.refl _) (.nil))) ?_
     obtain ⟨x40, q40, hm⟩ := Kf hm
     refine KcA 0 htab rfl rfl rfl rfl rfl rfl rfl rfl rfl rfl rfl rfl rfl rfl rfl rfl rfl (Kbe q40) (fun v40 => ?_)
     refine KcB (i := 21) q40 rfl ?_
     refine pu ?_
     refine KC ?_
     refine KF ?_
     refine Ki ⟨_, KaA hm, ?_⟩
     exact WkX.of v40 (WkS.perm (WkS.cons rfl (Wk.refl _) (WkS.cons rfl (Wk.refl _) (WkS.nil))) Pf Pf)
    ·replace hm := yes_f hc38 hm
     refine Kan ?_
     refine KJ ?_
     have e26 := Kac hm; subst e26; clear hm; have hm := hq26
     refine KJ ?_
     refine Kae ?_
     have e25 := Kn hm; subst e25
     refine ⟨rfl, ?_⟩
     exact WkX.of z26 (WkS.perm (WkS.cons rfl (Wk.refl _) (WkS.cons rfl (Wk.refl _) (WkS.nil))) Pf Pf)
  ·intro s25 hw25; clear hm; have hm := ho25; clear q25 ho25
   refine Ki ?_
   refine KZ hw25 (fun z25 => ?_)
   refine Kj ?_
   refine pu ?_
   obtain ⟨x41, q41, hm⟩ := Kf hm
   refine pG (KaI (⟨y25.2.1, y25.2.2.1, y25.2.2.2⟩ : Kd) (ByteArray.mk #[41]) o0 T0 .no x41 q41) Wl Pf Pf ?_
   rintro _ _ _ ⟨rfl, rfl, rfl⟩
   refine Ky ?_
   refine pu ?_
   refine pu ?_
   refine Kh ?_
   refine Ks ?_
   have er42 := Kn hm; subst er42
   refine rP (t' := [(2, .lst 2 (y25.1.map Kw) (.cur z25))]) [0] [0] 1 (wC wN) (lT lN) ?_
   exact ⟨z25, rfl, rfl, rfl⟩
noncomputable def Kdg (m0 : Kd) (a1 : Int) : Option (Kd) :=
 ((Kam m0 (ByteArray.mk #[123])).bind fun x1 => (bif (decide ((24 : Int) ≤ a1)) then ((KbA x1 m0.gAt (5 : Int)).bind fun x3 => some x3) else some x1))
theorem Kiv (m0 : Kd) (a1 : Int) (o0 : Nat) (T0 : TypeId) (c0_0 : Cap) (r : Kd) (h0 : Kdg m0 a1 = some r) : CallsD Try.prog 27 [.ptr o0 0, iD a1] [(o0, Blk.cells [.lst 4 (m0.gL.map Kc) c0_0, iD m0.gAt, iD m0.gE] T0)] [] (fun d h k => d = .tup [] ∧ h = [(o0, Blk.cells [.lst 4 (r.gL.map Kc) c0_0, iD r.gAt, iD r.gE] T0)] ∧ k = []) := by
 have hm := KE h0
 unfold Kdg at hm
 clear h0
 refine KU htab Try.func27 rfl rfl rfl rfl rfl (fun C => ?_)
 refine Kj ?_
 iterate 3 refine pu ?_
 refine pL 0 ?_
 refine pu ?_
 refine Ky ?_
 refine pu ?_
 obtain ⟨x1, q1, hm⟩ := Kf hm
 refine pG (KaI m0 (ByteArray.mk #[123]) o0 T0 c0_0 x1 q1) Wl Pf Pf ?_
 rintro _ _ _ ⟨rfl, rfl, rfl⟩
 refine Ky ?_
 refine pu ?_
 refine pu ?_
 refine Kh ?_
 refine Ku rfl (fun hc2 => ?_) (fun hc2 => ?_)
 ·replace hm := yes_t hc2 hm
  refine KD ?_
  refine pu ?_
  refine pu ?_
  obtain ⟨x3, q3, hm⟩ := Kf hm
  refine pG (KcQ x1 m0.gAt (5 : Int) o0 T0 c0_0 x3 q3) Wl Pf Pf ?_
  rintro _ _ _ ⟨rfl, rfl, rfl⟩
  refine KC ?_
  have er4 := Kn hm; subst er4
  refine rP (t' := []) [0] [] 1 wN lN ?_
  exact ⟨rfl, rfl, rfl⟩
 ·replace hm := yes_f hc2 hm
  refine Kv ?_
  have er5 := Kn hm; subst er5
  refine rP (t' := []) [0] [] 1 wN lN ?_
  exact ⟨rfl, rfl, rfl⟩
noncomputable def Kef (m0 : Kd) (a1 : Int) : Option (Kq) :=
 (bif (decide ((IntKind.i64.wrap (m0.gAt + a1)) < (m0.gL.length : Int))) then ((idx m0.gL (IntKind.i64.wrap (m0.gAt + a1))).bind fun x3 => some x3) else some (⟨(0 : Int), ByteArray.empty, (0 : Int), (0 : Int)⟩ : Kq))
theorem Kiw (m0 : Kd) (a1 : Int) (o0 : Nat) (T0 : TypeId) (c0_0 : Cap) (r : Kq) (h0 : Kef m0 a1 = some r) : CallsD Try.prog 74 [.ptr o0 0, iD a1] [(o0, Blk.cells [.lst 4 (m0.gL.map Kc) c0_0, iD m0.gAt, iD m0.gE] T0)] [] (fun d h k => d = Kc r ∧ h = [(o0, Blk.cells [.lst 4 (m0.gL.map Kc) c0_0, iD m0.gAt, iD m0.gE] T0)] ∧ k = []) := by
 have hm := KE h0
 unfold Kef at hm
 clear h0
 refine KU htab Try.func74 rfl rfl rfl rfl rfl (fun C => ?_)
 refine Kj ?_
 refine KW htab rfl rfl rfl rfl rfl rfl rfl (fun b1 => ?_)
 refine Kh ?_
 refine Kr ?_
 refine Kr ?_
 refine Kah 11 [] [[],[0],[0,1],[0,1,2],[],[0,1,2],[],[6],[6,7],[6,7,8],[6,7,8,9]] [0,1,2,6,7,8,9] [[],[0],[0,1],[0,1,2],[],[0,1,2,3,4],[],[6],[6,7],[6,7,8],[6,7,8,9],[0,1,2,3,4,5,6,7,8,9,10]] (by kernel_rfl) (by kernel_rfl) (by kernel_rfl) (by rfl) (by rfl) (by kernel_rfl) ?_
 iterate 7 apply Exists.intro
 intro bs
 iterate 3 refine zep ?_
 refine z_qM rfl rfl (KM 0 htab rfl rfl rfl rfl rfl) rfl rfl rfl rfl rfl rfl ?_
 refine zqp ?_
 refine zqp ?_
 iterate 3 refine zep ?_
 refine z_eM rfl rfl (KM 0 htab rfl rfl rfl rfl rfl) rfl rfl rfl rfl rfl rfl ?_
 refine z_q rfl rfl (KdW htab rfl rfl rfl rfl (by first | exact Kab | rfl)) rfl rfl rfl rfl rfl rfl ?_
 refine z_nil rfl rfl (fun e he => by simp [isAl] at he) ?_
 refine pu ?_
 refine Kh ?_
 refine Ku rfl (fun hc2 => ?_) (fun hc2 => ?_)
 ·replace hm := yes_t hc2 hm
  refine Kr ?_
  refine Kah 10 [] [[],[0],[0,1],[0,1,2],[],[4],[4,5],[4,5,6],[],[4,5,6]] [0,1,2,3,4,5,6] [[],[0],[0,1],[0,1,2],[],[4],[4,5],[4,5,6],[],[4,5,6,7,8],[0,1,2,3,4,5,6,7,8,9],[0,1,2,3,4,5,6,7,8,9,10],[0,1,2,3,4,5,6,7,8,9,10,11]] (by kernel_rfl) (by kernel_rfl) (by kernel_rfl) (by rfl) (by rfl) (by kernel_rfl) ?_
  iterate 7 apply Exists.intro
  intro bs
  iterate 3 refine zep ?_
  refine z_eM rfl rfl (KM 0 htab rfl rfl rfl rfl rfl) rfl rfl rfl rfl rfl rfl ?_
  iterate 3 refine zep ?_
  refine z_qM rfl rfl (KM 0 htab rfl rfl rfl rfl rfl) rfl rfl rfl rfl rfl rfl ?_
  refine zqp ?_
  refine zqp ?_
  refine z_nil rfl rfl (fun e he => by simp [isAl] at he) ?_
  obtain ⟨x3, q3, hm⟩ := Kf hm
  refine KaR htab rfl rfl rfl rfl rfl rfl rfl rfl rfl rfl (Kt q3) (KA q3) ?_
  refine Kav (d := Kc x3) htab rfl rfl rfl rfl rfl rfl rfl rfl ?_
  refine pS1 (ds' := [iD x3.gKind, tD x3.gText, iD x3.gN, iD x3.gAt]) ?_
  refine Kh ?_
  refine Ks ?_
  refine Kx ?_
  have er4 := Kn hm; subst er4
  refine rP (t' := [(4, .ptr b1 0)]) [0,0] [] 1 (wC wN) (lC 1 lN) ?_
  exact ⟨rfl, rfl, rfl⟩
 ·replace hm := yes_f hc2 hm
  refine Kv ?_
  refine Ki ?_
  refine Kj ?_
  refine Kaf (r := [iD (0 : Int), tD ByteArray.empty, iD (0 : Int), iD (0 : Int)]) htab rfl rfl rfl rfl rfl rfl rfl rfl rfl ?_
  refine pS1 (ds' := [iD (0 : Int), tD ByteArray.empty, iD (0 : Int), iD (0 : Int)]) ?_
  refine Kh ?_
  refine Ks ?_
  have er5 := Kn hm; subst er5
  refine rP (t' := [(4, .ptr b1 0)]) [0,0] [] 1 (wC wN) (lC 1 lN) ?_
  exact ⟨rfl, rfl, rfl⟩
noncomputable def Kdh (g0 : (Ka) → Option (Int)) (a0 : Ka) : Option (Int) :=
 (Option.bind (α := Int) (loopM (fun (s16 : Int × Int) => (bif (decide (s16.2 < (a0.gKids.length : Int))) then ((idx a0.gKids s16.2).bind fun x26 => ((g0 x26).bind fun x27 => some (.next ((max s16.1 x27), (IntKind.i64.wrap (s16.2 + (1 : Int))))))) else some (.done s16.1))) ((0 : Int), (0 : Int))) fun y15 => some (IntKind.i64.wrap ((1 : Int) + y15)))
theorem Kku (g0 : (Ka) → Option (Int)) (hg0 : ∀ (a0 : Ka) (r : Int) (h0 : g0 a0 = some r), CallsD Try.prog 93 [Kg a0] [] [] (fun d h k => d = iD r ∧ h = [] ∧ k = [])) (a0 : Ka) (r : Int) (h0 : Kdh g0 a0 = some r) : CallsD Try.prog 93 [Kg a0] [] [] (fun d h k => d = iD r ∧ h = [] ∧ k = []) := by
 have hm := KE h0
 unfold Kdh at hm
 clear h0
 refine KU htab Try.func93 rfl rfl rfl rfl rfl (fun C => ?_)
 refine w_eq (i := 0) rfl (Wk.of_eq (Km a0)) ?_
 refine Kj ?_
 refine p_box rfl rfl rfl rfl rfl rfl rfl (fun b1 => ?_)
 refine pu ?_
 refine Ky ?_
 refine pu ?_
 refine Kh ?_
 refine Kr ?_
 refine Kj ?_
 refine pu ?_
 refine Kh ?_
 obtain ⟨y15, q15, ho15⟩ := Kf hm
 refine K7 (Y := Unit) (fun z15 => (⟨[(3, iD y15)], [], []⟩ : S)) ?_ ?_
 ·clear hm; have hm := KE q15
  refine KI ?_
  obtain ⟨u16, hl16, hq16⟩ := yes_m hm
  refine KaU (Y := Unit) hl16 (fun s16 z16 => (⟨[(1, .ptr b1 0), (3, iD s16.1), (4, iD s16.2)], [(b1, Blk.cells [iD a0.gOp, iD a0.gN, tD a0.gName, .lst 5 (a0.gKids.map Kg) .no, iD a0.gAt] 100)], []⟩ : S)) ?_ ?_
  ·skip
   exact WkX.of () (WkS.perm (WkS.cons rfl (Wk.refl _) (WkS.cons rfl (Wk.refl _) (WkS.cons rfl (Wk.refl _) (WkS.nil)))) Pf Pf)
  ·intro G16 s16 z16 hm
   refine Kr ?_
   refine Kj ?_
   refine pu ?_
   refine pu ?_
   refine pL 0 ?_
   refine KaK htab rfl rfl rfl rfl rfl rfl rfl (by first | exact Kab | rfl) ?_
   refine pu ?_
   refine Kh ?_
   refine Ku rfl (fun hc25 => ?_) (fun hc25 => ?_)
   ·replace hm := yes_t hc25 hm
    refine Kv ?_
    refine Ki ?_
    refine Kr ?_
    refine KI ?_
    refine KD ?_
    refine pu ?_
    refine pu ?_
    refine pL 0 ?_
    refine pu ?_
    obtain ⟨x26, q26, hm⟩ := Kf hm
    refine KaR htab rfl rfl rfl rfl rfl rfl rfl rfl rfl rfl (Kt q26) (KA q26) ?_
    refine p_eq (i := 16) rfl (Wk.of_eq (congrArg D.el (Km x26))) ?_
    refine Kav (d := .agg [iD x26.gOp, iD x26.gN, tD x26.gName, .lst 5 (x26.gKids.map Kg) .no, iD x26.gAt]) htab rfl rfl rfl rfl rfl rfl rfl rfl ?_
    obtain ⟨x27, q27, hm⟩ := Kf hm
    refine Kaw (hg0 x26 x27 q27) rfl rfl rfl rfl rfl (WkL.cons (Wk.trans (Wk.agg (WkR.refl _)) (Wk.of_eq (Km x26).symm)) Wl) ?_
    rintro _ rfl
    refine p_max rfl rfl rfl rfl rfl rfl ?_
    refine pu ?_
    refine KC ?_
    refine KF ?_
    refine Ki ?_
    refine KD ?_
    iterate 3 refine pu ?_
    refine KC ?_
    refine Ki ⟨_, KaA hm, ?_⟩
    exact WkX.of () (WkS.perm (WkS.cons rfl (Wk.refl _) (WkS.cons rfl (Wk.refl _) (WkS.cons rfl (Wk.refl _) (WkS.nil)))) Pf Pf)
   ·replace hm := yes_f hc25 hm
    refine Kan ?_
    refine KJ ?_
    have e16 := Kac hm; subst e16; clear hm; have hm := hq16
    refine KJ ?_
    refine Kae ?_
    have e15 := Kn hm; subst e15
    refine ⟨rfl, ?_⟩
    exact WkX.of () (WkS.perm (WkS.cons rfl (Wk.refl _) (WkS.nil)) Pf Pf)
 ·intro s15 hw15; clear hm; have hm := ho15; clear q15 ho15
  refine Ki ?_
  refine KZ hw15 (fun z15 => ?_)
  refine Kj ?_
  iterate 3 refine pu ?_
  refine Kh ?_
  refine Ks ?_
  have er28 := Kn hm; subst er28
  refine rP (t' := [(2, iD (IntKind.i64.wrap ((1 : Int) + y15)))]) [] [] 0 (wC wN) (lT lN) ?_
  exact ⟨rfl, rfl, rfl⟩
noncomputable def Kcp : Nat → ((Ka) → Option (Int))
 | 0 => (fun _ => none)
 | n + 1 => (Kdh ((Kcp n)))
theorem Kia : ∀ n, (∀ (a0 : Ka) (r : Int) (h0 : (Kcp n) a0 = some r), CallsD Try.prog 93 [Kg a0] [] [] (fun d h k => d = iD r ∧ h = [] ∧ k = []))
  | 0 => fun _ _ h0 => by cases h0
  | n + 1 => by
    have ih := Kia n
    exact Kku (Kcp n) ih
theorem Kib : ∀ n, (∀ (a0 : Ka), Le ((Kcp n) a0) ((Kcp (n + 1)) a0))
  | 0 => fun _ => Le.none _
  | n + 1 => by
    have ih := Kib n
    exact fun a0 => by show Le (Kdh ((Kcp n)) a0) (Kdh ((Kcp (n + 1))) a0); unfold Kdh; repeat (first | exact Le.refl _ | exact ih _ | assumption | (refine Le.bind ?_ (fun _ => ?_)) | (refine Le.cond ?_ ?_) | (refine Le.loop (fun _ => ?_)) | (refine Le.elim (fun _ => ?_) (fun _ => ?_)))
noncomputable def KhX (a0 : Ka) : Option (Int) := anyN fun n => (Kcp n) a0
theorem KkW (a0 : Ka) {r : Int} (n : Nat) (h : (Kcp n) a0 = some r) : KhX a0 = some r := Kc9 (fun m => (Kib m) a0) h
theorem KkX (a0 : Ka) (r : Int) (h0 : KhX a0 = some r) : CallsD Try.prog 93 [Kg a0] [] [] (fun d h k => d = iD r ∧ h = [] ∧ k = []) :=
 let ⟨n, hn⟩ := KcI h0; (Kia n) a0  r hn
noncomputable def KbT (m0 : Kd) (a1 : Ka) (a2 : Int) : Option (Ka × Kd) :=
 (Option.bind (α := Bool) (bif (m0.gE == (0 : Int)) then ((KhX a1).bind fun x7 => some (decide ((24 : Int) < x7))) else some false) fun y5 => (bif y5 then ((KbA m0 a2 (5 : Int)).bind fun x9 => some (a1, x9)) else some (a1, m0)))
theorem KfC (m0 : Kd) (a1 : Ka) (a2 : Int) (o0 : Nat) (T0 : TypeId) (c0_0 : Cap) (r : Ka × Kd) (h0 : KbT m0 a1 a2 = some r) : CallsD Try.prog 87 [.ptr o0 0, Kg a1, iD a2] [(o0, Blk.cells [.lst 4 (m0.gL.map Kc) c0_0, iD m0.gAt, iD m0.gE] T0)] [] (fun d h k => d = Kg r.1 ∧ h = [(o0, Blk.cells [.lst 4 (r.2.gL.map Kc) c0_0, iD r.2.gAt, iD r.2.gE] T0)] ∧ k = []) := by
 have hm := KE h0
 unfold KbT at hm
 clear h0
 refine KU htab Try.func87 rfl rfl rfl rfl rfl (fun C => ?_)
 refine w_eq (i := 1) rfl (Wk.of_eq (Km a1)) ?_
 refine Kj ?_
 refine p_box rfl rfl rfl rfl rfl rfl rfl (fun b1 => ?_)
 refine KW htab rfl rfl rfl rfl rfl rfl rfl (fun b2 => ?_)
 refine Kh ?_
 refine Kr ?_
 refine Kr ?_
 obtain ⟨y5, q5, ho5⟩ := Kf hm
 refine K7 (Y := Unit) (fun z5 => (⟨[(0, .ptr o0 0), (2, iD a2), (4, .ptr b1 0), (6, .ptr b2 0), (16, .v (.bool y5))], [(o0, Blk.cells [.lst 4 (m0.gL.map Kc) c0_0, iD m0.gAt, iD m0.gE] T0), (b1, Blk.cells [iD a1.gOp, iD a1.gN, tD a1.gName, .lst 5 (a1.gKids.map Kg) .no, iD a1.gAt] 100), (b2, Blk.cells [iD (0 : Int), iD (0 : Int), tD ByteArray.empty, .lst 1 [] .full, iD (0 : Int)] 100)], []⟩ : S)) ?_ ?_
 ·clear hm; have hm := KE q5
  refine KD ?_
  iterate 3 refine pu ?_
  refine pL 0 ?_
  refine pu ?_
  refine pu ?_
  refine K5 (i := 12) rfl (fun hg6 => ?_) (fun hg6 => ?_)
  ·replace hm := yes_t hg6 hm
   refine K8 (d := .agg [iD a1.gOp, iD a1.gN, tD a1.gName, .lst 5 (a1.gKids.map Kg) .no, iD a1.gAt]) 1 htab rfl rfl rfl rfl rfl rfl rfl rfl ?_
   obtain ⟨x7, q7, hm⟩ := Kf hm
   refine Kaw (KkX a1 x7 q7) rfl rfl rfl rfl rfl (WkL.cons (Wk.trans (Wk.agg (WkR.refl _)) (Wk.of_eq (Km a1).symm)) Wl) ?_
   rintro _ rfl
   refine pu ?_
   refine KP rfl rfl rfl rfl rfl rfl ?_
   refine KC ?_
   have e5 := Kn hm; subst e5
   refine ⟨rfl, ?_⟩
   exact WkX.of () (WkS.perm (WkS.cons rfl (Wk.refl _) (WkS.cons rfl (Wk.refl _) (WkS.cons rfl (Wk.refl _) (WkS.cons rfl (Wk.refl _) (WkS.cons rfl (Wk.refl _) (WkS.nil)))))) Pf Pf)
  ·replace hm := yes_f hg6 hm
   iterate 3 refine pK ?_
   refine KL rfl rfl rfl rfl rfl rfl ?_
   refine KC ?_
   have e5 := Kn hm; subst e5
   refine ⟨rfl, ?_⟩
   exact WkX.of () (WkS.perm (WkS.cons rfl (Wk.refl _) (WkS.cons rfl (Wk.refl _) (WkS.cons rfl (Wk.refl _) (WkS.cons rfl (Wk.refl _) (WkS.cons rfl (Wk.refl _) (WkS.nil)))))) Pf Pf)
 ·intro s5 hw5; clear hm; have hm := ho5; clear q5 ho5
  refine Ki ?_
  refine KZ hw5 (fun z5 => ?_)
  refine Ku rfl (fun hc8 => ?_) (fun hc8 => ?_)
  ·replace hm := yes_t hc8 hm
   refine KD ?_
   refine pu ?_
   refine pu ?_
   obtain ⟨x9, q9, hm⟩ := Kf hm
   refine pG (KcQ m0 a2 (5 : Int) o0 T0 c0_0 x9 q9) Wl Pf Pf ?_
   rintro _ _ _ ⟨rfl, rfl, rfl⟩
   refine Ky ?_
   refine K8 (d := .agg [iD a1.gOp, iD a1.gN, tD a1.gName, .lst 5 (a1.gKids.map Kg) .no, iD a1.gAt]) 1 htab rfl rfl rfl rfl rfl rfl rfl rfl ?_
   refine pS2 (ds' := [iD a1.gOp, iD a1.gN, tD a1.gName, .lst 5 (a1.gKids.map Kg) .no, iD a1.gAt]) ?_
   refine Kh ?_
   refine Ks ?_
   have er10 := Kn hm; subst er10
   refine rP (t' := [(6, .ptr b2 0)]) [0,1] [] 1 (wC wN) (lC 1 lN) ?_
   exact ⟨by first | rfl | (simp only [wrapD, Km]; done) | (simp only [wrapD, Km]; rfl), rfl, rfl⟩
  ·replace hm := yes_f hc8 hm
   refine Kv ?_
   refine Ki ?_
   refine Kj ?_
   refine K8 (d := .agg [iD a1.gOp, iD a1.gN, tD a1.gName, .lst 5 (a1.gKids.map Kg) .no, iD a1.gAt]) 1 htab rfl rfl rfl rfl rfl rfl rfl rfl ?_
   refine pS2 (ds' := [iD a1.gOp, iD a1.gN, tD a1.gName, .lst 5 (a1.gKids.map Kg) .no, iD a1.gAt]) ?_
   refine Kh ?_
   refine Ks ?_
   have er11 := Kn hm; subst er11
   refine rP (t' := [(6, .ptr b2 0)]) [0,1] [] 1 (wC wN) (lC 1 lN) ?_
   exact ⟨by first | rfl | (simp only [wrapD, Km]; done) | (simp only [wrapD, Km]; rfl), rfl, rfl⟩
noncomputable def Kfe (a0 : Int) (a1 : ByteArray) : Option (Int) :=
 (Option.bind (α := (Unit) ⊕ (Int)) (loopM (fun (s27 : Int) => ((idx ([([(ByteArray.mk #[124, 124])] : List ByteArray), ([(ByteArray.mk #[38, 38])] : List ByteArray), ([(ByteArray.mk #[61, 61]), (ByteArray.mk #[33, 61])] : List ByteArray), ([(ByteArray.mk #[60]), (ByteArray.mk #[60, 61])] : List ByteArray), ([(ByteArray.mk #[43]), (ByteArray.mk #[45])] : List ByteArray), ([(ByteArray.mk #[42]), (ByteArray.mk #[47]), (ByteArray.mk #[37])] : List ByteArray)] : List (List ByteArray)) a0).bind fun x44 => (bif (decide (s27 < (x44.length : Int))) then ((idx ([([(ByteArray.mk #[124, 124])] : List ByteArray), ([(ByteArray.mk #[38, 38])] : List ByteArray), ([(ByteArray.mk #[61, 61]), (ByteArray.mk #[33, 61])] : List ByteArray), ([(ByteArray.mk #[60]), (ByteArray.mk #[60, 61])] : List ByteArray), ([(ByteArray.mk #[43]), (ByteArray.mk #[45])] : List ByteArray), ([(ByteArray.mk #[42]), (ByteArray.mk #[47]), (ByteArray.mk #[37])] : List ByteArray)] : List (List ByteArray)) a0).bind fun x46 => ((idx x46 s27).bind fun x47 => (bif (decide (x47 = a1)) then ((idx ([([(17 : Int)] : List Int), ([(16 : Int)] : List Int), ([(14 : Int), (15 : Int)] : List Int), ([(12 : Int), (13 : Int)] : List Int), ([(10 : Int), (11 : Int)] : List Int), ([(7 : Int), (8 : Int), (9 : Int)] : List Int)] : List (List Int)) a0).bind fun x49 => ((idx x49 s27).bind fun x50 => some (.done (.inr x50)))) else some (.next (IntKind.i64.wrap (s27 + (1 : Int))))))) else some (.done (.inl ()))))) (0 : Int)) (Sum.elim (fun y26 => some (0 : Int)) (fun r => some r)))
theorem Kkc (a0 : Int) (a1 : ByteArray) (r : Int) (h0 : Kfe a0 a1 = some r) : CallsD Try.prog 86 [iD a0, tD a1] [] [] (fun d h k => d = iD r ∧ h = [] ∧ k = []) := by
 have hm := KE h0
 unfold Kfe at hm
 clear h0
 refine KU htab Try.func86 rfl rfl rfl rfl rfl (fun C => ?_)
 refine Kj ?_
 refine pu ?_
 refine Ky ?_
 refine p_lit htab rfl rfl rfl rfl rfl rfl rfl rfl rfl rfl rfl rfl rfl rfl ?_
 refine p_eq (i := 8) (d' := .lst 1 (([(ByteArray.mk #[124, 124])] : List ByteArray).map eStr) .full) rfl (Wk.lst0 (.cons (WkC.refl _) (.nil))) ?_
 refine p_lit htab rfl rfl rfl rfl rfl rfl rfl rfl rfl rfl rfl rfl rfl rfl ?_
 refine p_eq (i := 9) (d' := .lst 1 (([(ByteArray.mk #[38, 38])] : List ByteArray).map eStr) .full) rfl (Wk.lst0 (.cons (WkC.refl _) (.nil))) ?_
 refine p_lit htab rfl rfl rfl rfl rfl rfl rfl rfl rfl rfl rfl rfl rfl rfl ?_
 refine p_eq (i := 10) (d' := .lst 1 (([(ByteArray.mk #[61, 61]), (ByteArray.mk #[33, 61])] : List ByteArray).map eStr) .full) rfl (Wk.lst0 (.cons (WkC.refl _) (.cons (WkC.refl _) (.nil)))) ?_
 refine p_lit htab rfl rfl rfl rfl rfl rfl rfl rfl rfl rfl rfl rfl rfl rfl ?_
 refine p_eq (i := 11) (d' := .lst 1 (([(ByteArray.mk #[60]), (ByteArray.mk #[60, 61])] : List ByteArray).map eStr) .full) rfl (Wk.lst0 (.cons (WkC.refl _) (.cons (WkC.refl _) (.nil)))) ?_
 refine p_lit htab rfl rfl rfl rfl rfl rfl rfl rfl rfl rfl rfl rfl rfl rfl ?_
 refine p_eq (i := 12) (d' := .lst 1 (([(ByteArray.mk #[43]), (ByteArray.mk #[45])] : List ByteArray).map eStr) .full) rfl (Wk.lst0 (.cons (WkC.refl _) (.cons (WkC.refl _) (.nil)))) ?_
 refine p_lit htab rfl rfl rfl rfl rfl rfl rfl rfl rfl rfl rfl rfl rfl rfl ?_
 refine p_eq (i := 13) (d' := .lst 1 (([(ByteArray.mk #[42]), (ByteArray.mk #[47]), (ByteArray.mk #[37])] : List ByteArray).map eStr) .full) rfl (Wk.lst0 (.cons (WkC.refl _) (.cons (WkC.refl _) (.cons (WkC.refl _) (.nil))))) ?_
 refine p_lit htab rfl rfl rfl rfl rfl rfl rfl rfl rfl rfl rfl rfl rfl rfl ?_
 refine p_eq (i := 14) (d' := .lst 1 (([([(ByteArray.mk #[124, 124])] : List ByteArray), ([(ByteArray.mk #[38, 38])] : List ByteArray), ([(ByteArray.mk #[61, 61]), (ByteArray.mk #[33, 61])] : List ByteArray), ([(ByteArray.mk #[60]), (ByteArray.mk #[60, 61])] : List ByteArray), ([(ByteArray.mk #[43]), (ByteArray.mk #[45])] : List ByteArray), ([(ByteArray.mk #[42]), (ByteArray.mk #[47]), (ByteArray.mk #[37])] : List ByteArray)] : List (List ByteArray)).map (eList 1 eStr)) .full) rfl (Wk.lst0 (.cons (WkC.no) (.cons (WkC.no) (.cons (WkC.no) (.cons (WkC.no) (.cons (WkC.no) (.cons (WkC.no) (.nil)))))))) ?_
 refine pu ?_
 refine Ky ?_
 refine p_lit htab rfl rfl rfl rfl rfl rfl rfl rfl rfl rfl rfl rfl rfl rfl ?_
 refine p_eq (i := 15) (d' := .lst 1 (([(17 : Int)] : List Int).map eI64) .full) rfl (Wk.lst0 (.cons (WkC.refl _) (.nil))) ?_
 refine p_lit htab rfl rfl rfl rfl rfl rfl rfl rfl rfl rfl rfl rfl rfl rfl ?_
 refine p_eq (i := 16) (d' := .lst 1 (([(16 : Int)] : List Int).map eI64) .full) rfl (Wk.lst0 (.cons (WkC.refl _) (.nil))) ?_
 refine p_lit htab rfl rfl rfl rfl rfl rfl rfl rfl rfl rfl rfl rfl rfl rfl ?_
 refine p_eq (i := 17) (d' := .lst 1 (([(14 : Int), (15 : Int)] : List Int).map eI64) .full) rfl (Wk.lst0 (.cons (WkC.refl _) (.cons (WkC.refl _) (.nil)))) ?_
 refine p_lit htab rfl rfl rfl rfl rfl rfl rfl rfl rfl rfl rfl rfl rfl rfl ?_
 refine p_eq (i := 18) (d' := .lst 1 (([(12 : Int), (13 : Int)] : List Int).map eI64) .full) rfl (Wk.lst0 (.cons (WkC.refl _) (.cons (WkC.refl _) (.nil)))) ?_
 refine p_lit htab rfl rfl rfl rfl rfl rfl rfl rfl rfl rfl rfl rfl rfl rfl ?_
 refine p_eq (i := 19) (d' := .lst 1 (([(10 : Int), (11 : Int)] : List Int).map eI64) .full) rfl (Wk.lst0 (.cons (WkC.refl _) (.cons (WkC.refl _) (.nil)))) ?_
 refine p_lit htab rfl rfl rfl rfl rfl rfl rfl rfl rfl rfl rfl rfl rfl rfl ?_
 refine p_eq (i := 20) (d' := .lst 1 (([(7 : Int), (8 : Int), (9 : Int)] : List Int).map eI64) .full) rfl (Wk.lst0 (.cons (WkC.refl _) (.cons (WkC.refl _) (.cons (WkC.refl _) (.nil))))) ?_
 refine p_lit htab rfl rfl rfl rfl rfl rfl rfl rfl rfl rfl rfl rfl rfl rfl ?_
 refine p_eq (i := 21) (d' := .lst 1 (([([(17 : Int)] : List Int), ([(16 : Int)] : List Int), ([(14 : Int), (15 : Int)] : List Int), ([(12 : Int), (13 : Int)] : List Int), ([(10 : Int), (11 : Int)] : List Int), ([(7 : Int), (8 : Int), (9 : Int)] : List Int)] : List (List Int)).map (eList 1 eI64)) .full) rfl (Wk.lst0 (.cons (WkC.no) (.cons (WkC.no) (.cons (WkC.no) (.cons (WkC.no) (.cons (WkC.no) (.cons (WkC.no) (.nil)))))))) ?_
 refine pu ?_
 refine Kh ?_
 refine Kr ?_
 refine Kj ?_
 refine pu ?_
 refine Kh ?_
 obtain ⟨x26, q26, ho26⟩ := Kf hm
 refine Kci (τ := Unit) (Y := Unit) (fun y26 z26 => (⟨[], [], []⟩ : S)) x26 ?_ ?_
 ·clear hm; have hm := KE q26
  refine KI ?_
  obtain ⟨u27, hl27, hq27⟩ := yes_m hm
  refine KaU (Y := Unit) hl27 (fun s27 z27 => (⟨[(0, iD a0), (1, tD a1), (5, .lst 1 (([([(ByteArray.mk #[124, 124])] : List ByteArray), ([(ByteArray.mk #[38, 38])] : List ByteArray), ([(ByteArray.mk #[61, 61]), (ByteArray.mk #[33, 61])] : List ByteArray), ([(ByteArray.mk #[60]), (ByteArray.mk #[60, 61])] : List ByteArray), ([(ByteArray.mk #[43]), (ByteArray.mk #[45])] : List ByteArray), ([(ByteArray.mk #[42]), (ByteArray.mk #[47]), (ByteArray.mk #[37])] : List ByteArray)] : List (List ByteArray)).map (eList 1 eStr)) .full), (6, .lst 1 (([([(17 : Int)] : List Int), ([(16 : Int)] : List Int), ([(14 : Int), (15 : Int)] : List Int), ([(12 : Int), (13 : Int)] : List Int), ([(10 : Int), (11 : Int)] : List Int), ([(7 : Int), (8 : Int), (9 : Int)] : List Int)] : List (List Int)).map (eList 1 eI64)) .full), (7, iD s27)], [], []⟩ : S)) ?_ ?_
  ·skip
   exact WkX.of () (WkS.perm (WkS.cons rfl (Wk.refl _) (WkS.cons rfl (Wk.refl _) (WkS.cons rfl (Wk.refl _) (WkS.cons rfl (Wk.refl _) (WkS.cons rfl (Wk.refl _) (WkS.nil)))))) Pf Pf)
  ·intro G27 s27 z27 hm
   refine Kr ?_
   refine Kj ?_
   iterate 3 refine pu ?_
   obtain ⟨x44, q44, hm⟩ := Kf hm
   refine KaR htab rfl rfl rfl rfl rfl rfl rfl rfl rfl rfl (Kt q44) (KA q44) ?_
   refine Kav htab rfl rfl rfl rfl rfl rfl rfl rfl ?_
   refine KaK htab rfl rfl rfl rfl rfl rfl rfl (by first | exact Kab | rfl) ?_
   refine pu ?_
   refine Kh ?_
   refine Ku rfl (fun hc45 => ?_) (fun hc45 => ?_)
   ·replace hm := yes_t hc45 hm
    refine Kv ?_
    refine Ki ?_
    refine Kr ?_
    refine KI ?_
    refine Kj ?_
    refine pu ?_
    refine pu ?_
    obtain ⟨x46, q46, hm⟩ := Kf hm
    refine KaR htab rfl rfl rfl rfl rfl rfl rfl rfl rfl rfl (Kt q46) (KA q46) ?_
    refine Kav htab rfl rfl rfl rfl rfl rfl rfl rfl ?_
    refine pu ?_
    obtain ⟨x47, q47, hm⟩ := Kf hm
    refine KaR htab rfl rfl rfl rfl rfl rfl rfl rfl rfl rfl (Kt q47) (KA q47) ?_
    refine Kav htab rfl rfl rfl rfl rfl rfl rfl rfl ?_
    refine pu ?_
    refine pu ?_
    refine Kh ?_
    refine Ku rfl (fun hc48 => ?_) (fun hc48 => ?_)
    ·replace hm := yes_t hc48 hm
     refine Kj ?_
     refine pu ?_
     refine pu ?_
     obtain ⟨x49, q49, hm⟩ := Kf hm
     refine KaR htab rfl rfl rfl rfl rfl rfl rfl rfl rfl rfl (Kt q49) (KA q49) ?_
     refine Kav htab rfl rfl rfl rfl rfl rfl rfl rfl ?_
     refine pu ?_
     obtain ⟨x50, q50, hm⟩ := Kf hm
     refine KaR htab rfl rfl rfl rfl rfl rfl rfl rfl rfl rfl (Kt q50) (KA q50) ?_
     refine Kav htab rfl rfl rfl rfl rfl rfl rfl rfl ?_
     refine pu ?_
     refine Kh ?_
     refine Ks ?_
     refine KR ?_
     refine Kx ?_
     have e27 := Kac hm; subst e27; clear hm; have hm := hq27
     refine Kx ?_
     refine KR ?_
     have e26 := Kn hm; subst e26; refine Kbi ?_; clear hm; have hm := ho26; simp only [Sum.elim_inr] at hm
     refine Kx ?_
     have er51 := Kn hm; subst er51
     refine rP (t' := [(4, iD x50)]) [] [] 0 (wC wN) (lT lN) ?_
     exact ⟨rfl, rfl, rfl⟩
    ·replace hm := yes_f hc48 hm
     refine Kv ?_
     refine KF ?_
     refine Ki ?_
     refine KD ?_
     iterate 3 refine pu ?_
     refine KC ?_
     refine Ki ⟨_, KaA hm, ?_⟩
     exact WkX.of () (WkS.perm (WkS.cons rfl (Wk.refl _) (WkS.cons rfl (Wk.refl _) (WkS.cons rfl (Wk.refl _) (WkS.cons rfl (Wk.refl _) (WkS.cons rfl (Wk.refl _) (WkS.nil)))))) Pf Pf)
   ·replace hm := yes_f hc45 hm
    refine Kan ?_
    refine KJ ?_
    have e27 := Kac hm; subst e27; clear hm; have hm := hq27
    refine KJ ?_
    refine Kae ?_
    have e26 := Kn hm; subst e26
    refine Kb1 ?_
    exact WkX.of () (WkS.perm (WkS.nil) Pf Pf)
 ·intro y26 s26 hx26 hw26; subst hx26; clear hm; have hm := ho26; simp only [Sum.elim_inl] at hm; clear q26 ho26
  refine Ki ?_
  refine KZ hw26 (fun z26 => ?_)
  refine Kj ?_
  refine pu ?_
  refine Kh ?_
  refine Ks ?_
  have er52 := Kn hm; subst er52
  refine rP (t' := [(4, iD (0 : Int))]) [] [] 0 (wC wN) (lT lN) ?_
  exact ⟨rfl, rfl, rfl⟩
end Go.Proofs.Ytmgklehakmdiiaa.Ab
