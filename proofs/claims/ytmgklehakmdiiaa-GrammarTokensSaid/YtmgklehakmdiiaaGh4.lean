/- The texts that grammarTokens_holds leans on, part 4. -/
import Derived.Test.YtmgklehakmdiiaaGh3
set_option maxRecDepth 100000
set_option maxHeartbeats 2000000
namespace Go.Proofs.Ytmgklehakmdiiaa.Ab
open Go
set_option linter.all false
noncomputable def Kbf (m0 : Ke) (a1 : Kj) : Option (Kj × Ke) :=
 ((KaB m0 (1 : Int) (ByteArray.mk #[40])).bind fun x3 => (bif x3 then ((KaO m0 a1).bind fun x7 => some (x7.1, x7.2)) else ((Kaw m0).bind fun x9 => ((KX x9.2 (ByteArray.mk #[91])).bind fun x10 => (bif x10.1 then ((K8 x10.2).bind fun x18 => ((KJ x18.2 ([(ByteArray.mk #[93]), (ByteArray.mk #[61])] : List ByteArray)).bind fun x20 => ((K8 x20).bind fun x21 => ((KJ x21.2 ([(ByteArray.mk #[59])] : List ByteArray)).bind fun x22 => some ((⟨(2 : Int), x9.1, a1.gFunc, ([x18.1, x21.1] : List Ka), a1.gKids, a1.gElse, a1.gAt⟩ : Kj), x22))))) else ((KJ x10.2 ([(ByteArray.mk #[61])] : List ByteArray)).bind fun x24 => ((KaM x24 (⟨a1.gOp, x9.1, a1.gFunc, a1.gExps, a1.gKids, a1.gElse, a1.gAt⟩ : Kj)).bind fun x25 => some (x25.1, x25.2))))))))
theorem KgD (m0 : Ke) (a1 : Kj) (o0 : Nat) (T0 : TypeId) (c0_0 : Cap) (r : Kj × Ke) (h0 : Kbf m0 a1 = some r) : CallsD Try.prog 70 [.ptr o0 0, Ki a1] [(o0, Blk.cells [.lst 4 (m0.gL.map Kc) c0_0, iD m0.gAt, iD m0.gE, iD m0.gVars, iD m0.gOpen] T0)] [] (fun d h k => d = Ki r.1 ∧ h = [(o0, Blk.cells [.lst 4 (r.2.gL.map Kc) .no, iD r.2.gAt, iD r.2.gE, iD r.2.gVars, iD r.2.gOpen] T0)] ∧ k = []) := by
 have hm := KE h0
 unfold Kbf at hm
 clear h0
 refine KW htab Try.func70 rfl rfl rfl rfl rfl (fun C => ?_)
 refine w_eq (i := 1) rfl (Wk.of_eq (Kp a1)) ?_
 refine Kl ?_
 refine p_box rfl rfl rfl rfl rfl rfl rfl (fun b1 => ?_)
 refine KP htab rfl rfl rfl rfl rfl rfl rfl (fun b2 => ?_)
 refine Kh ?_
 refine Kq ?_
 refine Kl ?_
 refine pu ?_
 obtain ⟨x3, q3, hm⟩ := Kf hm
 refine pG (Kce m0 (1 : Int) (ByteArray.mk #[40]) o0 T0 c0_0 x3 q3) Wl Pf Pf ?_
 rintro _ _ _ ⟨rfl, rfl, rfl⟩
 refine Kh ?_
 refine Ku rfl (fun hc6 => ?_) (fun hc6 => ?_)
 ·replace hm := yes_t hc6 hm
  refine Kl ?_
  refine pu ?_
  refine K7 (d := .agg [iD a1.gOp, tD a1.gName, tD a1.gFunc, .lst 5 (a1.gExps.map Kg) .no, .lst 7 (a1.gKids.map Ki) .no, .lst 7 (a1.gElse.map Ki) .no, iD a1.gAt]) 1 htab rfl rfl rfl rfl rfl rfl rfl rfl ?_
  obtain ⟨x7, q7, hm⟩ := Kf hm
  refine Kam (KeA m0 a1 o0 T0 c0_0 x7 q7) rfl rfl rfl rfl rfl (WkL.cons (Wk.refl _) (WkL.cons (Wk.trans (Wk.agg (WkR.refl _)) (Wk.of_eq (Kp a1).symm)) Wl)) Pf Pf ?_
  rintro _ _ _ ⟨rfl, rfl, rfl⟩
  refine p_eq (i := 10) rfl (Wk.of_eq (Kp x7.1)) ?_
  refine pS2 (ds' := [iD x7.1.gOp, tD x7.1.gName, tD x7.1.gFunc, .lst 5 (x7.1.gExps.map Kg) .no, .lst 7 (x7.1.gKids.map Ki) .no, .lst 7 (x7.1.gElse.map Ki) .no, iD x7.1.gAt]) ?_
  refine Kh ?_
  refine Ks ?_
  refine KD ?_
  have er8 := Kn hm; subst er8
  refine rP (t' := [(4, .ptr b2 0)]) [0,1] [] 1 (wC wN) (lC 1 lN) ?_
  exact ⟨by first | rfl | (simp only [wrapD, Kp]; done) | (simp only [wrapD, Kp]; rfl), rfl, rfl⟩
 ·replace hm := yes_f hc6 hm
  refine Ky ?_
  refine Km ?_
  refine Kl ?_
  refine pu ?_
  obtain ⟨x9, q9, hm⟩ := Kf hm
  refine pG (Kby m0 o0 T0 c0_0 x9 q9) Wl Pf Pf ?_
  rintro _ _ _ ⟨rfl, rfl, rfl⟩
  refine pu ?_
  refine pS1 (ds' := [iD a1.gOp, tD x9.1, tD a1.gFunc, .lst 5 (a1.gExps.map Kg) .no, .lst 7 (a1.gKids.map Ki) .no, .lst 7 (a1.gElse.map Ki) .no, iD a1.gAt]) ?_
  refine Kh ?_
  refine Kq ?_
  refine Kl ?_
  refine pu ?_
  obtain ⟨x10, q10, hm⟩ := Kf hm
  refine pG (Kad x9.2 (ByteArray.mk #[91]) o0 T0 c0_0 x10 q10) Wl Pf Pf ?_
  rintro _ _ _ ⟨rfl, rfl, rfl⟩
  refine Kh ?_
  refine Ku rfl (fun hc17 => ?_) (fun hc17 => ?_)
  ·replace hm := yes_t hc17 hm
   refine Kl ?_
   refine pu ?_
   refine pS1 (ds' := [iD (2 : Int), tD x9.1, tD a1.gFunc, .lst 5 (a1.gExps.map Kg) .no, .lst 7 (a1.gKids.map Ki) .no, .lst 7 (a1.gElse.map Ki) .no, iD a1.gAt]) ?_
   refine Kv ?_
   refine pu ?_
   obtain ⟨x18, q18, hm⟩ := Kf hm
   refine pG (Kbh x10.2 o0 T0 c0_0 x18 q18) Wl Pf Pf ?_
   rintro _ _ _ ⟨rfl, rfl, rfl⟩
   refine p_eq (i := 18) rfl (Wk.of_eq (Kk x18.1)) ?_
   refine KP htab rfl rfl rfl rfl rfl rfl rfl (fun b19 => ?_)
   refine pS3 (ds' := [iD x18.1.gOp, iD x18.1.gN, tD x18.1.gName, .lst 5 (x18.1.gKids.map Kg) .no, iD x18.1.gAt]) ?_
   refine Kv ?_
   refine pu ?_
   refine p_lit htab rfl rfl rfl rfl rfl rfl rfl rfl rfl rfl rfl rfl rfl rfl ?_
   refine p_eq (i := 20) (d' := .lst 1 (([(ByteArray.mk #[93]), (ByteArray.mk #[61])] : List ByteArray).map eStr) .full) rfl (Wk.lst0 (.cons (WkC.refl _) (.cons (WkC.refl _) (.nil)))) ?_
   obtain ⟨x20, q20, hm⟩ := Kf hm
   refine Kam (KZ x18.2 ([(ByteArray.mk #[93]), (ByteArray.mk #[61])] : List ByteArray) o0 T0 c0_0 x20 q20) rfl rfl rfl rfl rfl (WkL.cons (Wk.refl _) (WkL.cons (Wk.no) Wl)) Pf Pf ?_
   rintro _ _ _ ⟨rfl, rfl, rfl⟩
   refine Kh ?_
   refine Kq ?_
   obtain ⟨x21, q21, hm⟩ := Kf hm
   refine KdM (X := BK) 3 [] [[],[],[1]] [0,1,2] [[],[],[1],[0,1,2],[0,1,2,3],[0,1,2,3,4]] ⟨2, fun x => x.1 ++ [(b1, Blk.cells [iD (2 : Int), tD x9.1, tD a1.gFunc, .lst 5 (a1.gExps.map Kg) .no, .lst 7 (a1.gKids.map Ki) .no, .lst 7 (a1.gElse.map Ki) .no, iD a1.gAt] 58), (b2, Blk.cells [iD (0 : Int), tD ByteArray.empty, tD ByteArray.empty, .lst 1 [] .full, .lst 1 [] .full, .lst 1 [] .full, iD (0 : Int)] 58), (b19, Blk.cells [iD x18.1.gOp, iD x18.1.gN, tD x18.1.gName, .lst 5 (x18.1.gKids.map Kg) .no, iD x18.1.gAt] 100)], fun x => x.2 ++ [], fun x => x.1 = [(o0, Blk.cells [.lst 4 (x21.2.gL.map Kc) c0_0, iD x21.2.gAt, iD x21.2.gE, iD x21.2.gVars, iD x21.2.gOpen] T0)] ∧ x.2 = []⟩ ([], []) (by kernel_rfl) (by kernel_rfl) (by kernel_rfl) (by rfl) (by rfl) (by kernel_rfl) ?_
   iterate 3 apply Exists.intro
   intro bs
   refine zx_M rfl rfl (fun _ => KF (d := .agg [iD x18.1.gOp, iD x18.1.gN, tD x18.1.gName, .lst 5 (x18.1.gKids.map Kg) .no, iD x18.1.gAt]) 3 htab rfl rfl rfl rfl rfl) (fun _ ⟨x1, x2⟩ ⟨e1, e2⟩ => by cases e1; cases e2; exact KF (d := .agg [iD x18.1.gOp, iD x18.1.gN, tD x18.1.gName, .lst 5 (x18.1.gKids.map Kg) .no, iD x18.1.gAt]) 3 htab rfl rfl rfl rfl rfl) rfl rfl rfl rfl rfl rfl rfl rfl ?_
   refine zx_e rfl rfl (KT htab rfl) rfl rfl rfl rfl rfl rfl rfl rfl ?_
   refine KeJ (h1 := [(o0, Blk.cells [.lst 4 (x20.gL.map Kc) c0_0, iD x20.gAt, iD x20.gE, iD x20.gVars, iD x20.gOpen] T0)]) (k1 := []) (d := .agg [iD x21.1.gOp, iD x21.1.gN, tD x21.1.gName, .lst 5 (x21.1.gKids.map Kg) .no, iD x21.1.gAt]) rfl rfl rfl (Kbh x20 o0 T0 c0_0 x21 q21) rfl rfl Wl Pf Pf (fun _ => rfl) (fun _ => rfl) (fun d' h' k' ⟨e1, e2, e3⟩ => ⟨⟨e2, e3⟩, by subst e1; exact Wk.of_eq (Kk x21.1)⟩) rfl rfl rfl rfl rfl rfl ?_
   refine Kfk (h2 := [(b1, Blk.cells [iD (2 : Int), tD x9.1, tD a1.gFunc, .lst 5 (a1.gExps.map Kg) .no, .lst 7 (a1.gKids.map Ki) .no, .lst 7 (a1.gElse.map Ki) .no, iD a1.gAt] 58), (b2, Blk.cells [iD (0 : Int), tD ByteArray.empty, tD ByteArray.empty, .lst 1 [] .full, .lst 1 [] .full, .lst 1 [] .full, iD (0 : Int)] 58), (b19, Blk.cells [iD x18.1.gOp, iD x18.1.gN, tD x18.1.gName, .lst 5 (x18.1.gKids.map Kg) .no, iD x18.1.gAt] 100)]) (hz := [(b1, Blk.cells [iD (2 : Int), tD x9.1, tD a1.gFunc, .lst 5 (a1.gExps.map Kg) .no, .lst 7 (a1.gKids.map Ki) .no, .lst 7 (a1.gElse.map Ki) .no, iD a1.gAt] 58), (b2, Blk.cells [iD (0 : Int), tD ByteArray.empty, tD ByteArray.empty, .lst 1 [] .full, .lst 1 [] .full, .lst 1 [] .full, iD (0 : Int)] 58), (b19, Blk.cells [iD x18.1.gOp, iD x18.1.gN, tD x18.1.gName, .lst 5 (x18.1.gKids.map Kg) .no, iD x18.1.gAt] 100)]) rfl rfl (fun _ => rfl) (fun _ => rfl) rfl (fun e he => by simp [isAl] at he) ?_
   rintro _ _ ⟨rfl, rfl⟩
   refine p_lit htab rfl rfl rfl rfl rfl rfl rfl rfl rfl rfl rfl rfl rfl rfl ?_
   refine p_eq (i := 25) (d' := .lst 5 (([x18.1, x21.1] : List Ka).map Kg) .full) rfl (Wk.lst0 (.cons (WkC.trans (WkC.agg (WkR.refl _)) (WkC.of_eq (Kk x18.1).symm)) (.cons (WkC.trans (WkC.agg (WkR.refl _)) (WkC.of_eq (Kk x21.1).symm)) (.nil)))) ?_
   refine pu ?_
   refine pS1 (ds' := [iD (2 : Int), tD x9.1, tD a1.gFunc, .lst 5 (([x18.1, x21.1] : List Ka).map Kg) .full, .lst 7 (a1.gKids.map Ki) .no, .lst 7 (a1.gElse.map Ki) .no, iD a1.gAt]) ?_
   refine Kv ?_
   refine pu ?_
   refine p_lit htab rfl rfl rfl rfl rfl rfl rfl rfl rfl rfl rfl rfl rfl rfl ?_
   refine p_eq (i := 28) (d' := .lst 1 (([(ByteArray.mk #[59])] : List ByteArray).map eStr) .full) rfl (Wk.lst0 (.cons (WkC.refl _) (.nil))) ?_
   obtain ⟨x22, q22, hm⟩ := Kf hm
   refine Kam (KZ x21.2 ([(ByteArray.mk #[59])] : List ByteArray) o0 T0 c0_0 x22 q22) rfl rfl rfl rfl rfl (WkL.cons (Wk.refl _) (WkL.cons (Wk.no) Wl)) Pf Pf ?_
   rintro _ _ _ ⟨rfl, rfl, rfl⟩
   refine Kv ?_
   refine K7 (d := .agg [iD (2 : Int), tD x9.1, tD a1.gFunc, .lst 5 (([x18.1, x21.1] : List Ka).map Kg) .full, .lst 7 (a1.gKids.map Ki) .no, .lst 7 (a1.gElse.map Ki) .no, iD a1.gAt]) 1 htab rfl rfl rfl rfl rfl rfl rfl rfl ?_
   refine pS2 (ds' := [iD (2 : Int), tD x9.1, tD a1.gFunc, .lst 5 (([x18.1, x21.1] : List Ka).map Kg) .full, .lst 7 (a1.gKids.map Ki) .no, .lst 7 (a1.gElse.map Ki) .no, iD a1.gAt]) ?_
   refine Kh ?_
   refine Ks ?_
   refine KD ?_
   have er23 := Kn hm; subst er23
   refine retX.wk (WkS.bl2 (ds' := [iD (2 : Int), tD x9.1, tD a1.gFunc, .lst 5 (([x18.1, x21.1] : List Ka).map Kg) .no, .lst 7 (a1.gKids.map Ki) .no, .lst 7 (a1.gElse.map Ki) .no, iD a1.gAt]) (rC (rC (rC (rO (rC (rC (rC WkR.nil)))))))) ?_
   refine retX.wk (WkS.bl0 (ds' := [.lst 4 (x22.gL.map Kc) .no, iD x22.gAt, iD x22.gE, iD x22.gVars, iD x22.gOpen]) (rO (rC (rC (rC (rC WkR.nil)))))) ?_
   refine rP (t' := [(4, .ptr b2 0)]) [0,1] [] 1 (wC wN) (lC 1 lN) ?_
   exact ⟨by first | rfl | (simp only [wrapD, Kp]; done) | (simp only [wrapD, Kp]; rfl), rfl, rfl⟩
  ·replace hm := yes_f hc17 hm
   refine Ky ?_
   refine Km ?_
   refine Kl ?_
   refine pu ?_
   refine p_lit htab rfl rfl rfl rfl rfl rfl rfl rfl rfl rfl rfl rfl rfl rfl ?_
   refine p_eq (i := 32) (d' := .lst 1 (([(ByteArray.mk #[61])] : List ByteArray).map eStr) .full) rfl (Wk.lst0 (.cons (WkC.refl _) (.nil))) ?_
   obtain ⟨x24, q24, hm⟩ := Kf hm
   refine Kam (KZ x10.2 ([(ByteArray.mk #[61])] : List ByteArray) o0 T0 c0_0 x24 q24) rfl rfl rfl rfl rfl (WkL.cons (Wk.refl _) (WkL.cons (Wk.no) Wl)) Pf Pf ?_
   rintro _ _ _ ⟨rfl, rfl, rfl⟩
   refine Kv ?_
   refine pu ?_
   refine K7 (d := .agg [iD a1.gOp, tD x9.1, tD a1.gFunc, .lst 5 (a1.gExps.map Kg) .no, .lst 7 (a1.gKids.map Ki) .no, .lst 7 (a1.gElse.map Ki) .no, iD a1.gAt]) 1 htab rfl rfl rfl rfl rfl rfl rfl rfl ?_
   obtain ⟨x25, q25, hm⟩ := Kf hm
   refine Kam (Kgm x24 (⟨a1.gOp, x9.1, a1.gFunc, a1.gExps, a1.gKids, a1.gElse, a1.gAt⟩ : Kj) o0 T0 c0_0 x25 q25) rfl rfl rfl rfl rfl (WkL.cons (Wk.refl _) (WkL.cons (Wk.trans (Wk.agg (WkR.refl _)) (Wk.of_eq (Kp (⟨a1.gOp, x9.1, a1.gFunc, a1.gExps, a1.gKids, a1.gElse, a1.gAt⟩ : Kj)).symm)) Wl)) Pf Pf ?_
   rintro _ _ _ ⟨rfl, rfl, rfl⟩
   refine p_eq (i := 36) rfl (Wk.of_eq (Kp x25.1)) ?_
   refine pS2 (ds' := [iD x25.1.gOp, tD x25.1.gName, tD x25.1.gFunc, .lst 5 (x25.1.gExps.map Kg) .no, .lst 7 (x25.1.gKids.map Ki) .no, .lst 7 (x25.1.gElse.map Ki) .no, iD x25.1.gAt]) ?_
   refine Kh ?_
   refine Ks ?_
   have er26 := Kn hm; subst er26
   refine rP (t' := [(4, .ptr b2 0)]) [0,1] [] 1 (wC wN) (lC 1 lN) ?_
   exact ⟨by first | rfl | (simp only [wrapD, Kp]; done) | (simp only [wrapD, Kp]; rfl), rfl, rfl⟩
noncomputable def Ka9 (m0 : Ke) : Option (List Ka × Ke) :=
 ((KJ m0 ([(ByteArray.mk #[40])] : List ByteArray)).bind fun x1 => ((K8 x1).bind fun x2 => ((KJ x2.2 ([(ByteArray.mk #[41])] : List ByteArray)).bind fun x4 => some (([x2.1] : List Ka), x4))))
theorem Kdq (m0 : Ke) (o0 : Nat) (T0 : TypeId) (c0_0 : Cap) (r : List Ka × Ke) (h0 : Ka9 m0 = some r) : CallsD Try.prog 72 [.ptr o0 0] [(o0, Blk.cells [.lst 4 (m0.gL.map Kc) c0_0, iD m0.gAt, iD m0.gE, iD m0.gVars, iD m0.gOpen] T0)] [] (fun d h k => ∃ y0, d = .lst 5 (r.1.map Kg) (.cur y0) ∧ h = [(o0, Blk.cells [.lst 4 (r.2.gL.map Kc) c0_0, iD r.2.gAt, iD r.2.gE, iD r.2.gVars, iD r.2.gOpen] T0)] ∧ k = [(5, y0)]) := by
 have hm := KE h0
 unfold Ka9 at hm
 clear h0
 refine KW htab Try.func72 rfl rfl rfl rfl rfl (fun C => ?_)
 refine Kl ?_
 refine pu ?_
 refine Kv ?_
 refine pu ?_
 refine p_lit htab rfl rfl rfl rfl rfl rfl rfl rfl rfl rfl rfl rfl rfl rfl ?_
 refine p_eq (i := 5) (d' := .lst 1 (([(ByteArray.mk #[40])] : List ByteArray).map eStr) .full) rfl (Wk.lst0 (.cons (WkC.refl _) (.nil))) ?_
 obtain ⟨x1, q1, hm⟩ := Kf hm
 refine Kam (KZ m0 ([(ByteArray.mk #[40])] : List ByteArray) o0 T0 c0_0 x1 q1) rfl rfl rfl rfl rfl (WkL.cons (Wk.refl _) (WkL.cons (Wk.no) Wl)) Pf Pf ?_
 rintro _ _ _ ⟨rfl, rfl, rfl⟩
 refine Kv ?_
 refine pu ?_
 obtain ⟨x2, q2, hm⟩ := Kf hm
 refine pG (Kbh x1 o0 T0 c0_0 x2 q2) Wl Pf Pf ?_
 rintro _ _ _ ⟨rfl, rfl, rfl⟩
 refine p_eq (i := 8) rfl (Wk.of_eq (Kk x2.1)) ?_
 refine KP htab rfl rfl rfl rfl rfl rfl rfl (fun b3 => ?_)
 refine pS1 (ds' := [iD x2.1.gOp, iD x2.1.gN, tD x2.1.gName, .lst 5 (x2.1.gKids.map Kg) .no, iD x2.1.gAt]) ?_
 refine Kv ?_
 refine pu ?_
 refine p_lit htab rfl rfl rfl rfl rfl rfl rfl rfl rfl rfl rfl rfl rfl rfl ?_
 refine p_eq (i := 10) (d' := .lst 1 (([(ByteArray.mk #[41])] : List ByteArray).map eStr) .full) rfl (Wk.lst0 (.cons (WkC.refl _) (.nil))) ?_
 obtain ⟨x4, q4, hm⟩ := Kf hm
 refine Kam (KZ x2.2 ([(ByteArray.mk #[41])] : List ByteArray) o0 T0 c0_0 x4 q4) rfl rfl rfl rfl rfl (WkL.cons (Wk.refl _) (WkL.cons (Wk.no) Wl)) Pf Pf ?_
 rintro _ _ _ ⟨rfl, rfl, rfl⟩
 refine Kv ?_
 refine K7 (d := .agg [iD x2.1.gOp, iD x2.1.gN, tD x2.1.gName, .lst 5 (x2.1.gKids.map Kg) .no, iD x2.1.gAt]) 1 htab rfl rfl rfl rfl rfl rfl rfl rfl ?_
 refine p_lit htab rfl rfl rfl rfl rfl rfl rfl rfl rfl rfl rfl rfl rfl rfl ?_
 refine p_eq (i := 13) (d' := .lst 5 (([x2.1] : List Ka).map Kg) .full) rfl (Wk.lst0 (.cons (WkC.trans (WkC.agg (WkR.refl _)) (WkC.of_eq (Kk x2.1).symm)) (.nil))) ?_
 refine pu ?_
 refine Kh ?_
 refine Ks ?_
 have er5 := Kn hm; subst er5
 refine retX.tokF (i := 2) rfl (fun w6 => ?_)
 refine rP (t' := [(2, .lst 5 (([x2.1] : List Ka).map Kg) (.cur w6))]) [0] [0] 1 (wC wN) (lT lN) ?_
 exact ⟨w6, rfl, rfl, rfl⟩
noncomputable def grammar_nothing : Option (Unit) :=
 some ()
theorem Kig  (r : Unit) (h0 : grammar_nothing = some r) : CallsD Try.prog 73 [] [] [] (fun d h k => d = .tup [] ∧ h = [] ∧ k = []) := by
 have hm := KE h0
 unfold grammar_nothing at hm
 clear h0
 refine KW htab Try.func73 rfl rfl rfl rfl rfl (fun C => ?_)
 refine Ky ?_
 have er1 := Kn hm; subst er1
 refine rP (t' := []) [] [] 0 wN lN ?_
 exact ⟨rfl, rfl, rfl⟩
noncomputable def KaA (g0 : (Ke) → Option (Kj × Ke)) (g1 : (Ke) → Option (List Kj × Ke)) (m0 : Ke) : Option (Kj × Ke) :=
 ((Kar m0 (0 : Int)).bind fun x2 => (bif (x2.gKind == (1 : Int)) then ((Kbf m0 (⟨(0 : Int), ByteArray.empty, ByteArray.empty, [], [], [], x2.gAt⟩ : Kj)).bind fun x6 => some (x6.1, x6.2)) else ((KX m0 (ByteArray.mk #[42])).bind fun x8 => (bif x8.1 then ((Kaw x8.2).bind fun x10 => ((KJ x10.2 ([(ByteArray.mk #[61])] : List ByteArray)).bind fun x11 => ((K8 x11).bind fun x12 => ((KJ x12.2 ([(ByteArray.mk #[59])] : List ByteArray)).bind fun x13 => some ((⟨(3 : Int), x10.1, ByteArray.empty, ([x12.1] : List Ka), [], [], x2.gAt⟩ : Kj), x13))))) else ((KX x8.2 (ByteArray.mk #[105, 102])).bind fun x15 => (bif x15.1 then ((Ka9 x15.2).bind fun x18 => ((g1 x18.2).bind fun x20 => ((KX x20.2 (ByteArray.mk #[101, 108, 115, 101])).bind fun x21 => (bif x21.1 then ((g1 x21.2).bind fun x24 => some ((⟨(6 : Int), ByteArray.empty, ByteArray.empty, x18.1, x20.1, x24.1, x2.gAt⟩ : Kj), x24.2)) else some ((⟨(6 : Int), ByteArray.empty, ByteArray.empty, x18.1, x20.1, [], x2.gAt⟩ : Kj), x21.2))))) else ((KX x15.2 (ByteArray.mk #[119, 104, 105, 108, 101])).bind fun x27 => (bif x27.1 then ((Ka9 x27.2).bind fun x30 => ((g1 x30.2).bind fun x32 => some ((⟨(7 : Int), ByteArray.empty, ByteArray.empty, x30.1, x32.1, [], x2.gAt⟩ : Kj), x32.2))) else ((KX x27.2 (ByteArray.mk #[114, 101, 116, 117, 114, 110])).bind fun x34 => (bif x34.1 then ((K8 x34.2).bind fun x36 => ((KJ x36.2 ([(ByteArray.mk #[59])] : List ByteArray)).bind fun x37 => some ((⟨(8 : Int), ByteArray.empty, ByteArray.empty, ([x36.1] : List Ka), [], [], x2.gAt⟩ : Kj), x37))) else ((KX x34.2 (ByteArray.mk #[97, 115, 115, 101, 114, 116])).bind fun x39 => (bif x39.1 then ((Ka9 x39.2).bind fun x42 => ((KJ x42.2 ([(ByteArray.mk #[59])] : List ByteArray)).bind fun x43 => some ((⟨(9 : Int), ByteArray.empty, ByteArray.empty, x42.1, [], [], x2.gAt⟩ : Kj), x43))) else ((Kab x39.2 x39.2.gAt (3 : Int)).bind fun x45 => some ((⟨(0 : Int), ByteArray.empty, ByteArray.empty, [], [], [], x2.gAt⟩ : Kj), x45))))))))))))))
theorem Kgn (g0 : (Ke) → Option (Kj × Ke)) (g1 : (Ke) → Option (List Kj × Ke)) (hg0 : ∀ (m0 : Ke) (o0 : Nat) (T0 : TypeId) (c0_0 : Cap) (r : Kj × Ke) (h0 : g0 m0 = some r), CallsD Try.prog 58 [.ptr o0 0] [(o0, Blk.cells [.lst 4 (m0.gL.map Kc) c0_0, iD m0.gAt, iD m0.gE, iD m0.gVars, iD m0.gOpen] T0)] [] (fun d h k => d = Ki r.1 ∧ h = [(o0, Blk.cells [.lst 4 (r.2.gL.map Kc) .no, iD r.2.gAt, iD r.2.gE, iD r.2.gVars, iD r.2.gOpen] T0)] ∧ k = [])) (hg1 : ∀ (m0 : Ke) (o0 : Nat) (T0 : TypeId) (c0_0 : Cap) (r : List Kj × Ke) (h0 : g1 m0 = some r), CallsD Try.prog 45 [.ptr o0 0, .fn (.func 73) [] []] [(o0, Blk.cells [.lst 4 (m0.gL.map Kc) c0_0, iD m0.gAt, iD m0.gE, iD m0.gVars, iD m0.gOpen] T0)] [] (fun d h k => ∃ y0, d = .lst 7 (r.1.map Ki) (.cur y0) ∧ h = [(o0, Blk.cells [.lst 4 (r.2.gL.map Kc) .no, iD r.2.gAt, iD r.2.gE, iD r.2.gVars, iD r.2.gOpen] T0)] ∧ k = [(7, y0)])) (m0 : Ke) (o0 : Nat) (T0 : TypeId) (c0_0 : Cap) (r : Kj × Ke) (h0 : KaA g0 g1 m0 = some r) : CallsD Try.prog 58 [.ptr o0 0] [(o0, Blk.cells [.lst 4 (m0.gL.map Kc) c0_0, iD m0.gAt, iD m0.gE, iD m0.gVars, iD m0.gOpen] T0)] [] (fun d h k => d = Ki r.1 ∧ h = [(o0, Blk.cells [.lst 4 (r.2.gL.map Kc) .no, iD r.2.gAt, iD r.2.gE, iD r.2.gVars, iD r.2.gOpen] T0)] ∧ k = []) := by
 have hm := KE h0
 unfold KaA at hm
 clear h0
 refine KW htab Try.func58 rfl rfl rfl rfl rfl (fun C => ?_)
 refine Kl ?_
 refine KP htab rfl rfl rfl rfl rfl rfl rfl (fun b1 => ?_)
 refine Kv ?_
 refine pu ?_
 obtain ⟨x2, q2, hm⟩ := Kf hm
 refine pG (Kbg m0 (0 : Int) o0 T0 c0_0 x2 q2) Wl Pf Pf ?_
 rintro _ _ _ ⟨rfl, rfl, rfl⟩
 refine KP htab rfl rfl rfl rfl rfl rfl rfl (fun b3 => ?_)
 refine pS2 (ds' := [iD x2.gKind, tD x2.gText, iD x2.gN, iD x2.gAt]) ?_
 refine Kv ?_
 refine pu ?_
 refine pL 2 ?_
 refine Kal (r := [iD (0 : Int), tD ByteArray.empty, tD ByteArray.empty, .lst 1 [] .full, .lst 1 [] .full, .lst 1 [] .full, iD x2.gAt]) htab rfl rfl rfl rfl rfl rfl rfl rfl rfl ?_
 refine KP htab rfl rfl rfl rfl rfl rfl rfl (fun b4 => ?_)
 refine pS3 (ds' := [iD (0 : Int), tD ByteArray.empty, tD ByteArray.empty, .lst 1 [] .full, .lst 1 [] .full, .lst 1 [] .full, iD x2.gAt]) ?_
 refine Kh ?_
 refine Kq ?_
 refine KL ?_
 refine Kl ?_
 refine pu ?_
 refine pL 2 ?_
 refine pu ?_
 refine pu ?_
 refine Kh ?_
 refine Ku rfl (fun hc5 => ?_) (fun hc5 => ?_)
 ·replace hm := yes_t hc5 hm
  refine Kl ?_
  refine pu ?_
  refine K7 (d := .agg [iD (0 : Int), tD ByteArray.empty, tD ByteArray.empty, .lst 1 [] .full, .lst 1 [] .full, .lst 1 [] .full, iD x2.gAt]) 3 htab rfl rfl rfl rfl rfl rfl rfl rfl ?_
  obtain ⟨x6, q6, hm⟩ := Kf hm
  refine Kam (KgD m0 (⟨(0 : Int), ByteArray.empty, ByteArray.empty, [], [], [], x2.gAt⟩ : Kj) o0 T0 c0_0 x6 q6) rfl rfl rfl rfl rfl (WkL.cons (Wk.refl _) (WkL.cons (Wk.trans (Wk.agg (rC (rC (rC (WkR.cons (WkC.nil) rfl (WkR.cons (WkC.nil) rfl (WkR.cons (WkC.nil) rfl (rC WkR.nil)))))))) (Wk.of_eq (Kp (⟨(0 : Int), ByteArray.empty, ByteArray.empty, [], [], [], x2.gAt⟩ : Kj)).symm)) Wl)) Pf Pf ?_
  rintro _ _ _ ⟨rfl, rfl, rfl⟩
  refine p_eq (i := 22) rfl (Wk.of_eq (Kp x6.1)) ?_
  refine pS1 (ds' := [iD x6.1.gOp, tD x6.1.gName, tD x6.1.gFunc, .lst 5 (x6.1.gExps.map Kg) .no, .lst 7 (x6.1.gKids.map Ki) .no, .lst 7 (x6.1.gElse.map Ki) .no, iD x6.1.gAt]) ?_
  refine Kh ?_
  refine Ks ?_
  refine K0 ?_
  refine KD ?_
  have er7 := Kn hm; subst er7
  refine rP (t' := [(2, .ptr b1 0)]) [0,0] [] 1 (wC wN) (lC 1 lN) ?_
  exact ⟨by first | rfl | (simp only [wrapD, Kp]; done) | (simp only [wrapD, Kp]; rfl), rfl, rfl⟩
 ·replace hm := yes_f hc5 hm
  refine Kl ?_
  refine pu ?_
  obtain ⟨x8, q8, hm⟩ := Kf hm
  refine pG (Kad m0 (ByteArray.mk #[42]) o0 T0 c0_0 x8 q8) Wl Pf Pf ?_
  rintro _ _ _ ⟨rfl, rfl, rfl⟩
  refine pu ?_
  refine Kh ?_
  refine Ku rfl (fun hc9 => ?_) (fun hc9 => ?_)
  ·replace hm := yes_t hc9 hm
   refine Kl ?_
   refine pu ?_
   obtain ⟨x10, q10, hm⟩ := Kf hm
   refine pG (Kby x8.2 o0 T0 c0_0 x10 q10) Wl Pf Pf ?_
   rintro _ _ _ ⟨rfl, rfl, rfl⟩
   refine pu ?_
   refine pS3 (ds' := [iD (3 : Int), tD ByteArray.empty, tD ByteArray.empty, .lst 1 [] .full, .lst 1 [] .full, .lst 1 [] .full, iD x2.gAt]) ?_
   refine pu ?_
   refine pS3 (ds' := [iD (3 : Int), tD x10.1, tD ByteArray.empty, .lst 1 [] .full, .lst 1 [] .full, .lst 1 [] .full, iD x2.gAt]) ?_
   refine Kv ?_
   refine pu ?_
   refine p_lit htab rfl rfl rfl rfl rfl rfl rfl rfl rfl rfl rfl rfl rfl rfl ?_
   refine p_eq (i := 31) (d' := .lst 1 (([(ByteArray.mk #[61])] : List ByteArray).map eStr) .full) rfl (Wk.lst0 (.cons (WkC.refl _) (.nil))) ?_
   obtain ⟨x11, q11, hm⟩ := Kf hm
   refine Kam (KZ x10.2 ([(ByteArray.mk #[61])] : List ByteArray) o0 T0 c0_0 x11 q11) rfl rfl rfl rfl rfl (WkL.cons (Wk.refl _) (WkL.cons (Wk.no) Wl)) Pf Pf ?_
   rintro _ _ _ ⟨rfl, rfl, rfl⟩
   refine Kv ?_
   refine pu ?_
   obtain ⟨x12, q12, hm⟩ := Kf hm
   refine pG (Kbh x11 o0 T0 c0_0 x12 q12) Wl Pf Pf ?_
   rintro _ _ _ ⟨rfl, rfl, rfl⟩
   refine p_eq (i := 34) rfl (Wk.of_eq (Kk x12.1)) ?_
   refine p_lit htab rfl rfl rfl rfl rfl rfl rfl rfl rfl rfl rfl rfl rfl rfl ?_
   refine p_eq (i := 35) (d' := .lst 5 (([x12.1] : List Ka).map Kg) .full) rfl (Wk.lst0 (.cons (WkC.trans (WkC.agg (WkR.refl _)) (WkC.of_eq (Kk x12.1).symm)) (.nil))) ?_
   refine pu ?_
   refine pS3 (ds' := [iD (3 : Int), tD x10.1, tD ByteArray.empty, .lst 5 (([x12.1] : List Ka).map Kg) .full, .lst 1 [] .full, .lst 1 [] .full, iD x2.gAt]) ?_
   refine Kh ?_
   refine KC ?_
   refine pu ?_
   refine p_lit htab rfl rfl rfl rfl rfl rfl rfl rfl rfl rfl rfl rfl rfl rfl ?_
   refine p_eq (i := 38) (d' := .lst 1 (([(ByteArray.mk #[59])] : List ByteArray).map eStr) .full) rfl (Wk.lst0 (.cons (WkC.refl _) (.nil))) ?_
   obtain ⟨x13, q13, hm⟩ := Kf hm
   refine Kam (KZ x12.2 ([(ByteArray.mk #[59])] : List ByteArray) o0 T0 c0_0 x13 q13) rfl rfl rfl rfl rfl (WkL.cons (Wk.refl _) (WkL.cons (Wk.no) Wl)) Pf Pf ?_
   rintro _ _ _ ⟨rfl, rfl, rfl⟩
   refine KB ?_
   refine KI ?_
   refine Km ?_
   refine Kl ?_
   refine K7 (d := .agg [iD (3 : Int), tD x10.1, tD ByteArray.empty, .lst 5 (([x12.1] : List Ka).map Kg) .full, .lst 1 [] .full, .lst 1 [] .full, iD x2.gAt]) 3 htab rfl rfl rfl rfl rfl rfl rfl rfl ?_
   refine pS1 (ds' := [iD (3 : Int), tD x10.1, tD ByteArray.empty, .lst 5 (([x12.1] : List Ka).map Kg) .full, .lst 1 [] .full, .lst 1 [] .full, iD x2.gAt]) ?_
   refine Kh ?_
   refine Ks ?_
   have er14 := Kn hm; subst er14
   refine retX.wk (WkS.bl1 (ds' := [iD (3 : Int), tD x10.1, tD ByteArray.empty, .lst 5 (([x12.1] : List Ka).map Kg) .no, .lst 7 (([] : List Kj).map Ki) .no, .lst 7 (([] : List Kj).map Ki) .no, iD x2.gAt]) (rC (rC (rC (rO (WkR.cons (WkC.nil) rfl (WkR.cons (WkC.nil) rfl (rC WkR.nil)))))))) ?_
   refine retX.wk (WkS.bl0 (ds' := [.lst 4 (x13.gL.map Kc) .no, iD x13.gAt, iD x13.gE, iD x13.gVars, iD x13.gOpen]) (rO (rC (rC (rC (rC WkR.nil)))))) ?_
   refine rP (t' := [(2, .ptr b1 0)]) [0,0] [] 1 (wC wN) (lC 1 lN) ?_
   exact ⟨by first | rfl | (simp only [wrapD, Kp]; done) | (simp only [wrapD, Kp]; rfl), rfl, rfl⟩
  ·replace hm := yes_f hc9 hm
   refine Kl ?_
   refine pu ?_
   obtain ⟨x15, q15, hm⟩ := Kf hm
   refine pG (Kad x8.2 (ByteArray.mk #[105, 102]) o0 T0 c0_0 x15 q15) Wl Pf Pf ?_
   rintro _ _ _ ⟨rfl, rfl, rfl⟩
   refine pu ?_
   refine Kh ?_
   refine Ku rfl (fun hc16 => ?_) (fun hc16 => ?_)
   ·replace hm := yes_t hc16 hm
    refine Kl ?_
    refine pu ?_
    obtain ⟨x18, q18, hm⟩ := Kf hm
    refine pG (Kdq x15.2 o0 T0 c0_0 x18 q18) Wl Pf Pf ?_
    rintro _ _ _ ⟨w17, rfl, rfl, rfl⟩
    refine pu ?_
    refine pS3 (ds' := [iD (6 : Int), tD ByteArray.empty, tD ByteArray.empty, .lst 1 [] .full, .lst 1 [] .full, .lst 1 [] .full, iD x2.gAt]) ?_
    refine pu ?_
    refine pS3 (ds' := [iD (6 : Int), tD ByteArray.empty, tD ByteArray.empty, .lst 5 (x18.1.map Kg) (.cur w17), .lst 1 [] .full, .lst 1 [] .full, iD x2.gAt]) ?_
    refine Kv ?_
    refine pu ?_
    obtain ⟨x20, q20, hm⟩ := Kf hm
    refine pG (hg1 x18.2 o0 T0 c0_0 x20 q20) Wl Pf Pf ?_
    rintro _ _ _ ⟨w19, rfl, rfl, rfl⟩
    refine pu ?_
    refine pS3 (ds' := [iD (6 : Int), tD ByteArray.empty, tD ByteArray.empty, .lst 5 (x18.1.map Kg) (.cur w17), .lst 7 (x20.1.map Ki) (.cur w19), .lst 1 [] .full, iD x2.gAt]) ?_
    refine Kv ?_
    refine pu ?_
    obtain ⟨x21, q21, hm⟩ := Kf hm
    refine pG (Kad x20.2 (ByteArray.mk #[101, 108, 115, 101]) o0 T0 .no x21 q21) Wl Pf Pf ?_
    rintro _ _ _ ⟨rfl, rfl, rfl⟩
    refine Kh ?_
    refine Ku rfl (fun hc22 => ?_) (fun hc22 => ?_)
    ·replace hm := yes_t hc22 hm
     refine KC ?_
     refine pu ?_
     obtain ⟨x24, q24, hm⟩ := Kf hm
     refine pG (hg1 x21.2 o0 T0 .no x24 q24) Wl Pf Pf ?_
     rintro _ _ _ ⟨w23, rfl, rfl, rfl⟩
     refine pu ?_
     refine pS3 (ds' := [iD (6 : Int), tD ByteArray.empty, tD ByteArray.empty, .lst 5 (x18.1.map Kg) (.cur w17), .lst 7 (x20.1.map Ki) (.cur w19), .lst 7 (x24.1.map Ki) (.cur w23), iD x2.gAt]) ?_
     refine KB ?_
     refine KI ?_
     refine Km ?_
     refine Kl ?_
     refine K7 (d := .agg [iD (6 : Int), tD ByteArray.empty, tD ByteArray.empty, .lst 5 (x18.1.map Kg) (.cur w17), .lst 7 (x20.1.map Ki) (.cur w19), .lst 7 (x24.1.map Ki) (.cur w23), iD x2.gAt]) 3 htab rfl rfl rfl rfl rfl rfl rfl rfl ?_
     refine pS1 (ds' := [iD (6 : Int), tD ByteArray.empty, tD ByteArray.empty, .lst 5 (x18.1.map Kg) (.cur w17), .lst 7 (x20.1.map Ki) (.cur w19), .lst 7 (x24.1.map Ki) (.cur w23), iD x2.gAt]) ?_
     refine Kh ?_
     refine Ks ?_
     have er25 := Kn hm; subst er25
     refine retX.wk (WkS.bl1 (ds' := [iD (6 : Int), tD ByteArray.empty, tD ByteArray.empty, .lst 5 (x18.1.map Kg) .no, .lst 7 (x20.1.map Ki) .no, .lst 7 (x24.1.map Ki) .no, iD x2.gAt]) (rC (rC (rC (rO (rO (rO (rC WkR.nil)))))))) ?_
     refine rP (t' := [(2, .ptr b1 0)]) [0,0] [] 1 (wC wN) (lC 1 lN) ?_
     exact ⟨by first | rfl | (simp only [wrapD, Kp]; done) | (simp only [wrapD, Kp]; rfl), rfl, rfl⟩
    ·replace hm := yes_f hc22 hm
     refine Ky ?_
     refine KI ?_
     refine Km ?_
     refine Kl ?_
     refine K7 (d := .agg [iD (6 : Int), tD ByteArray.empty, tD ByteArray.empty, .lst 5 (x18.1.map Kg) (.cur w17), .lst 7 (x20.1.map Ki) (.cur w19), .lst 1 [] .full, iD x2.gAt]) 3 htab rfl rfl rfl rfl rfl rfl rfl rfl ?_
     refine pS1 (ds' := [iD (6 : Int), tD ByteArray.empty, tD ByteArray.empty, .lst 5 (x18.1.map Kg) (.cur w17), .lst 7 (x20.1.map Ki) (.cur w19), .lst 1 [] .full, iD x2.gAt]) ?_
     refine Kh ?_
     refine Ks ?_
     have er26 := Kn hm; subst er26
     refine retX.wk (WkS.bl1 (ds' := [iD (6 : Int), tD ByteArray.empty, tD ByteArray.empty, .lst 5 (x18.1.map Kg) .no, .lst 7 (x20.1.map Ki) .no, .lst 7 (([] : List Kj).map Ki) .no, iD x2.gAt]) (rC (rC (rC (rO (rO (WkR.cons (WkC.nil) rfl (rC WkR.nil)))))))) ?_
     refine rP (t' := [(2, .ptr b1 0)]) [0,0] [] 1 (wC wN) (lC 1 lN) ?_
     exact ⟨by first | rfl | (simp only [wrapD, Kp]; done) | (simp only [wrapD, Kp]; rfl), rfl, rfl⟩
   ·replace hm := yes_f hc16 hm
    refine Kl ?_
    refine pu ?_
    obtain ⟨x27, q27, hm⟩ := Kf hm
    refine pG (Kad x15.2 (ByteArray.mk #[119, 104, 105, 108, 101]) o0 T0 c0_0 x27 q27) Wl Pf Pf ?_
    rintro _ _ _ ⟨rfl, rfl, rfl⟩
    refine pu ?_
    refine Kh ?_
    refine Ku rfl (fun hc28 => ?_) (fun hc28 => ?_)
    ·replace hm := yes_t hc28 hm
     refine Kl ?_
     refine pu ?_
     obtain ⟨x30, q30, hm⟩ := Kf hm
     refine pG (Kdq x27.2 o0 T0 c0_0 x30 q30) Wl Pf Pf ?_
     rintro _ _ _ ⟨w29, rfl, rfl, rfl⟩
     refine pu ?_
     refine pS3 (ds' := [iD (7 : Int), tD ByteArray.empty, tD ByteArray.empty, .lst 1 [] .full, .lst 1 [] .full, .lst 1 [] .full, iD x2.gAt]) ?_
     refine pu ?_
     refine pS3 (ds' := [iD (7 : Int), tD ByteArray.empty, tD ByteArray.empty, .lst 5 (x30.1.map Kg) (.cur w29), .lst 1 [] .full, .lst 1 [] .full, iD x2.gAt]) ?_
     refine Kh ?_
     refine KC ?_
     refine pu ?_
     obtain ⟨x32, q32, hm⟩ := Kf hm
     refine pG (hg1 x30.2 o0 T0 c0_0 x32 q32) Wl Pf Pf ?_
     rintro _ _ _ ⟨w31, rfl, rfl, rfl⟩
     refine pu ?_
     refine pS3 (ds' := [iD (7 : Int), tD ByteArray.empty, tD ByteArray.empty, .lst 5 (x30.1.map Kg) (.cur w29), .lst 7 (x32.1.map Ki) (.cur w31), .lst 1 [] .full, iD x2.gAt]) ?_
     refine KB ?_
     refine KI ?_
     refine Km ?_
     refine Kl ?_
     refine K7 (d := .agg [iD (7 : Int), tD ByteArray.empty, tD ByteArray.empty, .lst 5 (x30.1.map Kg) (.cur w29), .lst 7 (x32.1.map Ki) (.cur w31), .lst 1 [] .full, iD x2.gAt]) 3 htab rfl rfl rfl rfl rfl rfl rfl rfl ?_
     refine pS1 (ds' := [iD (7 : Int), tD ByteArray.empty, tD ByteArray.empty, .lst 5 (x30.1.map Kg) (.cur w29), .lst 7 (x32.1.map Ki) (.cur w31), .lst 1 [] .full, iD x2.gAt]) ?_
     refine Kh ?_
     refine Ks ?_
     have er33 := Kn hm; subst er33
     refine retX.wk (WkS.bl1 (ds' := [iD (7 : Int), tD ByteArray.empty, tD ByteArray.empty, .lst 5 (x30.1.map Kg) .no, .lst 7 (x32.1.map Ki) .no, .lst 7 (([] : List Kj).map Ki) .no, iD x2.gAt]) (rC (rC (rC (rO (rO (WkR.cons (WkC.nil) rfl (rC WkR.nil)))))))) ?_
     refine rP (t' := [(2, .ptr b1 0)]) [0,0] [] 1 (wC wN) (lC 1 lN) ?_
     exact ⟨by first | rfl | (simp only [wrapD, Kp]; done) | (simp only [wrapD, Kp]; rfl), rfl, rfl⟩
    ·replace hm := yes_f hc28 hm
     refine Kl ?_
     refine pu ?_
     obtain ⟨x34, q34, hm⟩ := Kf hm
     refine pG (Kad x27.2 (ByteArray.mk #[114, 101, 116, 117, 114, 110]) o0 T0 c0_0 x34 q34) Wl Pf Pf ?_
     rintro _ _ _ ⟨rfl, rfl, rfl⟩
     refine pu ?_
     refine Kh ?_
     refine Ku rfl (fun hc35 => ?_) (fun hc35 => ?_)
     ·replace hm := yes_t hc35 hm
      refine Kl ?_
      refine pu ?_
      obtain ⟨x36, q36, hm⟩ := Kf hm
      refine pG (Kbh x34.2 o0 T0 c0_0 x36 q36) Wl Pf Pf ?_
      rintro _ _ _ ⟨rfl, rfl, rfl⟩
      refine p_eq (i := 69) rfl (Wk.of_eq (Kk x36.1)) ?_
      refine p_lit htab rfl rfl rfl rfl rfl rfl rfl rfl rfl rfl rfl rfl rfl rfl ?_
      refine p_eq (i := 70) (d' := .lst 5 (([x36.1] : List Ka).map Kg) .full) rfl (Wk.lst0 (.cons (WkC.trans (WkC.agg (WkR.refl _)) (WkC.of_eq (Kk x36.1).symm)) (.nil))) ?_
      refine pu ?_
      refine pS3 (ds' := [iD (8 : Int), tD ByteArray.empty, tD ByteArray.empty, .lst 1 [] .full, .lst 1 [] .full, .lst 1 [] .full, iD x2.gAt]) ?_
      refine pu ?_
      refine pS3 (ds' := [iD (8 : Int), tD ByteArray.empty, tD ByteArray.empty, .lst 5 (([x36.1] : List Ka).map Kg) .full, .lst 1 [] .full, .lst 1 [] .full, iD x2.gAt]) ?_
      refine Kh ?_
      refine KC ?_
      refine pu ?_
      refine p_lit htab rfl rfl rfl rfl rfl rfl rfl rfl rfl rfl rfl rfl rfl rfl ?_
      refine p_eq (i := 74) (d' := .lst 1 (([(ByteArray.mk #[59])] : List ByteArray).map eStr) .full) rfl (Wk.lst0 (.cons (WkC.refl _) (.nil))) ?_
      obtain ⟨x37, q37, hm⟩ := Kf hm
      refine Kam (KZ x36.2 ([(ByteArray.mk #[59])] : List ByteArray) o0 T0 c0_0 x37 q37) rfl rfl rfl rfl rfl (WkL.cons (Wk.refl _) (WkL.cons (Wk.no) Wl)) Pf Pf ?_
      rintro _ _ _ ⟨rfl, rfl, rfl⟩
      refine KB ?_
      refine KI ?_
      refine Km ?_
      refine Kl ?_
      refine K7 (d := .agg [iD (8 : Int), tD ByteArray.empty, tD ByteArray.empty, .lst 5 (([x36.1] : List Ka).map Kg) .full, .lst 1 [] .full, .lst 1 [] .full, iD x2.gAt]) 3 htab rfl rfl rfl rfl rfl rfl rfl rfl ?_
      refine pS1 (ds' := [iD (8 : Int), tD ByteArray.empty, tD ByteArray.empty, .lst 5 (([x36.1] : List Ka).map Kg) .full, .lst 1 [] .full, .lst 1 [] .full, iD x2.gAt]) ?_
      refine Kh ?_
      refine Ks ?_
      have er38 := Kn hm; subst er38
      refine retX.wk (WkS.bl1 (ds' := [iD (8 : Int), tD ByteArray.empty, tD ByteArray.empty, .lst 5 (([x36.1] : List Ka).map Kg) .no, .lst 7 (([] : List Kj).map Ki) .no, .lst 7 (([] : List Kj).map Ki) .no, iD x2.gAt]) (rC (rC (rC (rO (WkR.cons (WkC.nil) rfl (WkR.cons (WkC.nil) rfl (rC WkR.nil)))))))) ?_
      refine retX.wk (WkS.bl0 (ds' := [.lst 4 (x37.gL.map Kc) .no, iD x37.gAt, iD x37.gE, iD x37.gVars, iD x37.gOpen]) (rO (rC (rC (rC (rC WkR.nil)))))) ?_
      refine rP (t' := [(2, .ptr b1 0)]) [0,0] [] 1 (wC wN) (lC 1 lN) ?_
      exact ⟨by first | rfl | (simp only [wrapD, Kp]; done) | (simp only [wrapD, Kp]; rfl), rfl, rfl⟩
     ·replace hm := yes_f hc35 hm
      refine Kl ?_
      refine pu ?_
      obtain ⟨x39, q39, hm⟩ := Kf hm
      refine pG (Kad x34.2 (ByteArray.mk #[97, 115, 115, 101, 114, 116]) o0 T0 c0_0 x39 q39) Wl Pf Pf ?_
      rintro _ _ _ ⟨rfl, rfl, rfl⟩
      refine pu ?_
      refine Kh ?_
      refine Ku rfl (fun hc40 => ?_) (fun hc40 => ?_)
      ·replace hm := yes_t hc40 hm
       refine Kl ?_
       refine pu ?_
       obtain ⟨x42, q42, hm⟩ := Kf hm
       refine pG (Kdq x39.2 o0 T0 c0_0 x42 q42) Wl Pf Pf ?_
       rintro _ _ _ ⟨w41, rfl, rfl, rfl⟩
       refine pu ?_
       refine pS3 (ds' := [iD (9 : Int), tD ByteArray.empty, tD ByteArray.empty, .lst 1 [] .full, .lst 1 [] .full, .lst 1 [] .full, iD x2.gAt]) ?_
       refine pu ?_
       refine pS3 (ds' := [iD (9 : Int), tD ByteArray.empty, tD ByteArray.empty, .lst 5 (x42.1.map Kg) (.cur w41), .lst 1 [] .full, .lst 1 [] .full, iD x2.gAt]) ?_
       refine Kh ?_
       refine KC ?_
       refine pu ?_
       refine p_lit htab rfl rfl rfl rfl rfl rfl rfl rfl rfl rfl rfl rfl rfl rfl ?_
       refine p_eq (i := 84) (d' := .lst 1 (([(ByteArray.mk #[59])] : List ByteArray).map eStr) .full) rfl (Wk.lst0 (.cons (WkC.refl _) (.nil))) ?_
       obtain ⟨x43, q43, hm⟩ := Kf hm
       refine Kam (KZ x42.2 ([(ByteArray.mk #[59])] : List ByteArray) o0 T0 c0_0 x43 q43) rfl rfl rfl rfl rfl (WkL.cons (Wk.refl _) (WkL.cons (Wk.no) Wl)) Pf Pf ?_
       rintro _ _ _ ⟨rfl, rfl, rfl⟩
       refine KB ?_
       refine KI ?_
       refine Km ?_
       refine Kl ?_
       refine K7 (d := .agg [iD (9 : Int), tD ByteArray.empty, tD ByteArray.empty, .lst 5 (x42.1.map Kg) (.cur w41), .lst 1 [] .full, .lst 1 [] .full, iD x2.gAt]) 3 htab rfl rfl rfl rfl rfl rfl rfl rfl ?_
       refine pS1 (ds' := [iD (9 : Int), tD ByteArray.empty, tD ByteArray.empty, .lst 5 (x42.1.map Kg) (.cur w41), .lst 1 [] .full, .lst 1 [] .full, iD x2.gAt]) ?_
       refine Kh ?_
       refine Ks ?_
       have er44 := Kn hm; subst er44
       refine retX.wk (WkS.bl1 (ds' := [iD (9 : Int), tD ByteArray.empty, tD ByteArray.empty, .lst 5 (x42.1.map Kg) .no, .lst 7 (([] : List Kj).map Ki) .no, .lst 7 (([] : List Kj).map Ki) .no, iD x2.gAt]) (rC (rC (rC (rO (WkR.cons (WkC.nil) rfl (WkR.cons (WkC.nil) rfl (rC WkR.nil)))))))) ?_
       refine retX.wk (WkS.bl0 (ds' := [.lst 4 (x43.gL.map Kc) .no, iD x43.gAt, iD x43.gE, iD x43.gVars, iD x43.gOpen]) (rO (rC (rC (rC (rC WkR.nil)))))) ?_
       refine rP (t' := [(2, .ptr b1 0)]) [0,0] [] 1 (wC wN) (lC 1 lN) ?_
       exact ⟨by first | rfl | (simp only [wrapD, Kp]; done) | (simp only [wrapD, Kp]; rfl), rfl, rfl⟩
      ·replace hm := yes_f hc40 hm
       refine KC ?_
       iterate 4 refine pu ?_
       refine pL 0 ?_
       obtain ⟨x45, q45, hm⟩ := Kf hm
       refine pG (KaH x39.2 x39.2.gAt (3 : Int) o0 T0 c0_0 x45 q45) Wl Pf Pf ?_
       rintro _ _ _ ⟨rfl, rfl, rfl⟩
       refine KB ?_
       refine KI ?_
       refine Km ?_
       refine Kl ?_
       refine K7 (d := .agg [iD (0 : Int), tD ByteArray.empty, tD ByteArray.empty, .lst 1 [] .full, .lst 1 [] .full, .lst 1 [] .full, iD x2.gAt]) 3 htab rfl rfl rfl rfl rfl rfl rfl rfl ?_
       refine pS1 (ds' := [iD (0 : Int), tD ByteArray.empty, tD ByteArray.empty, .lst 1 [] .full, .lst 1 [] .full, .lst 1 [] .full, iD x2.gAt]) ?_
       refine Kh ?_
       refine Ks ?_
       have er46 := Kn hm; subst er46
       refine retX.wk (WkS.bl1 (ds' := [iD (0 : Int), tD ByteArray.empty, tD ByteArray.empty, .lst 5 (([] : List Ka).map Kg) .no, .lst 7 (([] : List Kj).map Ki) .no, .lst 7 (([] : List Kj).map Ki) .no, iD x2.gAt]) (rC (rC (rC (WkR.cons (WkC.nil) rfl (WkR.cons (WkC.nil) rfl (WkR.cons (WkC.nil) rfl (rC WkR.nil)))))))) ?_
       refine retX.wk (WkS.bl0 (ds' := [.lst 4 (x45.gL.map Kc) .no, iD x45.gAt, iD x45.gE, iD x45.gVars, iD x45.gOpen]) (rO (rC (rC (rC (rC WkR.nil)))))) ?_
       refine rP (t' := [(2, .ptr b1 0)]) [0,0] [] 1 (wC wN) (lC 1 lN) ?_
       exact ⟨by first | rfl | (simp only [wrapD, Kp]; done) | (simp only [wrapD, Kp]; rfl), rfl, rfl⟩
noncomputable def Kas (g0 : (Ke) → Option (Kj × Ke)) (g1 : (Ke) → Option (List Kj × Ke)) (m0 : Ke) : Option (List Kj × Ke) :=
 ((KJ m0 ([(ByteArray.mk #[123])] : List ByteArray)).bind fun x1 => (Option.bind (α := List Kt × Int × Int × Int × Int) (bif (decide ((24 : Int) ≤ x1.gOpen)) then ((Kab x1 m0.gAt (5 : Int)).bind fun x6 => some (x6.gL, x6.gAt, x6.gE, x6.gVars, x6.gOpen)) else some (x1.gL, x1.gAt, x1.gE, x1.gVars, x1.gOpen)) fun y4 => (grammar_nothing.bind fun x7 => (Option.bind (α := List Kj × List Kt × Int × Int × Int × Int) (loopM (fun (s38 : List Kj × List Kt × Int × Int × Int × Int) => (Option.bind (α := Bool × List Kt × Int × Int × Int × Int) (bif (s38.2.2.2.1 == (0 : Int)) then ((KX (⟨s38.2.1, s38.2.2.1, s38.2.2.2.1, s38.2.2.2.2.1, s38.2.2.2.2.2⟩ : Ke) (ByteArray.mk #[125])).bind fun x62 => some ((!x62.1), x62.2.gL, x62.2.gAt, x62.2.gE, x62.2.gVars, x62.2.gOpen)) else some (false, s38.2.1, s38.2.2.1, s38.2.2.2.1, s38.2.2.2.2.1, s38.2.2.2.2.2)) fun y60 => (bif y60.1 then ((g0 (⟨y60.2.1, y60.2.2.1, y60.2.2.2.1, y60.2.2.2.2.1, y60.2.2.2.2.2⟩ : Ke)).bind fun x64 => ((app 120 s38.1 ([x64.1] : List Kj)).bind fun x65 => some (.next (x65, x64.2.gL, x64.2.gAt, x64.2.gE, x64.2.gVars, x64.2.gOpen)))) else some (.done (s38.1, y60.2.1, y60.2.2.1, y60.2.2.2.1, y60.2.2.2.2.1, y60.2.2.2.2.2))))) (([] : List Kj), y4.1, y4.2.1, y4.2.2.1, y4.2.2.2.1, (IntKind.i64.wrap (y4.2.2.2.2 + (1 : Int))))) fun y37 => some (y37.1, (⟨y37.2.1, y37.2.2.1, y37.2.2.2.1, y37.2.2.2.2.1, (IntKind.i64.wrap (y37.2.2.2.2.2 - (1 : Int)))⟩ : Ke))))))
theorem KfL (g0 : (Ke) → Option (Kj × Ke)) (g1 : (Ke) → Option (List Kj × Ke)) (hg0 : ∀ (m0 : Ke) (o0 : Nat) (T0 : TypeId) (c0_0 : Cap) (r : Kj × Ke) (h0 : g0 m0 = some r), CallsD Try.prog 58 [.ptr o0 0] [(o0, Blk.cells [.lst 4 (m0.gL.map Kc) c0_0, iD m0.gAt, iD m0.gE, iD m0.gVars, iD m0.gOpen] T0)] [] (fun d h k => d = Ki r.1 ∧ h = [(o0, Blk.cells [.lst 4 (r.2.gL.map Kc) .no, iD r.2.gAt, iD r.2.gE, iD r.2.gVars, iD r.2.gOpen] T0)] ∧ k = [])) (hg1 : ∀ (m0 : Ke) (o0 : Nat) (T0 : TypeId) (c0_0 : Cap) (r : List Kj × Ke) (h0 : g1 m0 = some r), CallsD Try.prog 45 [.ptr o0 0, .fn (.func 73) [] []] [(o0, Blk.cells [.lst 4 (m0.gL.map Kc) c0_0, iD m0.gAt, iD m0.gE, iD m0.gVars, iD m0.gOpen] T0)] [] (fun d h k => ∃ y0, d = .lst 7 (r.1.map Ki) (.cur y0) ∧ h = [(o0, Blk.cells [.lst 4 (r.2.gL.map Kc) .no, iD r.2.gAt, iD r.2.gE, iD r.2.gVars, iD r.2.gOpen] T0)] ∧ k = [(7, y0)])) (m0 : Ke) (o0 : Nat) (T0 : TypeId) (c0_0 : Cap) (r : List Kj × Ke) (h0 : Kas g0 g1 m0 = some r) : CallsD Try.prog 45 [.ptr o0 0, .fn (.func 73) [] []] [(o0, Blk.cells [.lst 4 (m0.gL.map Kc) c0_0, iD m0.gAt, iD m0.gE, iD m0.gVars, iD m0.gOpen] T0)] [] (fun d h k => ∃ y0, d = .lst 7 (r.1.map Ki) (.cur y0) ∧ h = [(o0, Blk.cells [.lst 4 (r.2.gL.map Kc) .no, iD r.2.gAt, iD r.2.gE, iD r.2.gVars, iD r.2.gOpen] T0)] ∧ k = [(7, y0)]) := by
 have hm := KE h0
 unfold Kas at hm
 clear h0
 refine KW htab Try.func45 rfl rfl rfl rfl rfl (fun C => ?_)
 refine Kl ?_
 refine pu ?_
 refine Kv ?_
 iterate 3 refine pu ?_
 refine pL 0 ?_
 refine pu ?_
 refine Kv ?_
 refine pu ?_
 refine p_lit htab rfl rfl rfl rfl rfl rfl rfl rfl rfl rfl rfl rfl rfl rfl ?_
 refine p_eq (i := 12) (d' := .lst 1 (([(ByteArray.mk #[123])] : List ByteArray).map eStr) .full) rfl (Wk.lst0 (.cons (WkC.refl _) (.nil))) ?_
 obtain ⟨x1, q1, hm⟩ := Kf hm
 refine Kam (KZ m0 ([(ByteArray.mk #[123])] : List ByteArray) o0 T0 c0_0 x1 q1) rfl rfl rfl rfl rfl (WkL.cons (Wk.refl _) (WkL.cons (Wk.no) Wl)) Pf Pf ?_
 rintro _ _ _ ⟨rfl, rfl, rfl⟩
 refine Kh ?_
 refine Kq ?_
 refine Kl ?_
 iterate 3 refine pu ?_
 refine pL 0 ?_
 refine pu ?_
 refine Kh ?_
 obtain ⟨y4, q4, ho4⟩ := Kf hm
 refine K6 (Y := Unit) (fun z4 => (⟨[(0, .ptr o0 0), (1, .fn (.func 73) [] [])], [(o0, Blk.cells [.lst 4 (y4.1.map Kc) .no, iD y4.2.1, iD y4.2.2.1, iD y4.2.2.2.1, iD y4.2.2.2.2] T0)], []⟩ : S)) ?_ ?_
 ·clear hm; have hm := KE q4
  refine Ku rfl (fun hc5 => ?_) (fun hc5 => ?_)
  ·replace hm := yes_t hc5 hm
   refine KC ?_
   refine pu ?_
   refine pu ?_
   obtain ⟨x6, q6, hm⟩ := Kf hm
   refine pG (KaH x1 m0.gAt (5 : Int) o0 T0 c0_0 x6 q6) Wl Pf Pf ?_
   rintro _ _ _ ⟨rfl, rfl, rfl⟩
   refine KB ?_
   have e4 := Kn hm; subst e4
   refine ⟨rfl, ?_⟩
   refine WkX.wk (WkS.bl0 (ds' := [.lst 4 (x6.gL.map Kc) .no, iD x6.gAt, iD x6.gE, iD x6.gVars, iD x6.gOpen]) (rO (rC (rC (rC (rC WkR.nil)))))) ?_
   exact WkX.of () (WkS.perm (WkS.cons rfl (Wk.refl _) (WkS.cons rfl (Wk.refl _) (WkS.nil))) Pf Pf)
  ·replace hm := yes_f hc5 hm
   refine Ky ?_
   have e4 := Kn hm; subst e4
   refine ⟨rfl, ?_⟩
   refine WkX.wk (WkS.bl0 (ds' := [.lst 4 (x1.gL.map Kc) .no, iD x1.gAt, iD x1.gE, iD x1.gVars, iD x1.gOpen]) (rO (rC (rC (rC (rC WkR.nil)))))) ?_
   exact WkX.of () (WkS.perm (WkS.cons rfl (Wk.refl _) (WkS.cons rfl (Wk.refl _) (WkS.nil))) Pf Pf)
 ·intro s4 hw4; clear hm; have hm := ho4; clear q4 ho4
  refine Km ?_
  refine K3 hw4 (fun z4 => ?_)
  refine Kl ?_
  iterate 3 refine pu ?_
  refine pL 0 ?_
  iterate 3 refine pu ?_
  refine pS0 (ds' := [.lst 4 (y4.1.map Kc) .no, iD y4.2.1, iD y4.2.2.1, iD y4.2.2.2.1, iD (IntKind.i64.wrap (y4.2.2.2.2 + (1 : Int)))]) ?_
  refine Kv ?_
  refine pu ?_
  obtain ⟨x7, q7, hm⟩ := Kf hm
  refine p_callV0 (Kig x7 q7) rfl rfl rfl rfl rfl rfl rfl Wl ?_
  rintro _ rfl
  refine Kv ?_
  refine pu ?_
  refine Kh ?_
  refine Kq ?_
  obtain ⟨y37, q37, ho37⟩ := Kf hm
  refine K6 (Y := Value) (fun z37 => (⟨[(0, .ptr o0 0), (6, .lst 7 (y37.1.map Ki) (.cur z37))], [(o0, Blk.cells [.lst 4 (y37.2.1.map Kc) .no, iD y37.2.2.1, iD y37.2.2.2.1, iD y37.2.2.2.2.1, iD y37.2.2.2.2.2] T0)], [(7, z37)]⟩ : S)) ?_ ?_
  ·clear hm; have hm := KE q37
   refine KL ?_
   obtain ⟨u38, hl38, hq38⟩ := yes_m hm
   refine Kbe (Y := Value) hl38 (fun s38 z38 => (⟨[(0, .ptr o0 0), (6, .lst 7 (s38.1.map Ki) (.cur z38))], [(o0, Blk.cells [.lst 4 (s38.2.1.map Kc) .no, iD s38.2.2.1, iD s38.2.2.2.1, iD s38.2.2.2.2.1, iD s38.2.2.2.2.2] T0)], [(7, z38)]⟩ : S)) ?_ ?_
   ·skip
    refine WkX.tokN (i := 6) 7 rfl (fun w57 => ?_)
    exact WkX.of w57 (WkS.perm (WkS.cons rfl (Wk.refl _) (WkS.cons rfl (Wk.refl _) (WkS.nil))) Pf Pf)
   ·intro G38 s38 z38 hm
    refine Kq ?_
    refine Kq ?_
    obtain ⟨y60, q60, ho60⟩ := Kf hm
    refine K6 (Y := Unit) (fun z60 => (⟨[(0, .ptr o0 0), (6, .lst 7 (s38.1.map Ki) (.cur z38)), (40, .v (.bool y60.1))], [(o0, Blk.cells [.lst 4 (y60.2.1.map Kc) .no, iD y60.2.2.1, iD y60.2.2.2.1, iD y60.2.2.2.2.1, iD y60.2.2.2.2.2] T0)], [(7, z38)]⟩ : S)) ?_ ?_
    ·clear hm; have hm := KE q60
     refine KC ?_
     iterate 3 refine pu ?_
     refine pL 0 ?_
     refine pu ?_
     refine pu ?_
     refine K9 (i := 36) rfl (fun hg61 => ?_) (fun hg61 => ?_)
     ·replace hm := yes_t hg61 hm
      refine pu ?_
      obtain ⟨x62, q62, hm⟩ := Kf hm
      refine pG (Kad (⟨s38.2.1, s38.2.2.1, s38.2.2.2.1, s38.2.2.2.2.1, s38.2.2.2.2.2⟩ : Ke) (ByteArray.mk #[125]) o0 T0 .no x62 q62) Wl Pf Pf ?_
      rintro _ _ _ ⟨rfl, rfl, rfl⟩
      refine pu ?_
      refine KS rfl rfl rfl rfl rfl rfl ?_
      refine KB ?_
      have e60 := Kn hm; subst e60
      refine ⟨rfl, ?_⟩
      exact WkX.of () (WkS.perm (WkS.cons rfl (Wk.refl _) (WkS.cons rfl (Wk.refl _) (WkS.cons rfl (Wk.refl _) (WkS.nil)))) Pf Pf)
     ·replace hm := yes_f hg61 hm
      iterate 3 refine pK ?_
      refine KH rfl rfl rfl rfl rfl rfl ?_
      refine KB ?_
      have e60 := Kn hm; subst e60
      refine ⟨rfl, ?_⟩
      exact WkX.of () (WkS.perm (WkS.cons rfl (Wk.refl _) (WkS.cons rfl (Wk.refl _) (WkS.cons rfl (Wk.refl _) (WkS.nil)))) Pf Pf)
    ·intro s60 hw60; clear hm; have hm := ho60; clear q60 ho60
     refine Km ?_
     refine K3 hw60 (fun z60 => ?_)
     refine Ku rfl (fun hc63 => ?_) (fun hc63 => ?_)
     ·replace hm := yes_t hc63 hm
      refine Ky ?_
      refine Km ?_
      refine KL ?_
      refine KC ?_
      refine pu ?_
      refine pu ?_
      obtain ⟨x64, q64, hm⟩ := Kf hm
      refine pG (hg0 (⟨y60.2.1, y60.2.2.1, y60.2.2.2.1, y60.2.2.2.2.1, y60.2.2.2.2.2⟩ : Ke) o0 T0 .no x64 q64) Wl Pf Pf ?_
      rintro _ _ _ ⟨rfl, rfl, rfl⟩
      refine p_eq (i := 43) rfl (Wk.of_eq (Kp x64.1)) ?_
      refine p_lit htab rfl rfl rfl rfl rfl rfl rfl rfl rfl rfl rfl rfl rfl rfl ?_
      refine p_eq (i := 44) (d' := .lst 7 (([x64.1] : List Kj).map Ki) .full) rfl (Wk.lst0 (.cons (WkC.trans (WkC.agg (WkR.refl _)) (WkC.of_eq (Kp x64.1).symm)) (.nil))) ?_
      obtain ⟨x65, q65, hm⟩ := Kf hm
      refine KcS 0 htab rfl rfl rfl rfl rfl rfl rfl rfl rfl rfl rfl rfl rfl rfl rfl rfl rfl (Kbi q65) (fun v65 => ?_)
      refine KcT (i := 45) q65 rfl ?_
      refine pu ?_
      refine KB ?_
      refine KI ?_
      refine Km ⟨_, KaR hm, ?_⟩
      exact WkX.of v65 (WkS.perm (WkS.cons rfl (Wk.refl _) (WkS.cons rfl (Wk.refl _) (WkS.nil))) Pf Pf)
     ·replace hm := yes_f hc63 hm
      refine Kay ?_
      refine KN ?_
      have e38 := Kaq hm; subst e38; clear hm; have hm := hq38
      refine KN ?_
      refine Kao ?_
      have e37 := Kn hm; subst e37
      refine ⟨rfl, ?_⟩
      exact WkX.of z38 (WkS.perm (WkS.cons rfl (Wk.refl _) (WkS.cons rfl (Wk.refl _) (WkS.nil))) Pf Pf)
  ·intro s37 hw37; clear hm; have hm := ho37; clear q37 ho37
   refine Km ?_
   refine K3 hw37 (fun z37 => ?_)
   refine Kl ?_
   iterate 3 refine pu ?_
   refine pL 0 ?_
   iterate 3 refine pu ?_
   refine pS0 (ds' := [.lst 4 (y37.2.1.map Kc) .no, iD y37.2.2.1, iD y37.2.2.2.1, iD y37.2.2.2.2.1, iD (IntKind.i64.wrap (y37.2.2.2.2.2 - (1 : Int)))]) ?_
   refine Kv ?_
   refine pu ?_
   refine pu ?_
   refine Kh ?_
   refine Ks ?_
   have er66 := Kn hm; subst er66
   refine rP (t' := [(4, .lst 7 (y37.1.map Ki) (.cur z37))]) [0] [0] 1 (wC wN) (lT lN) ?_
   exact ⟨z37, rfl, rfl, rfl⟩
noncomputable def KO : Nat → ((Ke) → Option (Kj × Ke)) × ((Ke) → Option (List Kj × Ke))
 | 0 => (fun _ => none, fun _ => none)
 | n + 1 => (KaA ((KO n).1) ((KO n).2), Kas ((KO n).1) ((KO n).2))
theorem Kea : ∀ n, (∀ (m0 : Ke) (o0 : Nat) (T0 : TypeId) (c0_0 : Cap) (r : Kj × Ke) (h0 : (KO n).1 m0 = some r), CallsD Try.prog 58 [.ptr o0 0] [(o0, Blk.cells [.lst 4 (m0.gL.map Kc) c0_0, iD m0.gAt, iD m0.gE, iD m0.gVars, iD m0.gOpen] T0)] [] (fun d h k => d = Ki r.1 ∧ h = [(o0, Blk.cells [.lst 4 (r.2.gL.map Kc) .no, iD r.2.gAt, iD r.2.gE, iD r.2.gVars, iD r.2.gOpen] T0)] ∧ k = [])) ∧ (∀ (m0 : Ke) (o0 : Nat) (T0 : TypeId) (c0_0 : Cap) (r : List Kj × Ke) (h0 : (KO n).2 m0 = some r), CallsD Try.prog 45 [.ptr o0 0, .fn (.func 73) [] []] [(o0, Blk.cells [.lst 4 (m0.gL.map Kc) c0_0, iD m0.gAt, iD m0.gE, iD m0.gVars, iD m0.gOpen] T0)] [] (fun d h k => ∃ y0, d = .lst 7 (r.1.map Ki) (.cur y0) ∧ h = [(o0, Blk.cells [.lst 4 (r.2.gL.map Kc) .no, iD r.2.gAt, iD r.2.gE, iD r.2.gVars, iD r.2.gOpen] T0)] ∧ k = [(7, y0)]))
  | 0 => ⟨(fun _ _ _ _ _ h0 => by cases h0), (fun _ _ _ _ _ h0 => by cases h0)⟩
  | n + 1 => by
    have ih := Kea n
    exact ⟨Kgn ((KO n).1) ((KO n).2) (ih.1) (ih.2), KfL ((KO n).1) ((KO n).2) (ih.1) (ih.2)⟩
theorem Keb : ∀ n, (∀ (m0 : Ke), Le ((KO n).1 m0) ((KO (n + 1)).1 m0)) ∧ (∀ (m0 : Ke), Le ((KO n).2 m0) ((KO (n + 1)).2 m0))
  | 0 => ⟨fun _ => Le.none _, fun _ => Le.none _⟩
  | n + 1 => by
    have ih := Keb n
    exact ⟨fun m0 => by show Le (KaA ((KO n).1) ((KO n).2) m0) (KaA ((KO (n + 1)).1) ((KO (n + 1)).2) m0); unfold KaA; repeat (first | exact Le.refl _ | exact ih.1 _ | exact ih.2 _ | assumption | (refine Le.bind ?_ (fun _ => ?_)) | (refine Le.cond ?_ ?_) | (refine Le.loop (fun _ => ?_)) | (refine Le.elim (fun _ => ?_) (fun _ => ?_))), fun m0 => by show Le (Kas ((KO n).1) ((KO n).2) m0) (Kas ((KO (n + 1)).1) ((KO (n + 1)).2) m0); unfold Kas; repeat (first | exact Le.refl _ | exact ih.1 _ | exact ih.2 _ | assumption | (refine Le.bind ?_ (fun _ => ?_)) | (refine Le.cond ?_ ?_) | (refine Le.loop (fun _ => ?_)) | (refine Le.elim (fun _ => ?_) (fun _ => ?_)))⟩
noncomputable def Kba (m0 : Ke) : Option (Kj × Ke) := anyN fun n => (KO n).1 m0
theorem KeB (m0 : Ke) {r : Kj × Ke} (n : Nat) (h : (KO n).1 m0 = some r) : Kba m0 = some r := Kc8 (fun m => (Keb m).1 m0) h
theorem KgZ (m0 : Ke) (o0 : Nat) (T0 : TypeId) (c0_0 : Cap) (r : Kj × Ke) (h0 : Kba m0 = some r) : CallsD Try.prog 58 [.ptr o0 0] [(o0, Blk.cells [.lst 4 (m0.gL.map Kc) c0_0, iD m0.gAt, iD m0.gE, iD m0.gVars, iD m0.gOpen] T0)] [] (fun d h k => d = Ki r.1 ∧ h = [(o0, Blk.cells [.lst 4 (r.2.gL.map Kc) .no, iD r.2.gAt, iD r.2.gE, iD r.2.gVars, iD r.2.gOpen] T0)] ∧ k = []) :=
 let ⟨n, hn⟩ := KcB h0; (Kea n).1 m0 o0 T0 c0_0 r hn
noncomputable def KaI (m0 : Ke) (m2 : KQ) : Option (List Kj × Ke × KQ) :=
 ((KJ m0 ([(ByteArray.mk #[123])] : List ByteArray)).bind fun x1 => (Option.bind (α := List Kt × Int × Int × Int × Int) (bif (decide ((24 : Int) ≤ x1.gOpen)) then ((Kab x1 m0.gAt (5 : Int)).bind fun x6 => some (x6.gL, x6.gAt, x6.gE, x6.gVars, x6.gOpen)) else some (x1.gL, x1.gAt, x1.gE, x1.gVars, x1.gOpen)) fun y4 => ((Ka3 m2 (⟨y4.1, y4.2.1, y4.2.2.1, y4.2.2.2.1, (IntKind.i64.wrap (y4.2.2.2.2 + (1 : Int)))⟩ : Ke)).bind fun x8 => (Option.bind (α := List Kj × List Kt × Int × Int × Int × Int) (loopM (fun (s39 : List Kj × List Kt × Int × Int × Int × Int) => (Option.bind (α := Bool × List Kt × Int × Int × Int × Int) (bif (s39.2.2.2.1 == (0 : Int)) then ((KX (⟨s39.2.1, s39.2.2.1, s39.2.2.2.1, s39.2.2.2.2.1, s39.2.2.2.2.2⟩ : Ke) (ByteArray.mk #[125])).bind fun x63 => some ((!x63.1), x63.2.gL, x63.2.gAt, x63.2.gE, x63.2.gVars, x63.2.gOpen)) else some (false, s39.2.1, s39.2.2.1, s39.2.2.2.1, s39.2.2.2.2.1, s39.2.2.2.2.2)) fun y61 => (bif y61.1 then ((Kba (⟨y61.2.1, y61.2.2.1, y61.2.2.2.1, y61.2.2.2.2.1, y61.2.2.2.2.2⟩ : Ke)).bind fun x65 => ((app 120 s39.1 ([x65.1] : List Kj)).bind fun x66 => some (.next (x66, x65.2.gL, x65.2.gAt, x65.2.gE, x65.2.gVars, x65.2.gOpen)))) else some (.done (s39.1, y61.2.1, y61.2.2.1, y61.2.2.2.1, y61.2.2.2.2.1, y61.2.2.2.2.2))))) (([] : List Kj), x8.1.gL, x8.1.gAt, x8.1.gE, x8.1.gVars, x8.1.gOpen)) fun y38 => some (y38.1, (⟨y38.2.1, y38.2.2.1, y38.2.2.2.1, y38.2.2.2.2.1, (IntKind.i64.wrap (y38.2.2.2.2.2 - (1 : Int)))⟩ : Ke), x8.2)))))
theorem KgE (m0 : Ke) (m2 : KQ) (o0 : Nat) (T0 : TypeId) (c0_0 : Cap) (o1 : Nat) (T1 : TypeId) (o2 : Nat) (T2 : TypeId) (c2_1 : Cap) (k2_2 : Value) (c2_3 : Cap) (r : List Kj × Ke × KQ) (h0 : KaI m0 m2 = some r) : CallsD Try.prog 45 [.ptr o0 0, .fn (.func 46) [] [.ptr o1 0, .ptr o2 0]] [(o0, Blk.cells [.lst 4 (m0.gL.map Kc) c0_0, iD m0.gAt, iD m0.gE, iD m0.gVars, iD m0.gOpen] T0), (o1, Blk.cells [.ptr o0 0] T1), (o2, Blk.cells [tD m2.gName, .lst 2 (m2.gParams.map Kw) c2_1, .lst 2 (m2.gLocals.map Kw) (.cur k2_2), .lst 7 (m2.gBody.map Ki) c2_3, iD m2.gAt] T2)] [(2, k2_2)] (fun d h k => ∃ y0 y1, d = .lst 7 (r.1.map Ki) (.cur y0) ∧ h = [(o0, Blk.cells [.lst 4 (r.2.1.gL.map Kc) .no, iD r.2.1.gAt, iD r.2.1.gE, iD r.2.1.gVars, iD r.2.1.gOpen] T0), (o1, Blk.cells [.ptr o0 0] T1), (o2, Blk.cells [tD r.2.2.gName, .lst 2 (r.2.2.gParams.map Kw) c2_1, .lst 2 (r.2.2.gLocals.map Kw) (.cur y1), .lst 7 (r.2.2.gBody.map Ki) c2_3, iD r.2.2.gAt] T2)] ∧ k = [(7, y0), (2, y1)]) := by
 have hm := KE h0
 unfold KaI at hm
 clear h0
 refine KW htab Try.func45 rfl rfl rfl rfl rfl (fun C => ?_)
 refine Kl ?_
 refine pu ?_
 refine Kv ?_
 iterate 3 refine pu ?_
 refine pL 0 ?_
 refine pu ?_
 refine Kv ?_
 refine pu ?_
 refine p_lit htab rfl rfl rfl rfl rfl rfl rfl rfl rfl rfl rfl rfl rfl rfl ?_
 refine p_eq (i := 12) (d' := .lst 1 (([(ByteArray.mk #[123])] : List ByteArray).map eStr) .full) rfl (Wk.lst0 (.cons (WkC.refl _) (.nil))) ?_
 obtain ⟨x1, q1, hm⟩ := Kf hm
 refine Kam (KZ m0 ([(ByteArray.mk #[123])] : List ByteArray) o0 T0 c0_0 x1 q1) rfl rfl rfl rfl rfl (WkL.cons (Wk.refl _) (WkL.cons (Wk.no) Wl)) Pf Pf ?_
 rintro _ _ _ ⟨rfl, rfl, rfl⟩
 refine Kh ?_
 refine Kq ?_
 refine Kl ?_
 iterate 3 refine pu ?_
 refine pL 0 ?_
 refine pu ?_
 refine Kh ?_
 obtain ⟨y4, q4, ho4⟩ := Kf hm
 refine K6 (Y := Unit) (fun z4 => (⟨[(0, .ptr o0 0), (1, .fn (.func 46) [] [.ptr o1 0, .ptr o2 0])], [(o0, Blk.cells [.lst 4 (y4.1.map Kc) .no, iD y4.2.1, iD y4.2.2.1, iD y4.2.2.2.1, iD y4.2.2.2.2] T0), (o1, Blk.cells [.ptr o0 0] T1), (o2, Blk.cells [tD m2.gName, .lst 2 (m2.gParams.map Kw) c2_1, .lst 2 (m2.gLocals.map Kw) (.cur k2_2), .lst 7 (m2.gBody.map Ki) c2_3, iD m2.gAt] T2)], [(2, k2_2)]⟩ : S)) ?_ ?_
 ·clear hm; have hm := KE q4
  refine Ku rfl (fun hc5 => ?_) (fun hc5 => ?_)
  ·replace hm := yes_t hc5 hm
   refine KC ?_
   refine pu ?_
   refine pu ?_
   obtain ⟨x6, q6, hm⟩ := Kf hm
   refine pG (KaH x1 m0.gAt (5 : Int) o0 T0 c0_0 x6 q6) Wl Pf Pf ?_
   rintro _ _ _ ⟨rfl, rfl, rfl⟩
   refine KB ?_
   have e4 := Kn hm; subst e4
   refine ⟨rfl, ?_⟩
   refine WkX.wk (WkS.bl0 (ds' := [.lst 4 (x6.gL.map Kc) .no, iD x6.gAt, iD x6.gE, iD x6.gVars, iD x6.gOpen]) (rO (rC (rC (rC (rC WkR.nil)))))) ?_
   exact WkX.of () (WkS.perm (WkS.cons rfl (Wk.refl _) (WkS.cons rfl (Wk.refl _) (WkS.nil))) Pf Pf)
  ·replace hm := yes_f hc5 hm
   refine Ky ?_
   have e4 := Kn hm; subst e4
   refine ⟨rfl, ?_⟩
   refine WkX.wk (WkS.bl0 (ds' := [.lst 4 (x1.gL.map Kc) .no, iD x1.gAt, iD x1.gE, iD x1.gVars, iD x1.gOpen]) (rO (rC (rC (rC (rC WkR.nil)))))) ?_
   exact WkX.of () (WkS.perm (WkS.cons rfl (Wk.refl _) (WkS.cons rfl (Wk.refl _) (WkS.nil))) Pf Pf)
 ·intro s4 hw4; clear hm; have hm := ho4; clear q4 ho4
  refine Km ?_
  refine K3 hw4 (fun z4 => ?_)
  refine Kl ?_
  iterate 3 refine pu ?_
  refine pL 0 ?_
  iterate 3 refine pu ?_
  refine pS0 (ds' := [.lst 4 (y4.1.map Kc) .no, iD y4.2.1, iD y4.2.2.1, iD y4.2.2.2.1, iD (IntKind.i64.wrap (y4.2.2.2.2 + (1 : Int)))]) ?_
  refine Kv ?_
  refine pu ?_
  obtain ⟨x8, q8, hm⟩ := Kf hm
  refine Kf6 (Kfl m2 (⟨y4.1, y4.2.1, y4.2.2.1, y4.2.2.2.1, (IntKind.i64.wrap (y4.2.2.2.2 + (1 : Int)))⟩ : Ke) o1 T1 o0 T0 .no o2 T2 c2_1 k2_2 c2_3 x8 q8) rfl rfl rfl rfl rfl rfl rfl Wl ((Kap (j := 1) rfl).trans (List.Perm.cons _ ((Kap (j := 0) rfl).trans (List.Perm.cons _ ((Kap (j := 0) rfl).trans (List.Perm.cons _ Pf)))))) Pf ?_
  rintro _ _ _ ⟨w7, rfl, rfl, rfl⟩
  refine Kv ?_
  refine pu ?_
  refine Kh ?_
  refine Kq ?_
  obtain ⟨y38, q38, ho38⟩ := Kf hm
  refine K6 (Y := Value) (fun z38 => (⟨[(0, .ptr o0 0), (6, .lst 7 (y38.1.map Ki) (.cur z38))], [(o1, Blk.cells [.ptr o0 0] T1), (o0, Blk.cells [.lst 4 (y38.2.1.map Kc) .no, iD y38.2.2.1, iD y38.2.2.2.1, iD y38.2.2.2.2.1, iD y38.2.2.2.2.2] T0), (o2, Blk.cells [tD x8.2.gName, .lst 2 (x8.2.gParams.map Kw) c2_1, .lst 2 (x8.2.gLocals.map Kw) (.cur w7), .lst 7 (x8.2.gBody.map Ki) c2_3, iD x8.2.gAt] T2)], [(7, z38), (2, w7)]⟩ : S)) ?_ ?_
  ·clear hm; have hm := KE q38
   refine KL ?_
   obtain ⟨u39, hl39, hq39⟩ := yes_m hm
   refine Kbe (Y := Value) hl39 (fun s39 z39 => (⟨[(0, .ptr o0 0), (6, .lst 7 (s39.1.map Ki) (.cur z39))], [(o1, Blk.cells [.ptr o0 0] T1), (o0, Blk.cells [.lst 4 (s39.2.1.map Kc) .no, iD s39.2.2.1, iD s39.2.2.2.1, iD s39.2.2.2.2.1, iD s39.2.2.2.2.2] T0), (o2, Blk.cells [tD x8.2.gName, .lst 2 (x8.2.gParams.map Kw) c2_1, .lst 2 (x8.2.gLocals.map Kw) (.cur w7), .lst 7 (x8.2.gBody.map Ki) c2_3, iD x8.2.gAt] T2)], [(7, z39), (2, w7)]⟩ : S)) ?_ ?_
   ·skip
    refine WkX.tokN (i := 6) 7 rfl (fun w58 => ?_)
    exact WkX.of w58 (WkS.perm (WkS.cons rfl (Wk.refl _) (WkS.cons rfl (Wk.refl _) (WkS.nil))) Pf Pf)
   ·intro G39 s39 z39 hm
    refine Kq ?_
    refine Kq ?_
    obtain ⟨y61, q61, ho61⟩ := Kf hm
    refine K6 (Y := Unit) (fun z61 => (⟨[(0, .ptr o0 0), (6, .lst 7 (s39.1.map Ki) (.cur z39)), (40, .v (.bool y61.1))], [(o1, Blk.cells [.ptr o0 0] T1), (o0, Blk.cells [.lst 4 (y61.2.1.map Kc) .no, iD y61.2.2.1, iD y61.2.2.2.1, iD y61.2.2.2.2.1, iD y61.2.2.2.2.2] T0), (o2, Blk.cells [tD x8.2.gName, .lst 2 (x8.2.gParams.map Kw) c2_1, .lst 2 (x8.2.gLocals.map Kw) (.cur w7), .lst 7 (x8.2.gBody.map Ki) c2_3, iD x8.2.gAt] T2)], [(7, z39), (2, w7)]⟩ : S)) ?_ ?_
    ·clear hm; have hm := KE q61
     refine KC ?_
     iterate 3 refine pu ?_
     refine pL 1 ?_
     refine pu ?_
     refine pu ?_
     refine K9 (i := 36) rfl (fun hg62 => ?_) (fun hg62 => ?_)
     ·replace hm := yes_t hg62 hm
      refine pu ?_
      obtain ⟨x63, q63, hm⟩ := Kf hm
      refine pG (Kad (⟨s39.2.1, s39.2.2.1, s39.2.2.2.1, s39.2.2.2.2.1, s39.2.2.2.2.2⟩ : Ke) (ByteArray.mk #[125]) o0 T0 .no x63 q63) Wl ((Kap (j := 1) rfl).trans (List.Perm.cons _ Pf)) Pf ?_
      rintro _ _ _ ⟨rfl, rfl, rfl⟩
      refine pu ?_
      refine KS rfl rfl rfl rfl rfl rfl ?_
      refine KB ?_
      have e61 := Kn hm; subst e61
      refine ⟨rfl, ?_⟩
      exact WkX.of () (WkS.perm (WkS.cons rfl (Wk.refl _) (WkS.cons rfl (Wk.refl _) (WkS.cons rfl (Wk.refl _) (WkS.nil)))) ((Kap (j := 1) rfl).trans (List.Perm.cons _ ((Kap (j := 0) rfl).trans (List.Perm.cons _ ((Kap (j := 0) rfl).trans (List.Perm.cons _ Pf)))))) Pf)
     ·replace hm := yes_f hg62 hm
      iterate 3 refine pK ?_
      refine KH rfl rfl rfl rfl rfl rfl ?_
      refine KB ?_
      have e61 := Kn hm; subst e61
      refine ⟨rfl, ?_⟩
      exact WkX.of () (WkS.perm (WkS.cons rfl (Wk.refl _) (WkS.cons rfl (Wk.refl _) (WkS.cons rfl (Wk.refl _) (WkS.nil)))) Pf Pf)
    ·intro s61 hw61; clear hm; have hm := ho61; clear q61 ho61
     refine Km ?_
     refine K3 hw61 (fun z61 => ?_)
     refine Ku rfl (fun hc64 => ?_) (fun hc64 => ?_)
     ·replace hm := yes_t hc64 hm
      refine Ky ?_
      refine Km ?_
      refine KL ?_
      refine KC ?_
      refine pu ?_
      refine pu ?_
      obtain ⟨x65, q65, hm⟩ := Kf hm
      refine pG (KgZ (⟨y61.2.1, y61.2.2.1, y61.2.2.2.1, y61.2.2.2.2.1, y61.2.2.2.2.2⟩ : Ke) o0 T0 .no x65 q65) Wl ((Kap (j := 1) rfl).trans (List.Perm.cons _ Pf)) Pf ?_
      rintro _ _ _ ⟨rfl, rfl, rfl⟩
      refine p_eq (i := 43) rfl (Wk.of_eq (Kp x65.1)) ?_
      refine p_lit htab rfl rfl rfl rfl rfl rfl rfl rfl rfl rfl rfl rfl rfl rfl ?_
      refine p_eq (i := 44) (d' := .lst 7 (([x65.1] : List Kj).map Ki) .full) rfl (Wk.lst0 (.cons (WkC.trans (WkC.agg (WkR.refl _)) (WkC.of_eq (Kp x65.1).symm)) (.nil))) ?_
      obtain ⟨x66, q66, hm⟩ := Kf hm
      refine KcS 0 htab rfl rfl rfl rfl rfl rfl rfl rfl rfl rfl rfl rfl rfl rfl rfl rfl rfl (Kbi q66) (fun v66 => ?_)
      refine KcT (i := 45) q66 rfl ?_
      refine pu ?_
      refine KB ?_
      refine KI ?_
      refine Km ⟨_, KaR hm, ?_⟩
      exact WkX.of v66 (WkS.perm (WkS.cons rfl (Wk.refl _) (WkS.cons rfl (Wk.refl _) (WkS.nil))) ((Kap (j := 1) rfl).trans (List.Perm.cons _ ((Kap (j := 0) rfl).trans (List.Perm.cons _ ((Kap (j := 0) rfl).trans (List.Perm.cons _ Pf)))))) Pf)
     ·replace hm := yes_f hc64 hm
      refine Kay ?_
      refine KN ?_
      have e39 := Kaq hm; subst e39; clear hm; have hm := hq39
      refine KN ?_
      refine Kao ?_
      have e38 := Kn hm; subst e38
      refine ⟨rfl, ?_⟩
      exact WkX.of z39 (WkS.perm (WkS.cons rfl (Wk.refl _) (WkS.cons rfl (Wk.refl _) (WkS.nil))) Pf Pf)
  ·intro s38 hw38; clear hm; have hm := ho38; clear q38 ho38
   refine Km ?_
   refine K3 hw38 (fun z38 => ?_)
   refine Kl ?_
   iterate 3 refine pu ?_
   refine pL 1 ?_
   iterate 3 refine pu ?_
   refine pS1 (ds' := [.lst 4 (y38.2.1.map Kc) .no, iD y38.2.2.1, iD y38.2.2.2.1, iD y38.2.2.2.2.1, iD (IntKind.i64.wrap (y38.2.2.2.2.2 - (1 : Int)))]) ?_
   refine Kv ?_
   refine pu ?_
   refine pu ?_
   refine Kh ?_
   refine Ks ?_
   have er67 := Kn hm; subst er67
   refine rP (t' := [(4, .lst 7 (y38.1.map Ki) (.cur z38))]) [1,0,0] [0,0] 3 (wC wN) (lT lN) ?_
   exact ⟨z38, w7, rfl, rfl, rfl⟩
noncomputable def Kb6 (g0 : (Ka) → Option (Int)) (a0 : Ka) : Option (Int) :=
 (Option.bind (α := Int) (loopM (fun (s19 : Int × Int) => (bif (decide (s19.2 < (a0.gKids.length : Int))) then ((idx a0.gKids s19.2).bind fun x31 => ((g0 x31).bind fun x33 => some (.next ((IntKind.i64.wrap (s19.1 + x33)), (IntKind.i64.wrap (s19.2 + (1 : Int))))))) else some (.done s19.1))) ((1 : Int), (0 : Int))) fun y18 => some y18)
theorem Kjo (g0 : (Ka) → Option (Int)) (hg0 : ∀ (a0 : Ka) (r : Int) (h0 : g0 a0 = some r), CallsD Try.prog 59 [Kg a0] [] [] (fun d h k => d = iD r ∧ h = [] ∧ k = [])) (a0 : Ka) (r : Int) (h0 : Kb6 g0 a0 = some r) : CallsD Try.prog 59 [Kg a0] [] [] (fun d h k => d = iD r ∧ h = [] ∧ k = []) := by
 have hm := KE h0
 unfold Kb6 at hm
 clear h0
 refine KW htab Try.func59 rfl rfl rfl rfl rfl (fun C => ?_)
 refine w_eq (i := 0) rfl (Wk.of_eq (Kk a0)) ?_
 refine Kl ?_
 refine p_box rfl rfl rfl rfl rfl rfl rfl (fun b1 => ?_)
 refine pu ?_
 refine Kv ?_
 refine pu ?_
 refine Kh ?_
 refine Kq ?_
 refine Kl ?_
 refine pu ?_
 refine pL 0 ?_
 refine KaP htab rfl rfl rfl rfl rfl rfl rfl (by first | exact Kaf | rfl) ?_
 refine pu ?_
 refine Kh ?_
 obtain ⟨y18, q18, ho18⟩ := Kf hm
 refine K6 (Y := Unit) (fun z18 => (⟨[(3, iD y18)], [], []⟩ : S)) ?_ ?_
 ·clear hm; have hm := KE q18
  refine KL ?_
  obtain ⟨u19, hl19, hq19⟩ := yes_m hm
  refine Kbe (Y := Unit) hl19 (fun s19 z19 => (⟨[(3, iD s19.1), (7, .lst 5 (a0.gKids.map Kg) .no), (8, iD (a0.gKids.length : Int)), (9, iD s19.2)], [], []⟩ : S)) ?_ ?_
  ·skip
   exact WkX.of () (WkS.perm (WkS.cons rfl (Wk.refl _) (WkS.cons rfl (Wk.refl _) (WkS.cons rfl (Wk.refl _) (WkS.cons rfl (Wk.refl _) (WkS.nil))))) Pf Pf)
  ·intro G19 s19 z19 hm
   refine Kl ?_
   refine pu ?_
   refine Kh ?_
   refine Kq ?_
   refine Ku rfl (fun hc30 => ?_) (fun hc30 => ?_)
   ·replace hm := yes_t hc30 hm
    refine Ky ?_
    refine Km ?_
    refine Kq ?_
    refine KL ?_
    refine Kl ?_
    obtain ⟨x31, q31, hm⟩ := Kf hm
    refine Ka8 htab rfl rfl rfl rfl rfl rfl rfl rfl rfl rfl (Kr q31) (Kz q31) ?_
    refine p_eq (i := 11) rfl (Wk.of_eq (congrArg D.el (Kk x31))) ?_
    refine KaE (d := .agg [iD x31.gOp, iD x31.gN, tD x31.gName, .lst 5 (x31.gKids.map Kg) .no, iD x31.gAt]) htab rfl rfl rfl rfl rfl rfl rfl rfl ?_
    refine KP htab rfl rfl rfl rfl rfl rfl rfl (fun b32 => ?_)
    refine pS0 (ds' := [iD x31.gOp, iD x31.gN, tD x31.gName, .lst 5 (x31.gKids.map Kg) .no, iD x31.gAt]) ?_
    refine Kh ?_
    refine KC ?_
    refine pu ?_
    refine K7 (d := .agg [iD x31.gOp, iD x31.gN, tD x31.gName, .lst 5 (x31.gKids.map Kg) .no, iD x31.gAt]) 0 htab rfl rfl rfl rfl rfl rfl rfl rfl ?_
    obtain ⟨x33, q33, hm⟩ := Kf hm
    refine KaJ (hg0 x31 x33 q33) rfl rfl rfl rfl rfl (WkL.cons (Wk.trans (Wk.agg (WkR.refl _)) (Wk.of_eq (Kk x31).symm)) Wl) ?_
    rintro _ rfl
    refine pu ?_
    refine pu ?_
    refine KB ?_
    refine KI ?_
    refine Km ?_
    refine KC ?_
    refine pu ?_
    refine pu ?_
    refine KB ?_
    refine Km ⟨_, KaR hm, ?_⟩
    exact WkX.of () (WkS.perm (WkS.cons rfl (Wk.refl _) (WkS.cons rfl (Wk.refl _) (WkS.cons rfl (Wk.refl _) (WkS.cons rfl (Wk.refl _) (WkS.nil))))) Pf Pf)
   ·replace hm := yes_f hc30 hm
    refine Kay ?_
    refine KN ?_
    have e19 := Kaq hm; subst e19; clear hm; have hm := hq19
    refine KN ?_
    refine Kao ?_
    have e18 := Kn hm; subst e18
    refine ⟨rfl, ?_⟩
    exact WkX.of () (WkS.perm (WkS.cons rfl (Wk.refl _) (WkS.nil)) Pf Pf)
 ·intro s18 hw18; clear hm; have hm := ho18; clear q18 ho18
  refine Km ?_
  refine K3 hw18 (fun z18 => ?_)
  refine Kl ?_
  refine pu ?_
  refine pu ?_
  refine Kh ?_
  refine Ks ?_
  have er34 := Kn hm; subst er34
  refine rP (t' := [(2, iD y18)]) [] [] 0 (wC wN) (lT lN) ?_
  exact ⟨rfl, rfl, rfl⟩
noncomputable def KbH : Nat → ((Ka) → Option (Int))
 | 0 => (fun _ => none)
 | n + 1 => (Kb6 ((KbH n)))
theorem Khf : ∀ n, (∀ (a0 : Ka) (r : Int) (h0 : (KbH n) a0 = some r), CallsD Try.prog 59 [Kg a0] [] [] (fun d h k => d = iD r ∧ h = [] ∧ k = []))
  | 0 => fun _ _ h0 => by cases h0
  | n + 1 => by
    have ih := Khf n
    exact Kjo (KbH n) ih
theorem Khg : ∀ n, (∀ (a0 : Ka), Le ((KbH n) a0) ((KbH (n + 1)) a0))
  | 0 => fun _ => Le.none _
  | n + 1 => by
    have ih := Khg n
    exact fun a0 => by show Le (Kb6 ((KbH n)) a0) (Kb6 ((KbH (n + 1))) a0); unfold Kb6; repeat (first | exact Le.refl _ | exact ih _ | assumption | (refine Le.bind ?_ (fun _ => ?_)) | (refine Le.cond ?_ ?_) | (refine Le.loop (fun _ => ?_)) | (refine Le.elim (fun _ => ?_) (fun _ => ?_)))
noncomputable def KfD (a0 : Ka) : Option (Int) := anyN fun n => (KbH n) a0
theorem Kih (a0 : Ka) {r : Int} (n : Nat) (h : (KbH n) a0 = some r) : KfD a0 = some r := Kc8 (fun m => (Khg m) a0) h
theorem Kkm (a0 : Ka) (r : Int) (h0 : KfD a0 = some r) : CallsD Try.prog 59 [Kg a0] [] [] (fun d h k => d = iD r ∧ h = [] ∧ k = []) :=
 let ⟨n, hn⟩ := KcB h0; (Khf n) a0  r hn
noncomputable def KbS (g0 : (List Kj) → Option (Int)) (a0 : List Kj) : Option (Int) :=
 (Option.bind (α := Int) (loopM (fun (s115 : Int × Int) => (bif (decide (s115.2 < (a0.length : Int))) then ((idx a0 s115.2).bind fun x191 => ((g0 x191.gKids).bind fun x193 => ((g0 x191.gElse).bind fun x194 => (Option.bind (α := Int) (loopM (fun (s211 : Int × Int) => (bif (decide (s211.2 < (x191.gExps.length : Int))) then ((idx x191.gExps s211.2).bind fun x223 => ((KfD x223).bind fun x225 => some (.next ((IntKind.i64.wrap (s211.1 + x225)), (IntKind.i64.wrap (s211.2 + (1 : Int))))))) else some (.done s211.1))) ((IntKind.i64.wrap (s115.1 + (IntKind.i64.wrap ((IntKind.i64.wrap ((1 : Int) + x193)) + x194)))), (0 : Int))) fun y210 => some (.next (y210, (IntKind.i64.wrap (s115.2 + (1 : Int))))))))) else some (.done s115.1))) ((0 : Int), (0 : Int))) fun y114 => some y114)
theorem Kjg (g0 : (List Kj) → Option (Int)) (hg0 : ∀ (a0 : List Kj) (r : Int) (h0 : g0 a0 = some r), CallsD Try.prog 48 [.lst 7 (a0.map Ki) .no] [] [] (fun d h k => d = iD r ∧ h = [] ∧ k = [])) (a0 : List Kj) (r : Int) (h0 : KbS g0 a0 = some r) : CallsD Try.prog 48 [.lst 7 (a0.map Ki) .no] [] [] (fun d h k => d = iD r ∧ h = [] ∧ k = []) := by
 have hm := KE h0
 unfold KbS at hm
 clear h0
 refine KW htab Try.func48 rfl rfl rfl rfl rfl (fun C => ?_)
 refine Kl ?_
 refine pu ?_
 refine Kv ?_
 refine pu ?_
 refine Kh ?_
 refine Kq ?_
 refine Kl ?_
 refine pu ?_
 refine KaP htab rfl rfl rfl rfl rfl rfl rfl (by first | exact Kaf | rfl) ?_
 refine pu ?_
 refine Kh ?_
 obtain ⟨y114, q114, ho114⟩ := Kf hm
 refine K6 (Y := Unit) (fun z114 => (⟨[(3, iD y114)], [], []⟩ : S)) ?_ ?_
 ·clear hm; have hm := KE q114
  refine KL ?_
  obtain ⟨u115, hl115, hq115⟩ := yes_m hm
  refine Kbe (Y := Unit) hl115 (fun s115 z115 => (⟨[(3, iD s115.1), (8, .lst 7 (a0.map Ki) .no), (9, iD (a0.length : Int)), (10, iD s115.2)], [], []⟩ : S)) ?_ ?_
  ·skip
   exact WkX.of () (WkS.perm (WkS.cons rfl (Wk.refl _) (WkS.cons rfl (Wk.refl _) (WkS.cons rfl (Wk.refl _) (WkS.cons rfl (Wk.refl _) (WkS.nil))))) Pf Pf)
  ·intro G115 s115 z115 hm
   refine Kl ?_
   refine pu ?_
   refine Kh ?_
   refine Kq ?_
   refine Ku rfl (fun hc190 => ?_) (fun hc190 => ?_)
   ·replace hm := yes_t hc190 hm
    refine Ky ?_
    refine Km ?_
    refine Kq ?_
    refine KL ?_
    refine Kl ?_
    obtain ⟨x191, q191, hm⟩ := Kf hm
    refine Ka8 htab rfl rfl rfl rfl rfl rfl rfl rfl rfl rfl (Kr q191) (Kz q191) ?_
    refine p_eq (i := 12) rfl (Wk.of_eq (congrArg D.el (Kp x191))) ?_
    refine KaE (d := .agg [iD x191.gOp, tD x191.gName, tD x191.gFunc, .lst 5 (x191.gExps.map Kg) .no, .lst 7 (x191.gKids.map Ki) .no, .lst 7 (x191.gElse.map Ki) .no, iD x191.gAt]) htab rfl rfl rfl rfl rfl rfl rfl rfl ?_
    refine KP htab rfl rfl rfl rfl rfl rfl rfl (fun b192 => ?_)
    refine pS0 (ds' := [iD x191.gOp, tD x191.gName, tD x191.gFunc, .lst 5 (x191.gExps.map Kg) .no, .lst 7 (x191.gKids.map Ki) .no, .lst 7 (x191.gElse.map Ki) .no, iD x191.gAt]) ?_
    refine Kh ?_
    refine Kq ?_
    obtain ⟨x193, q193, hm⟩ := Kf hm
    obtain ⟨x194, q194, hm⟩ := Kf hm
    refine Kaj 9 [] [[],[],[1],[1,2],[1,2,3],[],[5],[1,2,3,5,6],[1,2,3,5,6,7]] [1,2,3,5,6,7] [[],[],[1],[1,2],[1,2,3],[],[5],[1,2,3,5,6],[1,2,3,4,5,6,7],[0,1,2,3,4,5,6,7,8],[0,1,2,3,4,5,6,7,8,9]] (by kernel_rfl) (by kernel_rfl) (by kernel_rfl) (by rfl) (by rfl) (by kernel_rfl) ?_
    iterate 6 apply Exists.intro
    intro bs
    refine zqp ?_
    refine zep ?_
    refine z_eM rfl rfl (KF 0 htab rfl rfl rfl rfl rfl) rfl rfl rfl rfl rfl rfl ?_
    refine KdD rfl rfl (hg0 x191.gKids x193 q193) rfl rfl Wl rfl rfl rfl rfl rfl rfl ?_
    refine zqp ?_
    refine zep ?_
    refine z_eM rfl rfl (KF 0 htab rfl rfl rfl rfl rfl) rfl rfl rfl rfl rfl rfl ?_
    refine KdD rfl rfl (hg0 x191.gElse x194 q194) rfl rfl Wl rfl rfl rfl rfl rfl rfl ?_
    refine zqp ?_
    refine z_nil rfl rfl (fun e he => by simp [isAl] at he) ?_
    refine pu ?_
    refine pu ?_
    refine Kv ?_
    refine pu ?_
    refine pL 0 ?_
    refine KaP htab rfl rfl rfl rfl rfl rfl rfl (by first | exact Kaf | rfl) ?_
    refine pu ?_
    refine Kh ?_
    obtain ⟨y210, q210, ho210⟩ := Kf hm
    refine K6 (Y := Unit) (fun z210 => (⟨[(3, iD y210), (8, .lst 7 (a0.map Ki) .no), (9, iD (a0.length : Int)), (10, iD s115.2)], [], []⟩ : S)) ?_ ?_
    ·clear hm; have hm := KE q210
     refine KL ?_
     obtain ⟨u211, hl211, hq211⟩ := yes_m hm
     refine Kbe (Y := Unit) hl211 (fun s211 z211 => (⟨[(3, iD s211.1), (8, .lst 7 (a0.map Ki) .no), (9, iD (a0.length : Int)), (10, iD s115.2), (25, .lst 5 (x191.gExps.map Kg) .no), (26, iD (x191.gExps.length : Int)), (27, iD s211.2)], [], []⟩ : S)) ?_ ?_
     ·skip
      exact WkX.of () (WkS.perm (WkS.cons rfl (Wk.refl _) (WkS.cons rfl (Wk.refl _) (WkS.cons rfl (Wk.refl _) (WkS.cons rfl (Wk.refl _) (WkS.cons rfl (Wk.refl _) (WkS.cons rfl (Wk.refl _) (WkS.cons rfl (Wk.refl _) (WkS.nil)))))))) Pf Pf)
     ·intro G211 s211 z211 hm
      refine Kl ?_
      refine pu ?_
      refine Kh ?_
      refine Kq ?_
      refine Ku rfl (fun hc222 => ?_) (fun hc222 => ?_)
      ·replace hm := yes_t hc222 hm
       refine Ky ?_
       refine Km ?_
       refine Kq ?_
       refine KL ?_
       refine Kl ?_
       obtain ⟨x223, q223, hm⟩ := Kf hm
       refine Ka8 htab rfl rfl rfl rfl rfl rfl rfl rfl rfl rfl (Kr q223) (Kz q223) ?_
       refine p_eq (i := 29) rfl (Wk.of_eq (congrArg D.el (Kk x223))) ?_
       refine KaE (d := .agg [iD x223.gOp, iD x223.gN, tD x223.gName, .lst 5 (x223.gKids.map Kg) .no, iD x223.gAt]) htab rfl rfl rfl rfl rfl rfl rfl rfl ?_
       refine KP htab rfl rfl rfl rfl rfl rfl rfl (fun b224 => ?_)
       refine pS0 (ds' := [iD x223.gOp, iD x223.gN, tD x223.gName, .lst 5 (x223.gKids.map Kg) .no, iD x223.gAt]) ?_
       refine Kh ?_
       refine KC ?_
       refine pu ?_
       refine K7 (d := .agg [iD x223.gOp, iD x223.gN, tD x223.gName, .lst 5 (x223.gKids.map Kg) .no, iD x223.gAt]) 0 htab rfl rfl rfl rfl rfl rfl rfl rfl ?_
       obtain ⟨x225, q225, hm⟩ := Kf hm
       refine KaJ (Kkm x223 x225 q225) rfl rfl rfl rfl rfl (WkL.cons (Wk.trans (Wk.agg (WkR.refl _)) (Wk.of_eq (Kk x223).symm)) Wl) ?_
       rintro _ rfl
       refine pu ?_
       refine pu ?_
       refine KB ?_
       refine KI ?_
       refine Km ?_
       refine KC ?_
       refine pu ?_
       refine pu ?_
       refine KB ?_
       refine Km ⟨_, KaR hm, ?_⟩
       exact WkX.of () (WkS.perm (WkS.cons rfl (Wk.refl _) (WkS.cons rfl (Wk.refl _) (WkS.cons rfl (Wk.refl _) (WkS.cons rfl (Wk.refl _) (WkS.cons rfl (Wk.refl _) (WkS.cons rfl (Wk.refl _) (WkS.cons rfl (Wk.refl _) (WkS.nil)))))))) Pf Pf)
      ·replace hm := yes_f hc222 hm
       refine Kay ?_
       refine KN ?_
       have e211 := Kaq hm; subst e211; clear hm; have hm := hq211
       refine KN ?_
       refine Kao ?_
       have e210 := Kn hm; subst e210
       refine ⟨rfl, ?_⟩
       exact WkX.of () (WkS.perm (WkS.cons rfl (Wk.refl _) (WkS.cons rfl (Wk.refl _) (WkS.cons rfl (Wk.refl _) (WkS.cons rfl (Wk.refl _) (WkS.nil))))) Pf Pf)
    ·intro s210 hw210; clear hm; have hm := ho210; clear q210 ho210
     refine KI ?_
     refine Km ?_
     refine K3 hw210 (fun z210 => ?_)
     refine KC ?_
     refine pu ?_
     refine pu ?_
     refine KB ?_
     refine Km ⟨_, KaR hm, ?_⟩
     exact WkX.of () (WkS.perm (WkS.cons rfl (Wk.refl _) (WkS.cons rfl (Wk.refl _) (WkS.cons rfl (Wk.refl _) (WkS.cons rfl (Wk.refl _) (WkS.nil))))) Pf Pf)
   ·replace hm := yes_f hc190 hm
    refine Kay ?_
    refine KN ?_
    have e115 := Kaq hm; subst e115; clear hm; have hm := hq115
    refine KN ?_
    refine Kao ?_
    have e114 := Kn hm; subst e114
    refine ⟨rfl, ?_⟩
    exact WkX.of () (WkS.perm (WkS.cons rfl (Wk.refl _) (WkS.nil)) Pf Pf)
 ·intro s114 hw114; clear hm; have hm := ho114; clear q114 ho114
  refine Km ?_
  refine K3 hw114 (fun z114 => ?_)
  refine Kl ?_
  refine pu ?_
  refine pu ?_
  refine Kh ?_
  refine Ks ?_
  have er226 := Kn hm; subst er226
  refine rP (t' := [(2, iD y114)]) [] [] 0 (wC wN) (lT lN) ?_
  exact ⟨rfl, rfl, rfl⟩
noncomputable def Kbu : Nat → ((List Kj) → Option (Int))
 | 0 => (fun _ => none)
 | n + 1 => (KbS ((Kbu n)))
theorem KgL : ∀ n, (∀ (a0 : List Kj) (r : Int) (h0 : (Kbu n) a0 = some r), CallsD Try.prog 48 [.lst 7 (a0.map Ki) .no] [] [] (fun d h k => d = iD r ∧ h = [] ∧ k = []))
  | 0 => fun _ _ h0 => by cases h0
  | n + 1 => by
    have ih := KgL n
    exact Kjg (Kbu n) ih
theorem KgM : ∀ n, (∀ (a0 : List Kj), Le ((Kbu n) a0) ((Kbu (n + 1)) a0))
  | 0 => fun _ => Le.none _
  | n + 1 => by
    have ih := KgM n
    exact fun a0 => by show Le (KbS ((Kbu n)) a0) (KbS ((Kbu (n + 1))) a0); unfold KbS; repeat (first | exact Le.refl _ | exact ih _ | assumption | (refine Le.bind ?_ (fun _ => ?_)) | (refine Le.cond ?_ ?_) | (refine Le.loop (fun _ => ?_)) | (refine Le.elim (fun _ => ?_) (fun _ => ?_)))
noncomputable def Kes (a0 : List Kj) : Option (Int) := anyN fun n => (Kbu n) a0
theorem KhW (a0 : List Kj) {r : Int} (n : Nat) (h : (Kbu n) a0 = some r) : Kes a0 = some r := Kc8 (fun m => (KgM m) a0) h
theorem Kj8 (a0 : List Kj) (r : Int) (h0 : Kes a0 = some r) : CallsD Try.prog 48 [.lst 7 (a0.map Ki) .no] [] [] (fun d h k => d = iD r ∧ h = [] ∧ k = []) :=
 let ⟨n, hn⟩ := KcB h0; (KgL n) a0  r hn
noncomputable def KaZ (m0 : Ke) : Option (KQ × Ke) :=
 ((Kar m0 (0 : Int)).bind fun x3 => ((KJ m0 ([(ByteArray.mk #[105, 110, 116])] : List ByteArray)).bind fun x5 => ((Kaw x5).bind fun x6 => ((Kaz x6.2).bind fun x8 => ((KaI x8.2 (⟨x6.1, x8.1, [], [], x3.gAt⟩ : KQ)).bind fun x12 => (Option.bind (α := Bool) (bif (x12.2.1.gE == (0 : Int)) then ((Kes x12.1).bind fun x17 => some (decide ((800 : Int) < x17))) else some false) fun y15 => (bif y15 then ((Kab x12.2.1 x5.gAt (6 : Int)).bind fun x19 => some ((⟨x12.2.2.gName, x12.2.2.gParams, x12.2.2.gLocals, x12.1, x12.2.2.gAt⟩ : KQ), x19)) else some ((⟨x12.2.2.gName, x12.2.2.gParams, x12.2.2.gLocals, x12.1, x12.2.2.gAt⟩ : KQ), x12.2.1))))))))
theorem KfM (m0 : Ke) (o0 : Nat) (T0 : TypeId) (c0_0 : Cap) (r : KQ × Ke) (h0 : KaZ m0 = some r) : CallsD Try.prog 22 [.ptr o0 0] [(o0, Blk.cells [.lst 4 (m0.gL.map Kc) c0_0, iD m0.gAt, iD m0.gE, iD m0.gVars, iD m0.gOpen] T0)] [] (fun d h k => ∃ y0 y1 y2, d = .agg [tD r.1.gName, .lst 2 (r.1.gParams.map Kw) (.cur y0), .lst 2 (r.1.gLocals.map Kw) (.cur y1), .lst 7 (r.1.gBody.map Ki) (.cur y2), iD r.1.gAt] ∧ h = [(o0, Blk.cells [.lst 4 (r.2.gL.map Kc) .no, iD r.2.gAt, iD r.2.gE, iD r.2.gVars, iD r.2.gOpen] T0)] ∧ k = [(2, y0), (2, y1), (7, y2)]) := by
 have hm := KE h0
 unfold KaZ at hm
 clear h0
 refine KW htab Try.func22 rfl rfl rfl rfl rfl (fun C => ?_)
 refine Kl ?_
 refine p_box rfl rfl rfl rfl rfl rfl rfl (fun b1 => ?_)
 refine KP htab rfl rfl rfl rfl rfl rfl rfl (fun b2 => ?_)
 refine Kv ?_
 refine pL 1 ?_
 obtain ⟨x3, q3, hm⟩ := Kf hm
 refine pG (Kbg m0 (0 : Int) o0 T0 c0_0 x3 q3) Wl Pf Pf ?_
 rintro _ _ _ ⟨rfl, rfl, rfl⟩
 refine pu ?_
 refine Kal (r := [tD ByteArray.empty, .lst 1 [] .full, .lst 1 [] .full, .lst 1 [] .full, iD x3.gAt]) htab rfl rfl rfl rfl rfl rfl rfl rfl rfl ?_
 refine KP htab rfl rfl rfl rfl rfl rfl rfl (fun b4 => ?_)
 refine pS3 (ds' := [tD ByteArray.empty, .lst 1 [] .full, .lst 1 [] .full, .lst 1 [] .full, iD x3.gAt]) ?_
 refine Kv ?_
 refine pL 1 ?_
 refine p_lit htab rfl rfl rfl rfl rfl rfl rfl rfl rfl rfl rfl rfl rfl rfl ?_
 refine p_eq (i := 10) (d' := .lst 1 (([(ByteArray.mk #[105, 110, 116])] : List ByteArray).map eStr) .full) rfl (Wk.lst0 (.cons (WkC.refl _) (.nil))) ?_
 obtain ⟨x5, q5, hm⟩ := Kf hm
 refine Kam (KZ m0 ([(ByteArray.mk #[105, 110, 116])] : List ByteArray) o0 T0 c0_0 x5 q5) rfl rfl rfl rfl rfl (WkL.cons (Wk.refl _) (WkL.cons (Wk.no) Wl)) Pf Pf ?_
 rintro _ _ _ ⟨rfl, rfl, rfl⟩
 refine Kv ?_
 refine pL 1 ?_
 refine pu ?_
 refine pu ?_
 refine pL 0 ?_
 refine pu ?_
 refine Kv ?_
 refine pL 1 ?_
 obtain ⟨x6, q6, hm⟩ := Kf hm
 refine pG (Kby x5 o0 T0 c0_0 x6 q6) Wl Pf Pf ?_
 rintro _ _ _ ⟨rfl, rfl, rfl⟩
 refine pu ?_
 refine pS3 (ds' := [tD x6.1, .lst 1 [] .full, .lst 1 [] .full, .lst 1 [] .full, iD x3.gAt]) ?_
 refine Kv ?_
 refine pL 1 ?_
 refine pL 1 ?_
 refine pu ?_
 obtain ⟨x8, q8, hm⟩ := Kf hm
 refine pG (KgC x6.2 o0 T0 c0_0 x8 q8) Wl Pf Pf ?_
 rintro _ _ _ ⟨w7, rfl, rfl, rfl⟩
 refine pu ?_
 refine pS3 (ds' := [tD x6.1, .lst 2 (x8.1.map Kw) (.cur w7), .lst 1 [] .full, .lst 1 [] .full, iD x3.gAt]) ?_
 refine Kv ?_
 refine pL 1 ?_
 refine pu ?_
 refine p_cellF (off := 2) 2 3 rfl rfl (by first | exact Or.inl rfl | exact Or.inr rfl) (fun w9 => ?_)
 refine o_blk 3 rfl (ds' := [tD x6.1, .lst 2 (x8.1.map Kw) (.cur w7), .lst 2 (([] : List KR).map Kw) (.cur w9), .lst 7 (([] : List Kj).map Ki) .full, iD x3.gAt]) (rC (rC (rC (WkR.cons (WkC.nilF) rfl (rC WkR.nil))))) rfl ?_
 obtain ⟨x12, q12, hm⟩ := Kf hm
 refine pG (KgE x8.2 (⟨x6.1, x8.1, [], [], x3.gAt⟩ : KQ) o0 T0 .no b1 59 b4 26 (.cur w7) w9 .full x12 q12) Wl ((Kap (j := 0) rfl).trans (List.Perm.cons _ ((Kap (j := 0) rfl).trans (List.Perm.cons _ ((Kap (j := 1) rfl).trans (List.Perm.cons _ Pf)))))) Pf ?_
 rintro _ _ _ ⟨w10, w11, rfl, rfl, rfl⟩
 refine pu ?_
 refine pS2 (ds' := [tD x12.2.2.gName, .lst 2 (x12.2.2.gParams.map Kw) (.cur w7), .lst 2 (x12.2.2.gLocals.map Kw) (.cur w11), .lst 7 (x12.1.map Ki) (.cur w10), iD x12.2.2.gAt]) ?_
 refine Kh ?_
 refine Kq ?_
 refine Kq ?_
 obtain ⟨y15, q15, ho15⟩ := Kf hm
 refine K6 (Y := Unit) (fun z15 => (⟨[(1, .ptr b1 0), (2, .ptr b2 0), (3, .ptr b4 0), (4, iD x5.gAt), (38, .v (.bool y15))], [(o0, Blk.cells [.lst 4 (x12.2.1.gL.map Kc) .no, iD x12.2.1.gAt, iD x12.2.1.gE, iD x12.2.1.gVars, iD x12.2.1.gOpen] T0), (b1, Blk.cells [.ptr o0 0] 59), (b4, Blk.cells [tD x12.2.2.gName, .lst 2 (x12.2.2.gParams.map Kw) (.cur w7), .lst 2 (x12.2.2.gLocals.map Kw) (.cur w11), .lst 7 (x12.1.map Ki) (.cur w10), iD x12.2.2.gAt] 26), (b2, Blk.cells [tD ByteArray.empty, .lst 1 [] .full, .lst 1 [] .full, .lst 1 [] .full, iD (0 : Int)] 26)], [(7, w10), (2, w11), (2, w7)]⟩ : S)) ?_ ?_
 ·clear hm; have hm := KE q15
  refine KC ?_
  refine pL 1 ?_
  refine pu ?_
  refine pu ?_
  refine pL 0 ?_
  refine pu ?_
  refine pu ?_
  refine K9 (i := 33) rfl (fun hg16 => ?_) (fun hg16 => ?_)
  ·replace hm := yes_t hg16 hm
   refine pu ?_
   refine pL 2 ?_
   obtain ⟨x17, q17, hm⟩ := Kf hm
   refine KaJ (Kj8 x12.1 x17 q17) rfl rfl rfl rfl rfl (WkL.cons (Wk.no) Wl) ?_
   rintro _ rfl
   refine pu ?_
   refine KS rfl rfl rfl rfl rfl rfl ?_
   refine KB ?_
   have e15 := Kn hm; subst e15
   refine ⟨rfl, ?_⟩
   exact WkX.of () (WkS.perm (WkS.cons rfl (Wk.refl _) (WkS.cons rfl (Wk.refl _) (WkS.cons rfl (Wk.refl _) (WkS.cons rfl (Wk.refl _) (WkS.cons rfl (Wk.refl _) (WkS.nil)))))) Pf Pf)
  ·replace hm := yes_f hg16 hm
   iterate 4 refine pK ?_
   refine KH rfl rfl rfl rfl rfl rfl ?_
   refine KB ?_
   have e15 := Kn hm; subst e15
   refine ⟨rfl, ?_⟩
   exact WkX.of () (WkS.perm (WkS.cons rfl (Wk.refl _) (WkS.cons rfl (Wk.refl _) (WkS.cons rfl (Wk.refl _) (WkS.cons rfl (Wk.refl _) (WkS.cons rfl (Wk.refl _) (WkS.nil)))))) Pf Pf)
 ·intro s15 hw15; clear hm; have hm := ho15; clear q15 ho15
  refine Km ?_
  refine K3 hw15 (fun z15 => ?_)
  refine Ku rfl (fun hc18 => ?_) (fun hc18 => ?_)
  ·replace hm := yes_t hc18 hm
   refine KC ?_
   refine pL 1 ?_
   refine pu ?_
   obtain ⟨x19, q19, hm⟩ := Kf hm
   refine pG (KaH x12.2.1 x5.gAt (6 : Int) o0 T0 .no x19 q19) Wl Pf Pf ?_
   rintro _ _ _ ⟨rfl, rfl, rfl⟩
   refine Kv ?_
   refine K7 (d := .agg [tD x12.2.2.gName, .lst 2 (x12.2.2.gParams.map Kw) (.cur w7), .lst 2 (x12.2.2.gLocals.map Kw) (.cur w11), .lst 7 (x12.1.map Ki) (.cur w10), iD x12.2.2.gAt]) 2 htab rfl rfl rfl rfl rfl rfl rfl rfl ?_
   refine pS3 (ds' := [tD x12.2.2.gName, .lst 2 (x12.2.2.gParams.map Kw) (.cur w7), .lst 2 (x12.2.2.gLocals.map Kw) (.cur w11), .lst 7 (x12.1.map Ki) (.cur w10), iD x12.2.2.gAt]) ?_
   refine Kh ?_
   refine Ks ?_
   have er20 := Kn hm; subst er20
   refine rP (t' := [(2, .ptr b2 0)]) [0,2] [2,1,0] 1 (wC wN) (lC 1 lN) ?_
   exact ⟨w7, w11, w10, rfl, rfl, rfl⟩
  ·replace hm := yes_f hc18 hm
   refine Ky ?_
   refine Km ?_
   refine Kl ?_
   refine K7 (d := .agg [tD x12.2.2.gName, .lst 2 (x12.2.2.gParams.map Kw) (.cur w7), .lst 2 (x12.2.2.gLocals.map Kw) (.cur w11), .lst 7 (x12.1.map Ki) (.cur w10), iD x12.2.2.gAt]) 2 htab rfl rfl rfl rfl rfl rfl rfl rfl ?_
   refine pS3 (ds' := [tD x12.2.2.gName, .lst 2 (x12.2.2.gParams.map Kw) (.cur w7), .lst 2 (x12.2.2.gLocals.map Kw) (.cur w11), .lst 7 (x12.1.map Ki) (.cur w10), iD x12.2.2.gAt]) ?_
   refine Kh ?_
   refine Ks ?_
   have er21 := Kn hm; subst er21
   refine rP (t' := [(2, .ptr b2 0)]) [0,2] [2,1,0] 1 (wC wN) (lC 1 lN) ?_
   exact ⟨w7, w11, w10, rfl, rfl, rfl⟩
noncomputable def KbT (a0 : List Kt) (a1 : Int) : Option (KQ × Int × Int) :=
 ((Kbk a0 a1).bind fun x3 => (bif (!x3.2) then some ((⟨ByteArray.empty, [], [], [], (0 : Int)⟩ : KQ), (0 : Int), (2 : Int)) else ((KaZ x3.1).bind fun x13 => (bif (x13.2.gE != (0 : Int)) then some ((⟨ByteArray.empty, [], [], [], (0 : Int)⟩ : KQ), x13.2.gAt, x13.2.gE) else some (x13.1, x13.2.gAt, (0 : Int))))))
theorem KgN (a0 : List Kt) (a1 : Int) (r : KQ × Int × Int) (h0 : KbT a0 a1 = some r) : CallsD Try.prog 10 [.lst 4 (a0.map Kc) .no, iD a1] [] [] (fun d h k => ∃ y0 y1 y2, d = .tup [.agg [tD r.1.gName, .lst 2 (r.1.gParams.map Kw) (.cur y0), .lst 2 (r.1.gLocals.map Kw) (.cur y1), .lst 7 (r.1.gBody.map Ki) (.cur y2), iD r.1.gAt], iD r.2.1, iD r.2.2] ∧ h = [] ∧ k = [(2, y0), (2, y1), (7, y2)]) := by
 have hm := KE h0
 unfold KbT at hm
 clear h0
 refine KW htab Try.func10 rfl rfl rfl rfl rfl (fun C => ?_)
 refine Kl ?_
 refine KP htab rfl rfl rfl rfl rfl rfl rfl (fun b1 => ?_)
 refine pu ?_
 refine pu ?_
 refine Kv ?_
 refine pu ?_
 refine pu ?_
 obtain ⟨x3, q3, hm⟩ := Kf hm
 refine pG (Kgk a0 a1 x3 q3) Wl Pf Pf ?_
 rintro _ _ _ ⟨w2, rfl, rfl, rfl⟩
 iterate 5 refine pu ?_
 refine Kh ?_
 refine Kq ?_
 refine Kl ?_
 refine pu ?_
 refine pu ?_
 refine Kh ?_
 refine Ku rfl (fun hc5 => ?_) (fun hc5 => ?_)
 ·replace hm := yes_t hc5 hm
  refine Kl ?_
  refine Kal (r := [tD ByteArray.empty, .lst 1 [] .full, .lst 1 [] .full, .lst 1 [] .full, iD (0 : Int)]) htab rfl rfl rfl rfl rfl rfl rfl rfl rfl ?_
  refine pS1 (ds' := [tD ByteArray.empty, .lst 1 [] .full, .lst 1 [] .full, .lst 1 [] .full, iD (0 : Int)]) ?_
  refine pu ?_
  refine pu ?_
  refine Kh ?_
  refine Ks ?_
  refine KD ?_
  have er6 := Kn hm; subst er6
  refine retX.cellF (off := 1) 2 1 rfl rfl (by first | exact Or.inl rfl | exact Or.inr rfl) (fun w7 => ?_)
  refine retX.cellF (off := 2) 2 1 rfl rfl (by first | exact Or.inl rfl | exact Or.inr rfl) (fun w8 => ?_)
  refine retX.cellF (off := 3) 7 1 rfl rfl (by first | exact Or.inl rfl | exact Or.inr rfl) (fun w9 => ?_)
  refine rP (t' := [(4, .ptr b1 0), (5, iD (0 : Int)), (6, iD (2 : Int))]) [1] [2,1,0] 0 (wC (wC (wC wN))) (lC 0 (lT (lT lN))) ?_
  exact ⟨w7, w8, w9, rfl, rfl, rfl⟩
 ·replace hm := yes_f hc5 hm
  refine Ky ?_
  refine Km ?_
  refine Kl ?_
  refine pu ?_
  obtain ⟨x13, q13, hm⟩ := Kf hm
  refine pG (KfM x3.1 w2 64 .no x13 q13) Wl Pf Pf ?_
  rintro _ _ _ ⟨w10, w11, w12, rfl, rfl, rfl⟩
  refine KP htab rfl rfl rfl rfl rfl rfl rfl (fun b14 => ?_)
  refine pS2 (ds' := [tD x13.1.gName, .lst 2 (x13.1.gParams.map Kw) (.cur w10), .lst 2 (x13.1.gLocals.map Kw) (.cur w11), .lst 7 (x13.1.gBody.map Ki) (.cur w12), iD x13.1.gAt]) ?_
  refine Kh ?_
  refine Kq ?_
  refine Kl ?_
  iterate 3 refine pu ?_
  refine pL 0 ?_
  refine pu ?_
  refine Kh ?_
  refine Ku rfl (fun hc17 => ?_) (fun hc17 => ?_)
  ·replace hm := yes_t hc17 hm
   refine Kq ?_
   refine Kcm 11 [] [[],[],[1],[1,2],[1,2,3],[],[5],[5,6],[5,6,7],[0],[0,1,2,3,4,9]] [0,1,2,3,4,5,6,7,8,9] [[],[],[1],[1,2],[1,2,3],[],[5],[5,6],[5,6,7],[0],[0,1,2,3,4,9],[0,1,2,3,4,5,6,7,8,9,10]] 9 (by kernel_rfl) (by kernel_rfl) (by kernel_rfl) (by rfl) (by rfl) (by kernel_rfl) ?_
   refine ⟨[(w2, Blk.cells [.lst 4 (x13.2.gL.map Kc) .no, iD x13.2.gAt, iD x13.2.gE, iD x13.2.gVars, iD x13.2.gOpen] 64), (b1, Blk.cells [tD ByteArray.empty, .lst 1 [] .full, .lst 1 [] .full, .lst 1 [] .full, iD (0 : Int)] 26), (b14, Blk.cells [tD x13.1.gName, .lst 2 (x13.1.gParams.map Kw) (.cur w10), .lst 2 (x13.1.gLocals.map Kw) (.cur w11), .lst 7 (x13.1.gBody.map Ki) (.cur w12), iD x13.1.gAt] 26)], ?_⟩
   iterate 9 apply Exists.intro
   refine ⟨.any, ?_⟩
   intro bs v18
   refine zh_e rfl rfl (KdY (r := [tD ByteArray.empty, .lst 1 [] .full, .lst 1 [] .full, .lst 1 [] .full, iD (0 : Int)]) htab rfl rfl rfl rfl rfl rfl) rfl rfl rfl rfl rfl rfl rfl rfl ?_
   iterate 3 refine zh_e rfl rfl (KT htab rfl) rfl rfl rfl rfl rfl rfl rfl rfl ?_
   refine zh_M rfl rfl (fun _ => KF 0 htab rfl rfl rfl rfl rfl) (fun _ => KF 0 htab rfl rfl rfl rfl rfl) rfl rfl rfl rfl rfl rfl rfl rfl ?_
   iterate 3 refine zh_e rfl rfl (KT htab rfl) rfl rfl rfl rfl rfl rfl rfl rfl ?_
   refine zh_M rfl rfl (fun _ => KF 0 htab rfl rfl rfl rfl rfl) (fun _ => KF 0 htab rfl rfl rfl rfl rfl) rfl rfl rfl rfl rfl rfl rfl rfl ?_
   refine KcA 1 htab rfl rfl rfl rfl rfl rfl rfl rfl rfl rfl rfl rfl rfl rfl rfl rfl ?_
   refine zh_q rfl rfl (KT htab rfl) rfl rfl rfl rfl rfl rfl ?_
   refine KdE rfl rfl rfl rfl (fun e he => by simp [isAl] at he) ?_
   refine pu ?_
   refine Kh ?_
   refine Ks ?_
   refine KD ?_
   have er19 := Kn hm; subst er19
   refine retX.cellF (off := 1) 2 1 rfl rfl (by first | exact Or.inl rfl | exact Or.inr rfl) (fun w20 => ?_)
   refine retX.cellF (off := 2) 2 1 rfl rfl (by first | exact Or.inl rfl | exact Or.inr rfl) (fun w21 => ?_)
   refine retX.cellF (off := 3) 7 1 rfl rfl (by first | exact Or.inl rfl | exact Or.inr rfl) (fun w22 => ?_)
   refine rP (t' := [(4, .ptr b1 0), (5, iD x13.2.gAt), (6, iD x13.2.gE)]) [1] [2,1,0] 0 (wC (wC (wC wN))) (lC 0 (lT (lT lN))) ?_
   exact ⟨w20, w21, w22, rfl, rfl, rfl⟩
  ·replace hm := yes_f hc17 hm
   refine Ky ?_
   refine Km ?_
   refine Kq ?_
   refine Kcm 6 [] [[],[],[1],[1,2],[1,2,3],[0]] [0,1,2,3,4,5] [[],[],[1],[1,2],[1,2,3],[0],[0,1,2,3,4,5],[0,1,2,3,4,5,6]] 5 (by kernel_rfl) (by kernel_rfl) (by kernel_rfl) (by rfl) (by rfl) (by kernel_rfl) ?_
   refine ⟨[(w2, Blk.cells [.lst 4 (x13.2.gL.map Kc) .no, iD x13.2.gAt, iD x13.2.gE, iD x13.2.gVars, iD x13.2.gOpen] 64), (b1, Blk.cells [tD x13.1.gName, .lst 2 (x13.1.gParams.map Kw) (.cur w10), .lst 2 (x13.1.gLocals.map Kw) (.cur w11), .lst 7 (x13.1.gBody.map Ki) (.cur w12), iD x13.1.gAt] 26), (b14, Blk.cells [tD x13.1.gName, .lst 2 (x13.1.gParams.map Kw) (.cur w10), .lst 2 (x13.1.gLocals.map Kw) (.cur w11), .lst 7 (x13.1.gBody.map Ki) (.cur w12), iD x13.1.gAt] 26)], ?_⟩
   iterate 5 apply Exists.intro
   refine ⟨.any, ?_⟩
   intro bs v23
   refine zh_M rfl rfl (fun _ => KF (d := .agg [tD x13.1.gName, .lst 2 (x13.1.gParams.map Kw) (.cur w10), .lst 2 (x13.1.gLocals.map Kw) (.cur w11), .lst 7 (x13.1.gBody.map Ki) (.cur w12), iD x13.1.gAt]) 2 htab rfl rfl rfl rfl rfl) (offB rfl) rfl rfl rfl rfl rfl rfl rfl rfl ?_
   iterate 3 refine zh_e rfl rfl (KT htab rfl) rfl rfl rfl rfl rfl rfl rfl rfl ?_
   refine zh_M rfl rfl (fun _ => KF 0 htab rfl rfl rfl rfl rfl) (fun _ => KF 0 htab rfl rfl rfl rfl rfl) rfl rfl rfl rfl rfl rfl rfl rfl ?_
   refine KcA 1 htab rfl rfl rfl rfl rfl rfl rfl rfl rfl rfl rfl rfl rfl rfl rfl rfl ?_
   refine KdE rfl rfl rfl rfl (fun e he => by simp [isAl] at he) ?_
   refine pu ?_
   refine pu ?_
   refine Kh ?_
   refine Ks ?_
   have er24 := Kn hm; subst er24
   refine rP (t' := [(4, .ptr b1 0), (5, iD x13.2.gAt), (6, iD (0 : Int))]) [1] [0,0,0] 0 (wC (wC (wC wN))) (lC 0 (lT (lT lN))) ?_
   exact ⟨w10, w11, w12, rfl, rfl, rfl⟩
noncomputable def KbX (a0 : List UInt8) : Option (KQ × Int × Int) :=
 ((Ke4 a0).bind fun x4 => (bif (x4.2.2 != (0 : Int)) then some ((⟨ByteArray.empty, [], [], [], (0 : Int)⟩ : KQ), x4.2.1, x4.2.2) else ((KbT x4.1 (0 : Int)).bind fun x14 => ((idx x4.1 (min x14.2.1 (IntKind.i64.wrap ((x4.1.length : Int) - (1 : Int))))).bind fun x16 => (bif (x14.2.2 != (0 : Int)) then some ((⟨ByteArray.empty, [], [], [], (0 : Int)⟩ : KQ), x16.gAt, x14.2.2) else (bif (x16.gKind != (0 : Int)) then some ((⟨ByteArray.empty, [], [], [], (0 : Int)⟩ : KQ), x16.gAt, (3 : Int)) else some (x14.1, (0 : Int), (0 : Int))))))))
theorem Kgo (a0 : List UInt8) (r : KQ × Int × Int) (h0 : KbX a0 = some r) : CallsD Try.prog 16 [.lst 1 (a0.map byteD) .no, .fn (.func 10) [] []] [] [] (fun d h k => ∃ y0 y1 y2, d = .tup [.agg [tD r.1.gName, .lst 2 (r.1.gParams.map Kw) (.cur y0), .lst 2 (r.1.gLocals.map Kw) (.cur y1), .lst 7 (r.1.gBody.map Ki) (.cur y2), iD r.1.gAt], iD r.2.1, iD r.2.2] ∧ h = [] ∧ k = [(2, y0), (2, y1), (7, y2)]) := by
 have hm := KE h0
 unfold KbX at hm
 clear h0
 refine KW htab Try.func16 rfl rfl rfl rfl rfl (fun C => ?_)
 refine Kl ?_
 refine KP htab rfl rfl rfl rfl rfl rfl rfl (fun b1 => ?_)
 refine pu ?_
 refine pu ?_
 refine Kv ?_
 refine KP htab rfl rfl rfl rfl rfl rfl rfl (fun b2 => ?_)
 refine Kv ?_
 refine pu ?_
 obtain ⟨x4, q4, hm⟩ := Kf hm
 refine pG (Kj6 a0 x4 q4) Wl Pf Pf ?_
 rintro _ _ _ ⟨w3, rfl, rfl, rfl⟩
 iterate 7 refine pu ?_
 refine Kh ?_
 refine Kq ?_
 refine Kl ?_
 refine pu ?_
 refine pu ?_
 refine Kh ?_
 refine Ku rfl (fun hc6 => ?_) (fun hc6 => ?_)
 ·replace hm := yes_t hc6 hm
  refine Kl ?_
  refine K7 (d := .agg [tD ByteArray.empty, .lst 1 [] .full, .lst 1 [] .full, .lst 1 [] .full, iD (0 : Int)]) 1 htab rfl rfl rfl rfl rfl rfl rfl rfl ?_
  refine pu ?_
  refine pu ?_
  refine pS0 (ds' := [tD ByteArray.empty, .lst 1 [] .full, .lst 1 [] .full, .lst 1 [] .full, iD (0 : Int)]) ?_
  refine pu ?_
  refine pu ?_
  refine Kh ?_
  refine Ks ?_
  refine KD ?_
  have er7 := Kn hm; subst er7
  refine retX.cellF (off := 1) 2 0 rfl rfl (by first | exact Or.inl rfl | exact Or.inr rfl) (fun w8 => ?_)
  refine retX.cellF (off := 2) 2 0 rfl rfl (by first | exact Or.inl rfl | exact Or.inr rfl) (fun w9 => ?_)
  refine retX.cellF (off := 3) 7 0 rfl rfl (by first | exact Or.inl rfl | exact Or.inr rfl) (fun w10 => ?_)
  refine rP (t' := [(4, .ptr b1 0), (5, iD x4.2.1), (6, iD x4.2.2)]) [0] [2,1,0] 0 (wC (wC (wC wN))) (lC 0 (lT (lT lN))) ?_
  exact ⟨w8, w9, w10, rfl, rfl, rfl⟩
 ·replace hm := yes_f hc6 hm
  refine Ky ?_
  refine Km ?_
  refine Kl ?_
  refine pu ?_
  refine pu ?_
  obtain ⟨x14, q14, hm⟩ := Kf hm
  refine Kf6 (KgN x4.1 (0 : Int) x14 q14) rfl rfl rfl rfl rfl rfl rfl (WkL.cons (Wk.no) (WkL.cons (Wk.refl _) Wl)) Pf Pf ?_
  rintro _ _ _ ⟨w11, w12, w13, rfl, rfl, rfl⟩
  iterate 4 refine pu ?_
  refine KP htab rfl rfl rfl rfl rfl rfl rfl (fun b15 => ?_)
  refine pS2 (ds' := [tD x14.1.gName, .lst 2 (x14.1.gParams.map Kw) (.cur w11), .lst 2 (x14.1.gLocals.map Kw) (.cur w12), .lst 7 (x14.1.gBody.map Ki) (.cur w13), iD x14.1.gAt]) ?_
  refine pu ?_
  refine pu ?_
  refine Kv ?_
  iterate 3 refine pu ?_
  refine KaP htab rfl rfl rfl rfl rfl rfl rfl (by first | exact Kaf | rfl) ?_
  refine pu ?_
  refine p_min rfl rfl rfl rfl rfl rfl ?_
  obtain ⟨x16, q16, hm⟩ := Kf hm
  refine Ka8 htab rfl rfl rfl rfl rfl rfl rfl rfl rfl rfl (Kr q16) (Kz q16) ?_
  refine KaE (d := Kc x16) htab rfl rfl rfl rfl rfl rfl rfl rfl ?_
  refine KP htab rfl rfl rfl rfl rfl rfl rfl (fun b17 => ?_)
  refine pS3 (ds' := [iD x16.gKind, tD x16.gText, iD x16.gN, iD x16.gAt]) ?_
  refine Kh ?_
  refine Kq ?_
  refine KL ?_
  refine Kl ?_
  iterate 3 refine pu ?_
  refine Kh ?_
  refine Ku rfl (fun hc26 => ?_) (fun hc26 => ?_)
  ·replace hm := yes_t hc26 hm
   refine Kq ?_
   refine Kcm 6 [] [[],[],[1],[],[0],[0,1,2,4]] [0,1,2,4] [[],[],[1],[],[0],[0,1,2,4],[0,1,2,3,4,5]] 4 (by kernel_rfl) (by kernel_rfl) (by kernel_rfl) (by rfl) (by rfl) (by kernel_rfl) ?_
   refine ⟨[(b1, Blk.cells [tD ByteArray.empty, .lst 1 [] .full, .lst 1 [] .full, .lst 1 [] .full, iD (0 : Int)] 26), (b2, Blk.cells [tD ByteArray.empty, .lst 1 [] .full, .lst 1 [] .full, .lst 1 [] .full, iD (0 : Int)] 26), (b15, Blk.cells [tD x14.1.gName, .lst 2 (x14.1.gParams.map Kw) (.cur w11), .lst 2 (x14.1.gLocals.map Kw) (.cur w12), .lst 7 (x14.1.gBody.map Ki) (.cur w13), iD x14.1.gAt] 26), (b17, Blk.cells [iD x16.gKind, tD x16.gText, iD x16.gN, iD x16.gAt] 69)], ?_⟩
   iterate 3 apply Exists.intro
   refine ⟨.any, ?_⟩
   intro bs v27
   refine zh_M rfl rfl (fun _ => KF (d := .agg [tD ByteArray.empty, .lst 1 [] .full, .lst 1 [] .full, .lst 1 [] .full, iD (0 : Int)]) 1 htab rfl rfl rfl rfl rfl) (offB rfl) rfl rfl rfl rfl rfl rfl rfl rfl ?_
   refine zh_e rfl rfl (KT htab rfl) rfl rfl rfl rfl rfl rfl rfl rfl ?_
   refine zh_M rfl rfl (fun _ => KF 3 htab rfl rfl rfl rfl rfl) (fun _ => KF 3 htab rfl rfl rfl rfl rfl) rfl rfl rfl rfl rfl rfl rfl rfl ?_
   refine zh_q rfl rfl (KT htab rfl) rfl rfl rfl rfl rfl rfl ?_
   refine KcA 0 htab rfl rfl rfl rfl rfl rfl rfl rfl rfl rfl rfl rfl rfl rfl rfl rfl ?_
   refine zh_q rfl rfl (KT htab rfl) rfl rfl rfl rfl rfl rfl ?_
   refine KdE rfl rfl rfl rfl (fun e he => by simp [isAl] at he) ?_
   refine pu ?_
   refine Kh ?_
   refine Ks ?_
   refine K0 ?_
   refine KD ?_
   have er28 := Kn hm; subst er28
   refine retX.cellF (off := 1) 2 0 rfl rfl (by first | exact Or.inl rfl | exact Or.inr rfl) (fun w29 => ?_)
   refine retX.cellF (off := 2) 2 0 rfl rfl (by first | exact Or.inl rfl | exact Or.inr rfl) (fun w30 => ?_)
   refine retX.cellF (off := 3) 7 0 rfl rfl (by first | exact Or.inl rfl | exact Or.inr rfl) (fun w31 => ?_)
   refine rP (t' := [(4, .ptr b1 0), (5, iD x16.gAt), (6, iD x14.2.2)]) [0] [2,1,0] 0 (wC (wC (wC wN))) (lC 0 (lT (lT lN))) ?_
   exact ⟨w29, w30, w31, rfl, rfl, rfl⟩
  ·replace hm := yes_f hc26 hm
   refine Kl ?_
   refine pu ?_
   refine pL 3 ?_
   refine pu ?_
   refine pu ?_
   refine Kh ?_
   refine Ku rfl (fun hc34 => ?_) (fun hc34 => ?_)
   ·replace hm := yes_t hc34 hm
    refine Kq ?_
    refine Kcm 4 [] [[],[],[1],[0]] [0,1,2,3] [[],[],[1],[0],[0,1,2,3],[0,1,2,3,4]] 3 (by kernel_rfl) (by kernel_rfl) (by kernel_rfl) (by rfl) (by rfl) (by kernel_rfl) ?_
    refine ⟨[(b1, Blk.cells [tD ByteArray.empty, .lst 1 [] .full, .lst 1 [] .full, .lst 1 [] .full, iD (0 : Int)] 26), (b2, Blk.cells [tD ByteArray.empty, .lst 1 [] .full, .lst 1 [] .full, .lst 1 [] .full, iD (0 : Int)] 26), (b15, Blk.cells [tD x14.1.gName, .lst 2 (x14.1.gParams.map Kw) (.cur w11), .lst 2 (x14.1.gLocals.map Kw) (.cur w12), .lst 7 (x14.1.gBody.map Ki) (.cur w13), iD x14.1.gAt] 26), (b17, Blk.cells [iD x16.gKind, tD x16.gText, iD x16.gN, iD x16.gAt] 69)], ?_⟩
    iterate 3 apply Exists.intro
    refine ⟨.any, ?_⟩
    intro bs v35
    refine zh_M rfl rfl (fun _ => KF (d := .agg [tD ByteArray.empty, .lst 1 [] .full, .lst 1 [] .full, .lst 1 [] .full, iD (0 : Int)]) 1 htab rfl rfl rfl rfl rfl) (offB rfl) rfl rfl rfl rfl rfl rfl rfl rfl ?_
    refine zh_e rfl rfl (KT htab rfl) rfl rfl rfl rfl rfl rfl rfl rfl ?_
    refine zh_M rfl rfl (fun _ => KF 3 htab rfl rfl rfl rfl rfl) (fun _ => KF 3 htab rfl rfl rfl rfl rfl) rfl rfl rfl rfl rfl rfl rfl rfl ?_
    refine KcA 0 htab rfl rfl rfl rfl rfl rfl rfl rfl rfl rfl rfl rfl rfl rfl rfl rfl ?_
    refine KdE rfl rfl rfl rfl (fun e he => by simp [isAl] at he) ?_
    refine pu ?_
    refine pu ?_
    refine Kh ?_
    refine Ks ?_
    refine K0 ?_
    refine KD ?_
    have er36 := Kn hm; subst er36
    refine retX.cellF (off := 1) 2 0 rfl rfl (by first | exact Or.inl rfl | exact Or.inr rfl) (fun w37 => ?_)
    refine retX.cellF (off := 2) 2 0 rfl rfl (by first | exact Or.inl rfl | exact Or.inr rfl) (fun w38 => ?_)
    refine retX.cellF (off := 3) 7 0 rfl rfl (by first | exact Or.inl rfl | exact Or.inr rfl) (fun w39 => ?_)
    refine rP (t' := [(4, .ptr b1 0), (5, iD x16.gAt), (6, iD (3 : Int))]) [0] [2,1,0] 0 (wC (wC (wC wN))) (lC 0 (lT (lT lN))) ?_
    exact ⟨w37, w38, w39, rfl, rfl, rfl⟩
   ·replace hm := yes_f hc34 hm
    refine Ky ?_
    refine KI ?_
    refine Km ?_
    refine Kl ?_
    refine K7 (d := .agg [tD x14.1.gName, .lst 2 (x14.1.gParams.map Kw) (.cur w11), .lst 2 (x14.1.gLocals.map Kw) (.cur w12), .lst 7 (x14.1.gBody.map Ki) (.cur w13), iD x14.1.gAt]) 2 htab rfl rfl rfl rfl rfl rfl rfl rfl ?_
    refine pS0 (ds' := [tD x14.1.gName, .lst 2 (x14.1.gParams.map Kw) (.cur w11), .lst 2 (x14.1.gLocals.map Kw) (.cur w12), .lst 7 (x14.1.gBody.map Ki) (.cur w13), iD x14.1.gAt]) ?_
    refine pu ?_
    refine pu ?_
    refine Kh ?_
    refine Ks ?_
    have er40 := Kn hm; subst er40
    refine rP (t' := [(4, .ptr b1 0), (5, iD (0 : Int)), (6, iD (0 : Int))]) [0] [0,0,0] 0 (wC (wC (wC wN))) (lC 0 (lT (lT lN))) ?_
    exact ⟨w11, w12, w13, rfl, rfl, rfl⟩
noncomputable def KcW (a0 : List UInt8) : Option (KQ × Int × Int) :=
 ((KbX a0).bind fun x5 => some (x5.1, x5.2.1, x5.2.2))
theorem Kh5 (a0 : List UInt8) (r : KQ × Int × Int) (h0 : KcW a0 = some r) : CallsD Try.prog 6 [.lst 1 (a0.map byteD) .no] [] [] (fun d h k => ∃ y0 y1 y2, d = .tup [.agg [tD r.1.gName, .lst 2 (r.1.gParams.map Kw) (.cur y0), .lst 2 (r.1.gLocals.map Kw) (.cur y1), .lst 7 (r.1.gBody.map Ki) (.cur y2), iD r.1.gAt], iD r.2.1, iD r.2.2] ∧ h = [] ∧ k = [(2, y0), (2, y1), (7, y2)]) := by
 have hm := KE h0
 unfold KcW at hm
 clear h0
 refine KW htab Try.func6 rfl rfl rfl rfl rfl (fun C => ?_)
 refine Kl ?_
 refine KP htab rfl rfl rfl rfl rfl rfl rfl (fun b1 => ?_)
 refine pu ?_
 refine pu ?_
 refine Kv ?_
 refine pu ?_
 obtain ⟨x5, q5, hm⟩ := Kf hm
 refine pG (Kgo a0 x5 q5) Wl Pf Pf ?_
 rintro _ _ _ ⟨w2, w3, w4, rfl, rfl, rfl⟩
 iterate 3 refine pu ?_
 refine pS0 (ds' := [tD x5.1.gName, .lst 2 (x5.1.gParams.map Kw) (.cur w2), .lst 2 (x5.1.gLocals.map Kw) (.cur w3), .lst 7 (x5.1.gBody.map Ki) (.cur w4), iD x5.1.gAt]) ?_
 refine pu ?_
 refine pu ?_
 refine Kh ?_
 refine Ks ?_
 have er6 := Kn hm; subst er6
 refine rP (t' := [(2, .ptr b1 0), (3, iD x5.2.1), (4, iD x5.2.2)]) [0] [0,0,0] 0 (wC (wC (wC wN))) (lC 0 (lT (lT lN))) ?_
 exact ⟨w2, w3, w4, rfl, rfl, rfl⟩
end Go.Proofs.Ytmgklehakmdiiaa.Ab
namespace Go.Proofs.Ytmgklehakmdiiaa.Ab
open Go
set_option linter.all false
structure Kd where
 gL : List Kt
 gAt : Int
 gE : Int
noncomputable def Kbc (m0 : Kd) : Option (Kt) :=
 (bif (decide (m0.gAt < (m0.gL.length : Int))) then ((idx m0.gL m0.gAt).bind fun x3 => some x3) else some (⟨(0 : Int), ByteArray.empty, (0 : Int), (0 : Int)⟩ : Kt))
theorem KbI (m0 : Kd) (o0 : Nat) (T0 : TypeId) (c0_0 : Cap) (r : Kt) (h0 : Kbc m0 = some r) : CallsD Try.prog 23 [.ptr o0 0] [(o0, Blk.cells [.lst 4 (m0.gL.map Kc) c0_0, iD m0.gAt, iD m0.gE] T0)] [] (fun d h k => d = Kc r ∧ h = [(o0, Blk.cells [.lst 4 (m0.gL.map Kc) c0_0, iD m0.gAt, iD m0.gE] T0)] ∧ k = []) := by
 have hm := KE h0
 unfold Kbc at hm
 clear h0
 refine KW htab Try.func23 rfl rfl rfl rfl rfl (fun C => ?_)
 refine Kl ?_
 refine KP htab rfl rfl rfl rfl rfl rfl rfl (fun b1 => ?_)
 refine Kh ?_
 refine Kq ?_
 refine Kq ?_
 refine Kaj 9 [] [[],[0],[0,1],[0,1,2],[],[4],[4,5],[4,5,6],[4,5,6,7]] [0,1,2,4,5,6,7] [[],[0],[0,1],[0,1,2],[],[4],[4,5],[4,5,6],[4,5,6,7],[0,1,2,3,4,5,6,7,8]] (by kernel_rfl) (by kernel_rfl) (by kernel_rfl) (by rfl) (by rfl) (by kernel_rfl) ?_
 iterate 7 apply Exists.intro
 intro bs
 iterate 3 refine zep ?_
 refine z_qM rfl rfl (KF 0 htab rfl rfl rfl rfl rfl) rfl rfl rfl rfl rfl rfl ?_
 iterate 3 refine zep ?_
 refine z_eM rfl rfl (KF 0 htab rfl rfl rfl rfl rfl) rfl rfl rfl rfl rfl rfl ?_
 refine z_q rfl rfl (KdT htab rfl rfl rfl rfl (by first | exact Kaf | rfl)) rfl rfl rfl rfl rfl rfl ?_
 refine z_nil rfl rfl (fun e he => by simp [isAl] at he) ?_
 refine pu ?_
 refine Kh ?_
 refine Ku rfl (fun hc2 => ?_) (fun hc2 => ?_)
 ·replace hm := yes_t hc2 hm
  refine Kq ?_
  refine Kaj 8 [] [[],[0],[0,1],[0,1,2],[],[4],[4,5],[4,5,6]] [0,1,2,3,4,5,6] [[],[0],[0,1],[0,1,2],[],[4],[4,5],[4,5,6],[0,1,2,3,4,5,6,7],[0,1,2,3,4,5,6,7,8],[0,1,2,3,4,5,6,7,8,9]] (by kernel_rfl) (by kernel_rfl) (by kernel_rfl) (by rfl) (by rfl) (by kernel_rfl) ?_
  iterate 7 apply Exists.intro
  intro bs
  iterate 3 refine zep ?_
  refine z_eM rfl rfl (KF 0 htab rfl rfl rfl rfl rfl) rfl rfl rfl rfl rfl rfl ?_
  iterate 3 refine zep ?_
  refine z_qM rfl rfl (KF 0 htab rfl rfl rfl rfl rfl) rfl rfl rfl rfl rfl rfl ?_
  refine z_nil rfl rfl (fun e he => by simp [isAl] at he) ?_
  obtain ⟨x3, q3, hm⟩ := Kf hm
  refine Ka8 htab rfl rfl rfl rfl rfl rfl rfl rfl rfl rfl (Kr q3) (Kz q3) ?_
  refine KaE (d := Kc x3) htab rfl rfl rfl rfl rfl rfl rfl rfl ?_
  refine pS1 (ds' := [iD x3.gKind, tD x3.gText, iD x3.gN, iD x3.gAt]) ?_
  refine Kh ?_
  refine Ks ?_
  refine KD ?_
  have er4 := Kn hm; subst er4
  refine rP (t' := [(2, .ptr b1 0)]) [0,0] [] 1 (wC wN) (lC 1 lN) ?_
  exact ⟨rfl, rfl, rfl⟩
 ·replace hm := yes_f hc2 hm
  refine Ky ?_
  refine Km ?_
  refine Kl ?_
  refine Kal (r := [iD (0 : Int), tD ByteArray.empty, iD (0 : Int), iD (0 : Int)]) htab rfl rfl rfl rfl rfl rfl rfl rfl rfl ?_
  refine pS1 (ds' := [iD (0 : Int), tD ByteArray.empty, iD (0 : Int), iD (0 : Int)]) ?_
  refine Kh ?_
  refine Ks ?_
  have er5 := Kn hm; subst er5
  refine rP (t' := [(2, .ptr b1 0)]) [0,0] [] 1 (wC wN) (lC 1 lN) ?_
  exact ⟨rfl, rfl, rfl⟩
noncomputable def Kec (m0 : Kd) (a1 : ByteArray) : Option (Bool) :=
 ((Kbc m0).bind fun x1 => (bif (x1.gKind == (3 : Int)) then ((Kbc m0).bind fun x3 => some (decide (x3.gText = a1))) else some false))
theorem KgO (m0 : Kd) (a1 : ByteArray) (o0 : Nat) (T0 : TypeId) (c0_0 : Cap) (r : Bool) (h0 : Kec m0 a1 = some r) : CallsD Try.prog 28 [.ptr o0 0, tD a1] [(o0, Blk.cells [.lst 4 (m0.gL.map Kc) c0_0, iD m0.gAt, iD m0.gE] T0)] [] (fun d h k => d = .v (.bool r) ∧ h = [(o0, Blk.cells [.lst 4 (m0.gL.map Kc) c0_0, iD m0.gAt, iD m0.gE] T0)] ∧ k = []) := by
 have hm := KE h0
 unfold Kec at hm
 clear h0
 refine KW htab Try.func28 rfl rfl rfl rfl rfl (fun C => ?_)
 refine Kl ?_
 refine pu ?_
 refine Kv ?_
 refine pu ?_
 obtain ⟨x1, q1, hm⟩ := Kf hm
 refine pG (KbI m0 o0 T0 c0_0 x1 q1) Wl Pf Pf ?_
 rintro _ _ _ ⟨rfl, rfl, rfl⟩
 iterate 3 refine pu ?_
 refine K9 (i := 9) rfl (fun hg2 => ?_) (fun hg2 => ?_)
 ·replace hm := yes_t hg2 hm
  refine pu ?_
  obtain ⟨x3, q3, hm⟩ := Kf hm
  refine pG (KbI m0 o0 T0 c0_0 x3 q3) Wl Pf Pf ?_
  rintro _ _ _ ⟨rfl, rfl, rfl⟩
  iterate 3 refine pu ?_
  refine KS rfl rfl rfl rfl rfl rfl ?_
  refine pu ?_
  refine Kh ?_
  refine Ks ?_
  have er4 := Kn hm; subst er4
  refine rP (t' := [(4, .v (.bool (decide (x3.gText = a1))))]) [0] [] 1 (wC wN) (lT lN) ?_
  exact ⟨rfl, rfl, rfl⟩
 ·replace hm := yes_f hg2 hm
  iterate 5 refine pK ?_
  refine KH rfl rfl rfl rfl rfl rfl ?_
  refine pu ?_
  refine Kh ?_
  refine Ks ?_
  have er5 := Kn hm; subst er5
  refine rP (t' := [(4, .v (.bool false))]) [0] [] 1 (wC wN) (lT lN) ?_
  exact ⟨rfl, rfl, rfl⟩
noncomputable def Kbn (m0 : Kd) (a1 : Int) (a2 : Int) : Option (Kd) :=
 (bif (m0.gE == (0 : Int)) then some (⟨m0.gL, a1, a2⟩ : Kd) else some m0)
theorem Kb7 (m0 : Kd) (a1 : Int) (a2 : Int) (o0 : Nat) (T0 : TypeId) (c0_0 : Cap) (r : Kd) (h0 : Kbn m0 a1 a2 = some r) : CallsD Try.prog 33 [.ptr o0 0, iD a1, iD a2] [(o0, Blk.cells [.lst 4 (m0.gL.map Kc) c0_0, iD m0.gAt, iD m0.gE] T0)] [] (fun d h k => d = .tup [] ∧ h = [(o0, Blk.cells [.lst 4 (r.gL.map Kc) c0_0, iD r.gAt, iD r.gE] T0)] ∧ k = []) := by
 have hm := KE h0
 unfold Kbn at hm
 clear h0
 refine KW htab Try.func33 rfl rfl rfl rfl rfl (fun C => ?_)
 refine Kl ?_
 iterate 3 refine pu ?_
 refine pL 0 ?_
 refine pu ?_
 refine Kh ?_
 refine Ku rfl (fun hc1 => ?_) (fun hc1 => ?_)
 ·replace hm := yes_t hc1 hm
  refine Kl ?_
  iterate 4 refine pu ?_
  refine pS0 (ds' := [.lst 4 (m0.gL.map Kc) c0_0, iD m0.gAt, iD a2]) ?_
  refine Kh ?_
  refine KC ?_
  iterate 4 refine pu ?_
  refine pS0 (ds' := [.lst 4 (m0.gL.map Kc) c0_0, iD a1, iD a2]) ?_
  refine KB ?_
  have er2 := Kn hm; subst er2
  refine rP (t' := []) [0] [] 1 wN lN ?_
  exact ⟨rfl, rfl, rfl⟩
 ·replace hm := yes_f hc1 hm
  refine Ky ?_
  have er3 := Kn hm; subst er3
  refine rP (t' := []) [0] [] 1 wN lN ?_
  exact ⟨rfl, rfl, rfl⟩
noncomputable def Kae (m0 : Kd) (a1 : ByteArray) : Option (Kd) :=
 (bif (m0.gE != (0 : Int)) then some m0 else ((Kec m0 a1).bind fun x4 => (bif x4 then some (⟨m0.gL, (IntKind.i64.wrap (m0.gAt + (1 : Int))), m0.gE⟩ : Kd) else ((Kbn m0 m0.gAt (3 : Int)).bind fun x7 => some x7))))
theorem Kat (m0 : Kd) (a1 : ByteArray) (o0 : Nat) (T0 : TypeId) (c0_0 : Cap) (r : Kd) (h0 : Kae m0 a1 = some r) : CallsD Try.prog 24 [.ptr o0 0, tD a1] [(o0, Blk.cells [.lst 4 (m0.gL.map Kc) c0_0, iD m0.gAt, iD m0.gE] T0)] [] (fun d h k => d = .tup [] ∧ h = [(o0, Blk.cells [.lst 4 (r.gL.map Kc) c0_0, iD r.gAt, iD r.gE] T0)] ∧ k = []) := by
 have hm := KE h0
 unfold Kae at hm
 clear h0
 refine KW htab Try.func24 rfl rfl rfl rfl rfl (fun C => ?_)
 refine Kq ?_
 refine Kl ?_
 iterate 3 refine pu ?_
 refine pL 0 ?_
 refine pu ?_
 refine Kh ?_
 refine Ku rfl (fun hc2 => ?_) (fun hc2 => ?_)
 ·replace hm := yes_t hc2 hm
  refine Ks ?_
  refine KD ?_
  have er3 := Kn hm; subst er3
  refine rP (t' := []) [0] [] 1 wN lN ?_
  exact ⟨rfl, rfl, rfl⟩
 ·replace hm := yes_f hc2 hm
  refine Ky ?_
  refine Km ?_
  refine Kl ?_
  refine pu ?_
  refine pu ?_
  obtain ⟨x4, q4, hm⟩ := Kf hm
  refine pG (KgO m0 a1 o0 T0 c0_0 x4 q4) Wl Pf Pf ?_
  rintro _ _ _ ⟨rfl, rfl, rfl⟩
  refine Kh ?_
  refine Ku rfl (fun hc5 => ?_) (fun hc5 => ?_)
  ·replace hm := yes_t hc5 hm
   refine KC ?_
   iterate 3 refine pu ?_
   refine pL 0 ?_
   iterate 3 refine pu ?_
   refine pS0 (ds' := [.lst 4 (m0.gL.map Kc) c0_0, iD (IntKind.i64.wrap (m0.gAt + (1 : Int))), iD m0.gE]) ?_
   refine KB ?_
   have er6 := Kn hm; subst er6
   refine rP (t' := []) [0] [] 1 wN lN ?_
   exact ⟨rfl, rfl, rfl⟩
  ·replace hm := yes_f hc5 hm
   refine KC ?_
   iterate 4 refine pu ?_
   refine pL 0 ?_
   obtain ⟨x7, q7, hm⟩ := Kf hm
   refine pG (Kb7 m0 m0.gAt (3 : Int) o0 T0 c0_0 x7 q7) Wl Pf Pf ?_
   rintro _ _ _ ⟨rfl, rfl, rfl⟩
   refine KB ?_
   have er8 := Kn hm; subst er8
   refine rP (t' := []) [0] [] 1 wN lN ?_
   exact ⟨rfl, rfl, rfl⟩
noncomputable def Kbo (m0 : Kd) : Option (ByteArray × Kd) :=
 (bif (m0.gE != (0 : Int)) then some ((ByteArray.mk #[]), m0) else ((Kbc m0).bind fun x4 => (bif (x4.gKind != (1 : Int)) then ((Kbn m0 m0.gAt (3 : Int)).bind fun x9 => some ((ByteArray.mk #[]), x9)) else some (x4.gText, (⟨m0.gL, (IntKind.i64.wrap (m0.gAt + (1 : Int))), m0.gE⟩ : Kd)))))
theorem KcK (m0 : Kd) (o0 : Nat) (T0 : TypeId) (c0_0 : Cap) (r : ByteArray × Kd) (h0 : Kbo m0 = some r) : CallsD Try.prog 25 [.ptr o0 0] [(o0, Blk.cells [.lst 4 (m0.gL.map Kc) c0_0, iD m0.gAt, iD m0.gE] T0)] [] (fun d h k => d = tD r.1 ∧ h = [(o0, Blk.cells [.lst 4 (r.2.gL.map Kc) c0_0, iD r.2.gAt, iD r.2.gE] T0)] ∧ k = []) := by
 have hm := KE h0
 unfold Kbo at hm
 clear h0
 refine KW htab Try.func25 rfl rfl rfl rfl rfl (fun C => ?_)
 refine Kl ?_
 refine pu ?_
 refine Kh ?_
 refine Kq ?_
 refine Kl ?_
 iterate 3 refine pu ?_
 refine pL 0 ?_
 refine pu ?_
 refine Kh ?_
 refine Ku rfl (fun hc2 => ?_) (fun hc2 => ?_)
 ·replace hm := yes_t hc2 hm
  refine Kl ?_
  refine pu ?_
  refine Kh ?_
  refine Ks ?_
  refine KD ?_
  have er3 := Kn hm; subst er3
  refine rP (t' := [(2, tD (ByteArray.mk #[]))]) [0] [] 1 (wC wN) (lT lN) ?_
  exact ⟨rfl, rfl, rfl⟩
 ·replace hm := yes_f hc2 hm
  refine Ky ?_
  refine Km ?_
  refine Kl ?_
  refine pu ?_
  obtain ⟨x4, q4, hm⟩ := Kf hm
  refine pG (KbI m0 o0 T0 c0_0 x4 q4) Wl Pf Pf ?_
  rintro _ _ _ ⟨rfl, rfl, rfl⟩
  refine KP htab rfl rfl rfl rfl rfl rfl rfl (fun b5 => ?_)
  refine pS1 (ds' := [iD x4.gKind, tD x4.gText, iD x4.gN, iD x4.gAt]) ?_
  refine Kh ?_
  refine Kq ?_
  refine Kl ?_
  refine pu ?_
  refine pL 1 ?_
  refine pu ?_
  refine Kh ?_
  refine Ku rfl (fun hc8 => ?_) (fun hc8 => ?_)
  ·replace hm := yes_t hc8 hm
   refine Kl ?_
   iterate 4 refine pu ?_
   refine pL 0 ?_
   obtain ⟨x9, q9, hm⟩ := Kf hm
   refine pG (Kb7 m0 m0.gAt (3 : Int) o0 T0 c0_0 x9 q9) Wl Pf Pf ?_
   rintro _ _ _ ⟨rfl, rfl, rfl⟩
   refine Kv ?_
   refine pu ?_
   refine Kh ?_
   refine Ks ?_
   refine KD ?_
   have er10 := Kn hm; subst er10
   refine rP (t' := [(2, tD (ByteArray.mk #[]))]) [0] [] 1 (wC wN) (lT lN) ?_
   exact ⟨rfl, rfl, rfl⟩
  ·replace hm := yes_f hc8 hm
   refine Ky ?_
   refine Km ?_
   refine Kl ?_
   iterate 3 refine pu ?_
   refine pL 0 ?_
   iterate 3 refine pu ?_
   refine pS0 (ds' := [.lst 4 (m0.gL.map Kc) c0_0, iD (IntKind.i64.wrap (m0.gAt + (1 : Int))), iD m0.gE]) ?_
   refine Kv ?_
   refine pu ?_
   refine pL 1 ?_
   refine pu ?_
   refine Kh ?_
   refine Ks ?_
   have er11 := Kn hm; subst er11
   refine rP (t' := [(2, tD x4.gText)]) [0] [] 1 (wC wN) (lT lN) ?_
   exact ⟨rfl, rfl, rfl⟩
noncomputable def Kbr (m0 : Kd) (a1 : ByteArray) : Option (Bool × Kd) :=
 (Option.bind (α := Bool) (bif (m0.gE == (0 : Int)) then ((Kec m0 a1).bind fun x5 => some x5) else some false) fun y3 => (bif y3 then some (true, (⟨m0.gL, (IntKind.i64.wrap (m0.gAt + (1 : Int))), m0.gE⟩ : Kd)) else some (false, m0)))
theorem Kch (m0 : Kd) (a1 : ByteArray) (o0 : Nat) (T0 : TypeId) (c0_0 : Cap) (r : Bool × Kd) (h0 : Kbr m0 a1 = some r) : CallsD Try.prog 35 [.ptr o0 0, tD a1] [(o0, Blk.cells [.lst 4 (m0.gL.map Kc) c0_0, iD m0.gAt, iD m0.gE] T0)] [] (fun d h k => d = .v (.bool r.1) ∧ h = [(o0, Blk.cells [.lst 4 (r.2.gL.map Kc) c0_0, iD r.2.gAt, iD r.2.gE] T0)] ∧ k = []) := by
 have hm := KE h0
 unfold Kbr at hm
 clear h0
 refine KW htab Try.func35 rfl rfl rfl rfl rfl (fun C => ?_)
 refine Kl ?_
 refine pu ?_
 refine Kh ?_
 refine Kq ?_
 refine Kq ?_
 obtain ⟨y3, q3, ho3⟩ := Kf hm
 refine K6 (Y := Unit) (fun z3 => (⟨[(0, .ptr o0 0), (14, .v (.bool y3))], [(o0, Blk.cells [.lst 4 (m0.gL.map Kc) c0_0, iD m0.gAt, iD m0.gE] T0)], []⟩ : S)) ?_ ?_
 ·clear hm; have hm := KE q3
  refine KC ?_
  iterate 3 refine pu ?_
  refine pL 0 ?_
  refine pu ?_
  refine pu ?_
  refine K9 (i := 10) rfl (fun hg4 => ?_) (fun hg4 => ?_)
  ·replace hm := yes_t hg4 hm
   refine pu ?_
   refine pu ?_
   obtain ⟨x5, q5, hm⟩ := Kf hm
   refine pG (KgO m0 a1 o0 T0 c0_0 x5 q5) Wl Pf Pf ?_
   rintro _ _ _ ⟨rfl, rfl, rfl⟩
   refine KS rfl rfl rfl rfl rfl rfl ?_
   refine KB ?_
   have e3 := Kn hm; subst e3
   refine ⟨rfl, ?_⟩
   exact WkX.of () (WkS.perm (WkS.cons rfl (Wk.refl _) (WkS.cons rfl (Wk.refl _) (WkS.nil))) Pf Pf)
  ·replace hm := yes_f hg4 hm
   iterate 3 refine pK ?_
   refine KH rfl rfl rfl rfl rfl rfl ?_
   refine KB ?_
   have e3 := Kn hm; subst e3
   refine ⟨rfl, ?_⟩
   exact WkX.of () (WkS.perm (WkS.cons rfl (Wk.refl _) (WkS.cons rfl (Wk.refl _) (WkS.nil))) Pf Pf)
 ·intro s3 hw3; clear hm; have hm := ho3; clear q3 ho3
  refine Km ?_
  refine K3 hw3 (fun z3 => ?_)
  refine Ku rfl (fun hc6 => ?_) (fun hc6 => ?_)
  ·replace hm := yes_t hc6 hm
   refine Kl ?_
   iterate 3 refine pu ?_
   refine pL 0 ?_
   iterate 3 refine pu ?_
   refine pS0 (ds' := [.lst 4 (m0.gL.map Kc) c0_0, iD (IntKind.i64.wrap (m0.gAt + (1 : Int))), iD m0.gE]) ?_
   refine Kv ?_
   refine pu ?_
   refine Kh ?_
   refine Ks ?_
   refine KD ?_
   have er7 := Kn hm; subst er7
   refine rP (t' := [(4, .v (.bool true))]) [0] [] 1 (wC wN) (lT lN) ?_
   exact ⟨rfl, rfl, rfl⟩
  ·replace hm := yes_f hc6 hm
   refine Ky ?_
   refine Km ?_
   refine Kl ?_
   refine pu ?_
   refine Kh ?_
   refine Ks ?_
   have er8 := Kn hm; subst er8
   refine rP (t' := [(4, .v (.bool false))]) [0] [] 1 (wC wN) (lT lN) ?_
   exact ⟨rfl, rfl, rfl⟩
noncomputable def KbD (m0 : Kd) (a1 : Int) : Option (KR × Kd) :=
 ((Kae m0 (ByteArray.mk #[105, 110, 116])).bind fun x2 => ((Kbr x2 (ByteArray.mk #[42])).bind fun x3 => ((Kbo x3.2).bind fun x5 => (bif (decide ((16 : Int) ≤ a1)) then ((Kbn x5.2 x3.2.gAt (6 : Int)).bind fun x7 => some ((⟨x5.1, x3.1⟩ : KR), x7)) else some ((⟨x5.1, x3.1⟩ : KR), x5.2)))))
theorem Ke6 (m0 : Kd) (a1 : Int) (o0 : Nat) (T0 : TypeId) (c0_0 : Cap) (r : KR × Kd) (h0 : KbD m0 a1 = some r) : CallsD Try.prog 29 [.ptr o0 0, iD a1] [(o0, Blk.cells [.lst 4 (m0.gL.map Kc) c0_0, iD m0.gAt, iD m0.gE] T0)] [] (fun d h k => d = Kw r.1 ∧ h = [(o0, Blk.cells [.lst 4 (r.2.gL.map Kc) c0_0, iD r.2.gAt, iD r.2.gE] T0)] ∧ k = []) := by
 have hm := KE h0
 unfold KbD at hm
 clear h0
 refine KW htab Try.func29 rfl rfl rfl rfl rfl (fun C => ?_)
 refine Kl ?_
 refine KP htab rfl rfl rfl rfl rfl rfl rfl (fun b1 => ?_)
 refine Kv ?_
 refine pu ?_
 obtain ⟨x2, q2, hm⟩ := Kf hm
 refine pG (Kat m0 (ByteArray.mk #[105, 110, 116]) o0 T0 c0_0 x2 q2) Wl Pf Pf ?_
 rintro _ _ _ ⟨rfl, rfl, rfl⟩
 refine Kv ?_
 refine pu ?_
 obtain ⟨x3, q3, hm⟩ := Kf hm
 refine pG (Kch x2 (ByteArray.mk #[42]) o0 T0 c0_0 x3 q3) Wl Pf Pf ?_
 rintro _ _ _ ⟨rfl, rfl, rfl⟩
 refine Kal (r := [tD ByteArray.empty, .v (.bool x3.1)]) htab rfl rfl rfl rfl rfl rfl rfl rfl rfl ?_
 refine KP htab rfl rfl rfl rfl rfl rfl rfl (fun b4 => ?_)
 refine pS2 (ds' := [tD ByteArray.empty, .v (.bool x3.1)]) ?_
 refine Kv ?_
 iterate 3 refine pu ?_
 refine pL 0 ?_
 refine pu ?_
 refine Kv ?_
 refine pu ?_
 obtain ⟨x5, q5, hm⟩ := Kf hm
 refine pG (KcK x3.2 o0 T0 c0_0 x5 q5) Wl Pf Pf ?_
 rintro _ _ _ ⟨rfl, rfl, rfl⟩
 refine pu ?_
 refine pS2 (ds' := [tD x5.1, .v (.bool x3.1)]) ?_
 refine Kh ?_
 refine Kq ?_
 refine Kl ?_
 refine pu ?_
 refine pu ?_
 refine Kh ?_
 refine Ku rfl (fun hc6 => ?_) (fun hc6 => ?_)
 ·replace hm := yes_t hc6 hm
  refine KC ?_
  refine pu ?_
  refine pu ?_
  obtain ⟨x7, q7, hm⟩ := Kf hm
  refine pG (Kb7 x5.2 x3.2.gAt (6 : Int) o0 T0 c0_0 x7 q7) Wl Pf Pf ?_
  rintro _ _ _ ⟨rfl, rfl, rfl⟩
  refine Kv ?_
  refine K7 (d := Kw (⟨x5.1, x3.1⟩ : KR)) 2 htab rfl rfl rfl rfl rfl rfl rfl rfl ?_
  refine pS1 (ds' := [tD x5.1, .v (.bool x3.1)]) ?_
  refine Kh ?_
  refine Ks ?_
  have er8 := Kn hm; subst er8
  refine rP (t' := [(4, .ptr b1 0)]) [0,0] [] 1 (wC wN) (lC 1 lN) ?_
  exact ⟨rfl, rfl, rfl⟩
 ·replace hm := yes_f hc6 hm
  refine Ky ?_
  refine Km ?_
  refine Kl ?_
  refine K7 (d := Kw (⟨x5.1, x3.1⟩ : KR)) 2 htab rfl rfl rfl rfl rfl rfl rfl rfl ?_
  refine pS1 (ds' := [tD x5.1, .v (.bool x3.1)]) ?_
  refine Kh ?_
  refine Ks ?_
  have er9 := Kn hm; subst er9
  refine rP (t' := [(4, .ptr b1 0)]) [0,0] [] 1 (wC wN) (lC 1 lN) ?_
  exact ⟨rfl, rfl, rfl⟩
noncomputable def Kci (m0 : Kd) : Option (List KR × Kd) :=
 ((Kae m0 (ByteArray.mk #[40])).bind fun x1 => ((Kbr x1 (ByteArray.mk #[41])).bind fun x2 => (bif x2.1 then some (([] : List KR), x2.2) else ((KbD x2.2 (0 : Int)).bind fun x7 => ((app 24 ([] : List KR) ([x7.1] : List KR)).bind fun x8 => (Option.bind (α := List KR × List Kt × Int × Int) (loopM (fun (s26 : List KR × List Kt × Int × Int) => ((Kbr (⟨s26.2.1, s26.2.2.1, s26.2.2.2⟩ : Kd) (ByteArray.mk #[44])).bind fun x37 => (bif x37.1 then ((KbD x37.2 (s26.1.length : Int)).bind fun x39 => ((app 24 s26.1 ([x39.1] : List KR)).bind fun x40 => some (.next (x40, x39.2.gL, x39.2.gAt, x39.2.gE)))) else some (.done (s26.1, x37.2.gL, x37.2.gAt, x37.2.gE))))) (x8, x7.2.gL, x7.2.gAt, x7.2.gE)) fun y25 => ((Kae (⟨y25.2.1, y25.2.2.1, y25.2.2.2⟩ : Kd) (ByteArray.mk #[41])).bind fun x41 => some (y25.1, x41))))))))
theorem Kj9 (m0 : Kd) (o0 : Nat) (T0 : TypeId) (c0_0 : Cap) (r : List KR × Kd) (h0 : Kci m0 = some r) : CallsD Try.prog 26 [.ptr o0 0] [(o0, Blk.cells [.lst 4 (m0.gL.map Kc) c0_0, iD m0.gAt, iD m0.gE] T0)] [] (fun d h k => ∃ y0, d = .lst 2 (r.1.map Kw) (.cur y0) ∧ h = [(o0, Blk.cells [.lst 4 (r.2.gL.map Kc) .no, iD r.2.gAt, iD r.2.gE] T0)] ∧ k = [(2, y0)]) := by
 have hm := KE h0
 unfold Kci at hm
 clear h0
 refine KW htab Try.func26 rfl rfl rfl rfl rfl (fun C => ?_)
 refine Kl ?_
 refine pu ?_
 refine Kv ?_
 refine pu ?_
 refine Kv ?_
 refine pu ?_
 obtain ⟨x1, q1, hm⟩ := Kf hm
 refine pG (Kat m0 (ByteArray.mk #[40]) o0 T0 c0_0 x1 q1) Wl Pf Pf ?_
 rintro _ _ _ ⟨rfl, rfl, rfl⟩
 refine Kh ?_
 refine Kq ?_
 refine Kl ?_
 refine pu ?_
 obtain ⟨x2, q2, hm⟩ := Kf hm
 refine pG (Kch x1 (ByteArray.mk #[41]) o0 T0 c0_0 x2 q2) Wl Pf Pf ?_
 rintro _ _ _ ⟨rfl, rfl, rfl⟩
 refine Kh ?_
 refine Ku rfl (fun hc4 => ?_) (fun hc4 => ?_)
 ·replace hm := yes_t hc4 hm
  refine Kl ?_
  refine pu ?_
  refine Kh ?_
  refine Ks ?_
  refine KD ?_
  have er5 := Kn hm; subst er5
  refine retX.tokN (i := 2) 2 rfl (fun w6 => ?_)
  refine retX.wk (WkS.bl0 (ds' := [.lst 4 (x2.2.gL.map Kc) .no, iD x2.2.gAt, iD x2.2.gE]) (rO (rC (rC WkR.nil)))) ?_
  refine rP (t' := [(2, .lst 2 (([] : List KR).map Kw) (.cur w6))]) [0] [0] 1 (wC wN) (lT lN) ?_
  exact ⟨w6, rfl, rfl, rfl⟩
 ·replace hm := yes_f hc4 hm
  refine Ky ?_
  refine Km ?_
  refine Kl ?_
  refine pu ?_
  refine pu ?_
  obtain ⟨x7, q7, hm⟩ := Kf hm
  refine pG (Ke6 x2.2 (0 : Int) o0 T0 c0_0 x7 q7) Wl Pf Pf ?_
  rintro _ _ _ ⟨rfl, rfl, rfl⟩
  refine p_lit htab rfl rfl rfl rfl rfl rfl rfl rfl rfl rfl rfl rfl rfl rfl ?_
  refine p_eq (i := 11) (d' := .lst 2 (([x7.1] : List KR).map Kw) .full) rfl (Wk.lst0 (.cons (WkC.refl _) (.nil))) ?_
  obtain ⟨x8, q8, hm⟩ := Kf hm
  refine p_app0 htab rfl rfl rfl rfl rfl rfl rfl rfl rfl rfl rfl rfl rfl rfl rfl (by simpa using Kbi (e := Kw) q8) (fun v8 => ?_)
  refine p_mapD0 (i := 12) q8 rfl ?_
  refine pu ?_
  refine Kh ?_
  refine Kq ?_
  obtain ⟨y25, q25, ho25⟩ := Kf hm
  refine K6 (Y := Value) (fun z25 => (⟨[(0, .ptr o0 0), (3, .lst 2 (y25.1.map Kw) (.cur z25))], [(o0, Blk.cells [.lst 4 (y25.2.1.map Kc) .no, iD y25.2.2.1, iD y25.2.2.2] T0)], [(2, z25)]⟩ : S)) ?_ ?_
  ·clear hm; have hm := KE q25
   refine KL ?_
   obtain ⟨u26, hl26, hq26⟩ := yes_m hm
   refine Kbe (Y := Value) hl26 (fun s26 z26 => (⟨[(0, .ptr o0 0), (3, .lst 2 (s26.1.map Kw) (.cur z26))], [(o0, Blk.cells [.lst 4 (s26.2.1.map Kc) .no, iD s26.2.2.1, iD s26.2.2.2] T0)], [(2, z26)]⟩ : S)) ?_ ?_
   ·skip
    refine WkX.wk (WkS.bl0 (ds' := [.lst 4 (x7.2.gL.map Kc) .no, iD x7.2.gAt, iD x7.2.gE]) (rO (rC (rC WkR.nil)))) ?_
    exact WkX.of v8 (WkS.perm (WkS.cons rfl (Wk.refl _) (WkS.cons rfl (Wk.refl _) (WkS.nil))) Pf Pf)
   ·intro G26 s26 z26 hm
    refine Kq ?_
    refine Kl ?_
    refine pu ?_
    obtain ⟨x37, q37, hm⟩ := Kf hm
    refine pG (Kch (⟨s26.2.1, s26.2.2.1, s26.2.2.2⟩ : Kd) (ByteArray.mk #[44]) o0 T0 .no x37 q37) Wl Pf Pf ?_
    rintro _ _ _ ⟨rfl, rfl, rfl⟩
    refine Kh ?_
    refine Ku rfl (fun hc38 => ?_) (fun hc38 => ?_)
    ·replace hm := yes_t hc38 hm
     refine Ky ?_
     refine Km ?_
     refine KL ?_
     refine KC ?_
     iterate 3 refine pu ?_
     refine KaP htab rfl rfl rfl rfl rfl rfl rfl (by first | exact Kaf | rfl) ?_
     obtain ⟨x39, q39, hm⟩ := Kf hm
     refine pG (Ke6 x37.2 (s26.1.length : Int) o0 T0 .no x39 q39) Wl Pf Pf ?_
     rintro _ _ _ ⟨rfl, rfl, rfl⟩
     refine p_lit htab rfl rfl rfl rfl rfl rfl rfl rfl rfl rfl rfl rfl rfl rfl ?_
     refine p_eq (i := 20) (d' := .lst 2 (([x39.1] : List KR).map Kw) .full) rfl (Wk.lst0 (.cons (WkC.refl _) (.nil))) ?_
     obtain ⟨x40, q40, hm⟩ := Kf hm
     refine KcS 0 htab rfl rfl rfl rfl rfl rfl rfl rfl rfl rfl rfl rfl rfl rfl rfl rfl rfl (Kbi q40) (fun v40 => ?_)
     refine KcT (i := 21) q40 rfl ?_
     refine pu ?_
     refine KB ?_
     refine KI ?_
     refine Km ⟨_, KaR hm, ?_⟩
     exact WkX.of v40 (WkS.perm (WkS.cons rfl (Wk.refl _) (WkS.cons rfl (Wk.refl _) (WkS.nil))) Pf Pf)
    ·replace hm := yes_f hc38 hm
     refine Kay ?_
     refine KN ?_
     have e26 := Kaq hm; subst e26; clear hm; have hm := hq26
     refine KN ?_
     refine Kao ?_
     have e25 := Kn hm; subst e25
     refine ⟨rfl, ?_⟩
     exact WkX.of z26 (WkS.perm (WkS.cons rfl (Wk.refl _) (WkS.cons rfl (Wk.refl _) (WkS.nil))) Pf Pf)
  ·intro s25 hw25; clear hm; have hm := ho25; clear q25 ho25
   refine Km ?_
   refine K3 hw25 (fun z25 => ?_)
   refine Kl ?_
   refine pu ?_
   obtain ⟨x41, q41, hm⟩ := Kf hm
   refine pG (Kat (⟨y25.2.1, y25.2.2.1, y25.2.2.2⟩ : Kd) (ByteArray.mk #[41]) o0 T0 .no x41 q41) Wl Pf Pf ?_
   rintro _ _ _ ⟨rfl, rfl, rfl⟩
   refine Kv ?_
   refine pu ?_
   refine pu ?_
   refine Kh ?_
   refine Ks ?_
   have er42 := Kn hm; subst er42
   refine rP (t' := [(2, .lst 2 (y25.1.map Kw) (.cur z25))]) [0] [0] 1 (wC wN) (lT lN) ?_
   exact ⟨z25, rfl, rfl, rfl⟩
noncomputable def Kdf (m0 : Kd) (a1 : Int) : Option (Kd) :=
 ((Kae m0 (ByteArray.mk #[123])).bind fun x1 => (bif (decide ((24 : Int) ≤ a1)) then ((Kbn x1 m0.gAt (5 : Int)).bind fun x3 => some x3) else some x1))
theorem Kii (m0 : Kd) (a1 : Int) (o0 : Nat) (T0 : TypeId) (c0_0 : Cap) (r : Kd) (h0 : Kdf m0 a1 = some r) : CallsD Try.prog 27 [.ptr o0 0, iD a1] [(o0, Blk.cells [.lst 4 (m0.gL.map Kc) c0_0, iD m0.gAt, iD m0.gE] T0)] [] (fun d h k => d = .tup [] ∧ h = [(o0, Blk.cells [.lst 4 (r.gL.map Kc) c0_0, iD r.gAt, iD r.gE] T0)] ∧ k = []) := by
 have hm := KE h0
 unfold Kdf at hm
 clear h0
 refine KW htab Try.func27 rfl rfl rfl rfl rfl (fun C => ?_)
 refine Kl ?_
 iterate 3 refine pu ?_
 refine pL 0 ?_
 refine pu ?_
 refine Kv ?_
 refine pu ?_
 obtain ⟨x1, q1, hm⟩ := Kf hm
 refine pG (Kat m0 (ByteArray.mk #[123]) o0 T0 c0_0 x1 q1) Wl Pf Pf ?_
 rintro _ _ _ ⟨rfl, rfl, rfl⟩
 refine Kv ?_
 refine pu ?_
 refine pu ?_
 refine Kh ?_
 refine Ku rfl (fun hc2 => ?_) (fun hc2 => ?_)
 ·replace hm := yes_t hc2 hm
  refine KC ?_
  refine pu ?_
  refine pu ?_
  obtain ⟨x3, q3, hm⟩ := Kf hm
  refine pG (Kb7 x1 m0.gAt (5 : Int) o0 T0 c0_0 x3 q3) Wl Pf Pf ?_
  rintro _ _ _ ⟨rfl, rfl, rfl⟩
  refine KB ?_
  have er4 := Kn hm; subst er4
  refine rP (t' := []) [0] [] 1 wN lN ?_
  exact ⟨rfl, rfl, rfl⟩
 ·replace hm := yes_f hc2 hm
  refine Ky ?_
  have er5 := Kn hm; subst er5
  refine rP (t' := []) [0] [] 1 wN lN ?_
  exact ⟨rfl, rfl, rfl⟩
noncomputable def Ked (m0 : Kd) (a1 : Int) : Option (Kt) :=
 (bif (decide ((IntKind.i64.wrap (m0.gAt + a1)) < (m0.gL.length : Int))) then ((idx m0.gL (IntKind.i64.wrap (m0.gAt + a1))).bind fun x3 => some x3) else some (⟨(0 : Int), ByteArray.empty, (0 : Int), (0 : Int)⟩ : Kt))
theorem Kij (m0 : Kd) (a1 : Int) (o0 : Nat) (T0 : TypeId) (c0_0 : Cap) (r : Kt) (h0 : Ked m0 a1 = some r) : CallsD Try.prog 74 [.ptr o0 0, iD a1] [(o0, Blk.cells [.lst 4 (m0.gL.map Kc) c0_0, iD m0.gAt, iD m0.gE] T0)] [] (fun d h k => d = Kc r ∧ h = [(o0, Blk.cells [.lst 4 (m0.gL.map Kc) c0_0, iD m0.gAt, iD m0.gE] T0)] ∧ k = []) := by
 have hm := KE h0
 unfold Ked at hm
 clear h0
 refine KW htab Try.func74 rfl rfl rfl rfl rfl (fun C => ?_)
 refine Kl ?_
 refine KP htab rfl rfl rfl rfl rfl rfl rfl (fun b1 => ?_)
 refine Kh ?_
 refine Kq ?_
 refine Kq ?_
 refine Kaj 11 [] [[],[0],[0,1],[0,1,2],[],[0,1,2],[],[6],[6,7],[6,7,8],[6,7,8,9]] [0,1,2,6,7,8,9] [[],[0],[0,1],[0,1,2],[],[0,1,2,3,4],[],[6],[6,7],[6,7,8],[6,7,8,9],[0,1,2,3,4,5,6,7,8,9,10]] (by kernel_rfl) (by kernel_rfl) (by kernel_rfl) (by rfl) (by rfl) (by kernel_rfl) ?_
 iterate 7 apply Exists.intro
 intro bs
 iterate 3 refine zep ?_
 refine z_qM rfl rfl (KF 0 htab rfl rfl rfl rfl rfl) rfl rfl rfl rfl rfl rfl ?_
 refine zqp ?_
 refine zqp ?_
 iterate 3 refine zep ?_
 refine z_eM rfl rfl (KF 0 htab rfl rfl rfl rfl rfl) rfl rfl rfl rfl rfl rfl ?_
 refine z_q rfl rfl (KdT htab rfl rfl rfl rfl (by first | exact Kaf | rfl)) rfl rfl rfl rfl rfl rfl ?_
 refine z_nil rfl rfl (fun e he => by simp [isAl] at he) ?_
 refine pu ?_
 refine Kh ?_
 refine Ku rfl (fun hc2 => ?_) (fun hc2 => ?_)
 ·replace hm := yes_t hc2 hm
  refine Kq ?_
  refine Kaj 10 [] [[],[0],[0,1],[0,1,2],[],[4],[4,5],[4,5,6],[],[4,5,6]] [0,1,2,3,4,5,6] [[],[0],[0,1],[0,1,2],[],[4],[4,5],[4,5,6],[],[4,5,6,7,8],[0,1,2,3,4,5,6,7,8,9],[0,1,2,3,4,5,6,7,8,9,10],[0,1,2,3,4,5,6,7,8,9,10,11]] (by kernel_rfl) (by kernel_rfl) (by kernel_rfl) (by rfl) (by rfl) (by kernel_rfl) ?_
  iterate 7 apply Exists.intro
  intro bs
  iterate 3 refine zep ?_
  refine z_eM rfl rfl (KF 0 htab rfl rfl rfl rfl rfl) rfl rfl rfl rfl rfl rfl ?_
  iterate 3 refine zep ?_
  refine z_qM rfl rfl (KF 0 htab rfl rfl rfl rfl rfl) rfl rfl rfl rfl rfl rfl ?_
  refine zqp ?_
  refine zqp ?_
  refine z_nil rfl rfl (fun e he => by simp [isAl] at he) ?_
  obtain ⟨x3, q3, hm⟩ := Kf hm
  refine Ka8 htab rfl rfl rfl rfl rfl rfl rfl rfl rfl rfl (Kr q3) (Kz q3) ?_
  refine KaE (d := Kc x3) htab rfl rfl rfl rfl rfl rfl rfl rfl ?_
  refine pS1 (ds' := [iD x3.gKind, tD x3.gText, iD x3.gN, iD x3.gAt]) ?_
  refine Kh ?_
  refine Ks ?_
  refine KD ?_
  have er4 := Kn hm; subst er4
  refine rP (t' := [(4, .ptr b1 0)]) [0,0] [] 1 (wC wN) (lC 1 lN) ?_
  exact ⟨rfl, rfl, rfl⟩
 ·replace hm := yes_f hc2 hm
  refine Ky ?_
  refine Km ?_
  refine Kl ?_
  refine Kal (r := [iD (0 : Int), tD ByteArray.empty, iD (0 : Int), iD (0 : Int)]) htab rfl rfl rfl rfl rfl rfl rfl rfl rfl ?_
  refine pS1 (ds' := [iD (0 : Int), tD ByteArray.empty, iD (0 : Int), iD (0 : Int)]) ?_
  refine Kh ?_
  refine Ks ?_
  have er5 := Kn hm; subst er5
  refine rP (t' := [(4, .ptr b1 0)]) [0,0] [] 1 (wC wN) (lC 1 lN) ?_
  exact ⟨rfl, rfl, rfl⟩
noncomputable def Kdg (g0 : (Ka) → Option (Int)) (a0 : Ka) : Option (Int) :=
 (Option.bind (α := Int) (loopM (fun (s16 : Int × Int) => (bif (decide (s16.2 < (a0.gKids.length : Int))) then ((idx a0.gKids s16.2).bind fun x26 => ((g0 x26).bind fun x27 => some (.next ((max s16.1 x27), (IntKind.i64.wrap (s16.2 + (1 : Int))))))) else some (.done s16.1))) ((0 : Int), (0 : Int))) fun y15 => some (IntKind.i64.wrap ((1 : Int) + y15)))
theorem Kka (g0 : (Ka) → Option (Int)) (hg0 : ∀ (a0 : Ka) (r : Int) (h0 : g0 a0 = some r), CallsD Try.prog 93 [Kg a0] [] [] (fun d h k => d = iD r ∧ h = [] ∧ k = [])) (a0 : Ka) (r : Int) (h0 : Kdg g0 a0 = some r) : CallsD Try.prog 93 [Kg a0] [] [] (fun d h k => d = iD r ∧ h = [] ∧ k = []) := by
 have hm := KE h0
 unfold Kdg at hm
 clear h0
 refine KW htab Try.func93 rfl rfl rfl rfl rfl (fun C => ?_)
 refine w_eq (i := 0) rfl (Wk.of_eq (Kk a0)) ?_
 refine Kl ?_
 refine p_box rfl rfl rfl rfl rfl rfl rfl (fun b1 => ?_)
 refine pu ?_
 refine Kv ?_
 refine pu ?_
 refine Kh ?_
 refine Kq ?_
 refine Kl ?_
 refine pu ?_
 refine Kh ?_
 obtain ⟨y15, q15, ho15⟩ := Kf hm
 refine K6 (Y := Unit) (fun z15 => (⟨[(3, iD y15)], [], []⟩ : S)) ?_ ?_
 ·clear hm; have hm := KE q15
  refine KL ?_
  obtain ⟨u16, hl16, hq16⟩ := yes_m hm
  refine Kbe (Y := Unit) hl16 (fun s16 z16 => (⟨[(1, .ptr b1 0), (3, iD s16.1), (4, iD s16.2)], [(b1, Blk.cells [iD a0.gOp, iD a0.gN, tD a0.gName, .lst 5 (a0.gKids.map Kg) .no, iD a0.gAt] 100)], []⟩ : S)) ?_ ?_
  ·skip
   exact WkX.of () (WkS.perm (WkS.cons rfl (Wk.refl _) (WkS.cons rfl (Wk.refl _) (WkS.cons rfl (Wk.refl _) (WkS.nil)))) Pf Pf)
  ·intro G16 s16 z16 hm
   refine Kq ?_
   refine Kl ?_
   refine pu ?_
   refine pu ?_
   refine pL 0 ?_
   refine KaP htab rfl rfl rfl rfl rfl rfl rfl (by first | exact Kaf | rfl) ?_
   refine pu ?_
   refine Kh ?_
   refine Ku rfl (fun hc25 => ?_) (fun hc25 => ?_)
   ·replace hm := yes_t hc25 hm
    refine Ky ?_
    refine Km ?_
    refine Kq ?_
    refine KL ?_
    refine KC ?_
    refine pu ?_
    refine pu ?_
    refine pL 0 ?_
    refine pu ?_
    obtain ⟨x26, q26, hm⟩ := Kf hm
    refine Ka8 htab rfl rfl rfl rfl rfl rfl rfl rfl rfl rfl (Kr q26) (Kz q26) ?_
    refine p_eq (i := 16) rfl (Wk.of_eq (congrArg D.el (Kk x26))) ?_
    refine KaE (d := .agg [iD x26.gOp, iD x26.gN, tD x26.gName, .lst 5 (x26.gKids.map Kg) .no, iD x26.gAt]) htab rfl rfl rfl rfl rfl rfl rfl rfl ?_
    obtain ⟨x27, q27, hm⟩ := Kf hm
    refine KaJ (hg0 x26 x27 q27) rfl rfl rfl rfl rfl (WkL.cons (Wk.trans (Wk.agg (WkR.refl _)) (Wk.of_eq (Kk x26).symm)) Wl) ?_
    rintro _ rfl
    refine p_max rfl rfl rfl rfl rfl rfl ?_
    refine pu ?_
    refine KB ?_
    refine KI ?_
    refine Km ?_
    refine KC ?_
    iterate 3 refine pu ?_
    refine KB ?_
    refine Km ⟨_, KaR hm, ?_⟩
    exact WkX.of () (WkS.perm (WkS.cons rfl (Wk.refl _) (WkS.cons rfl (Wk.refl _) (WkS.cons rfl (Wk.refl _) (WkS.nil)))) Pf Pf)
   ·replace hm := yes_f hc25 hm
    refine Kay ?_
    refine KN ?_
    have e16 := Kaq hm; subst e16; clear hm; have hm := hq16
    refine KN ?_
    refine Kao ?_
    have e15 := Kn hm; subst e15
    refine ⟨rfl, ?_⟩
    exact WkX.of () (WkS.perm (WkS.cons rfl (Wk.refl _) (WkS.nil)) Pf Pf)
 ·intro s15 hw15; clear hm; have hm := ho15; clear q15 ho15
  refine Km ?_
  refine K3 hw15 (fun z15 => ?_)
  refine Kl ?_
  iterate 3 refine pu ?_
  refine Kh ?_
  refine Ks ?_
  have er28 := Kn hm; subst er28
  refine rP (t' := [(2, iD (IntKind.i64.wrap ((1 : Int) + y15)))]) [] [] 0 (wC wN) (lT lN) ?_
  exact ⟨rfl, rfl, rfl⟩
noncomputable def Kcj : Nat → ((Ka) → Option (Int))
 | 0 => (fun _ => none)
 | n + 1 => (Kdg ((Kcj n)))
theorem KhX : ∀ n, (∀ (a0 : Ka) (r : Int) (h0 : (Kcj n) a0 = some r), CallsD Try.prog 93 [Kg a0] [] [] (fun d h k => d = iD r ∧ h = [] ∧ k = []))
  | 0 => fun _ _ h0 => by cases h0
  | n + 1 => by
    have ih := KhX n
    exact Kka (Kcj n) ih
theorem KhY : ∀ n, (∀ (a0 : Ka), Le ((Kcj n) a0) ((Kcj (n + 1)) a0))
  | 0 => fun _ => Le.none _
  | n + 1 => by
    have ih := KhY n
    exact fun a0 => by show Le (Kdg ((Kcj n)) a0) (Kdg ((Kcj (n + 1))) a0); unfold Kdg; repeat (first | exact Le.refl _ | exact ih _ | assumption | (refine Le.bind ?_ (fun _ => ?_)) | (refine Le.cond ?_ ?_) | (refine Le.loop (fun _ => ?_)) | (refine Le.elim (fun _ => ?_) (fun _ => ?_)))
noncomputable def KhK (a0 : Ka) : Option (Int) := anyN fun n => (Kcj n) a0
theorem KkA (a0 : Ka) {r : Int} (n : Nat) (h : (Kcj n) a0 = some r) : KhK a0 = some r := Kc8 (fun m => (KhY m) a0) h
theorem KkB (a0 : Ka) (r : Int) (h0 : KhK a0 = some r) : CallsD Try.prog 93 [Kg a0] [] [] (fun d h k => d = iD r ∧ h = [] ∧ k = []) :=
 let ⟨n, hn⟩ := KcB h0; (KhX n) a0  r hn
noncomputable def KbP (m0 : Kd) (a1 : Ka) (a2 : Int) : Option (Ka × Kd) :=
 (Option.bind (α := Bool) (bif (m0.gE == (0 : Int)) then ((KhK a1).bind fun x7 => some (decide ((24 : Int) < x7))) else some false) fun y5 => (bif y5 then ((Kbn m0 a2 (5 : Int)).bind fun x9 => some (a1, x9)) else some (a1, m0)))
theorem Kfv (m0 : Kd) (a1 : Ka) (a2 : Int) (o0 : Nat) (T0 : TypeId) (c0_0 : Cap) (r : Ka × Kd) (h0 : KbP m0 a1 a2 = some r) : CallsD Try.prog 87 [.ptr o0 0, Kg a1, iD a2] [(o0, Blk.cells [.lst 4 (m0.gL.map Kc) c0_0, iD m0.gAt, iD m0.gE] T0)] [] (fun d h k => d = Kg r.1 ∧ h = [(o0, Blk.cells [.lst 4 (r.2.gL.map Kc) c0_0, iD r.2.gAt, iD r.2.gE] T0)] ∧ k = []) := by
 have hm := KE h0
 unfold KbP at hm
 clear h0
 refine KW htab Try.func87 rfl rfl rfl rfl rfl (fun C => ?_)
 refine w_eq (i := 1) rfl (Wk.of_eq (Kk a1)) ?_
 refine Kl ?_
 refine p_box rfl rfl rfl rfl rfl rfl rfl (fun b1 => ?_)
 refine KP htab rfl rfl rfl rfl rfl rfl rfl (fun b2 => ?_)
 refine Kh ?_
 refine Kq ?_
 refine Kq ?_
 obtain ⟨y5, q5, ho5⟩ := Kf hm
 refine K6 (Y := Unit) (fun z5 => (⟨[(0, .ptr o0 0), (2, iD a2), (4, .ptr b1 0), (6, .ptr b2 0), (16, .v (.bool y5))], [(o0, Blk.cells [.lst 4 (m0.gL.map Kc) c0_0, iD m0.gAt, iD m0.gE] T0), (b1, Blk.cells [iD a1.gOp, iD a1.gN, tD a1.gName, .lst 5 (a1.gKids.map Kg) .no, iD a1.gAt] 100), (b2, Blk.cells [iD (0 : Int), iD (0 : Int), tD ByteArray.empty, .lst 1 [] .full, iD (0 : Int)] 100)], []⟩ : S)) ?_ ?_
 ·clear hm; have hm := KE q5
  refine KC ?_
  iterate 3 refine pu ?_
  refine pL 0 ?_
  refine pu ?_
  refine pu ?_
  refine K9 (i := 12) rfl (fun hg6 => ?_) (fun hg6 => ?_)
  ·replace hm := yes_t hg6 hm
   refine K7 (d := .agg [iD a1.gOp, iD a1.gN, tD a1.gName, .lst 5 (a1.gKids.map Kg) .no, iD a1.gAt]) 1 htab rfl rfl rfl rfl rfl rfl rfl rfl ?_
   obtain ⟨x7, q7, hm⟩ := Kf hm
   refine KaJ (KkB a1 x7 q7) rfl rfl rfl rfl rfl (WkL.cons (Wk.trans (Wk.agg (WkR.refl _)) (Wk.of_eq (Kk a1).symm)) Wl) ?_
   rintro _ rfl
   refine pu ?_
   refine KS rfl rfl rfl rfl rfl rfl ?_
   refine KB ?_
   have e5 := Kn hm; subst e5
   refine ⟨rfl, ?_⟩
   exact WkX.of () (WkS.perm (WkS.cons rfl (Wk.refl _) (WkS.cons rfl (Wk.refl _) (WkS.cons rfl (Wk.refl _) (WkS.cons rfl (Wk.refl _) (WkS.cons rfl (Wk.refl _) (WkS.nil)))))) Pf Pf)
  ·replace hm := yes_f hg6 hm
   iterate 3 refine pK ?_
   refine KH rfl rfl rfl rfl rfl rfl ?_
   refine KB ?_
   have e5 := Kn hm; subst e5
   refine ⟨rfl, ?_⟩
   exact WkX.of () (WkS.perm (WkS.cons rfl (Wk.refl _) (WkS.cons rfl (Wk.refl _) (WkS.cons rfl (Wk.refl _) (WkS.cons rfl (Wk.refl _) (WkS.cons rfl (Wk.refl _) (WkS.nil)))))) Pf Pf)
 ·intro s5 hw5; clear hm; have hm := ho5; clear q5 ho5
  refine Km ?_
  refine K3 hw5 (fun z5 => ?_)
  refine Ku rfl (fun hc8 => ?_) (fun hc8 => ?_)
  ·replace hm := yes_t hc8 hm
   refine KC ?_
   refine pu ?_
   refine pu ?_
   obtain ⟨x9, q9, hm⟩ := Kf hm
   refine pG (Kb7 m0 a2 (5 : Int) o0 T0 c0_0 x9 q9) Wl Pf Pf ?_
   rintro _ _ _ ⟨rfl, rfl, rfl⟩
   refine Kv ?_
   refine K7 (d := .agg [iD a1.gOp, iD a1.gN, tD a1.gName, .lst 5 (a1.gKids.map Kg) .no, iD a1.gAt]) 1 htab rfl rfl rfl rfl rfl rfl rfl rfl ?_
   refine pS2 (ds' := [iD a1.gOp, iD a1.gN, tD a1.gName, .lst 5 (a1.gKids.map Kg) .no, iD a1.gAt]) ?_
   refine Kh ?_
   refine Ks ?_
   have er10 := Kn hm; subst er10
   refine rP (t' := [(6, .ptr b2 0)]) [0,1] [] 1 (wC wN) (lC 1 lN) ?_
   exact ⟨by first | rfl | (simp only [wrapD, Kk]; done) | (simp only [wrapD, Kk]; rfl), rfl, rfl⟩
  ·replace hm := yes_f hc8 hm
   refine Ky ?_
   refine Km ?_
   refine Kl ?_
   refine K7 (d := .agg [iD a1.gOp, iD a1.gN, tD a1.gName, .lst 5 (a1.gKids.map Kg) .no, iD a1.gAt]) 1 htab rfl rfl rfl rfl rfl rfl rfl rfl ?_
   refine pS2 (ds' := [iD a1.gOp, iD a1.gN, tD a1.gName, .lst 5 (a1.gKids.map Kg) .no, iD a1.gAt]) ?_
   refine Kh ?_
   refine Ks ?_
   have er11 := Kn hm; subst er11
   refine rP (t' := [(6, .ptr b2 0)]) [0,1] [] 1 (wC wN) (lC 1 lN) ?_
   exact ⟨by first | rfl | (simp only [wrapD, Kk]; done) | (simp only [wrapD, Kk]; rfl), rfl, rfl⟩
noncomputable def Ke7 (a0 : Int) (a1 : ByteArray) : Option (Int) :=
 (Option.bind (α := (Unit) ⊕ (Int)) (loopM (fun (s27 : Int) => ((idx ([([(ByteArray.mk #[124, 124])] : List ByteArray), ([(ByteArray.mk #[38, 38])] : List ByteArray), ([(ByteArray.mk #[61, 61]), (ByteArray.mk #[33, 61])] : List ByteArray), ([(ByteArray.mk #[60]), (ByteArray.mk #[60, 61])] : List ByteArray), ([(ByteArray.mk #[43]), (ByteArray.mk #[45])] : List ByteArray), ([(ByteArray.mk #[42]), (ByteArray.mk #[47]), (ByteArray.mk #[37])] : List ByteArray)] : List (List ByteArray)) a0).bind fun x44 => (bif (decide (s27 < (x44.length : Int))) then ((idx ([([(ByteArray.mk #[124, 124])] : List ByteArray), ([(ByteArray.mk #[38, 38])] : List ByteArray), ([(ByteArray.mk #[61, 61]), (ByteArray.mk #[33, 61])] : List ByteArray), ([(ByteArray.mk #[60]), (ByteArray.mk #[60, 61])] : List ByteArray), ([(ByteArray.mk #[43]), (ByteArray.mk #[45])] : List ByteArray), ([(ByteArray.mk #[42]), (ByteArray.mk #[47]), (ByteArray.mk #[37])] : List ByteArray)] : List (List ByteArray)) a0).bind fun x46 => ((idx x46 s27).bind fun x47 => (bif (decide (x47 = a1)) then ((idx ([([(17 : Int)] : List Int), ([(16 : Int)] : List Int), ([(14 : Int), (15 : Int)] : List Int), ([(12 : Int), (13 : Int)] : List Int), ([(10 : Int), (11 : Int)] : List Int), ([(7 : Int), (8 : Int), (9 : Int)] : List Int)] : List (List Int)) a0).bind fun x49 => ((idx x49 s27).bind fun x50 => some (.done (.inr x50)))) else some (.next (IntKind.i64.wrap (s27 + (1 : Int))))))) else some (.done (.inl ()))))) (0 : Int)) (Sum.elim (fun y26 => some (0 : Int)) (fun r => some r)))
theorem KjU (a0 : Int) (a1 : ByteArray) (r : Int) (h0 : Ke7 a0 a1 = some r) : CallsD Try.prog 86 [iD a0, tD a1] [] [] (fun d h k => d = iD r ∧ h = [] ∧ k = []) := by
 have hm := KE h0
 unfold Ke7 at hm
 clear h0
 refine KW htab Try.func86 rfl rfl rfl rfl rfl (fun C => ?_)
 refine Kl ?_
 refine pu ?_
 refine Kv ?_
 refine p_lit htab rfl rfl rfl rfl rfl rfl rfl rfl rfl rfl rfl rfl rfl rfl ?_
 refine p_eq (i := 8) (d' := .lst 1 (([(ByteArray.mk #[124, 124])] : List ByteArray).map eStr) .full) rfl (Wk.lst0 (.cons (WkC.refl _) (.nil))) ?_
 refine p_lit htab rfl rfl rfl rfl rfl rfl rfl rfl rfl rfl rfl rfl rfl rfl ?_
 refine p_eq (i := 9) (d' := .lst 1 (([(ByteArray.mk #[38, 38])] : List ByteArray).map eStr) .full) rfl (Wk.lst0 (.cons (WkC.refl _) (.nil))) ?_
 refine p_lit htab rfl rfl rfl rfl rfl rfl rfl rfl rfl rfl rfl rfl rfl rfl ?_
 refine p_eq (i := 10) (d' := .lst 1 (([(ByteArray.mk #[61, 61]), (ByteArray.mk #[33, 61])] : List ByteArray).map eStr) .full) rfl (Wk.lst0 (.cons (WkC.refl _) (.cons (WkC.refl _) (.nil)))) ?_
 refine p_lit htab rfl rfl rfl rfl rfl rfl rfl rfl rfl rfl rfl rfl rfl rfl ?_
 refine p_eq (i := 11) (d' := .lst 1 (([(ByteArray.mk #[60]), (ByteArray.mk #[60, 61])] : List ByteArray).map eStr) .full) rfl (Wk.lst0 (.cons (WkC.refl _) (.cons (WkC.refl _) (.nil)))) ?_
 refine p_lit htab rfl rfl rfl rfl rfl rfl rfl rfl rfl rfl rfl rfl rfl rfl ?_
 refine p_eq (i := 12) (d' := .lst 1 (([(ByteArray.mk #[43]), (ByteArray.mk #[45])] : List ByteArray).map eStr) .full) rfl (Wk.lst0 (.cons (WkC.refl _) (.cons (WkC.refl _) (.nil)))) ?_
 refine p_lit htab rfl rfl rfl rfl rfl rfl rfl rfl rfl rfl rfl rfl rfl rfl ?_
 refine p_eq (i := 13) (d' := .lst 1 (([(ByteArray.mk #[42]), (ByteArray.mk #[47]), (ByteArray.mk #[37])] : List ByteArray).map eStr) .full) rfl (Wk.lst0 (.cons (WkC.refl _) (.cons (WkC.refl _) (.cons (WkC.refl _) (.nil))))) ?_
 refine p_lit htab rfl rfl rfl rfl rfl rfl rfl rfl rfl rfl rfl rfl rfl rfl ?_
 refine p_eq (i := 14) (d' := .lst 1 (([([(ByteArray.mk #[124, 124])] : List ByteArray), ([(ByteArray.mk #[38, 38])] : List ByteArray), ([(ByteArray.mk #[61, 61]), (ByteArray.mk #[33, 61])] : List ByteArray), ([(ByteArray.mk #[60]), (ByteArray.mk #[60, 61])] : List ByteArray), ([(ByteArray.mk #[43]), (ByteArray.mk #[45])] : List ByteArray), ([(ByteArray.mk #[42]), (ByteArray.mk #[47]), (ByteArray.mk #[37])] : List ByteArray)] : List (List ByteArray)).map (eList 1 eStr)) .full) rfl (Wk.lst0 (.cons (WkC.no) (.cons (WkC.no) (.cons (WkC.no) (.cons (WkC.no) (.cons (WkC.no) (.cons (WkC.no) (.nil)))))))) ?_
 refine pu ?_
 refine Kv ?_
 refine p_lit htab rfl rfl rfl rfl rfl rfl rfl rfl rfl rfl rfl rfl rfl rfl ?_
 refine p_eq (i := 15) (d' := .lst 1 (([(17 : Int)] : List Int).map eI64) .full) rfl (Wk.lst0 (.cons (WkC.refl _) (.nil))) ?_
 refine p_lit htab rfl rfl rfl rfl rfl rfl rfl rfl rfl rfl rfl rfl rfl rfl ?_
 refine p_eq (i := 16) (d' := .lst 1 (([(16 : Int)] : List Int).map eI64) .full) rfl (Wk.lst0 (.cons (WkC.refl _) (.nil))) ?_
 refine p_lit htab rfl rfl rfl rfl rfl rfl rfl rfl rfl rfl rfl rfl rfl rfl ?_
 refine p_eq (i := 17) (d' := .lst 1 (([(14 : Int), (15 : Int)] : List Int).map eI64) .full) rfl (Wk.lst0 (.cons (WkC.refl _) (.cons (WkC.refl _) (.nil)))) ?_
 refine p_lit htab rfl rfl rfl rfl rfl rfl rfl rfl rfl rfl rfl rfl rfl rfl ?_
 refine p_eq (i := 18) (d' := .lst 1 (([(12 : Int), (13 : Int)] : List Int).map eI64) .full) rfl (Wk.lst0 (.cons (WkC.refl _) (.cons (WkC.refl _) (.nil)))) ?_
 refine p_lit htab rfl rfl rfl rfl rfl rfl rfl rfl rfl rfl rfl rfl rfl rfl ?_
 refine p_eq (i := 19) (d' := .lst 1 (([(10 : Int), (11 : Int)] : List Int).map eI64) .full) rfl (Wk.lst0 (.cons (WkC.refl _) (.cons (WkC.refl _) (.nil)))) ?_
 refine p_lit htab rfl rfl rfl rfl rfl rfl rfl rfl rfl rfl rfl rfl rfl rfl ?_
 refine p_eq (i := 20) (d' := .lst 1 (([(7 : Int), (8 : Int), (9 : Int)] : List Int).map eI64) .full) rfl (Wk.lst0 (.cons (WkC.refl _) (.cons (WkC.refl _) (.cons (WkC.refl _) (.nil))))) ?_
 refine p_lit htab rfl rfl rfl rfl rfl rfl rfl rfl rfl rfl rfl rfl rfl rfl ?_
 refine p_eq (i := 21) (d' := .lst 1 (([([(17 : Int)] : List Int), ([(16 : Int)] : List Int), ([(14 : Int), (15 : Int)] : List Int), ([(12 : Int), (13 : Int)] : List Int), ([(10 : Int), (11 : Int)] : List Int), ([(7 : Int), (8 : Int), (9 : Int)] : List Int)] : List (List Int)).map (eList 1 eI64)) .full) rfl (Wk.lst0 (.cons (WkC.no) (.cons (WkC.no) (.cons (WkC.no) (.cons (WkC.no) (.cons (WkC.no) (.cons (WkC.no) (.nil)))))))) ?_
 refine pu ?_
 refine Kh ?_
 refine Kq ?_
 refine Kl ?_
 refine pu ?_
 refine Kh ?_
 obtain ⟨x26, q26, ho26⟩ := Kf hm
 refine KdN (τ := Unit) (Y := Unit) (fun y26 z26 => (⟨[], [], []⟩ : S)) x26 ?_ ?_
 ·clear hm; have hm := KE q26
  refine KL ?_
  obtain ⟨u27, hl27, hq27⟩ := yes_m hm
  refine Kbe (Y := Unit) hl27 (fun s27 z27 => (⟨[(0, iD a0), (1, tD a1), (5, .lst 1 (([([(ByteArray.mk #[124, 124])] : List ByteArray), ([(ByteArray.mk #[38, 38])] : List ByteArray), ([(ByteArray.mk #[61, 61]), (ByteArray.mk #[33, 61])] : List ByteArray), ([(ByteArray.mk #[60]), (ByteArray.mk #[60, 61])] : List ByteArray), ([(ByteArray.mk #[43]), (ByteArray.mk #[45])] : List ByteArray), ([(ByteArray.mk #[42]), (ByteArray.mk #[47]), (ByteArray.mk #[37])] : List ByteArray)] : List (List ByteArray)).map (eList 1 eStr)) .full), (6, .lst 1 (([([(17 : Int)] : List Int), ([(16 : Int)] : List Int), ([(14 : Int), (15 : Int)] : List Int), ([(12 : Int), (13 : Int)] : List Int), ([(10 : Int), (11 : Int)] : List Int), ([(7 : Int), (8 : Int), (9 : Int)] : List Int)] : List (List Int)).map (eList 1 eI64)) .full), (7, iD s27)], [], []⟩ : S)) ?_ ?_
  ·skip
   exact WkX.of () (WkS.perm (WkS.cons rfl (Wk.refl _) (WkS.cons rfl (Wk.refl _) (WkS.cons rfl (Wk.refl _) (WkS.cons rfl (Wk.refl _) (WkS.cons rfl (Wk.refl _) (WkS.nil)))))) Pf Pf)
  ·intro G27 s27 z27 hm
   refine Kq ?_
   refine Kl ?_
   iterate 3 refine pu ?_
   obtain ⟨x44, q44, hm⟩ := Kf hm
   refine Ka8 htab rfl rfl rfl rfl rfl rfl rfl rfl rfl rfl (Kr q44) (Kz q44) ?_
   refine KaE htab rfl rfl rfl rfl rfl rfl rfl rfl ?_
   refine KaP htab rfl rfl rfl rfl rfl rfl rfl (by first | exact Kaf | rfl) ?_
   refine pu ?_
   refine Kh ?_
   refine Ku rfl (fun hc45 => ?_) (fun hc45 => ?_)
   ·replace hm := yes_t hc45 hm
    refine Ky ?_
    refine Km ?_
    refine Kq ?_
    refine KL ?_
    refine Kl ?_
    refine pu ?_
    refine pu ?_
    obtain ⟨x46, q46, hm⟩ := Kf hm
    refine Ka8 htab rfl rfl rfl rfl rfl rfl rfl rfl rfl rfl (Kr q46) (Kz q46) ?_
    refine KaE htab rfl rfl rfl rfl rfl rfl rfl rfl ?_
    refine pu ?_
    obtain ⟨x47, q47, hm⟩ := Kf hm
    refine Ka8 htab rfl rfl rfl rfl rfl rfl rfl rfl rfl rfl (Kr q47) (Kz q47) ?_
    refine KaE htab rfl rfl rfl rfl rfl rfl rfl rfl ?_
    refine pu ?_
    refine pu ?_
    refine Kh ?_
    refine Ku rfl (fun hc48 => ?_) (fun hc48 => ?_)
    ·replace hm := yes_t hc48 hm
     refine Kl ?_
     refine pu ?_
     refine pu ?_
     obtain ⟨x49, q49, hm⟩ := Kf hm
     refine Ka8 htab rfl rfl rfl rfl rfl rfl rfl rfl rfl rfl (Kr q49) (Kz q49) ?_
     refine KaE htab rfl rfl rfl rfl rfl rfl rfl rfl ?_
     refine pu ?_
     obtain ⟨x50, q50, hm⟩ := Kf hm
     refine Ka8 htab rfl rfl rfl rfl rfl rfl rfl rfl rfl rfl (Kr q50) (Kz q50) ?_
     refine KaE htab rfl rfl rfl rfl rfl rfl rfl rfl ?_
     refine pu ?_
     refine Kh ?_
     refine Ks ?_
     refine K0 ?_
     refine KD ?_
     have e27 := Kaq hm; subst e27; clear hm; have hm := hq27
     refine KD ?_
     refine K0 ?_
     have e26 := Kn hm; subst e26; refine KbW ?_; clear hm; have hm := ho26; simp only [Sum.elim_inr] at hm
     refine KD ?_
     have er51 := Kn hm; subst er51
     refine rP (t' := [(4, iD x50)]) [] [] 0 (wC wN) (lT lN) ?_
     exact ⟨rfl, rfl, rfl⟩
    ·replace hm := yes_f hc48 hm
     refine Ky ?_
     refine KI ?_
     refine Km ?_
     refine KC ?_
     iterate 3 refine pu ?_
     refine KB ?_
     refine Km ⟨_, KaR hm, ?_⟩
     exact WkX.of () (WkS.perm (WkS.cons rfl (Wk.refl _) (WkS.cons rfl (Wk.refl _) (WkS.cons rfl (Wk.refl _) (WkS.cons rfl (Wk.refl _) (WkS.cons rfl (Wk.refl _) (WkS.nil)))))) Pf Pf)
   ·replace hm := yes_f hc45 hm
    refine Kay ?_
    refine KN ?_
    have e27 := Kaq hm; subst e27; clear hm; have hm := hq27
    refine KN ?_
    refine Kao ?_
    have e26 := Kn hm; subst e26
    refine Kdp ?_
    exact WkX.of () (WkS.perm (WkS.nil) Pf Pf)
 ·intro y26 s26 hx26 hw26; subst hx26; clear hm; have hm := ho26; simp only [Sum.elim_inl] at hm; clear q26 ho26
  refine Km ?_
  refine K3 hw26 (fun z26 => ?_)
  refine Kl ?_
  refine pu ?_
  refine Kh ?_
  refine Ks ?_
  have er52 := Kn hm; subst er52
  refine rP (t' := [(4, iD (0 : Int))]) [] [] 0 (wC wN) (lT lN) ?_
  exact ⟨rfl, rfl, rfl⟩
end Go.Proofs.Ytmgklehakmdiiaa.Ab
namespace Go.Proofs.Ytmgklehakmdiiaa.Ab
open Go
set_option linter.all false
noncomputable def Kb8 (g0 : (Kd) → (Int) → Option (Ka × Kd)) (g1 : (Kd) → Option (Ka × Kd)) (g2 : (Kd) → (Ka) → (Int) → (Int) → Option (Ka × Kd)) (m0 : Kd) (a1 : Int) : Option (Ka × Kd) :=
 (bif (a1 == (6 : Int)) then ((g1 m0).bind fun x5 => some (x5.1, x5.2)) else ((g0 m0 (IntKind.i64.wrap (a1 + (1 : Int)))).bind fun x7 => (Option.bind (α := List Kt × Int × Int × Int × Int × ByteArray × List Ka × Int) (loopM (fun (s68 : List Kt × Int × Int × Int × Int × ByteArray × List Ka × Int) => (Option.bind (α := Bool) (bif (s68.2.2.1 == (0 : Int)) then ((Kbc (⟨s68.1, s68.2.1, s68.2.2.1⟩ : Kd)).bind fun x114 => (bif (x114.gKind == (3 : Int)) then ((Kbc (⟨s68.1, s68.2.1, s68.2.2.1⟩ : Kd)).bind fun x116 => ((Ke7 a1 x116.gText).bind fun x117 => some (x117 != (0 : Int)))) else some false)) else some false) fun y112 => (bif y112 then ((Kbc (⟨s68.1, s68.2.1, s68.2.2.1⟩ : Kd)).bind fun x119 => ((g0 (⟨s68.1, (IntKind.i64.wrap (s68.2.1 + (1 : Int))), s68.2.2.1⟩ : Kd) (IntKind.i64.wrap (a1 + (1 : Int)))).bind fun x121 => ((Ke7 a1 x119.gText).bind fun x123 => ((KbP x121.2 (⟨x123, (0 : Int), ByteArray.empty, ([(⟨s68.2.2.2.1, s68.2.2.2.2.1, s68.2.2.2.2.2.1, s68.2.2.2.2.2.2.1, s68.2.2.2.2.2.2.2⟩ : Ka), x121.1] : List Ka), x119.gAt⟩ : Ka) s68.2.1).bind fun x124 => some (.next (x124.2.gL, x124.2.gAt, x124.2.gE, x124.1.gOp, x124.1.gN, x124.1.gName, x124.1.gKids, x124.1.gAt)))))) else some (.done (s68.1, s68.2.1, s68.2.2.1, s68.2.2.2.1, s68.2.2.2.2.1, s68.2.2.2.2.2.1, s68.2.2.2.2.2.2.1, s68.2.2.2.2.2.2.2))))) (x7.2.gL, x7.2.gAt, x7.2.gE, x7.1.gOp, x7.1.gN, x7.1.gName, x7.1.gKids, x7.1.gAt)) fun y67 => some ((⟨y67.2.2.2.1, y67.2.2.2.2.1, y67.2.2.2.2.2.1, y67.2.2.2.2.2.2.1, y67.2.2.2.2.2.2.2⟩ : Ka), (⟨y67.1, y67.2.1, y67.2.2.1⟩ : Kd)))))
theorem Kjp (g0 : (Kd) → (Int) → Option (Ka × Kd)) (g1 : (Kd) → Option (Ka × Kd)) (g2 : (Kd) → (Ka) → (Int) → (Int) → Option (Ka × Kd)) (hg0 : ∀ (m0 : Kd) (a1 : Int) (o0 : Nat) (T0 : TypeId) (c0_0 : Cap) (r : Ka × Kd) (h0 : g0 m0 a1 = some r), CallsD Try.prog 76 [.ptr o0 0, iD a1] [(o0, Blk.cells [.lst 4 (m0.gL.map Kc) c0_0, iD m0.gAt, iD m0.gE] T0)] [] (fun d h k => d = Kg r.1 ∧ h = [(o0, Blk.cells [.lst 4 (r.2.gL.map Kc) .no, iD r.2.gAt, iD r.2.gE] T0)] ∧ k = [])) (hg1 : ∀ (m0 : Kd) (o0 : Nat) (T0 : TypeId) (c0_0 : Cap) (r : Ka × Kd) (h0 : g1 m0 = some r), CallsD Try.prog 85 [.ptr o0 0] [(o0, Blk.cells [.lst 4 (m0.gL.map Kc) c0_0, iD m0.gAt, iD m0.gE] T0)] [] (fun d h k => d = Kg r.1 ∧ h = [(o0, Blk.cells [.lst 4 (r.2.gL.map Kc) .no, iD r.2.gAt, iD r.2.gE] T0)] ∧ k = [])) (hg2 : ∀ (m0 : Kd) (a1 : Ka) (a2 : Int) (a3 : Int) (o0 : Nat) (T0 : TypeId) (c0_0 : Cap) (r : Ka × Kd) (h0 : g2 m0 a1 a2 a3 = some r), CallsD Try.prog 92 [.ptr o0 0, Kg a1, iD a2, iD a3] [(o0, Blk.cells [.lst 4 (m0.gL.map Kc) c0_0, iD m0.gAt, iD m0.gE] T0)] [] (fun d h k => d = Kg r.1 ∧ h = [(o0, Blk.cells [.lst 4 (r.2.gL.map Kc) .no, iD r.2.gAt, iD r.2.gE] T0)] ∧ k = [])) (m0 : Kd) (a1 : Int) (o0 : Nat) (T0 : TypeId) (c0_0 : Cap) (r : Ka × Kd) (h0 : Kb8 g0 g1 g2 m0 a1 = some r) : CallsD Try.prog 76 [.ptr o0 0, iD a1] [(o0, Blk.cells [.lst 4 (m0.gL.map Kc) c0_0, iD m0.gAt, iD m0.gE] T0)] [] (fun d h k => d = Kg r.1 ∧ h = [(o0, Blk.cells [.lst 4 (r.2.gL.map Kc) .no, iD r.2.gAt, iD r.2.gE] T0)] ∧ k = []) := by
 have hm := KE h0
 unfold Kb8 at hm
 clear h0
 refine KW htab Try.func76 rfl rfl rfl rfl rfl (fun C => ?_)
 refine Kl ?_
 refine KP htab rfl rfl rfl rfl rfl rfl rfl (fun b1 => ?_)
 refine Kh ?_
 refine Kq ?_
 refine Kl ?_
 refine pu ?_
 refine pu ?_
 refine Kh ?_
 refine Ku rfl (fun hc4 => ?_) (fun hc4 => ?_)
 ·replace hm := yes_t hc4 hm
  refine Kl ?_
  refine pu ?_
  obtain ⟨x5, q5, hm⟩ := Kf hm
  refine pG (hg1 m0 o0 T0 c0_0 x5 q5) Wl Pf Pf ?_
  rintro _ _ _ ⟨rfl, rfl, rfl⟩
  refine p_eq (i := 12) rfl (Wk.of_eq (Kk x5.1)) ?_
  refine pS1 (ds' := [iD x5.1.gOp, iD x5.1.gN, tD x5.1.gName, .lst 5 (x5.1.gKids.map Kg) .no, iD x5.1.gAt]) ?_
  refine Kh ?_
  refine Ks ?_
  refine KD ?_
  have er6 := Kn hm; subst er6
  refine rP (t' := [(4, .ptr b1 0)]) [0,0] [] 1 (wC wN) (lC 1 lN) ?_
  exact ⟨by first | rfl | (simp only [wrapD, Kk]; done) | (simp only [wrapD, Kk]; rfl), rfl, rfl⟩
 ·replace hm := yes_f hc4 hm
  refine Ky ?_
  refine Km ?_
  refine Kl ?_
  iterate 3 refine pu ?_
  obtain ⟨x7, q7, hm⟩ := Kf hm
  refine pG (hg0 m0 (IntKind.i64.wrap (a1 + (1 : Int))) o0 T0 c0_0 x7 q7) Wl Pf Pf ?_
  rintro _ _ _ ⟨rfl, rfl, rfl⟩
  refine p_eq (i := 16) rfl (Wk.of_eq (Kk x7.1)) ?_
  refine KP htab rfl rfl rfl rfl rfl rfl rfl (fun b8 => ?_)
  refine pS2 (ds' := [iD x7.1.gOp, iD x7.1.gN, tD x7.1.gName, .lst 5 (x7.1.gKids.map Kg) .no, iD x7.1.gAt]) ?_
  refine Kh ?_
  refine Kq ?_
  obtain ⟨y67, q67, ho67⟩ := Kf hm
  refine K6 (Y := Unit) (fun z67 => (⟨[(4, .ptr b1 0), (5, .ptr b8 0)], [(o0, Blk.cells [.lst 4 (y67.1.map Kc) .no, iD y67.2.1, iD y67.2.2.1] T0), (b1, Blk.cells [iD (0 : Int), iD (0 : Int), tD ByteArray.empty, .lst 1 [] .full, iD (0 : Int)] 100), (b8, Blk.cells [iD y67.2.2.2.1, iD y67.2.2.2.2.1, tD y67.2.2.2.2.2.1, .lst 5 (y67.2.2.2.2.2.2.1.map Kg) .no, iD y67.2.2.2.2.2.2.2] 100)], []⟩ : S)) ?_ ?_
  ·clear hm; have hm := KE q67
   refine KL ?_
   obtain ⟨u68, hl68, hq68⟩ := yes_m hm
   refine Kbe (Y := Unit) hl68 (fun s68 z68 => (⟨[(0, .ptr o0 0), (1, iD a1), (4, .ptr b1 0), (5, .ptr b8 0)], [(o0, Blk.cells [.lst 4 (s68.1.map Kc) .no, iD s68.2.1, iD s68.2.2.1] T0), (b1, Blk.cells [iD (0 : Int), iD (0 : Int), tD ByteArray.empty, .lst 1 [] .full, iD (0 : Int)] 100), (b8, Blk.cells [iD s68.2.2.2.1, iD s68.2.2.2.2.1, tD s68.2.2.2.2.2.1, .lst 5 (s68.2.2.2.2.2.2.1.map Kg) .no, iD s68.2.2.2.2.2.2.2] 100)], []⟩ : S)) ?_ ?_
   ·skip
    exact WkX.of () (WkS.perm (WkS.cons rfl (Wk.refl _) (WkS.cons rfl (Wk.refl _) (WkS.cons rfl (Wk.refl _) (WkS.cons rfl (Wk.refl _) (WkS.nil))))) Pf Pf)
   ·intro G68 s68 z68 hm
    refine Kq ?_
    refine Kq ?_
    obtain ⟨y112, q112, ho112⟩ := Kf hm
    refine K6 (Y := Unit) (fun z112 => (⟨[(0, .ptr o0 0), (1, iD a1), (4, .ptr b1 0), (5, .ptr b8 0), (35, .v (.bool y112))], [(o0, Blk.cells [.lst 4 (s68.1.map Kc) .no, iD s68.2.1, iD s68.2.2.1] T0), (b1, Blk.cells [iD (0 : Int), iD (0 : Int), tD ByteArray.empty, .lst 1 [] .full, iD (0 : Int)] 100), (b8, Blk.cells [iD s68.2.2.2.1, iD s68.2.2.2.2.1, tD s68.2.2.2.2.2.1, .lst 5 (s68.2.2.2.2.2.2.1.map Kg) .no, iD s68.2.2.2.2.2.2.2] 100)], []⟩ : S)) ?_ ?_
    ·clear hm; have hm := KE q112
     refine KC ?_
     iterate 3 refine pu ?_
     refine pL 0 ?_
     refine pu ?_
     refine pu ?_
     refine K9 (i := 22) rfl (fun hg113 => ?_) (fun hg113 => ?_)
     ·replace hm := yes_t hg113 hm
      refine pu ?_
      obtain ⟨x114, q114, hm⟩ := Kf hm
      refine pG (KbI (⟨s68.1, s68.2.1, s68.2.2.1⟩ : Kd) o0 T0 .no x114 q114) Wl Pf Pf ?_
      rintro _ _ _ ⟨rfl, rfl, rfl⟩
      refine pu ?_
      refine pu ?_
      refine KS rfl rfl rfl rfl rfl rfl ?_
      refine pu ?_
      refine K9 (i := 28) rfl (fun hg115 => ?_) (fun hg115 => ?_)
      ·replace hm := yes_t hg115 hm
       refine pu ?_
       refine pu ?_
       obtain ⟨x116, q116, hm⟩ := Kf hm
       refine pG (KbI (⟨s68.1, s68.2.1, s68.2.2.1⟩ : Kd) o0 T0 .no x116 q116) Wl Pf Pf ?_
       rintro _ _ _ ⟨rfl, rfl, rfl⟩
       refine pu ?_
       obtain ⟨x117, q117, hm⟩ := Kf hm
       refine KaJ (KjU a1 x116.gText x117 q117) rfl rfl rfl rfl rfl Wl ?_
       rintro _ rfl
       refine pu ?_
       refine KS rfl rfl rfl rfl rfl rfl ?_
       refine KB ?_
       have e112 := Kn hm; subst e112
       refine ⟨rfl, ?_⟩
       exact WkX.of () (WkS.perm (WkS.cons rfl (Wk.refl _) (WkS.cons rfl (Wk.refl _) (WkS.cons rfl (Wk.refl _) (WkS.cons rfl (Wk.refl _) (WkS.cons rfl (Wk.refl _) (WkS.nil)))))) Pf Pf)
      ·replace hm := yes_f hg115 hm
       iterate 6 refine pK ?_
       refine KH rfl rfl rfl rfl rfl rfl ?_
       refine KB ?_
       have e112 := Kn hm; subst e112
       refine ⟨rfl, ?_⟩
       exact WkX.of () (WkS.perm (WkS.cons rfl (Wk.refl _) (WkS.cons rfl (Wk.refl _) (WkS.cons rfl (Wk.refl _) (WkS.cons rfl (Wk.refl _) (WkS.cons rfl (Wk.refl _) (WkS.nil)))))) Pf Pf)
     ·replace hm := yes_f hg113 hm
      iterate 4 refine pK ?_
      refine KH rfl rfl rfl rfl rfl rfl ?_
      refine pu ?_
      iterate 6 refine pK ?_
      refine KH rfl rfl rfl rfl rfl rfl ?_
      refine KB ?_
      have e112 := Kn hm; subst e112
      refine ⟨rfl, ?_⟩
      exact WkX.of () (WkS.perm (WkS.cons rfl (Wk.refl _) (WkS.cons rfl (Wk.refl _) (WkS.cons rfl (Wk.refl _) (WkS.cons rfl (Wk.refl _) (WkS.cons rfl (Wk.refl _) (WkS.nil)))))) Pf Pf)
    ·intro s112 hw112; clear hm; have hm := ho112; clear q112 ho112
     refine Km ?_
     refine K3 hw112 (fun z112 => ?_)
     refine Ku rfl (fun hc118 => ?_) (fun hc118 => ?_)
     ·replace hm := yes_t hc118 hm
      refine Ky ?_
      refine Km ?_
      refine KL ?_
      refine Kq ?_
      obtain ⟨x119, q119, hm⟩ := Kf hm
      refine KeO 8 [(6, [iD (0 : Int), tD ByteArray.empty, iD (0 : Int), iD (0 : Int)], 69)] [(6, 7, [iD x119.gKind, tD x119.gText, iD x119.gN, iD x119.gAt])] [[],[0],[],[2],[2,3],[2,3,4],[],[0,1,6]] [0,1,2,3,4,6,7] [[],[0],[],[2],[2,3],[2,3,4],[],[0,1,6],[0,1,2,3,4,5,6,7]] (by kernel_rfl) (by kernel_rfl) (by kernel_rfl) (by rfl) (by rfl) (by kernel_rfl) ?_
      iterate 5 apply Exists.intro
      refine ⟨.any, ?_⟩
      refine ⟨.any, ?_⟩
      intro bs
      refine zf_e rfl rfl (KT htab rfl) rfl rfl rfl rfl rfl rfl rfl ?_
      refine Kgf 0 rfl rfl (KbI (⟨s68.1, s68.2.1, s68.2.2.1⟩ : Kd) o0 T0 .no x119 q119) rfl rfl Wl rfl rfl rfl rfl rfl rfl rfl rfl ?_
      iterate 3 refine zf_e rfl rfl (KT htab rfl) rfl rfl rfl rfl rfl rfl rfl ?_
      refine zf_qM rfl rfl (KF 0 htab rfl rfl rfl rfl rfl) rfl rfl rfl rfl rfl rfl ?_
      refine Kfj rfl htab rfl rfl rfl rfl rfl rfl rfl rfl rfl rfl (by simp [dOf, eI64]) (by simp) ?_
      refine Kf4 (e := 6) (zs := [iD (0 : Int), tD ByteArray.empty, iD (0 : Int), iD (0 : Int)]) (T' := 69) (ds' := [iD x119.gKind, tD x119.gText, iD x119.gN, iD x119.gAt]) htab rfl rfl rfl rfl rfl rfl rfl rfl rfl (by simp) (by simp) rfl rfl rfl rfl rfl rfl rfl rfl rfl ?_
      refine Kg9 (h' := [(o0, Blk.cells [.lst 4 (s68.1.map Kc) .no, iD s68.2.1, iD s68.2.2.1] T0), (b1, Blk.cells [iD (0 : Int), iD (0 : Int), tD ByteArray.empty, .lst 1 [] .full, iD (0 : Int)] 100), (b8, Blk.cells [iD s68.2.2.2.1, iD s68.2.2.2.2.1, tD s68.2.2.2.2.2.1, .lst 5 (s68.2.2.2.2.2.2.1.map Kg) .no, iD s68.2.2.2.2.2.2.2] 100), (bs 6, Blk.cells [iD x119.gKind, tD x119.gText, iD x119.gN, iD x119.gAt] 69)]) rfl rfl rfl (fun e he => by simp [isAl] at he; subst he; rfl) ?_
      obtain ⟨b120, hb120⟩ : ∃ b, bs 6 = b := ⟨_, rfl⟩
      simp only [hb120]
      clear hb120
      refine pu ?_
      refine Kv ?_
      iterate 3 refine pu ?_
      refine pL 0 ?_
      iterate 3 refine pu ?_
      refine pS0 (ds' := [.lst 4 (s68.1.map Kc) .no, iD (IntKind.i64.wrap (s68.2.1 + (1 : Int))), iD s68.2.2.1]) ?_
      refine Kv ?_
      iterate 3 refine pu ?_
      obtain ⟨x121, q121, hm⟩ := Kf hm
      refine pG (hg0 (⟨s68.1, (IntKind.i64.wrap (s68.2.1 + (1 : Int))), s68.2.2.1⟩ : Kd) (IntKind.i64.wrap (a1 + (1 : Int))) o0 T0 .no x121 q121) Wl Pf Pf ?_
      rintro _ _ _ ⟨rfl, rfl, rfl⟩
      refine p_eq (i := 52) rfl (Wk.of_eq (Kk x121.1)) ?_
      refine KP htab rfl rfl rfl rfl rfl rfl rfl (fun b122 => ?_)
      refine pS4 (ds' := [iD x121.1.gOp, iD x121.1.gN, tD x121.1.gName, .lst 5 (x121.1.gKids.map Kg) .no, iD x121.1.gAt]) ?_
      refine Kh ?_
      obtain ⟨x123, q123, hm⟩ := Kf hm
      refine Kaj 12 [] [[],[],[],[2],[2],[],[],[5,6],[],[8],[2,4,5,6,7,8],[]] [0,2,4,5,6,7,8,10] [[],[],[],[2],[1,2,3],[],[],[5,6],[],[8],[1,2,3,4,5,6,7,8,9],[],[0,1,2,3,4,5,6,7,8,9,10,11],[0,1,2,3,4,5,6,7,8,9,10,11,12]] (by kernel_rfl) (by kernel_rfl) (by kernel_rfl) (by rfl) (by rfl) (by kernel_rfl) ?_
      iterate 8 apply Exists.intro
      intro bs
      refine zep ?_
      refine zqp ?_
      refine zep ?_
      refine z_qM rfl rfl (KF 3 htab rfl rfl rfl rfl rfl) rfl rfl rfl rfl rfl rfl ?_
      refine KdD rfl rfl (KjU a1 x119.gText x123 q123) rfl rfl Wl rfl rfl rfl rfl rfl rfl ?_
      refine z_eM rfl rfl (KF (d := .agg [iD s68.2.2.2.1, iD s68.2.2.2.2.1, tD s68.2.2.2.2.2.1, .lst 5 (s68.2.2.2.2.2.2.1.map Kg) .no, iD s68.2.2.2.2.2.2.2]) 2 htab rfl rfl rfl rfl rfl) rfl rfl rfl rfl rfl rfl ?_
      refine z_eM rfl rfl (KF (d := .agg [iD x121.1.gOp, iD x121.1.gN, tD x121.1.gName, .lst 5 (x121.1.gKids.map Kg) .no, iD x121.1.gAt]) 4 htab rfl rfl rfl rfl rfl) rfl rfl rfl rfl rfl rfl ?_
      refine z_E rfl rfl (ExE.wk (x_lit htab rfl rfl rfl rfl rfl rfl rfl rfl rfl rfl rfl) (show Wk _ (.lst 5 (([(⟨s68.2.2.2.1, s68.2.2.2.2.1, s68.2.2.2.2.2.1, s68.2.2.2.2.2.2.1, s68.2.2.2.2.2.2.2⟩ : Ka), x121.1] : List Ka).map Kg) .full) from Wk.lst0 (.cons (WkC.trans (WkC.agg (WkR.refl _)) (WkC.of_eq (Kk (⟨s68.2.2.2.1, s68.2.2.2.2.1, s68.2.2.2.2.2.1, s68.2.2.2.2.2.2.1, s68.2.2.2.2.2.2.2⟩ : Ka)).symm)) (.cons (WkC.trans (WkC.agg (WkR.refl _)) (WkC.of_eq (Kk x121.1).symm)) (.nil))))) rfl rfl rfl rfl rfl rfl ?_
      refine zep ?_
      refine z_qM rfl rfl (KF 3 htab rfl rfl rfl rfl rfl) rfl rfl rfl rfl rfl rfl ?_
      refine z_e rfl rfl (KdY (r := [iD x123, iD (0 : Int), tD ByteArray.empty, .lst 5 (([(⟨s68.2.2.2.1, s68.2.2.2.2.1, s68.2.2.2.2.2.1, s68.2.2.2.2.2.2.1, s68.2.2.2.2.2.2.2⟩ : Ka), x121.1] : List Ka).map Kg) .full, iD x119.gAt]) htab rfl rfl rfl rfl rfl rfl) rfl rfl rfl rfl rfl rfl ?_
      refine zqp ?_
      refine z_nil rfl rfl (fun e he => by simp [isAl] at he) ?_
      obtain ⟨x124, q124, hm⟩ := Kf hm
      refine Kam (Kfv x121.2 (⟨x123, (0 : Int), ByteArray.empty, ([(⟨s68.2.2.2.1, s68.2.2.2.2.1, s68.2.2.2.2.2.1, s68.2.2.2.2.2.2.1, s68.2.2.2.2.2.2.2⟩ : Ka), x121.1] : List Ka), x119.gAt⟩ : Ka) s68.2.1 o0 T0 .no x124 q124) rfl rfl rfl rfl rfl (WkL.cons (Wk.refl _) (WkL.cons (Wk.trans (Wk.agg (rC (rC (rC (rO (rC WkR.nil)))))) (Wk.of_eq (Kk (⟨x123, (0 : Int), ByteArray.empty, ([(⟨s68.2.2.2.1, s68.2.2.2.2.1, s68.2.2.2.2.2.1, s68.2.2.2.2.2.2.1, s68.2.2.2.2.2.2.2⟩ : Ka), x121.1] : List Ka), x119.gAt⟩ : Ka)).symm)) (WkL.cons (Wk.refl _) Wl))) Pf Pf ?_
      rintro _ _ _ ⟨rfl, rfl, rfl⟩
      refine p_eq (i := 65) rfl (Wk.of_eq (Kk x124.1)) ?_
      refine pS2 (ds' := [iD x124.1.gOp, iD x124.1.gN, tD x124.1.gName, .lst 5 (x124.1.gKids.map Kg) .no, iD x124.1.gAt]) ?_
      refine KB ?_
      refine KI ?_
      refine Km ⟨_, KaR hm, ?_⟩
      exact WkX.of () (WkS.perm (WkS.cons rfl (Wk.refl _) (WkS.cons rfl (Wk.refl _) (WkS.cons rfl (Wk.refl _) (WkS.cons rfl (Wk.refl _) (WkS.nil))))) Pf Pf)
     ·replace hm := yes_f hc118 hm
      refine Kay ?_
      refine KN ?_
      have e68 := Kaq hm; subst e68; clear hm; have hm := hq68
      refine KN ?_
      refine Kao ?_
      have e67 := Kn hm; subst e67
      refine ⟨rfl, ?_⟩
      exact WkX.of () (WkS.perm (WkS.cons rfl (Wk.refl _) (WkS.cons rfl (Wk.refl _) (WkS.nil))) Pf Pf)
  ·intro s67 hw67; clear hm; have hm := ho67; clear q67 ho67
   refine Km ?_
   refine K3 hw67 (fun z67 => ?_)
   refine Kl ?_
   refine K7 (d := .agg [iD y67.2.2.2.1, iD y67.2.2.2.2.1, tD y67.2.2.2.2.2.1, .lst 5 (y67.2.2.2.2.2.2.1.map Kg) .no, iD y67.2.2.2.2.2.2.2]) 2 htab rfl rfl rfl rfl rfl rfl rfl rfl ?_
   refine pS1 (ds' := [iD y67.2.2.2.1, iD y67.2.2.2.2.1, tD y67.2.2.2.2.2.1, .lst 5 (y67.2.2.2.2.2.2.1.map Kg) .no, iD y67.2.2.2.2.2.2.2]) ?_
   refine Kh ?_
   refine Ks ?_
   have er125 := Kn hm; subst er125
   refine rP (t' := [(4, .ptr b1 0)]) [0,0] [] 1 (wC wN) (lC 1 lN) ?_
   exact ⟨by first | rfl | (simp only [wrapD, Kk]; done) | (simp only [wrapD, Kk]; rfl), rfl, rfl⟩
noncomputable def Kdh (g0 : (Kd) → (Int) → Option (Ka × Kd)) (g1 : (Kd) → Option (Ka × Kd)) (g2 : (Kd) → (Ka) → (Int) → (Int) → Option (Ka × Kd)) (m0 : Kd) : Option (Ka × Kd) :=
 (bif (m0.gE != (0 : Int)) then some ((⟨(0 : Int), (0 : Int), ByteArray.empty, [], (0 : Int)⟩ : Ka), m0) else ((Kbc m0).bind fun x5 => (bif (x5.gKind == (2 : Int)) then some ((⟨(1 : Int), x5.gN, ByteArray.empty, [], x5.gAt⟩ : Ka), (⟨m0.gL, (IntKind.i64.wrap (m0.gAt + (1 : Int))), m0.gE⟩ : Kd)) else (bif (x5.gKind == (1 : Int)) then ((g2 (⟨m0.gL, (IntKind.i64.wrap (m0.gAt + (1 : Int))), m0.gE⟩ : Kd) (⟨(2 : Int), (0 : Int), x5.gText, [], x5.gAt⟩ : Ka) (3 : Int) m0.gAt).bind fun x13 => some (x13.1, x13.2)) else (Option.bind (α := (Unit) ⊕ (Ka × Kd)) (bif (x5.gKind == (3 : Int)) then (bif (decide (x5.gText = (ByteArray.mk #[45]))) then ((g1 (⟨m0.gL, (IntKind.i64.wrap (m0.gAt + (1 : Int))), m0.gE⟩ : Kd)).bind fun x73 => ((KbP x73.2 (⟨(5 : Int), (0 : Int), ByteArray.empty, ([x73.1] : List Ka), x5.gAt⟩ : Ka) m0.gAt).bind fun x75 => some (.inr (x75.1, x75.2)))) else (bif (decide (x5.gText = (ByteArray.mk #[33]))) then ((g1 (⟨m0.gL, (IntKind.i64.wrap (m0.gAt + (1 : Int))), m0.gE⟩ : Kd)).bind fun x92 => ((KbP x92.2 (⟨(6 : Int), (0 : Int), ByteArray.empty, ([x92.1] : List Ka), x5.gAt⟩ : Ka) m0.gAt).bind fun x94 => some (.inr (x94.1, x94.2)))) else (bif (decide (x5.gText = (ByteArray.mk #[42]))) then ((Kbo (⟨m0.gL, (IntKind.i64.wrap (m0.gAt + (1 : Int))), m0.gE⟩ : Kd)).bind fun x107 => some (.inr ((⟨(4 : Int), (0 : Int), x107.1, [], x5.gAt⟩ : Ka), x107.2))) else (bif (decide (x5.gText = (ByteArray.mk #[38]))) then ((Kbo (⟨m0.gL, (IntKind.i64.wrap (m0.gAt + (1 : Int))), m0.gE⟩ : Kd)).bind fun x118 => ((g2 x118.2 (⟨(19 : Int), (0 : Int), x118.1, [], x5.gAt⟩ : Ka) (20 : Int) m0.gAt).bind fun x119 => some (.inr (x119.1, x119.2)))) else (bif (decide (x5.gText = (ByteArray.mk #[110, 117, 108, 108]))) then some (.inr ((⟨(18 : Int), (0 : Int), ByteArray.empty, [], x5.gAt⟩ : Ka), (⟨m0.gL, (IntKind.i64.wrap (m0.gAt + (1 : Int))), m0.gE⟩ : Kd))) else (bif (decide (x5.gText = (ByteArray.mk #[40]))) then ((g0 (⟨m0.gL, (IntKind.i64.wrap (m0.gAt + (1 : Int))), m0.gE⟩ : Kd) (0 : Int)).bind fun x133 => ((Kae x133.2 (ByteArray.mk #[41])).bind fun x135 => some (.inr (x133.1, x135)))) else some (.inl ()))))))) else some (.inl ())) (Sum.elim (fun y34 => ((Kbn (⟨m0.gL, (IntKind.i64.wrap (m0.gAt + (1 : Int))), m0.gE⟩ : Kd) m0.gAt (3 : Int)).bind fun x137 => some ((⟨(0 : Int), (0 : Int), ByteArray.empty, [], (0 : Int)⟩ : Ka), x137))) (fun r => some r)))))))
theorem Kkb (g0 : (Kd) → (Int) → Option (Ka × Kd)) (g1 : (Kd) → Option (Ka × Kd)) (g2 : (Kd) → (Ka) → (Int) → (Int) → Option (Ka × Kd)) (hg0 : ∀ (m0 : Kd) (a1 : Int) (o0 : Nat) (T0 : TypeId) (c0_0 : Cap) (r : Ka × Kd) (h0 : g0 m0 a1 = some r), CallsD Try.prog 76 [.ptr o0 0, iD a1] [(o0, Blk.cells [.lst 4 (m0.gL.map Kc) c0_0, iD m0.gAt, iD m0.gE] T0)] [] (fun d h k => d = Kg r.1 ∧ h = [(o0, Blk.cells [.lst 4 (r.2.gL.map Kc) .no, iD r.2.gAt, iD r.2.gE] T0)] ∧ k = [])) (hg1 : ∀ (m0 : Kd) (o0 : Nat) (T0 : TypeId) (c0_0 : Cap) (r : Ka × Kd) (h0 : g1 m0 = some r), CallsD Try.prog 85 [.ptr o0 0] [(o0, Blk.cells [.lst 4 (m0.gL.map Kc) c0_0, iD m0.gAt, iD m0.gE] T0)] [] (fun d h k => d = Kg r.1 ∧ h = [(o0, Blk.cells [.lst 4 (r.2.gL.map Kc) .no, iD r.2.gAt, iD r.2.gE] T0)] ∧ k = [])) (hg2 : ∀ (m0 : Kd) (a1 : Ka) (a2 : Int) (a3 : Int) (o0 : Nat) (T0 : TypeId) (c0_0 : Cap) (r : Ka × Kd) (h0 : g2 m0 a1 a2 a3 = some r), CallsD Try.prog 92 [.ptr o0 0, Kg a1, iD a2, iD a3] [(o0, Blk.cells [.lst 4 (m0.gL.map Kc) c0_0, iD m0.gAt, iD m0.gE] T0)] [] (fun d h k => d = Kg r.1 ∧ h = [(o0, Blk.cells [.lst 4 (r.2.gL.map Kc) .no, iD r.2.gAt, iD r.2.gE] T0)] ∧ k = [])) (m0 : Kd) (o0 : Nat) (T0 : TypeId) (c0_0 : Cap) (r : Ka × Kd) (h0 : Kdh g0 g1 g2 m0 = some r) : CallsD Try.prog 85 [.ptr o0 0] [(o0, Blk.cells [.lst 4 (m0.gL.map Kc) c0_0, iD m0.gAt, iD m0.gE] T0)] [] (fun d h k => d = Kg r.1 ∧ h = [(o0, Blk.cells [.lst 4 (r.2.gL.map Kc) .no, iD r.2.gAt, iD r.2.gE] T0)] ∧ k = []) := by
 have hm := KE h0
 unfold Kdh at hm
 clear h0
 refine KW htab Try.func85 rfl rfl rfl rfl rfl (fun C => ?_)
 refine Kl ?_
 refine KP htab rfl rfl rfl rfl rfl rfl rfl (fun b1 => ?_)
 refine Kh ?_
 refine Kq ?_
 refine Kl ?_
 iterate 3 refine pu ?_
 refine pL 0 ?_
 refine pu ?_
 refine Kh ?_
 refine Ku rfl (fun hc3 => ?_) (fun hc3 => ?_)
 ·replace hm := yes_t hc3 hm
  refine Kl ?_
  refine Kal (r := [iD (0 : Int), iD (0 : Int), tD ByteArray.empty, .lst 1 [] .full, iD (0 : Int)]) htab rfl rfl rfl rfl rfl rfl rfl rfl rfl ?_
  refine pS1 (ds' := [iD (0 : Int), iD (0 : Int), tD ByteArray.empty, .lst 1 [] .full, iD (0 : Int)]) ?_
  refine Kh ?_
  refine Ks ?_
  refine KD ?_
  have er4 := Kn hm; subst er4
  refine retX.wk (WkS.bl1 (ds' := [iD (0 : Int), iD (0 : Int), tD ByteArray.empty, .lst 5 (([] : List Ka).map Kg) .no, iD (0 : Int)]) (rC (rC (rC (WkR.cons (WkC.nil) rfl (rC WkR.nil)))))) ?_
  refine retX.wk (WkS.bl0 (ds' := [.lst 4 (m0.gL.map Kc) .no, iD m0.gAt, iD m0.gE]) (rO (rC (rC WkR.nil)))) ?_
  refine rP (t' := [(2, .ptr b1 0)]) [0,0] [] 1 (wC wN) (lC 1 lN) ?_
  exact ⟨by first | rfl | (simp only [wrapD, Kk]; done) | (simp only [wrapD, Kk]; rfl), rfl, rfl⟩
 ·replace hm := yes_f hc3 hm
  refine Ky ?_
  refine Km ?_
  refine Kq ?_
  obtain ⟨x5, q5, hm⟩ := Kf hm
  refine KeO 8 [(6, [iD (0 : Int), tD ByteArray.empty, iD (0 : Int), iD (0 : Int)], 69)] [(6, 7, [iD x5.gKind, tD x5.gText, iD x5.gN, iD x5.gAt])] [[],[0],[],[2],[2,3],[2,3,4],[],[0,1,6]] [0,1,2,3,4,6,7] [[],[0],[],[2],[2,3],[2,3,4],[],[0,1,6],[0,1,2,3,4,5,6,7]] (by kernel_rfl) (by kernel_rfl) (by kernel_rfl) (by rfl) (by rfl) (by kernel_rfl) ?_
  iterate 5 apply Exists.intro
  refine ⟨.any, ?_⟩
  refine ⟨.any, ?_⟩
  intro bs
  refine zf_e rfl rfl (KT htab rfl) rfl rfl rfl rfl rfl rfl rfl ?_
  refine Kgf 0 rfl rfl (KbI m0 o0 T0 c0_0 x5 q5) rfl rfl Wl rfl rfl rfl rfl rfl rfl rfl rfl ?_
  iterate 3 refine zf_e rfl rfl (KT htab rfl) rfl rfl rfl rfl rfl rfl rfl ?_
  refine zf_qM rfl rfl (KF 0 htab rfl rfl rfl rfl rfl) rfl rfl rfl rfl rfl rfl ?_
  refine Kfj rfl htab rfl rfl rfl rfl rfl rfl rfl rfl rfl rfl (by simp [dOf, eI64]) (by simp) ?_
  refine Kf4 (e := 6) (zs := [iD (0 : Int), tD ByteArray.empty, iD (0 : Int), iD (0 : Int)]) (T' := 69) (ds' := [iD x5.gKind, tD x5.gText, iD x5.gN, iD x5.gAt]) htab rfl rfl rfl rfl rfl rfl rfl rfl rfl (by simp) (by simp) rfl rfl rfl rfl rfl rfl rfl rfl rfl ?_
  refine Kg9 (h' := [(o0, Blk.cells [.lst 4 (m0.gL.map Kc) c0_0, iD m0.gAt, iD m0.gE] T0), (b1, Blk.cells [iD (0 : Int), iD (0 : Int), tD ByteArray.empty, .lst 1 [] .full, iD (0 : Int)] 100), (bs 6, Blk.cells [iD x5.gKind, tD x5.gText, iD x5.gN, iD x5.gAt] 69)]) rfl rfl rfl (fun e he => by simp [isAl] at he; subst he; rfl) ?_
  obtain ⟨b6, hb6⟩ : ∃ b, bs 6 = b := ⟨_, rfl⟩
  simp only [hb6]
  clear hb6
  refine pu ?_
  refine Kv ?_
  iterate 3 refine pu ?_
  refine pL 0 ?_
  iterate 3 refine pu ?_
  refine pS0 (ds' := [.lst 4 (m0.gL.map Kc) c0_0, iD (IntKind.i64.wrap (m0.gAt + (1 : Int))), iD m0.gE]) ?_
  refine Kh ?_
  refine Kq ?_
  refine Kl ?_
  refine pu ?_
  refine pL 2 ?_
  refine pu ?_
  refine Kh ?_
  refine Ku rfl (fun hc8 => ?_) (fun hc8 => ?_)
  ·replace hm := yes_t hc8 hm
   refine Kl ?_
   refine pu ?_
   refine pL 2 ?_
   refine pu ?_
   refine pL 2 ?_
   refine Kal (r := [iD (1 : Int), iD x5.gN, tD ByteArray.empty, .lst 1 [] .full, iD x5.gAt]) htab rfl rfl rfl rfl rfl rfl rfl rfl rfl ?_
   refine pS1 (ds' := [iD (1 : Int), iD x5.gN, tD ByteArray.empty, .lst 1 [] .full, iD x5.gAt]) ?_
   refine Kh ?_
   refine Ks ?_
   refine KD ?_
   have er9 := Kn hm; subst er9
   refine retX.wk (WkS.bl1 (ds' := [iD (1 : Int), iD x5.gN, tD ByteArray.empty, .lst 5 (([] : List Ka).map Kg) .no, iD x5.gAt]) (rC (rC (rC (WkR.cons (WkC.nil) rfl (rC WkR.nil)))))) ?_
   refine retX.wk (WkS.bl0 (ds' := [.lst 4 (m0.gL.map Kc) .no, iD (IntKind.i64.wrap (m0.gAt + (1 : Int))), iD m0.gE]) (rO (rC (rC WkR.nil)))) ?_
   refine rP (t' := [(2, .ptr b1 0)]) [0,0] [] 1 (wC wN) (lC 1 lN) ?_
   exact ⟨by first | rfl | (simp only [wrapD, Kk]; done) | (simp only [wrapD, Kk]; rfl), rfl, rfl⟩
  ·replace hm := yes_f hc8 hm
   refine Ky ?_
   refine Km ?_
   refine Kq ?_
   refine Kl ?_
   refine pu ?_
   refine pL 2 ?_
   refine pu ?_
   refine Kh ?_
   refine Ku rfl (fun hc12 => ?_) (fun hc12 => ?_)
   ·replace hm := yes_t hc12 hm
    refine Kl ?_
    refine pu ?_
    refine pu ?_
    refine pL 2 ?_
    refine pu ?_
    refine pL 2 ?_
    refine Kal (r := [iD (2 : Int), iD (0 : Int), tD x5.gText, .lst 1 [] .full, iD x5.gAt]) htab rfl rfl rfl rfl rfl rfl rfl rfl rfl ?_
    refine pu ?_
    obtain ⟨x13, q13, hm⟩ := Kf hm
    refine Kam (hg2 (⟨m0.gL, (IntKind.i64.wrap (m0.gAt + (1 : Int))), m0.gE⟩ : Kd) (⟨(2 : Int), (0 : Int), x5.gText, [], x5.gAt⟩ : Ka) (3 : Int) m0.gAt o0 T0 c0_0 x13 q13) rfl rfl rfl rfl rfl (WkL.cons (Wk.refl _) (WkL.cons (Wk.trans (Wk.agg (rC (rC (rC (WkR.cons (WkC.nil) rfl (rC WkR.nil)))))) (Wk.of_eq (Kk (⟨(2 : Int), (0 : Int), x5.gText, [], x5.gAt⟩ : Ka)).symm)) (WkL.cons (Wk.refl _) (WkL.cons (Wk.refl _) Wl)))) Pf Pf ?_
    rintro _ _ _ ⟨rfl, rfl, rfl⟩
    refine p_eq (i := 46) rfl (Wk.of_eq (Kk x13.1)) ?_
    refine pS1 (ds' := [iD x13.1.gOp, iD x13.1.gN, tD x13.1.gName, .lst 5 (x13.1.gKids.map Kg) .no, iD x13.1.gAt]) ?_
    refine Kh ?_
    refine Ks ?_
    refine KD ?_
    have er14 := Kn hm; subst er14
    refine rP (t' := [(2, .ptr b1 0)]) [0,0] [] 1 (wC wN) (lC 1 lN) ?_
    exact ⟨by first | rfl | (simp only [wrapD, Kk]; done) | (simp only [wrapD, Kk]; rfl), rfl, rfl⟩
   ·replace hm := yes_f hc12 hm
    refine Ky ?_
    refine Km ?_
    refine Kq ?_
    refine Kl ?_
    refine pu ?_
    refine pL 2 ?_
    refine pu ?_
    refine Kh ?_
    obtain ⟨x34, q34, ho34⟩ := Kf hm
    refine KdN (τ := Unit) (Y := Unit) (fun y34 z34 => (⟨[(0, .ptr o0 0), (2, .ptr b1 0), (4, iD m0.gAt)], [(o0, Blk.cells [.lst 4 (m0.gL.map Kc) c0_0, iD (IntKind.i64.wrap (m0.gAt + (1 : Int))), iD m0.gE] T0), (b1, Blk.cells [iD (0 : Int), iD (0 : Int), tD ByteArray.empty, .lst 1 [] .full, iD (0 : Int)] 100)], []⟩ : S)) x34 ?_ ?_
    ·clear hm; have hm := KE q34
     refine Ku rfl (fun hc35 => ?_) (fun hc35 => ?_)
     ·replace hm := yes_t hc35 hm
      refine Kl ?_
      refine pu ?_
      refine pL 2 ?_
      refine Kh ?_
      refine KL ?_
      refine Kl ?_
      refine pu ?_
      refine pu ?_
      refine Kh ?_
      refine Ku rfl (fun hc72 => ?_) (fun hc72 => ?_)
      ·replace hm := yes_t hc72 hm
       refine Kl ?_
       refine pu ?_
       obtain ⟨x73, q73, hm⟩ := Kf hm
       refine pG (hg1 (⟨m0.gL, (IntKind.i64.wrap (m0.gAt + (1 : Int))), m0.gE⟩ : Kd) o0 T0 c0_0 x73 q73) Wl Pf Pf ?_
       rintro _ _ _ ⟨rfl, rfl, rfl⟩
       refine p_eq (i := 55) rfl (Wk.of_eq (Kk x73.1)) ?_
       refine KP htab rfl rfl rfl rfl rfl rfl rfl (fun b74 => ?_)
       refine pS3 (ds' := [iD x73.1.gOp, iD x73.1.gN, tD x73.1.gName, .lst 5 (x73.1.gKids.map Kg) .no, iD x73.1.gAt]) ?_
       refine Kv ?_
       refine pu ?_
       refine K7 (d := .agg [iD x73.1.gOp, iD x73.1.gN, tD x73.1.gName, .lst 5 (x73.1.gKids.map Kg) .no, iD x73.1.gAt]) 3 htab rfl rfl rfl rfl rfl rfl rfl rfl ?_
       refine p_lit htab rfl rfl rfl rfl rfl rfl rfl rfl rfl rfl rfl rfl rfl rfl ?_
       refine p_eq (i := 58) (d' := .lst 5 (([x73.1] : List Ka).map Kg) .full) rfl (Wk.lst0 (.cons (WkC.trans (WkC.agg (WkR.refl _)) (WkC.of_eq (Kk x73.1).symm)) (.nil))) ?_
       refine pu ?_
       refine pL 2 ?_
       refine Kal (r := [iD (5 : Int), iD (0 : Int), tD ByteArray.empty, .lst 5 (([x73.1] : List Ka).map Kg) .full, iD x5.gAt]) htab rfl rfl rfl rfl rfl rfl rfl rfl rfl ?_
       refine pu ?_
       obtain ⟨x75, q75, hm⟩ := Kf hm
       refine Kam (Kfv x73.2 (⟨(5 : Int), (0 : Int), ByteArray.empty, ([x73.1] : List Ka), x5.gAt⟩ : Ka) m0.gAt o0 T0 .no x75 q75) rfl rfl rfl rfl rfl (WkL.cons (Wk.refl _) (WkL.cons (Wk.trans (Wk.agg (rC (rC (rC (rO (rC WkR.nil)))))) (Wk.of_eq (Kk (⟨(5 : Int), (0 : Int), ByteArray.empty, ([x73.1] : List Ka), x5.gAt⟩ : Ka)).symm)) (WkL.cons (Wk.refl _) Wl))) Pf Pf ?_
       rintro _ _ _ ⟨rfl, rfl, rfl⟩
       refine p_eq (i := 63) rfl (Wk.of_eq (Kk x75.1)) ?_
       refine pS1 (ds' := [iD x75.1.gOp, iD x75.1.gN, tD x75.1.gName, .lst 5 (x75.1.gKids.map Kg) .no, iD x75.1.gAt]) ?_
       refine Kh ?_
       refine Ks ?_
       refine K0 ?_
       have e34 := Kn hm; subst e34; refine KbW ?_; clear hm; have hm := ho34; simp only [Sum.elim_inr] at hm
       refine KD ?_
       have er76 := Kn hm; subst er76
       refine rP (t' := [(2, .ptr b1 0)]) [0,0] [] 1 (wC wN) (lC 1 lN) ?_
       exact ⟨by first | rfl | (simp only [wrapD, Kk]; done) | (simp only [wrapD, Kk]; rfl), rfl, rfl⟩
      ·replace hm := yes_f hc72 hm
       refine Kl ?_
       refine pu ?_
       refine pu ?_
       refine Kh ?_
       refine Ku rfl (fun hc91 => ?_) (fun hc91 => ?_)
       ·replace hm := yes_t hc91 hm
        refine Kl ?_
        refine pu ?_
        obtain ⟨x92, q92, hm⟩ := Kf hm
        refine pG (hg1 (⟨m0.gL, (IntKind.i64.wrap (m0.gAt + (1 : Int))), m0.gE⟩ : Kd) o0 T0 c0_0 x92 q92) Wl Pf Pf ?_
        rintro _ _ _ ⟨rfl, rfl, rfl⟩
        refine p_eq (i := 67) rfl (Wk.of_eq (Kk x92.1)) ?_
        refine KP htab rfl rfl rfl rfl rfl rfl rfl (fun b93 => ?_)
        refine pS3 (ds' := [iD x92.1.gOp, iD x92.1.gN, tD x92.1.gName, .lst 5 (x92.1.gKids.map Kg) .no, iD x92.1.gAt]) ?_
        refine Kv ?_
        refine pu ?_
        refine K7 (d := .agg [iD x92.1.gOp, iD x92.1.gN, tD x92.1.gName, .lst 5 (x92.1.gKids.map Kg) .no, iD x92.1.gAt]) 3 htab rfl rfl rfl rfl rfl rfl rfl rfl ?_
        refine p_lit htab rfl rfl rfl rfl rfl rfl rfl rfl rfl rfl rfl rfl rfl rfl ?_
        refine p_eq (i := 70) (d' := .lst 5 (([x92.1] : List Ka).map Kg) .full) rfl (Wk.lst0 (.cons (WkC.trans (WkC.agg (WkR.refl _)) (WkC.of_eq (Kk x92.1).symm)) (.nil))) ?_
        refine pu ?_
        refine pL 2 ?_
        refine Kal (r := [iD (6 : Int), iD (0 : Int), tD ByteArray.empty, .lst 5 (([x92.1] : List Ka).map Kg) .full, iD x5.gAt]) htab rfl rfl rfl rfl rfl rfl rfl rfl rfl ?_
        refine pu ?_
        obtain ⟨x94, q94, hm⟩ := Kf hm
        refine Kam (Kfv x92.2 (⟨(6 : Int), (0 : Int), ByteArray.empty, ([x92.1] : List Ka), x5.gAt⟩ : Ka) m0.gAt o0 T0 .no x94 q94) rfl rfl rfl rfl rfl (WkL.cons (Wk.refl _) (WkL.cons (Wk.trans (Wk.agg (rC (rC (rC (rO (rC WkR.nil)))))) (Wk.of_eq (Kk (⟨(6 : Int), (0 : Int), ByteArray.empty, ([x92.1] : List Ka), x5.gAt⟩ : Ka)).symm)) (WkL.cons (Wk.refl _) Wl))) Pf Pf ?_
        rintro _ _ _ ⟨rfl, rfl, rfl⟩
        refine p_eq (i := 75) rfl (Wk.of_eq (Kk x94.1)) ?_
        refine pS1 (ds' := [iD x94.1.gOp, iD x94.1.gN, tD x94.1.gName, .lst 5 (x94.1.gKids.map Kg) .no, iD x94.1.gAt]) ?_
        refine Kh ?_
        refine Ks ?_
        refine K0 ?_
        have e34 := Kn hm; subst e34; refine KbW ?_; clear hm; have hm := ho34; simp only [Sum.elim_inr] at hm
        refine KD ?_
        have er95 := Kn hm; subst er95
        refine rP (t' := [(2, .ptr b1 0)]) [0,0] [] 1 (wC wN) (lC 1 lN) ?_
        exact ⟨by first | rfl | (simp only [wrapD, Kk]; done) | (simp only [wrapD, Kk]; rfl), rfl, rfl⟩
       ·replace hm := yes_f hc91 hm
        refine Kl ?_
        refine pu ?_
        refine pu ?_
        refine Kh ?_
        refine Ku rfl (fun hc106 => ?_) (fun hc106 => ?_)
        ·replace hm := yes_t hc106 hm
         refine Kq ?_
         obtain ⟨x107, q107, hm⟩ := Kf hm
         refine KdM (X := BK) 4 [] [[],[0],[],[2]] [0,1,2,3] [[],[0],[],[2],[0,1,2,3],[0,1,2,3,4]] ⟨1, fun x => x.1 ++ [(b1, Blk.cells [iD (0 : Int), iD (0 : Int), tD ByteArray.empty, .lst 1 [] .full, iD (0 : Int)] 100), (b6, Blk.cells [iD x5.gKind, tD x5.gText, iD x5.gN, iD x5.gAt] 69)], fun x => x.2 ++ [], fun x => x.1 = [(o0, Blk.cells [.lst 4 (x107.2.gL.map Kc) c0_0, iD x107.2.gAt, iD x107.2.gE] T0)] ∧ x.2 = []⟩ ([], []) (by kernel_rfl) (by kernel_rfl) (by kernel_rfl) (by rfl) (by rfl) (by kernel_rfl) ?_
         iterate 4 apply Exists.intro
         intro bs
         refine zx_e rfl rfl (KT htab rfl) rfl rfl rfl rfl rfl rfl rfl rfl ?_
         refine KeJ (h1 := [(o0, Blk.cells [.lst 4 (m0.gL.map Kc) c0_0, iD (IntKind.i64.wrap (m0.gAt + (1 : Int))), iD m0.gE] T0)]) (k1 := []) (d := tD x107.1) rfl rfl rfl (KcK (⟨m0.gL, (IntKind.i64.wrap (m0.gAt + (1 : Int))), m0.gE⟩ : Kd) o0 T0 c0_0 x107 q107) rfl rfl Wl Pf Pf (fun _ => rfl) (fun _ => rfl) (fun d' h' k' ⟨e1, e2, e3⟩ => ⟨⟨e2, e3⟩, by subst e1; exact Wk.refl _⟩) rfl rfl rfl rfl rfl rfl ?_
         refine zx_e rfl rfl (KT htab rfl) rfl rfl rfl rfl rfl rfl rfl rfl ?_
         refine zx_M rfl rfl (fun _ => KF 2 htab rfl rfl rfl rfl rfl) (fun _ ⟨x1, x2⟩ ⟨e1, e2⟩ => by cases e1; cases e2; exact KF 2 htab rfl rfl rfl rfl rfl) rfl rfl rfl rfl rfl rfl rfl rfl ?_
         refine Kfk (h2 := [(b1, Blk.cells [iD (0 : Int), iD (0 : Int), tD ByteArray.empty, .lst 1 [] .full, iD (0 : Int)] 100), (b6, Blk.cells [iD x5.gKind, tD x5.gText, iD x5.gN, iD x5.gAt] 69)]) (hz := [(b1, Blk.cells [iD (0 : Int), iD (0 : Int), tD ByteArray.empty, .lst 1 [] .full, iD (0 : Int)] 100), (b6, Blk.cells [iD x5.gKind, tD x5.gText, iD x5.gN, iD x5.gAt] 69)]) rfl rfl (fun _ => rfl) (fun _ => rfl) rfl (fun e he => by simp [isAl] at he) ?_
         rintro _ _ ⟨rfl, rfl⟩
         refine Kal (r := [iD (4 : Int), iD (0 : Int), tD x107.1, .lst 1 [] .full, iD x5.gAt]) htab rfl rfl rfl rfl rfl rfl rfl rfl rfl ?_
         refine pS1 (ds' := [iD (4 : Int), iD (0 : Int), tD x107.1, .lst 1 [] .full, iD x5.gAt]) ?_
         refine Kh ?_
         refine Ks ?_
         refine K0 ?_
         have e34 := Kn hm; subst e34; refine KbW ?_; clear hm; have hm := ho34; simp only [Sum.elim_inr] at hm
         refine KD ?_
         have er108 := Kn hm; subst er108
         refine retX.wk (WkS.bl1 (ds' := [iD (4 : Int), iD (0 : Int), tD x107.1, .lst 5 (([] : List Ka).map Kg) .no, iD x5.gAt]) (rC (rC (rC (WkR.cons (WkC.nil) rfl (rC WkR.nil)))))) ?_
         refine retX.wk (WkS.bl0 (ds' := [.lst 4 (x107.2.gL.map Kc) .no, iD x107.2.gAt, iD x107.2.gE]) (rO (rC (rC WkR.nil)))) ?_
         refine rP (t' := [(2, .ptr b1 0)]) [0,0] [] 1 (wC wN) (lC 1 lN) ?_
         exact ⟨by first | rfl | (simp only [wrapD, Kk]; done) | (simp only [wrapD, Kk]; rfl), rfl, rfl⟩
        ·replace hm := yes_f hc106 hm
         refine Kl ?_
         refine pu ?_
         refine pu ?_
         refine Kh ?_
         refine Ku rfl (fun hc117 => ?_) (fun hc117 => ?_)
         ·replace hm := yes_t hc117 hm
          refine Kl ?_
          refine pu ?_
          obtain ⟨x118, q118, hm⟩ := Kf hm
          refine pG (KcK (⟨m0.gL, (IntKind.i64.wrap (m0.gAt + (1 : Int))), m0.gE⟩ : Kd) o0 T0 c0_0 x118 q118) Wl Pf Pf ?_
          rintro _ _ _ ⟨rfl, rfl, rfl⟩
          refine pu ?_
          refine Kv ?_
          iterate 3 refine pu ?_
          refine pL 2 ?_
          refine Kal (r := [iD (19 : Int), iD (0 : Int), tD x118.1, .lst 1 [] .full, iD x5.gAt]) htab rfl rfl rfl rfl rfl rfl rfl rfl rfl ?_
          refine pu ?_
          obtain ⟨x119, q119, hm⟩ := Kf hm
          refine Kam (hg2 x118.2 (⟨(19 : Int), (0 : Int), x118.1, [], x5.gAt⟩ : Ka) (20 : Int) m0.gAt o0 T0 c0_0 x119 q119) rfl rfl rfl rfl rfl (WkL.cons (Wk.refl _) (WkL.cons (Wk.trans (Wk.agg (rC (rC (rC (WkR.cons (WkC.nil) rfl (rC WkR.nil)))))) (Wk.of_eq (Kk (⟨(19 : Int), (0 : Int), x118.1, [], x5.gAt⟩ : Ka)).symm)) (WkL.cons (Wk.refl _) (WkL.cons (Wk.refl _) Wl)))) Pf Pf ?_
          rintro _ _ _ ⟨rfl, rfl, rfl⟩
          refine p_eq (i := 93) rfl (Wk.of_eq (Kk x119.1)) ?_
          refine pS1 (ds' := [iD x119.1.gOp, iD x119.1.gN, tD x119.1.gName, .lst 5 (x119.1.gKids.map Kg) .no, iD x119.1.gAt]) ?_
          refine Kh ?_
          refine Ks ?_
          refine K0 ?_
          have e34 := Kn hm; subst e34; refine KbW ?_; clear hm; have hm := ho34; simp only [Sum.elim_inr] at hm
          refine KD ?_
          have er120 := Kn hm; subst er120
          refine rP (t' := [(2, .ptr b1 0)]) [0,0] [] 1 (wC wN) (lC 1 lN) ?_
          exact ⟨by first | rfl | (simp only [wrapD, Kk]; done) | (simp only [wrapD, Kk]; rfl), rfl, rfl⟩
         ·replace hm := yes_f hc117 hm
          refine Kl ?_
          refine pu ?_
          refine pu ?_
          refine Kh ?_
          refine Ku rfl (fun hc126 => ?_) (fun hc126 => ?_)
          ·replace hm := yes_t hc126 hm
           refine Kl ?_
           refine pu ?_
           refine pL 2 ?_
           refine Kal (r := [iD (18 : Int), iD (0 : Int), tD ByteArray.empty, .lst 1 [] .full, iD x5.gAt]) htab rfl rfl rfl rfl rfl rfl rfl rfl rfl ?_
           refine pS1 (ds' := [iD (18 : Int), iD (0 : Int), tD ByteArray.empty, .lst 1 [] .full, iD x5.gAt]) ?_
           refine Kh ?_
           refine Ks ?_
           refine K0 ?_
           have e34 := Kn hm; subst e34; refine KbW ?_; clear hm; have hm := ho34; simp only [Sum.elim_inr] at hm
           refine KD ?_
           have er127 := Kn hm; subst er127
           refine retX.wk (WkS.bl1 (ds' := [iD (18 : Int), iD (0 : Int), tD ByteArray.empty, .lst 5 (([] : List Ka).map Kg) .no, iD x5.gAt]) (rC (rC (rC (WkR.cons (WkC.nil) rfl (rC WkR.nil)))))) ?_
           refine retX.wk (WkS.bl0 (ds' := [.lst 4 (m0.gL.map Kc) .no, iD (IntKind.i64.wrap (m0.gAt + (1 : Int))), iD m0.gE]) (rO (rC (rC WkR.nil)))) ?_
           refine rP (t' := [(2, .ptr b1 0)]) [0,0] [] 1 (wC wN) (lC 1 lN) ?_
           exact ⟨by first | rfl | (simp only [wrapD, Kk]; done) | (simp only [wrapD, Kk]; rfl), rfl, rfl⟩
          ·replace hm := yes_f hc126 hm
           refine Kl ?_
           refine pu ?_
           refine pu ?_
           refine Kh ?_
           refine Ku rfl (fun hc132 => ?_) (fun hc132 => ?_)
           ·replace hm := yes_t hc132 hm
            refine Kl ?_
            refine pu ?_
            obtain ⟨x133, q133, hm⟩ := Kf hm
            refine pG (hg0 (⟨m0.gL, (IntKind.i64.wrap (m0.gAt + (1 : Int))), m0.gE⟩ : Kd) (0 : Int) o0 T0 c0_0 x133 q133) Wl Pf Pf ?_
            rintro _ _ _ ⟨rfl, rfl, rfl⟩
            refine p_eq (i := 102) rfl (Wk.of_eq (Kk x133.1)) ?_
            refine KP htab rfl rfl rfl rfl rfl rfl rfl (fun b134 => ?_)
            refine pS3 (ds' := [iD x133.1.gOp, iD x133.1.gN, tD x133.1.gName, .lst 5 (x133.1.gKids.map Kg) .no, iD x133.1.gAt]) ?_
            refine Kv ?_
            refine pu ?_
            obtain ⟨x135, q135, hm⟩ := Kf hm
            refine pG (Kat x133.2 (ByteArray.mk #[41]) o0 T0 .no x135 q135) Wl Pf Pf ?_
            rintro _ _ _ ⟨rfl, rfl, rfl⟩
            refine Kv ?_
            refine K7 (d := .agg [iD x133.1.gOp, iD x133.1.gN, tD x133.1.gName, .lst 5 (x133.1.gKids.map Kg) .no, iD x133.1.gAt]) 3 htab rfl rfl rfl rfl rfl rfl rfl rfl ?_
            refine pS1 (ds' := [iD x133.1.gOp, iD x133.1.gN, tD x133.1.gName, .lst 5 (x133.1.gKids.map Kg) .no, iD x133.1.gAt]) ?_
            refine Kh ?_
            refine Ks ?_
            refine K0 ?_
            have e34 := Kn hm; subst e34; refine KbW ?_; clear hm; have hm := ho34; simp only [Sum.elim_inr] at hm
            refine KD ?_
            have er136 := Kn hm; subst er136
            refine rP (t' := [(2, .ptr b1 0)]) [0,0] [] 1 (wC wN) (lC 1 lN) ?_
            exact ⟨by first | rfl | (simp only [wrapD, Kk]; done) | (simp only [wrapD, Kk]; rfl), rfl, rfl⟩
           ·replace hm := yes_f hc132 hm
            refine Ky ?_
            refine KI ?_
            have e34 := Kn hm; subst e34
            refine Kdp ?_
            exact WkX.of () (WkS.perm (WkS.cons rfl (Wk.refl _) (WkS.cons rfl (Wk.refl _) (WkS.cons rfl (Wk.refl _) (WkS.nil)))) Pf Pf)
     ·replace hm := yes_f hc35 hm
      refine Ky ?_
      have e34 := Kn hm; subst e34
      refine Kdp ?_
      exact WkX.of () (WkS.perm (WkS.cons rfl (Wk.refl _) (WkS.cons rfl (Wk.refl _) (WkS.cons rfl (Wk.refl _) (WkS.nil)))) Pf Pf)
    ·intro y34 s34 hx34 hw34; subst hx34; clear hm; have hm := ho34; simp only [Sum.elim_inl] at hm; clear q34 ho34
     refine Km ?_
     refine K3 hw34 (fun z34 => ?_)
     refine Kl ?_
     refine pu ?_
     refine pu ?_
     obtain ⟨x137, q137, hm⟩ := Kf hm
     refine pG (Kb7 (⟨m0.gL, (IntKind.i64.wrap (m0.gAt + (1 : Int))), m0.gE⟩ : Kd) m0.gAt (3 : Int) o0 T0 c0_0 x137 q137) Wl Pf Pf ?_
     rintro _ _ _ ⟨rfl, rfl, rfl⟩
     refine Kv ?_
     refine Kal (r := [iD (0 : Int), iD (0 : Int), tD ByteArray.empty, .lst 1 [] .full, iD (0 : Int)]) htab rfl rfl rfl rfl rfl rfl rfl rfl rfl ?_
     refine pS1 (ds' := [iD (0 : Int), iD (0 : Int), tD ByteArray.empty, .lst 1 [] .full, iD (0 : Int)]) ?_
     refine Kh ?_
     refine Ks ?_
     have er138 := Kn hm; subst er138
     refine retX.wk (WkS.bl1 (ds' := [iD (0 : Int), iD (0 : Int), tD ByteArray.empty, .lst 5 (([] : List Ka).map Kg) .no, iD (0 : Int)]) (rC (rC (rC (WkR.cons (WkC.nil) rfl (rC WkR.nil)))))) ?_
     refine retX.wk (WkS.bl0 (ds' := [.lst 4 (x137.gL.map Kc) .no, iD x137.gAt, iD x137.gE]) (rO (rC (rC WkR.nil)))) ?_
     refine rP (t' := [(2, .ptr b1 0)]) [0,0] [] 1 (wC wN) (lC 1 lN) ?_
     exact ⟨by first | rfl | (simp only [wrapD, Kk]; done) | (simp only [wrapD, Kk]; rfl), rfl, rfl⟩
noncomputable def Kb9 (g0 : (Kd) → (Int) → Option (Ka × Kd)) (g1 : (Kd) → Option (Ka × Kd)) (g2 : (Kd) → (Ka) → (Int) → (Int) → Option (Ka × Kd)) (m0 : Kd) (a1 : Ka) (a2 : Int) (a3 : Int) : Option (Ka × Kd) :=
 (Option.bind (α := Bool) (bif (m0.gE != (0 : Int)) then some true else ((Kec m0 (ByteArray.mk #[91])).bind fun x7 => some (!x7))) fun y5 => (bif y5 then some (a1, m0) else ((g0 (⟨m0.gL, (IntKind.i64.wrap (m0.gAt + (1 : Int))), m0.gE⟩ : Kd) (0 : Int)).bind fun x11 => ((Kae x11.2 (ByteArray.mk #[93])).bind fun x13 => ((KbP x13 (⟨a2, (0 : Int), a1.gName, ([x11.1] : List Ka), a1.gAt⟩ : Ka) a3).bind fun x14 => some (x14.1, x14.2))))))
theorem Kjq (g0 : (Kd) → (Int) → Option (Ka × Kd)) (g1 : (Kd) → Option (Ka × Kd)) (g2 : (Kd) → (Ka) → (Int) → (Int) → Option (Ka × Kd)) (hg0 : ∀ (m0 : Kd) (a1 : Int) (o0 : Nat) (T0 : TypeId) (c0_0 : Cap) (r : Ka × Kd) (h0 : g0 m0 a1 = some r), CallsD Try.prog 76 [.ptr o0 0, iD a1] [(o0, Blk.cells [.lst 4 (m0.gL.map Kc) c0_0, iD m0.gAt, iD m0.gE] T0)] [] (fun d h k => d = Kg r.1 ∧ h = [(o0, Blk.cells [.lst 4 (r.2.gL.map Kc) .no, iD r.2.gAt, iD r.2.gE] T0)] ∧ k = [])) (hg1 : ∀ (m0 : Kd) (o0 : Nat) (T0 : TypeId) (c0_0 : Cap) (r : Ka × Kd) (h0 : g1 m0 = some r), CallsD Try.prog 85 [.ptr o0 0] [(o0, Blk.cells [.lst 4 (m0.gL.map Kc) c0_0, iD m0.gAt, iD m0.gE] T0)] [] (fun d h k => d = Kg r.1 ∧ h = [(o0, Blk.cells [.lst 4 (r.2.gL.map Kc) .no, iD r.2.gAt, iD r.2.gE] T0)] ∧ k = [])) (hg2 : ∀ (m0 : Kd) (a1 : Ka) (a2 : Int) (a3 : Int) (o0 : Nat) (T0 : TypeId) (c0_0 : Cap) (r : Ka × Kd) (h0 : g2 m0 a1 a2 a3 = some r), CallsD Try.prog 92 [.ptr o0 0, Kg a1, iD a2, iD a3] [(o0, Blk.cells [.lst 4 (m0.gL.map Kc) c0_0, iD m0.gAt, iD m0.gE] T0)] [] (fun d h k => d = Kg r.1 ∧ h = [(o0, Blk.cells [.lst 4 (r.2.gL.map Kc) .no, iD r.2.gAt, iD r.2.gE] T0)] ∧ k = [])) (m0 : Kd) (a1 : Ka) (a2 : Int) (a3 : Int) (o0 : Nat) (T0 : TypeId) (c0_0 : Cap) (r : Ka × Kd) (h0 : Kb9 g0 g1 g2 m0 a1 a2 a3 = some r) : CallsD Try.prog 92 [.ptr o0 0, Kg a1, iD a2, iD a3] [(o0, Blk.cells [.lst 4 (m0.gL.map Kc) c0_0, iD m0.gAt, iD m0.gE] T0)] [] (fun d h k => d = Kg r.1 ∧ h = [(o0, Blk.cells [.lst 4 (r.2.gL.map Kc) .no, iD r.2.gAt, iD r.2.gE] T0)] ∧ k = []) := by
 have hm := KE h0
 unfold Kb9 at hm
 clear h0
 refine KW htab Try.func92 rfl rfl rfl rfl rfl (fun C => ?_)
 refine w_eq (i := 1) rfl (Wk.of_eq (Kk a1)) ?_
 refine Kl ?_
 refine p_box rfl rfl rfl rfl rfl rfl rfl (fun b1 => ?_)
 refine KP htab rfl rfl rfl rfl rfl rfl rfl (fun b2 => ?_)
 refine Kh ?_
 refine Kq ?_
 refine Kq ?_
 obtain ⟨y5, q5, ho5⟩ := Kf hm
 refine K6 (Y := Unit) (fun z5 => (⟨[(0, .ptr o0 0), (2, iD a2), (3, iD a3), (5, .ptr b1 0), (8, .ptr b2 0), (19, .v (.bool y5))], [(o0, Blk.cells [.lst 4 (m0.gL.map Kc) c0_0, iD m0.gAt, iD m0.gE] T0), (b1, Blk.cells [iD a1.gOp, iD a1.gN, tD a1.gName, .lst 5 (a1.gKids.map Kg) .no, iD a1.gAt] 100), (b2, Blk.cells [iD (0 : Int), iD (0 : Int), tD ByteArray.empty, .lst 1 [] .full, iD (0 : Int)] 100)], []⟩ : S)) ?_ ?_
 ·clear hm; have hm := KE q5
  refine KC ?_
  iterate 3 refine pu ?_
  refine pL 0 ?_
  refine pu ?_
  refine pu ?_
  refine K9 (i := 15) rfl (fun hg6 => ?_) (fun hg6 => ?_)
  ·replace hm := yes_t hg6 hm
   iterate 3 refine pK ?_
   refine KS rfl rfl rfl rfl rfl rfl ?_
   refine KB ?_
   have e5 := Kn hm; subst e5
   refine ⟨rfl, ?_⟩
   exact WkX.of () (WkS.perm (WkS.cons rfl (Wk.refl _) (WkS.cons rfl (Wk.refl _) (WkS.cons rfl (Wk.refl _) (WkS.cons rfl (Wk.refl _) (WkS.cons rfl (Wk.refl _) (WkS.cons rfl (Wk.refl _) (WkS.nil))))))) Pf Pf)
  ·replace hm := yes_f hg6 hm
   refine pu ?_
   obtain ⟨x7, q7, hm⟩ := Kf hm
   refine pG (KgO m0 (ByteArray.mk #[91]) o0 T0 c0_0 x7 q7) Wl Pf Pf ?_
   rintro _ _ _ ⟨rfl, rfl, rfl⟩
   refine pu ?_
   refine KH rfl rfl rfl rfl rfl rfl ?_
   refine KB ?_
   have e5 := Kn hm; subst e5
   refine ⟨rfl, ?_⟩
   exact WkX.of () (WkS.perm (WkS.cons rfl (Wk.refl _) (WkS.cons rfl (Wk.refl _) (WkS.cons rfl (Wk.refl _) (WkS.cons rfl (Wk.refl _) (WkS.cons rfl (Wk.refl _) (WkS.cons rfl (Wk.refl _) (WkS.nil))))))) Pf Pf)
 ·intro s5 hw5; clear hm; have hm := ho5; clear q5 ho5
  refine Km ?_
  refine K3 hw5 (fun z5 => ?_)
  refine Ku rfl (fun hc9 => ?_) (fun hc9 => ?_)
  ·replace hm := yes_t hc9 hm
   refine Kl ?_
   refine K7 (d := .agg [iD a1.gOp, iD a1.gN, tD a1.gName, .lst 5 (a1.gKids.map Kg) .no, iD a1.gAt]) 1 htab rfl rfl rfl rfl rfl rfl rfl rfl ?_
   refine pS2 (ds' := [iD a1.gOp, iD a1.gN, tD a1.gName, .lst 5 (a1.gKids.map Kg) .no, iD a1.gAt]) ?_
   refine Kh ?_
   refine Ks ?_
   refine KD ?_
   have er10 := Kn hm; subst er10
   refine retX.wk (WkS.bl0 (ds' := [.lst 4 (m0.gL.map Kc) .no, iD m0.gAt, iD m0.gE]) (rO (rC (rC WkR.nil)))) ?_
   refine rP (t' := [(8, .ptr b2 0)]) [0,1] [] 1 (wC wN) (lC 1 lN) ?_
   exact ⟨by first | rfl | (simp only [wrapD, Kk]; done) | (simp only [wrapD, Kk]; rfl), rfl, rfl⟩
  ·replace hm := yes_f hc9 hm
   refine Ky ?_
   refine Km ?_
   refine Kl ?_
   iterate 3 refine pu ?_
   refine pL 0 ?_
   iterate 3 refine pu ?_
   refine pS0 (ds' := [.lst 4 (m0.gL.map Kc) c0_0, iD (IntKind.i64.wrap (m0.gAt + (1 : Int))), iD m0.gE]) ?_
   refine Kv ?_
   refine pu ?_
   obtain ⟨x11, q11, hm⟩ := Kf hm
   refine pG (hg0 (⟨m0.gL, (IntKind.i64.wrap (m0.gAt + (1 : Int))), m0.gE⟩ : Kd) (0 : Int) o0 T0 c0_0 x11 q11) Wl Pf Pf ?_
   rintro _ _ _ ⟨rfl, rfl, rfl⟩
   refine p_eq (i := 29) rfl (Wk.of_eq (Kk x11.1)) ?_
   refine KP htab rfl rfl rfl rfl rfl rfl rfl (fun b12 => ?_)
   refine pS3 (ds' := [iD x11.1.gOp, iD x11.1.gN, tD x11.1.gName, .lst 5 (x11.1.gKids.map Kg) .no, iD x11.1.gAt]) ?_
   refine Kv ?_
   refine pu ?_
   obtain ⟨x13, q13, hm⟩ := Kf hm
   refine pG (Kat x11.2 (ByteArray.mk #[93]) o0 T0 .no x13 q13) Wl Pf Pf ?_
   rintro _ _ _ ⟨rfl, rfl, rfl⟩
   refine Kv ?_
   iterate 3 refine pu ?_
   refine pL 1 ?_
   refine K7 (d := .agg [iD x11.1.gOp, iD x11.1.gN, tD x11.1.gName, .lst 5 (x11.1.gKids.map Kg) .no, iD x11.1.gAt]) 3 htab rfl rfl rfl rfl rfl rfl rfl rfl ?_
   refine p_lit htab rfl rfl rfl rfl rfl rfl rfl rfl rfl rfl rfl rfl rfl rfl ?_
   refine p_eq (i := 37) (d' := .lst 5 (([x11.1] : List Ka).map Kg) .full) rfl (Wk.lst0 (.cons (WkC.trans (WkC.agg (WkR.refl _)) (WkC.of_eq (Kk x11.1).symm)) (.nil))) ?_
   refine pu ?_
   refine pL 1 ?_
   refine Kal (r := [iD a2, iD (0 : Int), tD a1.gName, .lst 5 (([x11.1] : List Ka).map Kg) .full, iD a1.gAt]) htab rfl rfl rfl rfl rfl rfl rfl rfl rfl ?_
   refine pu ?_
   obtain ⟨x14, q14, hm⟩ := Kf hm
   refine Kam (Kfv x13 (⟨a2, (0 : Int), a1.gName, ([x11.1] : List Ka), a1.gAt⟩ : Ka) a3 o0 T0 .no x14 q14) rfl rfl rfl rfl rfl (WkL.cons (Wk.refl _) (WkL.cons (Wk.trans (Wk.agg (rC (rC (rC (rO (rC WkR.nil)))))) (Wk.of_eq (Kk (⟨a2, (0 : Int), a1.gName, ([x11.1] : List Ka), a1.gAt⟩ : Ka)).symm)) (WkL.cons (Wk.refl _) Wl))) Pf Pf ?_
   rintro _ _ _ ⟨rfl, rfl, rfl⟩
   refine p_eq (i := 42) rfl (Wk.of_eq (Kk x14.1)) ?_
   refine pS2 (ds' := [iD x14.1.gOp, iD x14.1.gN, tD x14.1.gName, .lst 5 (x14.1.gKids.map Kg) .no, iD x14.1.gAt]) ?_
   refine Kh ?_
   refine Ks ?_
   have er15 := Kn hm; subst er15
   refine rP (t' := [(8, .ptr b2 0)]) [0,1] [] 1 (wC wN) (lC 1 lN) ?_
   exact ⟨by first | rfl | (simp only [wrapD, Kk]; done) | (simp only [wrapD, Kk]; rfl), rfl, rfl⟩
noncomputable def KY : Nat → ((Kd) → (Int) → Option (Ka × Kd)) × ((Kd) → Option (Ka × Kd)) × ((Kd) → (Ka) → (Int) → (Int) → Option (Ka × Kd))
 | 0 => (fun _ _ => none, fun _ => none, fun _ _ _ _ => none)
 | n + 1 => (Kb8 ((KY n).1) ((KY n).2.1) ((KY n).2.2), Kdh ((KY n).1) ((KY n).2.1) ((KY n).2.2), Kb9 ((KY n).1) ((KY n).2.1) ((KY n).2.2))
theorem Khh : ∀ n, (∀ (m0 : Kd) (a1 : Int) (o0 : Nat) (T0 : TypeId) (c0_0 : Cap) (r : Ka × Kd) (h0 : (KY n).1 m0 a1 = some r), CallsD Try.prog 76 [.ptr o0 0, iD a1] [(o0, Blk.cells [.lst 4 (m0.gL.map Kc) c0_0, iD m0.gAt, iD m0.gE] T0)] [] (fun d h k => d = Kg r.1 ∧ h = [(o0, Blk.cells [.lst 4 (r.2.gL.map Kc) .no, iD r.2.gAt, iD r.2.gE] T0)] ∧ k = [])) ∧ (∀ (m0 : Kd) (o0 : Nat) (T0 : TypeId) (c0_0 : Cap) (r : Ka × Kd) (h0 : (KY n).2.1 m0 = some r), CallsD Try.prog 85 [.ptr o0 0] [(o0, Blk.cells [.lst 4 (m0.gL.map Kc) c0_0, iD m0.gAt, iD m0.gE] T0)] [] (fun d h k => d = Kg r.1 ∧ h = [(o0, Blk.cells [.lst 4 (r.2.gL.map Kc) .no, iD r.2.gAt, iD r.2.gE] T0)] ∧ k = [])) ∧ (∀ (m0 : Kd) (a1 : Ka) (a2 : Int) (a3 : Int) (o0 : Nat) (T0 : TypeId) (c0_0 : Cap) (r : Ka × Kd) (h0 : (KY n).2.2 m0 a1 a2 a3 = some r), CallsD Try.prog 92 [.ptr o0 0, Kg a1, iD a2, iD a3] [(o0, Blk.cells [.lst 4 (m0.gL.map Kc) c0_0, iD m0.gAt, iD m0.gE] T0)] [] (fun d h k => d = Kg r.1 ∧ h = [(o0, Blk.cells [.lst 4 (r.2.gL.map Kc) .no, iD r.2.gAt, iD r.2.gE] T0)] ∧ k = []))
  | 0 => ⟨(fun _ _ _ _ _ _ h0 => by cases h0), (fun _ _ _ _ _ h0 => by cases h0), (fun _ _ _ _ _ _ _ _ h0 => by cases h0)⟩
  | n + 1 => by
    have ih := Khh n
    exact ⟨Kjp ((KY n).1) ((KY n).2.1) ((KY n).2.2) (ih.1) (ih.2.1) (ih.2.2), Kkb ((KY n).1) ((KY n).2.1) ((KY n).2.2) (ih.1) (ih.2.1) (ih.2.2), Kjq ((KY n).1) ((KY n).2.1) ((KY n).2.2) (ih.1) (ih.2.1) (ih.2.2)⟩
theorem Khi : ∀ n, (∀ (m0 : Kd) (a1 : Int), Le ((KY n).1 m0 a1) ((KY (n + 1)).1 m0 a1)) ∧ (∀ (m0 : Kd), Le ((KY n).2.1 m0) ((KY (n + 1)).2.1 m0)) ∧ (∀ (m0 : Kd) (a1 : Ka) (a2 : Int) (a3 : Int), Le ((KY n).2.2 m0 a1 a2 a3) ((KY (n + 1)).2.2 m0 a1 a2 a3))
  | 0 => ⟨fun _ _ => Le.none _, fun _ => Le.none _, fun _ _ _ _ => Le.none _⟩
  | n + 1 => by
    have ih := Khi n
    exact ⟨fun m0 a1 => by show Le (Kb8 ((KY n).1) ((KY n).2.1) ((KY n).2.2) m0 a1) (Kb8 ((KY (n + 1)).1) ((KY (n + 1)).2.1) ((KY (n + 1)).2.2) m0 a1); unfold Kb8; repeat (first | exact Le.refl _ | exact ih.1 _ _ | exact ih.2.1 _ | exact ih.2.2 _ _ _ _ | assumption | (refine Le.bind ?_ (fun _ => ?_)) | (refine Le.cond ?_ ?_) | (refine Le.loop (fun _ => ?_)) | (refine Le.elim (fun _ => ?_) (fun _ => ?_))), fun m0 => by show Le (Kdh ((KY n).1) ((KY n).2.1) ((KY n).2.2) m0) (Kdh ((KY (n + 1)).1) ((KY (n + 1)).2.1) ((KY (n + 1)).2.2) m0); unfold Kdh; repeat (first | exact Le.refl _ | exact ih.1 _ _ | exact ih.2.1 _ | exact ih.2.2 _ _ _ _ | assumption | (refine Le.bind ?_ (fun _ => ?_)) | (refine Le.cond ?_ ?_) | (refine Le.loop (fun _ => ?_)) | (refine Le.elim (fun _ => ?_) (fun _ => ?_))), fun m0 a1 a2 a3 => by show Le (Kb9 ((KY n).1) ((KY n).2.1) ((KY n).2.2) m0 a1 a2 a3) (Kb9 ((KY (n + 1)).1) ((KY (n + 1)).2.1) ((KY (n + 1)).2.2) m0 a1 a2 a3); unfold Kb9; repeat (first | exact Le.refl _ | exact ih.1 _ _ | exact ih.2.1 _ | exact ih.2.2 _ _ _ _ | assumption | (refine Le.bind ?_ (fun _ => ?_)) | (refine Le.cond ?_ ?_) | (refine Le.loop (fun _ => ?_)) | (refine Le.elim (fun _ => ?_) (fun _ => ?_)))⟩
noncomputable def KgP (m0 : Kd) (a1 : Int) : Option (Ka × Kd) := anyN fun n => (KY n).1 m0 a1
theorem Kkn (m0 : Kd) (a1 : Int) {r : Ka × Kd} (n : Nat) (h : (KY n).1 m0 a1 = some r) : KgP m0 a1 = some r := Kc8 (fun m => (Khi m).1 m0 a1) h
theorem Kko (m0 : Kd) (a1 : Int) (o0 : Nat) (T0 : TypeId) (c0_0 : Cap) (r : Ka × Kd) (h0 : KgP m0 a1 = some r) : CallsD Try.prog 76 [.ptr o0 0, iD a1] [(o0, Blk.cells [.lst 4 (m0.gL.map Kc) c0_0, iD m0.gAt, iD m0.gE] T0)] [] (fun d h k => d = Kg r.1 ∧ h = [(o0, Blk.cells [.lst 4 (r.2.gL.map Kc) .no, iD r.2.gAt, iD r.2.gE] T0)] ∧ k = []) :=
 let ⟨n, hn⟩ := KcB h0; (Khh n).1 m0 a1 o0 T0 c0_0 r hn
noncomputable def KaL (m0 : Kd) : Option (Ka × Kd) :=
 (bif (m0.gE != (0 : Int)) then some ((⟨(0 : Int), (0 : Int), ByteArray.empty, [], (0 : Int)⟩ : Ka), m0) else ((KgP m0 (0 : Int)).bind fun x4 => some (x4.1, x4.2)))
theorem KcL (m0 : Kd) (o0 : Nat) (T0 : TypeId) (c0_0 : Cap) (r : Ka × Kd) (h0 : KaL m0 = some r) : CallsD Try.prog 61 [.ptr o0 0] [(o0, Blk.cells [.lst 4 (m0.gL.map Kc) c0_0, iD m0.gAt, iD m0.gE] T0)] [] (fun d h k => d = Kg r.1 ∧ h = [(o0, Blk.cells [.lst 4 (r.2.gL.map Kc) .no, iD r.2.gAt, iD r.2.gE] T0)] ∧ k = []) := by
 have hm := KE h0
 unfold KaL at hm
 clear h0
 refine KW htab Try.func61 rfl rfl rfl rfl rfl (fun C => ?_)
 refine Kl ?_
 refine KP htab rfl rfl rfl rfl rfl rfl rfl (fun b1 => ?_)
 refine Kh ?_
 refine Kq ?_
 refine Kl ?_
 iterate 3 refine pu ?_
 refine pL 0 ?_
 refine pu ?_
 refine Kh ?_
 refine Ku rfl (fun hc2 => ?_) (fun hc2 => ?_)
 ·replace hm := yes_t hc2 hm
  refine Kl ?_
  refine Kal (r := [iD (0 : Int), iD (0 : Int), tD ByteArray.empty, .lst 1 [] .full, iD (0 : Int)]) htab rfl rfl rfl rfl rfl rfl rfl rfl rfl ?_
  refine pS1 (ds' := [iD (0 : Int), iD (0 : Int), tD ByteArray.empty, .lst 1 [] .full, iD (0 : Int)]) ?_
  refine Kh ?_
  refine Ks ?_
  refine KD ?_
  have er3 := Kn hm; subst er3
  refine retX.wk (WkS.bl1 (ds' := [iD (0 : Int), iD (0 : Int), tD ByteArray.empty, .lst 5 (([] : List Ka).map Kg) .no, iD (0 : Int)]) (rC (rC (rC (WkR.cons (WkC.nil) rfl (rC WkR.nil)))))) ?_
  refine retX.wk (WkS.bl0 (ds' := [.lst 4 (m0.gL.map Kc) .no, iD m0.gAt, iD m0.gE]) (rO (rC (rC WkR.nil)))) ?_
  refine rP (t' := [(2, .ptr b1 0)]) [0,0] [] 1 (wC wN) (lC 1 lN) ?_
  exact ⟨by first | rfl | (simp only [wrapD, Kk]; done) | (simp only [wrapD, Kk]; rfl), rfl, rfl⟩
 ·replace hm := yes_f hc2 hm
  refine Ky ?_
  refine Km ?_
  refine Kl ?_
  refine pu ?_
  obtain ⟨x4, q4, hm⟩ := Kf hm
  refine pG (Kko m0 (0 : Int) o0 T0 c0_0 x4 q4) Wl Pf Pf ?_
  rintro _ _ _ ⟨rfl, rfl, rfl⟩
  refine p_eq (i := 10) rfl (Wk.of_eq (Kk x4.1)) ?_
  refine pS1 (ds' := [iD x4.1.gOp, iD x4.1.gN, tD x4.1.gName, .lst 5 (x4.1.gKids.map Kg) .no, iD x4.1.gAt]) ?_
  refine Kh ?_
  refine Ks ?_
  have er5 := Kn hm; subst er5
  refine rP (t' := [(2, .ptr b1 0)]) [0,0] [] 1 (wC wN) (lC 1 lN) ?_
  exact ⟨by first | rfl | (simp only [wrapD, Kk]; done) | (simp only [wrapD, Kk]; rfl), rfl, rfl⟩
noncomputable def Kee (m0 : Kd) : Option (List Ka × Kd) :=
 ((Kae m0 (ByteArray.mk #[40])).bind fun x1 => ((Kbr x1 (ByteArray.mk #[41])).bind fun x2 => (bif x2.1 then some (([] : List Ka), x2.2) else ((KaL x2.2).bind fun x7 => ((app 64 ([] : List Ka) ([x7.1] : List Ka)).bind fun x8 => (Option.bind (α := List Ka × List Kt × Int × Int) (loopM (fun (s26 : List Ka × List Kt × Int × Int) => ((Kbr (⟨s26.2.1, s26.2.2.1, s26.2.2.2⟩ : Kd) (ByteArray.mk #[44])).bind fun x37 => (bif x37.1 then ((KaL x37.2).bind fun x39 => ((app 64 s26.1 ([x39.1] : List Ka)).bind fun x40 => some (.next (x40, x39.2.gL, x39.2.gAt, x39.2.gE)))) else some (.done (s26.1, x37.2.gL, x37.2.gAt, x37.2.gE))))) (x8, x7.2.gL, x7.2.gAt, x7.2.gE)) fun y25 => ((Kae (⟨y25.2.1, y25.2.2.1, y25.2.2.2⟩ : Kd) (ByteArray.mk #[41])).bind fun x41 => some (y25.1, x41))))))))
theorem Kkp (m0 : Kd) (o0 : Nat) (T0 : TypeId) (c0_0 : Cap) (r : List Ka × Kd) (h0 : Kee m0 = some r) : CallsD Try.prog 84 [.ptr o0 0] [(o0, Blk.cells [.lst 4 (m0.gL.map Kc) c0_0, iD m0.gAt, iD m0.gE] T0)] [] (fun d h k => ∃ y0, d = .lst 5 (r.1.map Kg) (.cur y0) ∧ h = [(o0, Blk.cells [.lst 4 (r.2.gL.map Kc) .no, iD r.2.gAt, iD r.2.gE] T0)] ∧ k = [(5, y0)]) := by
 have hm := KE h0
 unfold Kee at hm
 clear h0
 refine KW htab Try.func84 rfl rfl rfl rfl rfl (fun C => ?_)
 refine Kl ?_
 refine pu ?_
 refine Kv ?_
 refine pu ?_
 refine Kv ?_
 refine pu ?_
 obtain ⟨x1, q1, hm⟩ := Kf hm
 refine pG (Kat m0 (ByteArray.mk #[40]) o0 T0 c0_0 x1 q1) Wl Pf Pf ?_
 rintro _ _ _ ⟨rfl, rfl, rfl⟩
 refine Kh ?_
 refine Kq ?_
 refine Kl ?_
 refine pu ?_
 obtain ⟨x2, q2, hm⟩ := Kf hm
 refine pG (Kch x1 (ByteArray.mk #[41]) o0 T0 c0_0 x2 q2) Wl Pf Pf ?_
 rintro _ _ _ ⟨rfl, rfl, rfl⟩
 refine Kh ?_
 refine Ku rfl (fun hc4 => ?_) (fun hc4 => ?_)
 ·replace hm := yes_t hc4 hm
  refine Kl ?_
  refine pu ?_
  refine Kh ?_
  refine Ks ?_
  refine KD ?_
  have er5 := Kn hm; subst er5
  refine retX.tokN (i := 2) 5 rfl (fun w6 => ?_)
  refine retX.wk (WkS.bl0 (ds' := [.lst 4 (x2.2.gL.map Kc) .no, iD x2.2.gAt, iD x2.2.gE]) (rO (rC (rC WkR.nil)))) ?_
  refine rP (t' := [(2, .lst 5 (([] : List Ka).map Kg) (.cur w6))]) [0] [0] 1 (wC wN) (lT lN) ?_
  exact ⟨w6, rfl, rfl, rfl⟩
 ·replace hm := yes_f hc4 hm
  refine Ky ?_
  refine Km ?_
  refine Kl ?_
  refine pu ?_
  refine pu ?_
  obtain ⟨x7, q7, hm⟩ := Kf hm
  refine pG (KcL x2.2 o0 T0 c0_0 x7 q7) Wl Pf Pf ?_
  rintro _ _ _ ⟨rfl, rfl, rfl⟩
  refine p_eq (i := 10) rfl (Wk.of_eq (Kk x7.1)) ?_
  refine p_lit htab rfl rfl rfl rfl rfl rfl rfl rfl rfl rfl rfl rfl rfl rfl ?_
  refine p_eq (i := 11) (d' := .lst 5 (([x7.1] : List Ka).map Kg) .full) rfl (Wk.lst0 (.cons (WkC.trans (WkC.agg (WkR.refl _)) (WkC.of_eq (Kk x7.1).symm)) (.nil))) ?_
  obtain ⟨x8, q8, hm⟩ := Kf hm
  refine p_app0 htab rfl rfl rfl rfl rfl rfl rfl rfl rfl rfl rfl rfl rfl rfl rfl (by simpa using Kbi (e := Kg) q8) (fun v8 => ?_)
  refine p_mapD0 (i := 12) q8 rfl ?_
  refine pu ?_
  refine Kh ?_
  refine Kq ?_
  obtain ⟨y25, q25, ho25⟩ := Kf hm
  refine K6 (Y := Value) (fun z25 => (⟨[(0, .ptr o0 0), (3, .lst 5 (y25.1.map Kg) (.cur z25))], [(o0, Blk.cells [.lst 4 (y25.2.1.map Kc) .no, iD y25.2.2.1, iD y25.2.2.2] T0)], [(5, z25)]⟩ : S)) ?_ ?_
  ·clear hm; have hm := KE q25
   refine KL ?_
   obtain ⟨u26, hl26, hq26⟩ := yes_m hm
   refine Kbe (Y := Value) hl26 (fun s26 z26 => (⟨[(0, .ptr o0 0), (3, .lst 5 (s26.1.map Kg) (.cur z26))], [(o0, Blk.cells [.lst 4 (s26.2.1.map Kc) .no, iD s26.2.2.1, iD s26.2.2.2] T0)], [(5, z26)]⟩ : S)) ?_ ?_
   ·skip
    exact WkX.of v8 (WkS.perm (WkS.cons rfl (Wk.refl _) (WkS.cons rfl (Wk.refl _) (WkS.nil))) Pf Pf)
   ·intro G26 s26 z26 hm
    refine Kq ?_
    refine Kl ?_
    refine pu ?_
    obtain ⟨x37, q37, hm⟩ := Kf hm
    refine pG (Kch (⟨s26.2.1, s26.2.2.1, s26.2.2.2⟩ : Kd) (ByteArray.mk #[44]) o0 T0 .no x37 q37) Wl Pf Pf ?_
    rintro _ _ _ ⟨rfl, rfl, rfl⟩
    refine Kh ?_
    refine Ku rfl (fun hc38 => ?_) (fun hc38 => ?_)
    ·replace hm := yes_t hc38 hm
     refine Ky ?_
     refine Km ?_
     refine KL ?_
     refine KC ?_
     refine pu ?_
     refine pu ?_
     obtain ⟨x39, q39, hm⟩ := Kf hm
     refine pG (KcL x37.2 o0 T0 .no x39 q39) Wl Pf Pf ?_
     rintro _ _ _ ⟨rfl, rfl, rfl⟩
     refine p_eq (i := 17) rfl (Wk.of_eq (Kk x39.1)) ?_
     refine p_lit htab rfl rfl rfl rfl rfl rfl rfl rfl rfl rfl rfl rfl rfl rfl ?_
     refine p_eq (i := 18) (d' := .lst 5 (([x39.1] : List Ka).map Kg) .full) rfl (Wk.lst0 (.cons (WkC.trans (WkC.agg (WkR.refl _)) (WkC.of_eq (Kk x39.1).symm)) (.nil))) ?_
     obtain ⟨x40, q40, hm⟩ := Kf hm
     refine KcS 0 htab rfl rfl rfl rfl rfl rfl rfl rfl rfl rfl rfl rfl rfl rfl rfl rfl rfl (Kbi q40) (fun v40 => ?_)
     refine KcT (i := 19) q40 rfl ?_
     refine pu ?_
     refine KB ?_
     refine KI ?_
     refine Km ⟨_, KaR hm, ?_⟩
     exact WkX.of v40 (WkS.perm (WkS.cons rfl (Wk.refl _) (WkS.cons rfl (Wk.refl _) (WkS.nil))) Pf Pf)
    ·replace hm := yes_f hc38 hm
     refine Kay ?_
     refine KN ?_
     have e26 := Kaq hm; subst e26; clear hm; have hm := hq26
     refine KN ?_
     refine Kao ?_
     have e25 := Kn hm; subst e25
     refine ⟨rfl, ?_⟩
     exact WkX.of z26 (WkS.perm (WkS.cons rfl (Wk.refl _) (WkS.cons rfl (Wk.refl _) (WkS.nil))) Pf Pf)
  ·intro s25 hw25; clear hm; have hm := ho25; clear q25 ho25
   refine Km ?_
   refine K3 hw25 (fun z25 => ?_)
   refine Kl ?_
   refine pu ?_
   obtain ⟨x41, q41, hm⟩ := Kf hm
   refine pG (Kat (⟨y25.2.1, y25.2.2.1, y25.2.2.2⟩ : Kd) (ByteArray.mk #[41]) o0 T0 .no x41 q41) Wl Pf Pf ?_
   rintro _ _ _ ⟨rfl, rfl, rfl⟩
   refine Kv ?_
   refine pu ?_
   refine pu ?_
   refine Kh ?_
   refine Ks ?_
   have er42 := Kn hm; subst er42
   refine rP (t' := [(2, .lst 5 (y25.1.map Kg) (.cur z25))]) [0] [0] 1 (wC wN) (lT lN) ?_
   exact ⟨z25, rfl, rfl, rfl⟩
noncomputable def Kdr (m0 : Kd) (a1 : Kj) : Option (Kj × Kd) :=
 ((Kbo m0).bind fun x3 => ((Kee x3.2).bind fun x5 => ((Kae x5.2 (ByteArray.mk #[59])).bind fun x6 => some ((⟨(4 : Int), a1.gName, x3.1, x5.1, a1.gKids, a1.gElse, a1.gAt⟩ : Kj), x6))))
theorem KiH (m0 : Kd) (a1 : Kj) (o0 : Nat) (T0 : TypeId) (c0_0 : Cap) (r : Kj × Kd) (h0 : Kdr m0 a1 = some r) : CallsD Try.prog 75 [.ptr o0 0, Ki a1] [(o0, Blk.cells [.lst 4 (m0.gL.map Kc) c0_0, iD m0.gAt, iD m0.gE] T0)] [] (fun d h k => d = Ki r.1 ∧ h = [(o0, Blk.cells [.lst 4 (r.2.gL.map Kc) .no, iD r.2.gAt, iD r.2.gE] T0)] ∧ k = []) := by
 have hm := KE h0
 unfold Kdr at hm
 clear h0
 refine KW htab Try.func75 rfl rfl rfl rfl rfl (fun C => ?_)
 refine w_eq (i := 1) rfl (Wk.of_eq (Kp a1)) ?_
 refine Kl ?_
 refine p_box rfl rfl rfl rfl rfl rfl rfl (fun b1 => ?_)
 refine KP htab rfl rfl rfl rfl rfl rfl rfl (fun b2 => ?_)
 refine Kv ?_
 refine pu ?_
 refine pS1 (ds' := [iD (4 : Int), tD a1.gName, tD a1.gFunc, .lst 5 (a1.gExps.map Kg) .no, .lst 7 (a1.gKids.map Ki) .no, .lst 7 (a1.gElse.map Ki) .no, iD a1.gAt]) ?_
 refine Kv ?_
 refine pu ?_
 obtain ⟨x3, q3, hm⟩ := Kf hm
 refine pG (KcK m0 o0 T0 c0_0 x3 q3) Wl Pf Pf ?_
 rintro _ _ _ ⟨rfl, rfl, rfl⟩
 refine pu ?_
 refine pS1 (ds' := [iD (4 : Int), tD a1.gName, tD x3.1, .lst 5 (a1.gExps.map Kg) .no, .lst 7 (a1.gKids.map Ki) .no, .lst 7 (a1.gElse.map Ki) .no, iD a1.gAt]) ?_
 refine Kv ?_
 refine pu ?_
 obtain ⟨x5, q5, hm⟩ := Kf hm
 refine pG (Kkp x3.2 o0 T0 c0_0 x5 q5) Wl Pf Pf ?_
 rintro _ _ _ ⟨w4, rfl, rfl, rfl⟩
 refine pu ?_
 refine pS1 (ds' := [iD (4 : Int), tD a1.gName, tD x3.1, .lst 5 (x5.1.map Kg) (.cur w4), .lst 7 (a1.gKids.map Ki) .no, .lst 7 (a1.gElse.map Ki) .no, iD a1.gAt]) ?_
 refine Kv ?_
 refine pu ?_
 obtain ⟨x6, q6, hm⟩ := Kf hm
 refine pG (Kat x5.2 (ByteArray.mk #[59]) o0 T0 .no x6 q6) Wl Pf Pf ?_
 rintro _ _ _ ⟨rfl, rfl, rfl⟩
 refine Kv ?_
 refine K7 (d := .agg [iD (4 : Int), tD a1.gName, tD x3.1, .lst 5 (x5.1.map Kg) (.cur w4), .lst 7 (a1.gKids.map Ki) .no, .lst 7 (a1.gElse.map Ki) .no, iD a1.gAt]) 1 htab rfl rfl rfl rfl rfl rfl rfl rfl ?_
 refine pS2 (ds' := [iD (4 : Int), tD a1.gName, tD x3.1, .lst 5 (x5.1.map Kg) (.cur w4), .lst 7 (a1.gKids.map Ki) .no, .lst 7 (a1.gElse.map Ki) .no, iD a1.gAt]) ?_
 refine Kh ?_
 refine Ks ?_
 have er7 := Kn hm; subst er7
 refine retX.wk (WkS.bl2 (ds' := [iD (4 : Int), tD a1.gName, tD x3.1, .lst 5 (x5.1.map Kg) .no, .lst 7 (a1.gKids.map Ki) .no, .lst 7 (a1.gElse.map Ki) .no, iD a1.gAt]) (rC (rC (rC (rO (rC (rC (rC WkR.nil)))))))) ?_
 refine rP (t' := [(4, .ptr b2 0)]) [0,1] [] 1 (wC wN) (lC 1 lN) ?_
 exact ⟨by first | rfl | (simp only [wrapD, Kp]; done) | (simp only [wrapD, Kp]; rfl), rfl, rfl⟩
noncomputable def KeR (m0 : Kd) (a1 : Kj) : Option (Kj × Kd) :=
 ((Ked m0 (1 : Int)).bind fun x3 => (Option.bind (α := Bool) (bif (x3.gKind == (3 : Int)) then some (decide (x3.gText = (ByteArray.mk #[40]))) else some false) fun y6 => (bif y6 then ((Kdr m0 a1).bind fun x11 => some (x11.1, x11.2)) else ((Kbo m0).bind fun x13 => ((Kbr x13.2 (ByteArray.mk #[91])).bind fun x14 => (bif x14.1 then ((KaL x14.2).bind fun x24 => ((Kae x24.2 (ByteArray.mk #[93])).bind fun x26 => ((Kae x26 (ByteArray.mk #[61])).bind fun x27 => ((KaL x27).bind fun x28 => ((Kae x28.2 (ByteArray.mk #[59])).bind fun x30 => some ((⟨(2 : Int), x13.1, a1.gFunc, ([x24.1, x28.1] : List Ka), a1.gKids, a1.gElse, a1.gAt⟩ : Kj), x30)))))) else ((Kae x14.2 (ByteArray.mk #[61])).bind fun x32 => ((Kbr x32 (ByteArray.mk #[105, 110, 112, 117, 116])).bind fun x33 => (bif x33.1 then ((Kae x33.2 (ByteArray.mk #[40])).bind fun x39 => ((Kae x39 (ByteArray.mk #[41])).bind fun x40 => ((Kae x40 (ByteArray.mk #[59])).bind fun x41 => some ((⟨(5 : Int), x13.1, a1.gFunc, a1.gExps, a1.gKids, a1.gElse, a1.gAt⟩ : Kj), x41)))) else ((Ked x33.2 (1 : Int)).bind fun x43 => (Option.bind (α := Bool) ((Kbc x33.2).bind fun x49 => (bif (x49.gKind == (1 : Int)) then (bif (x43.gKind == (3 : Int)) then some (decide (x43.gText = (ByteArray.mk #[40]))) else some false) else some false)) fun y48 => (bif y48 then ((Kdr x33.2 (⟨a1.gOp, x13.1, a1.gFunc, a1.gExps, a1.gKids, a1.gElse, a1.gAt⟩ : Kj)).bind fun x55 => some (x55.1, x55.2)) else ((KaL x33.2).bind fun x57 => ((Kae x57.2 (ByteArray.mk #[59])).bind fun x58 => some ((⟨(1 : Int), x13.1, a1.gFunc, ([x57.1] : List Ka), a1.gKids, a1.gElse, a1.gAt⟩ : Kj), x58)))))))))))))))
theorem Kkq (m0 : Kd) (a1 : Kj) (o0 : Nat) (T0 : TypeId) (c0_0 : Cap) (r : Kj × Kd) (h0 : KeR m0 a1 = some r) : CallsD Try.prog 60 [.ptr o0 0, Ki a1] [(o0, Blk.cells [.lst 4 (m0.gL.map Kc) c0_0, iD m0.gAt, iD m0.gE] T0)] [] (fun d h k => d = Ki r.1 ∧ h = [(o0, Blk.cells [.lst 4 (r.2.gL.map Kc) .no, iD r.2.gAt, iD r.2.gE] T0)] ∧ k = []) := by
 have hm := KE h0
 unfold KeR at hm
 clear h0
 refine KW htab Try.func60 rfl rfl rfl rfl rfl (fun C => ?_)
 refine w_eq (i := 1) rfl (Wk.of_eq (Kp a1)) ?_
 refine Kl ?_
 refine p_box rfl rfl rfl rfl rfl rfl rfl (fun b1 => ?_)
 refine KP htab rfl rfl rfl rfl rfl rfl rfl (fun b2 => ?_)
 refine Kv ?_
 refine pu ?_
 obtain ⟨x3, q3, hm⟩ := Kf hm
 refine pG (Kij m0 (1 : Int) o0 T0 c0_0 x3 q3) Wl Pf Pf ?_
 rintro _ _ _ ⟨rfl, rfl, rfl⟩
 refine KP htab rfl rfl rfl rfl rfl rfl rfl (fun b4 => ?_)
 refine pS3 (ds' := [iD x3.gKind, tD x3.gText, iD x3.gN, iD x3.gAt]) ?_
 refine Kh ?_
 refine Kq ?_
 refine Kq ?_
 obtain ⟨y6, q6, ho6⟩ := Kf hm
 refine K6 (Y := Unit) (fun z6 => (⟨[(0, .ptr o0 0), (3, .ptr b1 0), (4, .ptr b2 0), (18, .v (.bool y6))], [(o0, Blk.cells [.lst 4 (m0.gL.map Kc) c0_0, iD m0.gAt, iD m0.gE] T0), (b1, Blk.cells [iD a1.gOp, tD a1.gName, tD a1.gFunc, .lst 5 (a1.gExps.map Kg) .no, .lst 7 (a1.gKids.map Ki) .no, .lst 7 (a1.gElse.map Ki) .no, iD a1.gAt] 58), (b2, Blk.cells [iD (0 : Int), tD ByteArray.empty, tD ByteArray.empty, .lst 1 [] .full, .lst 1 [] .full, .lst 1 [] .full, iD (0 : Int)] 58)], []⟩ : S)) ?_ ?_
 ·clear hm; have hm := KE q6
  refine KC ?_
  refine pu ?_
  refine pL 3 ?_
  refine pu ?_
  refine pu ?_
  refine K9 (i := 14) rfl (fun hg7 => ?_) (fun hg7 => ?_)
  ·replace hm := yes_t hg7 hm
   refine pu ?_
   refine pL 3 ?_
   refine pu ?_
   refine KS rfl rfl rfl rfl rfl rfl ?_
   refine KB ?_
   have e6 := Kn hm; subst e6
   refine ⟨rfl, ?_⟩
   exact WkX.of () (WkS.perm (WkS.cons rfl (Wk.refl _) (WkS.cons rfl (Wk.refl _) (WkS.cons rfl (Wk.refl _) (WkS.cons rfl (Wk.refl _) (WkS.nil))))) Pf Pf)
  ·replace hm := yes_f hg7 hm
   iterate 3 refine pK ?_
   refine KH rfl rfl rfl rfl rfl rfl ?_
   refine KB ?_
   have e6 := Kn hm; subst e6
   refine ⟨rfl, ?_⟩
   exact WkX.of () (WkS.perm (WkS.cons rfl (Wk.refl _) (WkS.cons rfl (Wk.refl _) (WkS.cons rfl (Wk.refl _) (WkS.cons rfl (Wk.refl _) (WkS.nil))))) Pf Pf)
 ·intro s6 hw6; clear hm; have hm := ho6; clear q6 ho6
  refine Km ?_
  refine K3 hw6 (fun z6 => ?_)
  refine Ku rfl (fun hc10 => ?_) (fun hc10 => ?_)
  ·replace hm := yes_t hc10 hm
   refine Kl ?_
   refine pu ?_
   refine K7 (d := .agg [iD a1.gOp, tD a1.gName, tD a1.gFunc, .lst 5 (a1.gExps.map Kg) .no, .lst 7 (a1.gKids.map Ki) .no, .lst 7 (a1.gElse.map Ki) .no, iD a1.gAt]) 1 htab rfl rfl rfl rfl rfl rfl rfl rfl ?_
   obtain ⟨x11, q11, hm⟩ := Kf hm
   refine Kam (KiH m0 a1 o0 T0 c0_0 x11 q11) rfl rfl rfl rfl rfl (WkL.cons (Wk.refl _) (WkL.cons (Wk.trans (Wk.agg (WkR.refl _)) (Wk.of_eq (Kp a1).symm)) Wl)) Pf Pf ?_
   rintro _ _ _ ⟨rfl, rfl, rfl⟩
   refine p_eq (i := 21) rfl (Wk.of_eq (Kp x11.1)) ?_
   refine pS2 (ds' := [iD x11.1.gOp, tD x11.1.gName, tD x11.1.gFunc, .lst 5 (x11.1.gExps.map Kg) .no, .lst 7 (x11.1.gKids.map Ki) .no, .lst 7 (x11.1.gElse.map Ki) .no, iD x11.1.gAt]) ?_
   refine Kh ?_
   refine Ks ?_
   refine KD ?_
   have er12 := Kn hm; subst er12
   refine rP (t' := [(4, .ptr b2 0)]) [0,1] [] 1 (wC wN) (lC 1 lN) ?_
   exact ⟨by first | rfl | (simp only [wrapD, Kp]; done) | (simp only [wrapD, Kp]; rfl), rfl, rfl⟩
  ·replace hm := yes_f hc10 hm
   refine Ky ?_
   refine Km ?_
   refine Kl ?_
   refine pu ?_
   obtain ⟨x13, q13, hm⟩ := Kf hm
   refine pG (KcK m0 o0 T0 c0_0 x13 q13) Wl Pf Pf ?_
   rintro _ _ _ ⟨rfl, rfl, rfl⟩
   refine pu ?_
   refine pS1 (ds' := [iD a1.gOp, tD x13.1, tD a1.gFunc, .lst 5 (a1.gExps.map Kg) .no, .lst 7 (a1.gKids.map Ki) .no, .lst 7 (a1.gElse.map Ki) .no, iD a1.gAt]) ?_
   refine Kh ?_
   refine Kq ?_
   refine Kl ?_
   refine pu ?_
   obtain ⟨x14, q14, hm⟩ := Kf hm
   refine pG (Kch x13.2 (ByteArray.mk #[91]) o0 T0 c0_0 x14 q14) Wl Pf Pf ?_
   rintro _ _ _ ⟨rfl, rfl, rfl⟩
   refine Kh ?_
   refine Ku rfl (fun hc23 => ?_) (fun hc23 => ?_)
   ·replace hm := yes_t hc23 hm
    refine Kl ?_
    refine pu ?_
    refine pS1 (ds' := [iD (2 : Int), tD x13.1, tD a1.gFunc, .lst 5 (a1.gExps.map Kg) .no, .lst 7 (a1.gKids.map Ki) .no, .lst 7 (a1.gElse.map Ki) .no, iD a1.gAt]) ?_
    refine Kv ?_
    refine pu ?_
    obtain ⟨x24, q24, hm⟩ := Kf hm
    refine pG (KcL x14.2 o0 T0 c0_0 x24 q24) Wl Pf Pf ?_
    rintro _ _ _ ⟨rfl, rfl, rfl⟩
    refine p_eq (i := 29) rfl (Wk.of_eq (Kk x24.1)) ?_
    refine KP htab rfl rfl rfl rfl rfl rfl rfl (fun b25 => ?_)
    refine pS3 (ds' := [iD x24.1.gOp, iD x24.1.gN, tD x24.1.gName, .lst 5 (x24.1.gKids.map Kg) .no, iD x24.1.gAt]) ?_
    refine Kv ?_
    refine pu ?_
    obtain ⟨x26, q26, hm⟩ := Kf hm
    refine pG (Kat x24.2 (ByteArray.mk #[93]) o0 T0 .no x26 q26) Wl Pf Pf ?_
    rintro _ _ _ ⟨rfl, rfl, rfl⟩
    refine Kv ?_
    refine pu ?_
    obtain ⟨x27, q27, hm⟩ := Kf hm
    refine pG (Kat x26 (ByteArray.mk #[61]) o0 T0 .no x27 q27) Wl Pf Pf ?_
    rintro _ _ _ ⟨rfl, rfl, rfl⟩
    refine Kv ?_
    refine pu ?_
    obtain ⟨x28, q28, hm⟩ := Kf hm
    refine pG (KcL x27 o0 T0 .no x28 q28) Wl Pf Pf ?_
    rintro _ _ _ ⟨rfl, rfl, rfl⟩
    refine p_eq (i := 35) rfl (Wk.of_eq (Kk x28.1)) ?_
    refine KP htab rfl rfl rfl rfl rfl rfl rfl (fun b29 => ?_)
    refine pS4 (ds' := [iD x28.1.gOp, iD x28.1.gN, tD x28.1.gName, .lst 5 (x28.1.gKids.map Kg) .no, iD x28.1.gAt]) ?_
    refine Kv ?_
    refine K7 (d := .agg [iD x24.1.gOp, iD x24.1.gN, tD x24.1.gName, .lst 5 (x24.1.gKids.map Kg) .no, iD x24.1.gAt]) 3 htab rfl rfl rfl rfl rfl rfl rfl rfl ?_
    refine K7 (d := .agg [iD x28.1.gOp, iD x28.1.gN, tD x28.1.gName, .lst 5 (x28.1.gKids.map Kg) .no, iD x28.1.gAt]) 4 htab rfl rfl rfl rfl rfl rfl rfl rfl ?_
    refine p_lit htab rfl rfl rfl rfl rfl rfl rfl rfl rfl rfl rfl rfl rfl rfl ?_
    refine p_eq (i := 38) (d' := .lst 5 (([x24.1, x28.1] : List Ka).map Kg) .full) rfl (Wk.lst0 (.cons (WkC.trans (WkC.agg (WkR.refl _)) (WkC.of_eq (Kk x24.1).symm)) (.cons (WkC.trans (WkC.agg (WkR.refl _)) (WkC.of_eq (Kk x28.1).symm)) (.nil)))) ?_
    refine pu ?_
    refine pS1 (ds' := [iD (2 : Int), tD x13.1, tD a1.gFunc, .lst 5 (([x24.1, x28.1] : List Ka).map Kg) .full, .lst 7 (a1.gKids.map Ki) .no, .lst 7 (a1.gElse.map Ki) .no, iD a1.gAt]) ?_
    refine Kv ?_
    refine pu ?_
    obtain ⟨x30, q30, hm⟩ := Kf hm
    refine pG (Kat x28.2 (ByteArray.mk #[59]) o0 T0 .no x30 q30) Wl Pf Pf ?_
    rintro _ _ _ ⟨rfl, rfl, rfl⟩
    refine Kv ?_
    refine K7 (d := .agg [iD (2 : Int), tD x13.1, tD a1.gFunc, .lst 5 (([x24.1, x28.1] : List Ka).map Kg) .full, .lst 7 (a1.gKids.map Ki) .no, .lst 7 (a1.gElse.map Ki) .no, iD a1.gAt]) 1 htab rfl rfl rfl rfl rfl rfl rfl rfl ?_
    refine pS2 (ds' := [iD (2 : Int), tD x13.1, tD a1.gFunc, .lst 5 (([x24.1, x28.1] : List Ka).map Kg) .full, .lst 7 (a1.gKids.map Ki) .no, .lst 7 (a1.gElse.map Ki) .no, iD a1.gAt]) ?_
    refine Kh ?_
    refine Ks ?_
    refine KD ?_
    have er31 := Kn hm; subst er31
    refine retX.wk (WkS.bl2 (ds' := [iD (2 : Int), tD x13.1, tD a1.gFunc, .lst 5 (([x24.1, x28.1] : List Ka).map Kg) .no, .lst 7 (a1.gKids.map Ki) .no, .lst 7 (a1.gElse.map Ki) .no, iD a1.gAt]) (rC (rC (rC (rO (rC (rC (rC WkR.nil)))))))) ?_
    refine rP (t' := [(4, .ptr b2 0)]) [0,1] [] 1 (wC wN) (lC 1 lN) ?_
    exact ⟨by first | rfl | (simp only [wrapD, Kp]; done) | (simp only [wrapD, Kp]; rfl), rfl, rfl⟩
   ·replace hm := yes_f hc23 hm
    refine Ky ?_
    refine Km ?_
    refine Kl ?_
    refine pu ?_
    obtain ⟨x32, q32, hm⟩ := Kf hm
    refine pG (Kat x14.2 (ByteArray.mk #[61]) o0 T0 c0_0 x32 q32) Wl Pf Pf ?_
    rintro _ _ _ ⟨rfl, rfl, rfl⟩
    refine Kh ?_
    refine Kq ?_
    refine Kl ?_
    refine pu ?_
    obtain ⟨x33, q33, hm⟩ := Kf hm
    refine pG (Kch x32 (ByteArray.mk #[105, 110, 112, 117, 116]) o0 T0 c0_0 x33 q33) Wl Pf Pf ?_
    rintro _ _ _ ⟨rfl, rfl, rfl⟩
    refine Kh ?_
    refine Ku rfl (fun hc38 => ?_) (fun hc38 => ?_)
    ·replace hm := yes_t hc38 hm
     refine Kl ?_
     refine pu ?_
     refine pS1 (ds' := [iD (5 : Int), tD x13.1, tD a1.gFunc, .lst 5 (a1.gExps.map Kg) .no, .lst 7 (a1.gKids.map Ki) .no, .lst 7 (a1.gElse.map Ki) .no, iD a1.gAt]) ?_
     refine Kv ?_
     refine pu ?_
     obtain ⟨x39, q39, hm⟩ := Kf hm
     refine pG (Kat x33.2 (ByteArray.mk #[40]) o0 T0 c0_0 x39 q39) Wl Pf Pf ?_
     rintro _ _ _ ⟨rfl, rfl, rfl⟩
     refine Kv ?_
     refine pu ?_
     obtain ⟨x40, q40, hm⟩ := Kf hm
     refine pG (Kat x39 (ByteArray.mk #[41]) o0 T0 c0_0 x40 q40) Wl Pf Pf ?_
     rintro _ _ _ ⟨rfl, rfl, rfl⟩
     refine Kv ?_
     refine pu ?_
     obtain ⟨x41, q41, hm⟩ := Kf hm
     refine pG (Kat x40 (ByteArray.mk #[59]) o0 T0 c0_0 x41 q41) Wl Pf Pf ?_
     rintro _ _ _ ⟨rfl, rfl, rfl⟩
     refine Kv ?_
     refine K7 (d := .agg [iD (5 : Int), tD x13.1, tD a1.gFunc, .lst 5 (a1.gExps.map Kg) .no, .lst 7 (a1.gKids.map Ki) .no, .lst 7 (a1.gElse.map Ki) .no, iD a1.gAt]) 1 htab rfl rfl rfl rfl rfl rfl rfl rfl ?_
     refine pS2 (ds' := [iD (5 : Int), tD x13.1, tD a1.gFunc, .lst 5 (a1.gExps.map Kg) .no, .lst 7 (a1.gKids.map Ki) .no, .lst 7 (a1.gElse.map Ki) .no, iD a1.gAt]) ?_
     refine Kh ?_
     refine Ks ?_
     refine KD ?_
     have er42 := Kn hm; subst er42
     refine retX.wk (WkS.bl0 (ds' := [.lst 4 (x41.gL.map Kc) .no, iD x41.gAt, iD x41.gE]) (rO (rC (rC WkR.nil)))) ?_
     refine rP (t' := [(4, .ptr b2 0)]) [0,1] [] 1 (wC wN) (lC 1 lN) ?_
     exact ⟨by first | rfl | (simp only [wrapD, Kp]; done) | (simp only [wrapD, Kp]; rfl), rfl, rfl⟩
    ·replace hm := yes_f hc38 hm
     refine Ky ?_
     refine Km ?_
     refine Kl ?_
     refine pu ?_
     obtain ⟨x43, q43, hm⟩ := Kf hm
     refine pG (Kij x33.2 (1 : Int) o0 T0 c0_0 x43 q43) Wl Pf Pf ?_
     rintro _ _ _ ⟨rfl, rfl, rfl⟩
     refine KP htab rfl rfl rfl rfl rfl rfl rfl (fun b44 => ?_)
     refine pS3 (ds' := [iD x43.gKind, tD x43.gText, iD x43.gN, iD x43.gAt]) ?_
     refine Kh ?_
     refine Kq ?_
     refine Kq ?_
     obtain ⟨y48, q48, ho48⟩ := Kf hm
     refine K6 (Y := Unit) (fun z48 => (⟨[(0, .ptr o0 0), (3, .ptr b1 0), (4, .ptr b2 0), (70, .v (.bool y48))], [(o0, Blk.cells [.lst 4 (x33.2.gL.map Kc) c0_0, iD x33.2.gAt, iD x33.2.gE] T0), (b1, Blk.cells [iD a1.gOp, tD x13.1, tD a1.gFunc, .lst 5 (a1.gExps.map Kg) .no, .lst 7 (a1.gKids.map Ki) .no, .lst 7 (a1.gElse.map Ki) .no, iD a1.gAt] 58), (b2, Blk.cells [iD (0 : Int), tD ByteArray.empty, tD ByteArray.empty, .lst 1 [] .full, .lst 1 [] .full, .lst 1 [] .full, iD (0 : Int)] 58)], []⟩ : S)) ?_ ?_
     ·clear hm; have hm := KE q48
      refine KC ?_
      refine pu ?_
      obtain ⟨x49, q49, hm⟩ := Kf hm
      refine pG (KbI x33.2 o0 T0 c0_0 x49 q49) Wl Pf Pf ?_
      rintro _ _ _ ⟨rfl, rfl, rfl⟩
      iterate 3 refine pu ?_
      refine K9 (i := 61) rfl (fun hg50 => ?_) (fun hg50 => ?_)
      ·replace hm := yes_t hg50 hm
       refine pu ?_
       refine pL 3 ?_
       refine pu ?_
       refine KS rfl rfl rfl rfl rfl rfl ?_
       refine pu ?_
       refine K9 (i := 66) rfl (fun hg51 => ?_) (fun hg51 => ?_)
       ·replace hm := yes_t hg51 hm
        refine pu ?_
        refine pL 3 ?_
        refine pu ?_
        refine KS rfl rfl rfl rfl rfl rfl ?_
        refine KB ?_
        have e48 := Kn hm; subst e48
        refine ⟨rfl, ?_⟩
        exact WkX.of () (WkS.perm (WkS.cons rfl (Wk.refl _) (WkS.cons rfl (Wk.refl _) (WkS.cons rfl (Wk.refl _) (WkS.cons rfl (Wk.refl _) (WkS.nil))))) Pf Pf)
       ·replace hm := yes_f hg51 hm
        iterate 3 refine pK ?_
        refine KH rfl rfl rfl rfl rfl rfl ?_
        refine KB ?_
        have e48 := Kn hm; subst e48
        refine ⟨rfl, ?_⟩
        exact WkX.of () (WkS.perm (WkS.cons rfl (Wk.refl _) (WkS.cons rfl (Wk.refl _) (WkS.cons rfl (Wk.refl _) (WkS.cons rfl (Wk.refl _) (WkS.nil))))) Pf Pf)
      ·replace hm := yes_f hg50 hm
       iterate 3 refine pK ?_
       refine KH rfl rfl rfl rfl rfl rfl ?_
       refine pu ?_
       iterate 3 refine pK ?_
       refine KH rfl rfl rfl rfl rfl rfl ?_
       refine KB ?_
       have e48 := Kn hm; subst e48
       refine ⟨rfl, ?_⟩
       exact WkX.of () (WkS.perm (WkS.cons rfl (Wk.refl _) (WkS.cons rfl (Wk.refl _) (WkS.cons rfl (Wk.refl _) (WkS.cons rfl (Wk.refl _) (WkS.nil))))) Pf Pf)
     ·intro s48 hw48; clear hm; have hm := ho48; clear q48 ho48
      refine Km ?_
      refine K3 hw48 (fun z48 => ?_)
      refine Ku rfl (fun hc54 => ?_) (fun hc54 => ?_)
      ·replace hm := yes_t hc54 hm
       refine Kl ?_
       refine pu ?_
       refine K7 (d := .agg [iD a1.gOp, tD x13.1, tD a1.gFunc, .lst 5 (a1.gExps.map Kg) .no, .lst 7 (a1.gKids.map Ki) .no, .lst 7 (a1.gElse.map Ki) .no, iD a1.gAt]) 1 htab rfl rfl rfl rfl rfl rfl rfl rfl ?_
       obtain ⟨x55, q55, hm⟩ := Kf hm
       refine Kam (KiH x33.2 (⟨a1.gOp, x13.1, a1.gFunc, a1.gExps, a1.gKids, a1.gElse, a1.gAt⟩ : Kj) o0 T0 c0_0 x55 q55) rfl rfl rfl rfl rfl (WkL.cons (Wk.refl _) (WkL.cons (Wk.trans (Wk.agg (WkR.refl _)) (Wk.of_eq (Kp (⟨a1.gOp, x13.1, a1.gFunc, a1.gExps, a1.gKids, a1.gElse, a1.gAt⟩ : Kj)).symm)) Wl)) Pf Pf ?_
       rintro _ _ _ ⟨rfl, rfl, rfl⟩
       refine p_eq (i := 73) rfl (Wk.of_eq (Kp x55.1)) ?_
       refine pS2 (ds' := [iD x55.1.gOp, tD x55.1.gName, tD x55.1.gFunc, .lst 5 (x55.1.gExps.map Kg) .no, .lst 7 (x55.1.gKids.map Ki) .no, .lst 7 (x55.1.gElse.map Ki) .no, iD x55.1.gAt]) ?_
       refine Kh ?_
       refine Ks ?_
       refine KD ?_
       have er56 := Kn hm; subst er56
       refine rP (t' := [(4, .ptr b2 0)]) [0,1] [] 1 (wC wN) (lC 1 lN) ?_
       exact ⟨by first | rfl | (simp only [wrapD, Kp]; done) | (simp only [wrapD, Kp]; rfl), rfl, rfl⟩
      ·replace hm := yes_f hc54 hm
       refine Ky ?_
       refine Km ?_
       refine Kl ?_
       refine pu ?_
       refine pS1 (ds' := [iD (1 : Int), tD x13.1, tD a1.gFunc, .lst 5 (a1.gExps.map Kg) .no, .lst 7 (a1.gKids.map Ki) .no, .lst 7 (a1.gElse.map Ki) .no, iD a1.gAt]) ?_
       refine Kv ?_
       refine pu ?_
       obtain ⟨x57, q57, hm⟩ := Kf hm
       refine pG (KcL x33.2 o0 T0 c0_0 x57 q57) Wl Pf Pf ?_
       rintro _ _ _ ⟨rfl, rfl, rfl⟩
       refine p_eq (i := 76) rfl (Wk.of_eq (Kk x57.1)) ?_
       refine p_lit htab rfl rfl rfl rfl rfl rfl rfl rfl rfl rfl rfl rfl rfl rfl ?_
       refine p_eq (i := 77) (d' := .lst 5 (([x57.1] : List Ka).map Kg) .full) rfl (Wk.lst0 (.cons (WkC.trans (WkC.agg (WkR.refl _)) (WkC.of_eq (Kk x57.1).symm)) (.nil))) ?_
       refine pu ?_
       refine pS1 (ds' := [iD (1 : Int), tD x13.1, tD a1.gFunc, .lst 5 (([x57.1] : List Ka).map Kg) .full, .lst 7 (a1.gKids.map Ki) .no, .lst 7 (a1.gElse.map Ki) .no, iD a1.gAt]) ?_
       refine Kv ?_
       refine pu ?_
       obtain ⟨x58, q58, hm⟩ := Kf hm
       refine pG (Kat x57.2 (ByteArray.mk #[59]) o0 T0 .no x58 q58) Wl Pf Pf ?_
       rintro _ _ _ ⟨rfl, rfl, rfl⟩
       refine Kv ?_
       refine K7 (d := .agg [iD (1 : Int), tD x13.1, tD a1.gFunc, .lst 5 (([x57.1] : List Ka).map Kg) .full, .lst 7 (a1.gKids.map Ki) .no, .lst 7 (a1.gElse.map Ki) .no, iD a1.gAt]) 1 htab rfl rfl rfl rfl rfl rfl rfl rfl ?_
       refine pS2 (ds' := [iD (1 : Int), tD x13.1, tD a1.gFunc, .lst 5 (([x57.1] : List Ka).map Kg) .full, .lst 7 (a1.gKids.map Ki) .no, .lst 7 (a1.gElse.map Ki) .no, iD a1.gAt]) ?_
       refine Kh ?_
       refine Ks ?_
       have er59 := Kn hm; subst er59
       refine retX.wk (WkS.bl2 (ds' := [iD (1 : Int), tD x13.1, tD a1.gFunc, .lst 5 (([x57.1] : List Ka).map Kg) .no, .lst 7 (a1.gKids.map Ki) .no, .lst 7 (a1.gElse.map Ki) .no, iD a1.gAt]) (rC (rC (rC (rO (rC (rC (rC WkR.nil)))))))) ?_
       refine rP (t' := [(4, .ptr b2 0)]) [0,1] [] 1 (wC wN) (lC 1 lN) ?_
       exact ⟨by first | rfl | (simp only [wrapD, Kp]; done) | (simp only [wrapD, Kp]; rfl), rfl, rfl⟩
noncomputable def KeK (m0 : Kd) : Option (List Ka × Kd) :=
 ((Kae m0 (ByteArray.mk #[40])).bind fun x1 => ((KaL x1).bind fun x2 => ((Kae x2.2 (ByteArray.mk #[41])).bind fun x4 => some (([x2.1] : List Ka), x4))))
theorem Kg0 (m0 : Kd) (o0 : Nat) (T0 : TypeId) (c0_0 : Cap) (r : List Ka × Kd) (h0 : KeK m0 = some r) : CallsD Try.prog 62 [.ptr o0 0] [(o0, Blk.cells [.lst 4 (m0.gL.map Kc) c0_0, iD m0.gAt, iD m0.gE] T0)] [] (fun d h k => ∃ y0, d = .lst 5 (r.1.map Kg) (.cur y0) ∧ h = [(o0, Blk.cells [.lst 4 (r.2.gL.map Kc) .no, iD r.2.gAt, iD r.2.gE] T0)] ∧ k = [(5, y0)]) := by
 have hm := KE h0
 unfold KeK at hm
 clear h0
 refine KW htab Try.func62 rfl rfl rfl rfl rfl (fun C => ?_)
 refine Kl ?_
 refine pu ?_
 refine Kv ?_
 refine pu ?_
 obtain ⟨x1, q1, hm⟩ := Kf hm
 refine pG (Kat m0 (ByteArray.mk #[40]) o0 T0 c0_0 x1 q1) Wl Pf Pf ?_
 rintro _ _ _ ⟨rfl, rfl, rfl⟩
 refine Kv ?_
 refine pu ?_
 obtain ⟨x2, q2, hm⟩ := Kf hm
 refine pG (KcL x1 o0 T0 c0_0 x2 q2) Wl Pf Pf ?_
 rintro _ _ _ ⟨rfl, rfl, rfl⟩
 refine p_eq (i := 7) rfl (Wk.of_eq (Kk x2.1)) ?_
 refine KP htab rfl rfl rfl rfl rfl rfl rfl (fun b3 => ?_)
 refine pS1 (ds' := [iD x2.1.gOp, iD x2.1.gN, tD x2.1.gName, .lst 5 (x2.1.gKids.map Kg) .no, iD x2.1.gAt]) ?_
 refine Kv ?_
 refine pu ?_
 obtain ⟨x4, q4, hm⟩ := Kf hm
 refine pG (Kat x2.2 (ByteArray.mk #[41]) o0 T0 .no x4 q4) Wl Pf Pf ?_
 rintro _ _ _ ⟨rfl, rfl, rfl⟩
 refine Kv ?_
 refine K7 (d := .agg [iD x2.1.gOp, iD x2.1.gN, tD x2.1.gName, .lst 5 (x2.1.gKids.map Kg) .no, iD x2.1.gAt]) 1 htab rfl rfl rfl rfl rfl rfl rfl rfl ?_
 refine p_lit htab rfl rfl rfl rfl rfl rfl rfl rfl rfl rfl rfl rfl rfl rfl ?_
 refine p_eq (i := 11) (d' := .lst 5 (([x2.1] : List Ka).map Kg) .full) rfl (Wk.lst0 (.cons (WkC.trans (WkC.agg (WkR.refl _)) (WkC.of_eq (Kk x2.1).symm)) (.nil))) ?_
 refine pu ?_
 refine Kh ?_
 refine Ks ?_
 have er5 := Kn hm; subst er5
 refine retX.tokF (i := 2) rfl (fun w6 => ?_)
 refine rP (t' := [(2, .lst 5 (([x2.1] : List Ka).map Kg) (.cur w6))]) [0] [0] 1 (wC wN) (lT lN) ?_
 exact ⟨w6, rfl, rfl, rfl⟩
end Go.Proofs.Ytmgklehakmdiiaa.Ab
