/- The texts that runNone_holds leans on, part 4. -/
import Derived.Test.YtaclkgjnoaeihaaGreatVa3
set_option maxRecDepth 100000
set_option maxHeartbeats 80000000
namespace Go.Proofs.YtaclkgjnoaeihaaGreat.Ab
open Go
set_option linter.all false
noncomputable def Kaz (g0 : (Kl) → (List Kb) → Option (Unit)) (g1 : (Kl) → (Kb) → Option (Unit)) (a0 : Kl) (a1 : List Kb) : Option (Unit) :=
 (Option.bind (α := Unit) (loopM (fun (s19 : Int) => (bif (decide (s19 < (a1.length : Int))) then ((idx a1 s19).bind fun x31 => ((g1 a0 x31).bind fun x33 => some (.next (IntKind.i64.wrap (s19 + (1 : Int)))))) else some (.done ()))) (0 : Int)) fun y18 => some ())
theorem Kd8 (g0 : (Kl) → (List Kb) → Option (Unit)) (g1 : (Kl) → (Kb) → Option (Unit)) (hg0 : ∀ (a0 : Kl) (a1 : List Kb) (r : Unit) (h0 : g0 a0 a1 = some r), CallsD Tryz.prog 51 [Kx a0, .lst 7 (a1.map Kg) .no] [] [] (fun d h k => d = .tup [] ∧ h = [] ∧ k = [])) (hg1 : ∀ (a0 : Kl) (a1 : Kb) (r : Unit) (h0 : g1 a0 a1 = some r), CallsD Tryz.prog 63 [Kx a0, Kg a1] [] [] (fun d h k => d = .tup [] ∧ h = [] ∧ k = [])) (a0 : Kl) (a1 : List Kb) (r : Unit) (h0 : Kaz g0 g1 a0 a1 = some r) : CallsD Tryz.prog 51 [Kx a0, .lst 7 (a1.map Kg) .no] [] [] (fun d h k => d = .tup [] ∧ h = [] ∧ k = []) := by
 have hm := Ku h0
 unfold Kaz at hm
 clear h0
 refine K5 htab Tryz.func51 rfl rfl rfl rfl rfl (fun C => ?_)
 refine Kh ?_
 refine p_box rfl rfl rfl rfl rfl rfl rfl (fun b1 => ?_)
 refine KL ?_
 refine pu ?_
 refine Kao htab rfl rfl rfl rfl rfl rfl rfl (by first | exact Kae | rfl) ?_
 refine pu ?_
 refine Kf ?_
 obtain ⟨y18, q18, ho18⟩ := Kc hm
 refine KP (Y := Unit) (fun z18 => (⟨[], [], []⟩ : S)) ?_ ?_
 ·clear hm; have hm := Ku q18
  refine KC ?_
  obtain ⟨u19, hl19, hq19⟩ := yes_m hm
  refine KaW (Y := Unit) hl19 (fun s19 z19 => (⟨[(2, .ptr b1 0), (6, .lst 7 (a1.map Kg) .no), (7, .v (.int .i64 (a1.length : Int))), (8, .v (.int .i64 s19))], [(b1, Blk.cells [.lst 4 (a0.gP.gGlobals.map KE) .no, .lst 5 (a0.gP.gFuncs.map KH) .no, .v (.string a0.gF.gName), .lst 2 (a0.gF.gParams.map Ke) .no, .lst 2 (a0.gF.gLocals.map Ke) .no, .lst 7 (a0.gF.gBody.map Kg) .no, .v (.int .i64 a0.gF.gAt)] 126)], []⟩ : S)) ?_ ?_
  ·skip
   exact WkX.of () (WkS.perm (WkS.cons rfl (Wk.refl _) (WkS.cons rfl (Wk.refl _) (WkS.cons rfl (Wk.refl _) (WkS.cons rfl (Wk.refl _) (WkS.nil))))) Pf Pf)
  ·intro G19 s19 z19 hm
   refine Kh ?_
   refine pu ?_
   refine Kf ?_
   refine Ko ?_
   refine Kp rfl (fun hc30 => ?_) (fun hc30 => ?_)
   ·replace hm := yes_t hc30 hm
    refine Ks ?_
    refine Kd ?_
    refine Ko ?_
    refine KC ?_
    refine Kh ?_
    obtain ⟨x31, q31, hm⟩ := Kc hm
    refine KaB htab rfl rfl rfl rfl rfl rfl rfl rfl rfl rfl (KM q31) (K8 q31) ?_
    refine p_eq (i := 10) rfl (Wk.of_eq (congrArg D.el (Kw x31))) ?_
    refine Kai (d := .agg [.v (.int .i64 x31.gOp), .v (.string x31.gName), .v (.string x31.gFunc), .lst 5 (x31.gExps.map Kn) .no, .lst 7 (x31.gKids.map Kg) .no, .lst 7 (x31.gElse.map Kg) .no, .v (.int .i64 x31.gAt)]) htab rfl rfl rfl rfl rfl rfl rfl rfl ?_
    refine Kak htab rfl rfl rfl rfl rfl rfl rfl (fun b32 => ?_)
    refine pS1 (ds' := [.v (.int .i64 x31.gOp), .v (.string x31.gName), .v (.string x31.gFunc), .lst 5 (x31.gExps.map Kn) .no, .lst 7 (x31.gKids.map Kg) .no, .lst 7 (x31.gElse.map Kg) .no, .v (.int .i64 x31.gAt)]) ?_
    refine Kf ?_
    refine Kr ?_
    refine K3 (d := Kx a0) 0 htab rfl rfl rfl rfl rfl rfl rfl rfl ?_
    refine K3 (d := .agg [.v (.int .i64 x31.gOp), .v (.string x31.gName), .v (.string x31.gFunc), .lst 5 (x31.gExps.map Kn) .no, .lst 7 (x31.gKids.map Kg) .no, .lst 7 (x31.gElse.map Kg) .no, .v (.int .i64 x31.gAt)]) 1 htab rfl rfl rfl rfl rfl rfl rfl rfl ?_
    obtain ⟨x33, q33, hm⟩ := Kc hm
    refine KT (hg1 a0 x31 x33 q33) rfl rfl rfl rfl rfl (WkL.cons (Wk.refl _) (WkL.cons (Wk.trans (Wk.agg (WkR.refl _)) (Wk.of_eq (Kw x31).symm)) Wl)) ?_
    rintro _ rfl
    refine Kt ?_
    refine Kz ?_
    refine Kd ?_
    refine Kr ?_
    refine pu ?_
    refine pu ?_
    refine Kt ?_
    refine Kd ⟨_, Kas hm, ?_⟩
    exact WkX.of () (WkS.perm (WkS.cons rfl (Wk.refl _) (WkS.cons rfl (Wk.refl _) (WkS.cons rfl (Wk.refl _) (WkS.cons rfl (Wk.refl _) (WkS.nil))))) Pf Pf)
   ·replace hm := yes_f hc30 hm
    refine Kal ?_
    refine KJ ?_
    have e19 := Kab hm; subst e19; clear hm; have hm := hq19
    refine KJ ?_
    refine Kaf ?_
    have e18 := Ki hm; subst e18
    refine ⟨rfl, ?_⟩
    exact WkX.of () (WkS.perm (WkS.nil) Pf Pf)
 ·intro s18 hw18; clear hm; have hm := ho18; clear q18 ho18
  refine retX.wkX hw18 (fun z18 => ?_)
  first | (have er34 := Ki hm; subst er34) | skip
  refine rP (t' := []) [] [] 0 wN lN ?_
  exact ⟨rfl, rfl, rfl⟩
noncomputable def KaK (g0 : (Kl) → (List Kb) → Option (Unit)) (g1 : (Kl) → (Kb) → Option (Unit)) (a0 : Kl) (a1 : Kb) : Option (Unit) :=
 ((Kdc a1).bind fun x3 => (Option.bind (α := Bool) (bif (decide (x3 < (0 : Int))) then some true else some ((a1.gExps.length : Int) != x3)) fun y5 => (Option.bind (α := Unit) (bif y5 then ((KaO a1.gAt (2 : Int)).bind fun x11 => some ()) else some ()) fun y9 => ((Kb2 a0 a1.gExps).bind fun x13 => (Option.bind (α := Unit) (Option.bind (α := Unit) (bif (a1.gOp == (1 : Int)) then ((Kap a0 a1.gName a1.gAt ([(1 : Int), (2 : Int)] : List Int)).bind fun x67 => ((idx x13 (0 : Int)).bind fun x68 => (Option.bind (α := Unit) (bif (x67 != x68) then ((KaO a1.gAt (9 : Int)).bind fun x73 => some ()) else some ()) fun y71 => some ()))) else (Option.bind (α := Unit) (bif (a1.gOp == (2 : Int)) then ((idx a1.gExps (0 : Int)).bind fun x96 => ((idx x13 (0 : Int)).bind fun x97 => ((Ka9 x96 x97).bind fun x98 => ((idx a1.gExps (1 : Int)).bind fun x99 => ((idx x13 (1 : Int)).bind fun x100 => ((Ka9 x99 x100).bind fun x101 => ((Kap a0 a1.gName a1.gAt ([(3 : Int)] : List Int)).bind fun x102 => some ()))))))) else (Option.bind (α := Unit) (bif (a1.gOp == (3 : Int)) then ((idx a1.gExps (0 : Int)).bind fun x117 => ((idx x13 (0 : Int)).bind fun x118 => ((Ka9 x117 x118).bind fun x119 => ((Kap a0 a1.gName a1.gAt ([(2 : Int)] : List Int)).bind fun x120 => some ())))) else (Option.bind (α := Unit) (bif (a1.gOp == (4 : Int)) then ((KbD a0 a1 x13).bind fun x130 => some ()) else (Option.bind (α := Unit) (bif (a1.gOp == (5 : Int)) then ((Kap a0 a1.gName a1.gAt ([(1 : Int)] : List Int)).bind fun x138 => some ()) else ((idx a1.gExps (0 : Int)).bind fun x139 => ((idx x13 (0 : Int)).bind fun x140 => ((Ka9 x139 x140).bind fun x141 => some ())))) fun y136 => some ())) fun y128 => some ())) fun y115 => some ())) fun y94 => some ())) fun y65 => some ()) fun y39 => ((g0 a0 a1.gKids).bind fun x142 => ((g0 a0 a1.gElse).bind fun x143 => some ())))))))
theorem Ken (g0 : (Kl) → (List Kb) → Option (Unit)) (g1 : (Kl) → (Kb) → Option (Unit)) (hg0 : ∀ (a0 : Kl) (a1 : List Kb) (r : Unit) (h0 : g0 a0 a1 = some r), CallsD Tryz.prog 51 [Kx a0, .lst 7 (a1.map Kg) .no] [] [] (fun d h k => d = .tup [] ∧ h = [] ∧ k = [])) (hg1 : ∀ (a0 : Kl) (a1 : Kb) (r : Unit) (h0 : g1 a0 a1 = some r), CallsD Tryz.prog 63 [Kx a0, Kg a1] [] [] (fun d h k => d = .tup [] ∧ h = [] ∧ k = [])) (a0 : Kl) (a1 : Kb) (r : Unit) (h0 : KaK g0 g1 a0 a1 = some r) : CallsD Tryz.prog 63 [Kx a0, Kg a1] [] [] (fun d h k => d = .tup [] ∧ h = [] ∧ k = []) := by
 have hm := Ku h0
 unfold KaK at hm
 clear h0
 refine K5 htab Tryz.func63 rfl rfl rfl rfl rfl (fun C => ?_)
 refine w_eq (i := 1) rfl (Wk.of_eq (Kw a1)) ?_
 refine Kh ?_
 refine p_box rfl rfl rfl rfl rfl rfl rfl (fun b1 => ?_)
 refine p_box rfl rfl rfl rfl rfl rfl rfl (fun b2 => ?_)
 refine Kf ?_
 refine Ko ?_
 refine Kh ?_
 refine K3 (d := .agg [.v (.int .i64 a1.gOp), .v (.string a1.gName), .v (.string a1.gFunc), .lst 5 (a1.gExps.map Kn) .no, .lst 7 (a1.gKids.map Kg) .no, .lst 7 (a1.gElse.map Kg) .no, .v (.int .i64 a1.gAt)]) 1 htab rfl rfl rfl rfl rfl rfl rfl rfl ?_
 obtain ⟨x3, q3, hm⟩ := Kc hm
 refine KT (KgP a1 x3 q3) rfl rfl rfl rfl rfl (WkL.cons (Wk.trans (Wk.agg (WkR.refl _)) (Wk.of_eq (Kw a1).symm)) Wl) ?_
 rintro _ rfl
 refine pu ?_
 refine Kf ?_
 refine Ko ?_
 obtain ⟨y5, q5, ho5⟩ := Kc hm
 refine KP (Y := Unit) (fun z5 => (⟨[(2, .ptr b1 0), (3, .ptr b2 0), (16, .v (.bool y5))], [(b1, Blk.cells [.lst 4 (a0.gP.gGlobals.map KE) .no, .lst 5 (a0.gP.gFuncs.map KH) .no, .v (.string a0.gF.gName), .lst 2 (a0.gF.gParams.map Ke) .no, .lst 2 (a0.gF.gLocals.map Ke) .no, .lst 7 (a0.gF.gBody.map Kg) .no, .v (.int .i64 a0.gF.gAt)] 126), (b2, Blk.cells [.v (.int .i64 a1.gOp), .v (.string a1.gName), .v (.string a1.gFunc), .lst 5 (a1.gExps.map Kn) .no, .lst 7 (a1.gKids.map Kg) .no, .lst 7 (a1.gElse.map Kg) .no, .v (.int .i64 a1.gAt)] 91)], []⟩ : S)) ?_ ?_
 ·clear hm; have hm := Ku q5
  refine Kr ?_
  iterate 3 refine pu ?_
  refine KbR (i := 10) rfl (fun hg6 => ?_) (fun hg6 => ?_)
  ·replace hm := yes_t hg6 hm
   iterate 5 refine pK ?_
   refine KbP rfl rfl rfl rfl rfl rfl ?_
   refine Kt ?_
   have e5 := Ki hm; subst e5
   refine ⟨rfl, ?_⟩
   exact WkX.of () (WkS.perm (WkS.cons rfl (Wk.refl _) (WkS.cons rfl (Wk.refl _) (WkS.cons rfl (Wk.refl _) (WkS.nil)))) Pf Pf)
  ·replace hm := yes_f hg6 hm
   refine pu ?_
   refine pL 1 ?_
   refine Kao htab rfl rfl rfl rfl rfl rfl rfl (by first | exact Kae | rfl) ?_
   refine pu ?_
   refine pu ?_
   refine KbQ rfl rfl rfl rfl rfl rfl ?_
   refine Kt ?_
   have e5 := Ki hm; subst e5
   refine ⟨rfl, ?_⟩
   exact WkX.of () (WkS.perm (WkS.cons rfl (Wk.refl _) (WkS.cons rfl (Wk.refl _) (WkS.cons rfl (Wk.refl _) (WkS.nil)))) Pf Pf)
 ·intro s5 hw5; clear hm; have hm := ho5; clear q5 ho5
  refine Kd ?_
  refine KY hw5 (fun z5 => ?_)
  obtain ⟨y9, q9, ho9⟩ := Kc hm
  refine KP (Y := Unit) (fun z9 => (⟨[(2, .ptr b1 0), (3, .ptr b2 0)], [(b1, Blk.cells [.lst 4 (a0.gP.gGlobals.map KE) .no, .lst 5 (a0.gP.gFuncs.map KH) .no, .v (.string a0.gF.gName), .lst 2 (a0.gF.gParams.map Ke) .no, .lst 2 (a0.gF.gLocals.map Ke) .no, .lst 7 (a0.gF.gBody.map Kg) .no, .v (.int .i64 a0.gF.gAt)] 126), (b2, Blk.cells [.v (.int .i64 a1.gOp), .v (.string a1.gName), .v (.string a1.gFunc), .lst 5 (a1.gExps.map Kn) .no, .lst 7 (a1.gKids.map Kg) .no, .lst 7 (a1.gElse.map Kg) .no, .v (.int .i64 a1.gAt)] 91)], []⟩ : S)) ?_ ?_
  ·clear hm; have hm := Ku q9
   refine Kp rfl (fun hc10 => ?_) (fun hc10 => ?_)
   ·replace hm := yes_t hc10 hm
    refine Kr ?_
    refine pu ?_
    refine pL 1 ?_
    obtain ⟨x11, q11, hm⟩ := Kc hm
    refine KT (KaQ a1.gAt (2 : Int) x11 q11) rfl rfl rfl rfl rfl Wl ?_
    rintro _ rfl
    refine Kt ?_
    have e9 := Ki hm; subst e9
    refine ⟨rfl, ?_⟩
    exact WkX.of () (WkS.perm (WkS.cons rfl (Wk.refl _) (WkS.cons rfl (Wk.refl _) (WkS.nil))) Pf Pf)
   ·replace hm := yes_f hc10 hm
    refine Ks ?_
    have e9 := Ki hm; subst e9
    refine ⟨rfl, ?_⟩
    exact WkX.of () (WkS.perm (WkS.cons rfl (Wk.refl _) (WkS.cons rfl (Wk.refl _) (WkS.nil))) Pf Pf)
  ·intro s9 hw9; clear hm; have hm := ho9; clear q9 ho9
   refine Kd ?_
   refine KY hw9 (fun z9 => ?_)
   refine Kh ?_
   refine K3 (d := Kx a0) 0 htab rfl rfl rfl rfl rfl rfl rfl rfl ?_
   refine pu ?_
   refine pL 1 ?_
   obtain ⟨x13, q13, hm⟩ := Kc hm
   refine pG (Ke7 a0 a1.gExps x13 q13) Wl Pf Pf ?_
   rintro _ _ _ ⟨w12, rfl, rfl, rfl⟩
   refine pu ?_
   refine Kf ?_
   refine Ko ?_
   refine Kh ?_
   refine pu ?_
   refine pL 1 ?_
   refine Kf ?_
   obtain ⟨y39, q39, ho39⟩ := Kc hm
   refine KP (Y := Unit) (fun z39 => (⟨[(2, .ptr b1 0), (3, .ptr b2 0)], [(b1, Blk.cells [.lst 4 (a0.gP.gGlobals.map KE) .no, .lst 5 (a0.gP.gFuncs.map KH) .no, .v (.string a0.gF.gName), .lst 2 (a0.gF.gParams.map Ke) .no, .lst 2 (a0.gF.gLocals.map Ke) .no, .lst 7 (a0.gF.gBody.map Kg) .no, .v (.int .i64 a0.gF.gAt)] 126), (b2, Blk.cells [.v (.int .i64 a1.gOp), .v (.string a1.gName), .v (.string a1.gFunc), .lst 5 (a1.gExps.map Kn) .no, .lst 7 (a1.gKids.map Kg) .no, .lst 7 (a1.gElse.map Kg) .no, .v (.int .i64 a1.gAt)] 91)], []⟩ : S)) ?_ ?_
   ·clear hm; have hm := Ku q39
    refine KC ?_
    refine Kh ?_
    refine pu ?_
    refine pu ?_
    refine Kf ?_
    obtain ⟨y65, q65, ho65⟩ := Kc hm
    refine KP (Y := Unit) (fun z65 => (⟨[(2, .ptr b1 0), (3, .ptr b2 0)], [(b1, Blk.cells [.lst 4 (a0.gP.gGlobals.map KE) .no, .lst 5 (a0.gP.gFuncs.map KH) .no, .v (.string a0.gF.gName), .lst 2 (a0.gF.gParams.map Ke) .no, .lst 2 (a0.gF.gLocals.map Ke) .no, .lst 7 (a0.gF.gBody.map Kg) .no, .v (.int .i64 a0.gF.gAt)] 126), (b2, Blk.cells [.v (.int .i64 a1.gOp), .v (.string a1.gName), .v (.string a1.gFunc), .lst 5 (a1.gExps.map Kn) .no, .lst 7 (a1.gKids.map Kg) .no, .lst 7 (a1.gElse.map Kg) .no, .v (.int .i64 a1.gAt)] 91)], []⟩ : S)) ?_ ?_
    ·clear hm; have hm := Ku q65
     refine Kp rfl (fun hc66 => ?_) (fun hc66 => ?_)
     ·replace hm := yes_t hc66 hm
      refine Ko ?_
      obtain ⟨x67, q67, hm⟩ := Kc hm
      obtain ⟨x68, q68, hm⟩ := Kc hm
      refine Kax 10 [] [[],[],[1],[],[3],[],[0,1,3,5],[],[7],[7,8]] [0,1,3,5,6,7,8] [[],[],[1],[],[3],[],[0,1,2,3,4,5],[],[7],[7,8],[0,1,2,3,4,5,6,7,8,9]] (by kernel_rfl) (by kernel_rfl) (by kernel_rfl) (by rfl) (by rfl) (by kernel_rfl) ?_
      iterate 7 apply Exists.intro
      intro bs
      refine z_eM rfl rfl (KX (d := Kx a0) 0 htab rfl rfl rfl rfl rfl) rfl rfl rfl rfl rfl rfl ?_
      refine zep ?_
      refine z_qM rfl rfl (KX 1 htab rfl rfl rfl rfl rfl) rfl rfl rfl rfl rfl rfl ?_
      refine zep ?_
      refine z_qM rfl rfl (KX 1 htab rfl rfl rfl rfl rfl) rfl rfl rfl rfl rfl rfl ?_
      refine z_E rfl rfl (ExE.wk (x_lit htab rfl rfl rfl rfl rfl rfl rfl rfl rfl rfl rfl) (show Wk _ (.lst 1 (([(1 : Int), (2 : Int)] : List Int).map eI64) .full) from Wk.lst0 (.cons (WkC.refl _) (.cons (WkC.refl _) (.nil))))) rfl rfl rfl rfl rfl rfl ?_
      refine z_call rfl rfl (Kay a0 a1.gName a1.gAt ([(1 : Int), (2 : Int)] : List Int) x67 q67) rfl rfl (WkL.cons (Wk.refl _) (WkL.cons (Wk.refl _) (WkL.cons (Wk.refl _) (WkL.cons (Wk.no) Wl)))) rfl rfl rfl rfl rfl rfl ?_
      refine zep ?_
      refine z_e rfl rfl (KbK htab rfl rfl rfl rfl rfl rfl rfl (KM q68) (K8 q68)) rfl rfl rfl rfl rfl rfl ?_
      refine z_qM rfl rfl (Kba htab rfl rfl rfl rfl rfl) rfl rfl rfl rfl rfl rfl ?_
      refine z_nil rfl rfl (fun e he => by simp [isAl] at he) ?_
      refine pu ?_
      refine Kf ?_
      obtain ⟨y71, q71, ho71⟩ := Kc hm
      refine KP (Y := Unit) (fun z71 => (⟨[(2, .ptr b1 0), (3, .ptr b2 0)], [(b1, Blk.cells [.lst 4 (a0.gP.gGlobals.map KE) .no, .lst 5 (a0.gP.gFuncs.map KH) .no, .v (.string a0.gF.gName), .lst 2 (a0.gF.gParams.map Ke) .no, .lst 2 (a0.gF.gLocals.map Ke) .no, .lst 7 (a0.gF.gBody.map Kg) .no, .v (.int .i64 a0.gF.gAt)] 126), (b2, Blk.cells [.v (.int .i64 a1.gOp), .v (.string a1.gName), .v (.string a1.gFunc), .lst 5 (a1.gExps.map Kn) .no, .lst 7 (a1.gKids.map Kg) .no, .lst 7 (a1.gElse.map Kg) .no, .v (.int .i64 a1.gAt)] 91)], []⟩ : S)) ?_ ?_
      ·clear hm; have hm := Ku q71
       refine Kp rfl (fun hc72 => ?_) (fun hc72 => ?_)
       ·replace hm := yes_t hc72 hm
        refine Kr ?_
        refine pu ?_
        refine pL 1 ?_
        obtain ⟨x73, q73, hm⟩ := Kc hm
        refine KT (KaQ a1.gAt (9 : Int) x73 q73) rfl rfl rfl rfl rfl Wl ?_
        rintro _ rfl
        refine Kt ?_
        have e71 := Ki hm; subst e71
        refine ⟨rfl, ?_⟩
        exact WkX.of () (WkS.perm (WkS.cons rfl (Wk.refl _) (WkS.cons rfl (Wk.refl _) (WkS.nil))) Pf Pf)
       ·replace hm := yes_f hc72 hm
        refine Ks ?_
        have e71 := Ki hm; subst e71
        refine ⟨rfl, ?_⟩
        exact WkX.of () (WkS.perm (WkS.cons rfl (Wk.refl _) (WkS.cons rfl (Wk.refl _) (WkS.nil))) Pf Pf)
      ·intro s71 hw71; clear hm; have hm := ho71; clear q71 ho71
       have e65 := Ki hm; subst e65
       refine ⟨rfl, ?_⟩
       refine WkX.trans hw71 (fun z71 => ?_)
       exact WkX.of () (WkS.perm (WkS.cons rfl (Wk.refl _) (WkS.cons rfl (Wk.refl _) (WkS.nil))) Pf Pf)
     ·replace hm := yes_f hc66 hm
      refine Kh ?_
      refine pu ?_
      refine pu ?_
      refine Kf ?_
      obtain ⟨y94, q94, ho94⟩ := Kc hm
      refine KP (Y := Unit) (fun z94 => (⟨[(2, .ptr b1 0), (3, .ptr b2 0)], [(b1, Blk.cells [.lst 4 (a0.gP.gGlobals.map KE) .no, .lst 5 (a0.gP.gFuncs.map KH) .no, .v (.string a0.gF.gName), .lst 2 (a0.gF.gParams.map Ke) .no, .lst 2 (a0.gF.gLocals.map Ke) .no, .lst 7 (a0.gF.gBody.map Kg) .no, .v (.int .i64 a0.gF.gAt)] 126), (b2, Blk.cells [.v (.int .i64 a1.gOp), .v (.string a1.gName), .v (.string a1.gFunc), .lst 5 (a1.gExps.map Kn) .no, .lst 7 (a1.gKids.map Kg) .no, .lst 7 (a1.gElse.map Kg) .no, .v (.int .i64 a1.gAt)] 91)], []⟩ : S)) ?_ ?_
      ·clear hm; have hm := Ku q94
       refine Kp rfl (fun hc95 => ?_) (fun hc95 => ?_)
       ·replace hm := yes_t hc95 hm
        refine Ko ?_
        obtain ⟨x96, q96, hm⟩ := Kc hm
        obtain ⟨x97, q97, hm⟩ := Kc hm
        refine Kax 7 [] [[],[0],[0,1],[0,1,2],[],[4],[4,5]] [0,1,2,3,4,5] [[],[0],[0,1],[0,1,2],[],[4],[4,5],[0,1,2,3,4,5,6]] (by kernel_rfl) (by kernel_rfl) (by kernel_rfl) (by rfl) (by rfl) (by kernel_rfl) ?_
        iterate 6 apply Exists.intro
        intro bs
        refine zep ?_
        refine z_eM rfl rfl (KX 1 htab rfl rfl rfl rfl rfl) rfl rfl rfl rfl rfl rfl ?_
        refine z_e rfl rfl (Ex.wk (KbK htab rfl rfl rfl rfl rfl rfl rfl (KM q96) (K8 q96)) (Wk.of_eq (congrArg D.el (K0 x96)))) rfl rfl rfl rfl rfl rfl ?_
        refine z_eM rfl rfl (Kba (d := .agg [.v (.int .i64 x96.gOp), .v (.int .i64 x96.gN), .v (.string x96.gName), .lst 5 (x96.gKids.map Kn) .no, .v (.int .i64 x96.gAt)]) htab rfl rfl rfl rfl rfl) rfl rfl rfl rfl rfl rfl ?_
        refine zep ?_
        refine z_e rfl rfl (KbK htab rfl rfl rfl rfl rfl rfl rfl (KM q97) (K8 q97)) rfl rfl rfl rfl rfl rfl ?_
        refine z_qM rfl rfl (Kba htab rfl rfl rfl rfl rfl) rfl rfl rfl rfl rfl rfl ?_
        refine z_nil rfl rfl (fun e he => by simp [isAl] at he) ?_
        obtain ⟨x98, q98, hm⟩ := Kc hm
        refine KT (KbC x96 x97 x98 q98) rfl rfl rfl rfl rfl (WkL.cons (Wk.trans (Wk.agg (WkR.refl _)) (Wk.of_eq (K0 x96).symm)) (WkL.cons (Wk.refl _) Wl)) ?_
        rintro _ rfl
        refine Kf ?_
        refine Ko ?_
        obtain ⟨x99, q99, hm⟩ := Kc hm
        obtain ⟨x100, q100, hm⟩ := Kc hm
        refine Kax 7 [] [[],[0],[0,1],[0,1,2],[],[4],[4,5]] [0,1,2,3,4,5] [[],[0],[0,1],[0,1,2],[],[4],[4,5],[0,1,2,3,4,5,6]] (by kernel_rfl) (by kernel_rfl) (by kernel_rfl) (by rfl) (by rfl) (by kernel_rfl) ?_
        iterate 6 apply Exists.intro
        intro bs
        refine zep ?_
        refine z_eM rfl rfl (KX 1 htab rfl rfl rfl rfl rfl) rfl rfl rfl rfl rfl rfl ?_
        refine z_e rfl rfl (Ex.wk (KbK htab rfl rfl rfl rfl rfl rfl rfl (KM q99) (K8 q99)) (Wk.of_eq (congrArg D.el (K0 x99)))) rfl rfl rfl rfl rfl rfl ?_
        refine z_eM rfl rfl (Kba (d := .agg [.v (.int .i64 x99.gOp), .v (.int .i64 x99.gN), .v (.string x99.gName), .lst 5 (x99.gKids.map Kn) .no, .v (.int .i64 x99.gAt)]) htab rfl rfl rfl rfl rfl) rfl rfl rfl rfl rfl rfl ?_
        refine zep ?_
        refine z_e rfl rfl (KbK htab rfl rfl rfl rfl rfl rfl rfl (KM q100) (K8 q100)) rfl rfl rfl rfl rfl rfl ?_
        refine z_qM rfl rfl (Kba htab rfl rfl rfl rfl rfl) rfl rfl rfl rfl rfl rfl ?_
        refine z_nil rfl rfl (fun e he => by simp [isAl] at he) ?_
        obtain ⟨x101, q101, hm⟩ := Kc hm
        refine KT (KbC x99 x100 x101 q101) rfl rfl rfl rfl rfl (WkL.cons (Wk.trans (Wk.agg (WkR.refl _)) (Wk.of_eq (K0 x99).symm)) (WkL.cons (Wk.refl _) Wl)) ?_
        rintro _ rfl
        refine Kf ?_
        refine Kr ?_
        refine K3 (d := Kx a0) 0 htab rfl rfl rfl rfl rfl rfl rfl rfl ?_
        refine pu ?_
        refine pL 1 ?_
        refine pu ?_
        refine pL 1 ?_
        refine p_lit htab rfl rfl rfl rfl rfl rfl rfl rfl rfl rfl rfl rfl rfl rfl ?_
        refine p_eq (i := 73) (d' := .lst 1 (([(3 : Int)] : List Int).map eI64) .full) rfl (Wk.lst0 (.cons (WkC.refl _) (.nil))) ?_
        obtain ⟨x102, q102, hm⟩ := Kc hm
        refine KT (Kay a0 a1.gName a1.gAt ([(3 : Int)] : List Int) x102 q102) rfl rfl rfl rfl rfl (WkL.cons (Wk.refl _) (WkL.cons (Wk.refl _) (WkL.cons (Wk.refl _) (WkL.cons (Wk.no) Wl)))) ?_
        rintro _ rfl
        refine Kt ?_
        have e94 := Ki hm; subst e94
        refine ⟨rfl, ?_⟩
        exact WkX.of () (WkS.perm (WkS.cons rfl (Wk.refl _) (WkS.cons rfl (Wk.refl _) (WkS.nil))) Pf Pf)
       ·replace hm := yes_f hc95 hm
        refine Kh ?_
        refine pu ?_
        refine pu ?_
        refine Kf ?_
        obtain ⟨y115, q115, ho115⟩ := Kc hm
        refine KP (Y := Unit) (fun z115 => (⟨[(2, .ptr b1 0), (3, .ptr b2 0)], [(b1, Blk.cells [.lst 4 (a0.gP.gGlobals.map KE) .no, .lst 5 (a0.gP.gFuncs.map KH) .no, .v (.string a0.gF.gName), .lst 2 (a0.gF.gParams.map Ke) .no, .lst 2 (a0.gF.gLocals.map Ke) .no, .lst 7 (a0.gF.gBody.map Kg) .no, .v (.int .i64 a0.gF.gAt)] 126), (b2, Blk.cells [.v (.int .i64 a1.gOp), .v (.string a1.gName), .v (.string a1.gFunc), .lst 5 (a1.gExps.map Kn) .no, .lst 7 (a1.gKids.map Kg) .no, .lst 7 (a1.gElse.map Kg) .no, .v (.int .i64 a1.gAt)] 91)], []⟩ : S)) ?_ ?_
        ·clear hm; have hm := Ku q115
         refine Kp rfl (fun hc116 => ?_) (fun hc116 => ?_)
         ·replace hm := yes_t hc116 hm
          refine Ko ?_
          obtain ⟨x117, q117, hm⟩ := Kc hm
          obtain ⟨x118, q118, hm⟩ := Kc hm
          refine Kax 7 [] [[],[0],[0,1],[0,1,2],[],[4],[4,5]] [0,1,2,3,4,5] [[],[0],[0,1],[0,1,2],[],[4],[4,5],[0,1,2,3,4,5,6]] (by kernel_rfl) (by kernel_rfl) (by kernel_rfl) (by rfl) (by rfl) (by kernel_rfl) ?_
          iterate 6 apply Exists.intro
          intro bs
          refine zep ?_
          refine z_eM rfl rfl (KX 1 htab rfl rfl rfl rfl rfl) rfl rfl rfl rfl rfl rfl ?_
          refine z_e rfl rfl (Ex.wk (KbK htab rfl rfl rfl rfl rfl rfl rfl (KM q117) (K8 q117)) (Wk.of_eq (congrArg D.el (K0 x117)))) rfl rfl rfl rfl rfl rfl ?_
          refine z_eM rfl rfl (Kba (d := .agg [.v (.int .i64 x117.gOp), .v (.int .i64 x117.gN), .v (.string x117.gName), .lst 5 (x117.gKids.map Kn) .no, .v (.int .i64 x117.gAt)]) htab rfl rfl rfl rfl rfl) rfl rfl rfl rfl rfl rfl ?_
          refine zep ?_
          refine z_e rfl rfl (KbK htab rfl rfl rfl rfl rfl rfl rfl (KM q118) (K8 q118)) rfl rfl rfl rfl rfl rfl ?_
          refine z_qM rfl rfl (Kba htab rfl rfl rfl rfl rfl) rfl rfl rfl rfl rfl rfl ?_
          refine z_nil rfl rfl (fun e he => by simp [isAl] at he) ?_
          obtain ⟨x119, q119, hm⟩ := Kc hm
          refine KT (KbC x117 x118 x119 q119) rfl rfl rfl rfl rfl (WkL.cons (Wk.trans (Wk.agg (WkR.refl _)) (Wk.of_eq (K0 x117).symm)) (WkL.cons (Wk.refl _) Wl)) ?_
          rintro _ rfl
          refine Kf ?_
          refine Kr ?_
          refine K3 (d := Kx a0) 0 htab rfl rfl rfl rfl rfl rfl rfl rfl ?_
          refine pu ?_
          refine pL 1 ?_
          refine pu ?_
          refine pL 1 ?_
          refine p_lit htab rfl rfl rfl rfl rfl rfl rfl rfl rfl rfl rfl rfl rfl rfl ?_
          refine p_eq (i := 90) (d' := .lst 1 (([(2 : Int)] : List Int).map eI64) .full) rfl (Wk.lst0 (.cons (WkC.refl _) (.nil))) ?_
          obtain ⟨x120, q120, hm⟩ := Kc hm
          refine KT (Kay a0 a1.gName a1.gAt ([(2 : Int)] : List Int) x120 q120) rfl rfl rfl rfl rfl (WkL.cons (Wk.refl _) (WkL.cons (Wk.refl _) (WkL.cons (Wk.refl _) (WkL.cons (Wk.no) Wl)))) ?_
          rintro _ rfl
          refine Kt ?_
          have e115 := Ki hm; subst e115
          refine ⟨rfl, ?_⟩
          exact WkX.of () (WkS.perm (WkS.cons rfl (Wk.refl _) (WkS.cons rfl (Wk.refl _) (WkS.nil))) Pf Pf)
         ·replace hm := yes_f hc116 hm
          refine Kh ?_
          refine pu ?_
          refine pu ?_
          refine Kf ?_
          obtain ⟨y128, q128, ho128⟩ := Kc hm
          refine KP (Y := Unit) (fun z128 => (⟨[(2, .ptr b1 0), (3, .ptr b2 0)], [(b1, Blk.cells [.lst 4 (a0.gP.gGlobals.map KE) .no, .lst 5 (a0.gP.gFuncs.map KH) .no, .v (.string a0.gF.gName), .lst 2 (a0.gF.gParams.map Ke) .no, .lst 2 (a0.gF.gLocals.map Ke) .no, .lst 7 (a0.gF.gBody.map Kg) .no, .v (.int .i64 a0.gF.gAt)] 126), (b2, Blk.cells [.v (.int .i64 a1.gOp), .v (.string a1.gName), .v (.string a1.gFunc), .lst 5 (a1.gExps.map Kn) .no, .lst 7 (a1.gKids.map Kg) .no, .lst 7 (a1.gElse.map Kg) .no, .v (.int .i64 a1.gAt)] 91)], []⟩ : S)) ?_ ?_
          ·clear hm; have hm := Ku q128
           refine Kp rfl (fun hc129 => ?_) (fun hc129 => ?_)
           ·replace hm := yes_t hc129 hm
            refine Kr ?_
            refine K3 (d := Kx a0) 0 htab rfl rfl rfl rfl rfl rfl rfl rfl ?_
            refine K3 (d := .agg [.v (.int .i64 a1.gOp), .v (.string a1.gName), .v (.string a1.gFunc), .lst 5 (a1.gExps.map Kn) .no, .lst 7 (a1.gKids.map Kg) .no, .lst 7 (a1.gElse.map Kg) .no, .v (.int .i64 a1.gAt)]) 1 htab rfl rfl rfl rfl rfl rfl rfl rfl ?_
            refine pu ?_
            obtain ⟨x130, q130, hm⟩ := Kc hm
            refine KT (Ke8 a0 a1 x13 x130 q130) rfl rfl rfl rfl rfl (WkL.cons (Wk.refl _) (WkL.cons (Wk.trans (Wk.agg (WkR.refl _)) (Wk.of_eq (Kw a1).symm)) (WkL.cons (Wk.no) Wl))) ?_
            rintro _ rfl
            refine Kt ?_
            have e128 := Ki hm; subst e128
            refine ⟨rfl, ?_⟩
            exact WkX.of () (WkS.perm (WkS.cons rfl (Wk.refl _) (WkS.cons rfl (Wk.refl _) (WkS.nil))) Pf Pf)
           ·replace hm := yes_f hc129 hm
            refine Kh ?_
            refine pu ?_
            refine pu ?_
            refine Kf ?_
            obtain ⟨y136, q136, ho136⟩ := Kc hm
            refine KP (Y := Unit) (fun z136 => (⟨[(2, .ptr b1 0), (3, .ptr b2 0)], [(b1, Blk.cells [.lst 4 (a0.gP.gGlobals.map KE) .no, .lst 5 (a0.gP.gFuncs.map KH) .no, .v (.string a0.gF.gName), .lst 2 (a0.gF.gParams.map Ke) .no, .lst 2 (a0.gF.gLocals.map Ke) .no, .lst 7 (a0.gF.gBody.map Kg) .no, .v (.int .i64 a0.gF.gAt)] 126), (b2, Blk.cells [.v (.int .i64 a1.gOp), .v (.string a1.gName), .v (.string a1.gFunc), .lst 5 (a1.gExps.map Kn) .no, .lst 7 (a1.gKids.map Kg) .no, .lst 7 (a1.gElse.map Kg) .no, .v (.int .i64 a1.gAt)] 91)], []⟩ : S)) ?_ ?_
            ·clear hm; have hm := Ku q136
             refine Kp rfl (fun hc137 => ?_) (fun hc137 => ?_)
             ·replace hm := yes_t hc137 hm
              refine Kr ?_
              refine K3 (d := Kx a0) 0 htab rfl rfl rfl rfl rfl rfl rfl rfl ?_
              refine pu ?_
              refine pL 1 ?_
              refine pu ?_
              refine pL 1 ?_
              refine p_lit htab rfl rfl rfl rfl rfl rfl rfl rfl rfl rfl rfl rfl rfl rfl ?_
              refine p_eq (i := 105) (d' := .lst 1 (([(1 : Int)] : List Int).map eI64) .full) rfl (Wk.lst0 (.cons (WkC.refl _) (.nil))) ?_
              obtain ⟨x138, q138, hm⟩ := Kc hm
              refine KT (Kay a0 a1.gName a1.gAt ([(1 : Int)] : List Int) x138 q138) rfl rfl rfl rfl rfl (WkL.cons (Wk.refl _) (WkL.cons (Wk.refl _) (WkL.cons (Wk.refl _) (WkL.cons (Wk.no) Wl)))) ?_
              rintro _ rfl
              refine Kt ?_
              have e136 := Ki hm; subst e136
              refine ⟨rfl, ?_⟩
              exact WkX.of () (WkS.perm (WkS.cons rfl (Wk.refl _) (WkS.cons rfl (Wk.refl _) (WkS.nil))) Pf Pf)
             ·replace hm := yes_f hc137 hm
              obtain ⟨x139, q139, hm⟩ := Kc hm
              obtain ⟨x140, q140, hm⟩ := Kc hm
              refine Kax 7 [] [[],[0],[0,1],[0,1,2],[],[4],[4,5]] [0,1,2,3,4,5] [[],[0],[0,1],[0,1,2],[],[4],[4,5],[0,1,2,3,4,5,6]] (by kernel_rfl) (by kernel_rfl) (by kernel_rfl) (by rfl) (by rfl) (by kernel_rfl) ?_
              iterate 6 apply Exists.intro
              intro bs
              refine zep ?_
              refine z_eM rfl rfl (KX 1 htab rfl rfl rfl rfl rfl) rfl rfl rfl rfl rfl rfl ?_
              refine z_e rfl rfl (Ex.wk (KbK htab rfl rfl rfl rfl rfl rfl rfl (KM q139) (K8 q139)) (Wk.of_eq (congrArg D.el (K0 x139)))) rfl rfl rfl rfl rfl rfl ?_
              refine z_eM rfl rfl (Kba (d := .agg [.v (.int .i64 x139.gOp), .v (.int .i64 x139.gN), .v (.string x139.gName), .lst 5 (x139.gKids.map Kn) .no, .v (.int .i64 x139.gAt)]) htab rfl rfl rfl rfl rfl) rfl rfl rfl rfl rfl rfl ?_
              refine zep ?_
              refine z_e rfl rfl (KbK htab rfl rfl rfl rfl rfl rfl rfl (KM q140) (K8 q140)) rfl rfl rfl rfl rfl rfl ?_
              refine z_qM rfl rfl (Kba htab rfl rfl rfl rfl rfl) rfl rfl rfl rfl rfl rfl ?_
              refine z_nil rfl rfl (fun e he => by simp [isAl] at he) ?_
              obtain ⟨x141, q141, hm⟩ := Kc hm
              refine KT (KbC x139 x140 x141 q141) rfl rfl rfl rfl rfl (WkL.cons (Wk.trans (Wk.agg (WkR.refl _)) (Wk.of_eq (K0 x139).symm)) (WkL.cons (Wk.refl _) Wl)) ?_
              rintro _ rfl
              refine Kt ?_
              have e136 := Ki hm; subst e136
              refine ⟨rfl, ?_⟩
              exact WkX.of () (WkS.perm (WkS.cons rfl (Wk.refl _) (WkS.cons rfl (Wk.refl _) (WkS.nil))) Pf Pf)
            ·intro s136 hw136; clear hm; have hm := ho136; clear q136 ho136
             have e128 := Ki hm; subst e128
             refine ⟨rfl, ?_⟩
             refine WkX.trans hw136 (fun z136 => ?_)
             exact WkX.of () (WkS.perm (WkS.cons rfl (Wk.refl _) (WkS.cons rfl (Wk.refl _) (WkS.nil))) Pf Pf)
          ·intro s128 hw128; clear hm; have hm := ho128; clear q128 ho128
           have e115 := Ki hm; subst e115
           refine ⟨rfl, ?_⟩
           refine WkX.trans hw128 (fun z128 => ?_)
           exact WkX.of () (WkS.perm (WkS.cons rfl (Wk.refl _) (WkS.cons rfl (Wk.refl _) (WkS.nil))) Pf Pf)
        ·intro s115 hw115; clear hm; have hm := ho115; clear q115 ho115
         have e94 := Ki hm; subst e94
         refine ⟨rfl, ?_⟩
         refine WkX.trans hw115 (fun z115 => ?_)
         exact WkX.of () (WkS.perm (WkS.cons rfl (Wk.refl _) (WkS.cons rfl (Wk.refl _) (WkS.nil))) Pf Pf)
      ·intro s94 hw94; clear hm; have hm := ho94; clear q94 ho94
       have e65 := Ki hm; subst e65
       refine ⟨rfl, ?_⟩
       refine WkX.trans hw94 (fun z94 => ?_)
       exact WkX.of () (WkS.perm (WkS.cons rfl (Wk.refl _) (WkS.cons rfl (Wk.refl _) (WkS.nil))) Pf Pf)
    ·intro s65 hw65; clear hm; have hm := ho65; clear q65 ho65
     refine Kz ?_
     have e39 := Ki hm; subst e39
     refine ⟨rfl, ?_⟩
     refine WkX.trans hw65 (fun z65 => ?_)
     exact WkX.of () (WkS.perm (WkS.cons rfl (Wk.refl _) (WkS.cons rfl (Wk.refl _) (WkS.nil))) Pf Pf)
   ·intro s39 hw39; clear hm; have hm := ho39; clear q39 ho39
    refine Kd ?_
    refine KY hw39 (fun z39 => ?_)
    refine Kh ?_
    refine K3 (d := Kx a0) 0 htab rfl rfl rfl rfl rfl rfl rfl rfl ?_
    refine pu ?_
    refine pL 1 ?_
    obtain ⟨x142, q142, hm⟩ := Kc hm
    refine KT (hg0 a0 a1.gKids x142 q142) rfl rfl rfl rfl rfl Wl ?_
    rintro _ rfl
    refine Kf ?_
    refine Kr ?_
    refine K3 (d := Kx a0) 0 htab rfl rfl rfl rfl rfl rfl rfl rfl ?_
    refine pu ?_
    refine pL 1 ?_
    obtain ⟨x143, q143, hm⟩ := Kc hm
    refine KT (hg0 a0 a1.gElse x143 q143) rfl rfl rfl rfl rfl Wl ?_
    rintro _ rfl
    refine Kt ?_
    first | (have er144 := Ki hm; subst er144) | skip
    refine rP (t' := []) [] [] 0 wN lN ?_
    exact ⟨rfl, rfl, rfl⟩
noncomputable def KD : Nat → ((Kl) → (List Kb) → Option (Unit)) × ((Kl) → (Kb) → Option (Unit))
 | 0 => (fun _ _ => none, fun _ _ => none)
 | n + 1 => (Kaz ((KD n).1) ((KD n).2), KaK ((KD n).1) ((KD n).2))
theorem KcH : ∀ n, (∀ (a0 : Kl) (a1 : List Kb) (r : Unit) (h0 : (KD n).1 a0 a1 = some r), CallsD Tryz.prog 51 [Kx a0, .lst 7 (a1.map Kg) .no] [] [] (fun d h k => d = .tup [] ∧ h = [] ∧ k = [])) ∧ (∀ (a0 : Kl) (a1 : Kb) (r : Unit) (h0 : (KD n).2 a0 a1 = some r), CallsD Tryz.prog 63 [Kx a0, Kg a1] [] [] (fun d h k => d = .tup [] ∧ h = [] ∧ k = []))
  | 0 => ⟨(fun _ _ _ h0 => by cases h0), (fun _ _ _ h0 => by cases h0)⟩
  | n + 1 => by
    have ih := KcH n
    exact ⟨Kd8 ((KD n).1) ((KD n).2) (ih.1) (ih.2), Ken ((KD n).1) ((KD n).2) (ih.1) (ih.2)⟩
theorem KcI : ∀ n, (∀ (a0 : Kl) (a1 : List Kb), Le ((KD n).1 a0 a1) ((KD (n + 1)).1 a0 a1)) ∧ (∀ (a0 : Kl) (a1 : Kb), Le ((KD n).2 a0 a1) ((KD (n + 1)).2 a0 a1))
  | 0 => ⟨fun _ _ => Le.none _, fun _ _ => Le.none _⟩
  | n + 1 => by
    have ih := KcI n
    exact ⟨fun a0 a1 => by show Le (Kaz ((KD n).1) ((KD n).2) a0 a1) (Kaz ((KD (n + 1)).1) ((KD (n + 1)).2) a0 a1); unfold Kaz; repeat (first | exact Le.refl _ | exact ih.1 _ _ | exact ih.2 _ _ | assumption | (refine Le.bind ?_ (fun _ => ?_)) | (refine Le.cond ?_ ?_) | (refine Le.loop (fun _ => ?_)) | (refine Le.elim (fun _ => ?_) (fun _ => ?_))), fun a0 a1 => by show Le (KaK ((KD n).1) ((KD n).2) a0 a1) (KaK ((KD (n + 1)).1) ((KD (n + 1)).2) a0 a1); unfold KaK; repeat (first | exact Le.refl _ | exact ih.1 _ _ | exact ih.2 _ _ | assumption | (refine Le.bind ?_ (fun _ => ?_)) | (refine Le.cond ?_ ?_) | (refine Le.loop (fun _ => ?_)) | (refine Le.elim (fun _ => ?_) (fun _ => ?_)))⟩
noncomputable def Kbu (a0 : Kl) (a1 : List Kb) : Option (Unit) := anyN fun n => (KD n).1 a0 a1
theorem KeO (a0 : Kl) (a1 : List Kb) {r : Unit} (n : Nat) (h : (KD n).1 a0 a1 = some r) : Kbu a0 a1 = some r := anyN_of (fun m => (KcI m).1 a0 a1) h
theorem KeP (a0 : Kl) (a1 : List Kb) (r : Unit) (h0 : Kbu a0 a1 = some r) : CallsD Tryz.prog 51 [Kx a0, .lst 7 (a1.map Kg) .no] [] [] (fun d h k => d = .tup [] ∧ h = [] ∧ k = []) :=
 let ⟨n, hn⟩ := KfU h0; (KcH n).1 a0 a1  r hn
noncomputable def Kaw (a0 : List (List K9)) : Option (List K9) :=
 (Option.bind (α := Int) (loopM (fun (s15 : Int × Int) => (bif (decide (s15.2 < (a0.length : Int))) then ((idx a0 s15.2).bind fun x25 => (bif (decide ((IntKind.i64.wrap (s15.1 + (x25.length : Int))) < (0 : Int))) then none else some (.next ((IntKind.i64.wrap (s15.1 + (x25.length : Int))), (IntKind.i64.wrap (s15.2 + (1 : Int))))))) else some (.done s15.1))) ((0 : Int), (0 : Int))) fun y14 => ((need (Kd3 y14)).bind fun x28 => (Option.bind (α := List K9) (loopM (fun (s47 : Int × List K9) => (bif (decide (s47.1 < (a0.length : Int))) then ((idx a0 s47.1).bind fun x61 => ((app 24 s47.2 x61).bind fun x62 => some (.next ((IntKind.i64.wrap (s47.1 + (1 : Int))), x62)))) else some (.done s47.2))) ((0 : Int), (growF64 y14))) fun y46 => some y46)))
theorem KcP (a0 : List (List K9)) (r : List K9) (h0 : Kaw a0 = some r) : CallsD Tryz.prog 52 [.lst 1 (a0.map (eList 2 Ke)) .no] [] [] (fun d h k => ∃ y0, d = .lst 2 (r.map Ke) (.cur y0) ∧ h = [] ∧ k = [(2, y0)]) := by
 have hm := Ku h0
 unfold Kaw at hm
 clear h0
 refine K5 htab Tryz.func52 rfl rfl rfl rfl rfl (fun C => ?_)
 refine Kh ?_
 refine pu ?_
 refine KL ?_
 refine pu ?_
 refine Kf ?_
 refine Ko ?_
 refine Kh ?_
 refine pu ?_
 refine Kao htab rfl rfl rfl rfl rfl rfl rfl (by first | exact Kae | rfl) ?_
 refine pu ?_
 refine Kf ?_
 obtain ⟨y14, q14, ho14⟩ := Kc hm
 refine KP (Y := Unit) (fun z14 => (⟨[(0, .lst 1 (a0.map (eList 2 Ke)) .no), (3, .v (.int .i64 y14))], [], []⟩ : S)) ?_ ?_
 ·clear hm; have hm := Ku q14
  refine KC ?_
  obtain ⟨u15, hl15, hq15⟩ := yes_m hm
  refine KaW (Y := Unit) hl15 (fun s15 z15 => (⟨[(0, .lst 1 (a0.map (eList 2 Ke)) .no), (3, .v (.int .i64 s15.1)), (9, .lst 1 (a0.map (eList 2 Ke)) .no), (10, .v (.int .i64 (a0.length : Int))), (11, .v (.int .i64 s15.2))], [], []⟩ : S)) ?_ ?_
  ·skip
   exact WkX.of () (WkS.perm (WkS.cons rfl (Wk.refl _) (WkS.cons rfl (Wk.refl _) (WkS.cons rfl (Wk.refl _) (WkS.cons rfl (Wk.refl _) (WkS.cons rfl (Wk.refl _) (WkS.nil)))))) Pf Pf)
  ·intro G15 s15 z15 hm
   refine Kh ?_
   refine pu ?_
   refine Kf ?_
   refine Ko ?_
   refine Kp rfl (fun hc24 => ?_) (fun hc24 => ?_)
   ·replace hm := yes_t hc24 hm
    refine Ks ?_
    refine Kd ?_
    refine Ko ?_
    refine KC ?_
    refine Kh ?_
    obtain ⟨x25, q25, hm⟩ := Kc hm
    refine KaB htab rfl rfl rfl rfl rfl rfl rfl rfl rfl rfl (KM q25) (K8 q25) ?_
    refine Kai htab rfl rfl rfl rfl rfl rfl rfl rfl ?_
    refine pu ?_
    refine KL ?_
    refine pu ?_
    refine pu ?_
    refine Kao htab rfl rfl rfl rfl rfl rfl rfl (by first | exact Kae | rfl) ?_
    refine pu ?_
    refine pu ?_
    refine KL ?_
    refine pu ?_
    refine pu ?_
    refine Kf ?_
    refine Kp rfl (fun hc26 => ?_) (fun hc26 => ?_)
    ·replace hm := yes_t hc26 hm
     exact (Kbt hm).elim
    ·replace hm := yes_f hc26 hm
     refine Ks ?_
     refine Kz ?_
     refine Kd ?_
     refine Kr ?_
     refine pu ?_
     refine pu ?_
     refine Kt ?_
     refine Kd ⟨_, Kas hm, ?_⟩
     exact WkX.of () (WkS.perm (WkS.cons rfl (Wk.refl _) (WkS.cons rfl (Wk.refl _) (WkS.cons rfl (Wk.refl _) (WkS.cons rfl (Wk.refl _) (WkS.cons rfl (Wk.refl _) (WkS.nil)))))) Pf Pf)
   ·replace hm := yes_f hc24 hm
    refine Kal ?_
    refine KJ ?_
    have e15 := Kab hm; subst e15; clear hm; have hm := hq15
    refine KJ ?_
    refine Kaf ?_
    have e14 := Ki hm; subst e14
    refine ⟨rfl, ?_⟩
    exact WkX.of () (WkS.perm (WkS.cons rfl (Wk.refl _) (WkS.cons rfl (Wk.refl _) (WkS.nil))) Pf Pf)
 ·intro s14 hw14; clear hm; have hm := ho14; clear q14 ho14
  refine Kd ?_
  refine KY hw14 (fun z14 => ?_)
  refine Kh ?_
  refine pu ?_
  obtain ⟨x28, q28, hm⟩ := Kc hm
  refine pG (growOk64 y14 (need_ok q28)) Wl Pf Pf ?_
  rintro _ _ _ ⟨w27, rfl, rfl, rfl⟩
  refine pu ?_
  refine Kf ?_
  refine Ko ?_
  refine Kh ?_
  refine pu ?_
  refine Kao htab rfl rfl rfl rfl rfl rfl rfl (by first | exact Kae | rfl) ?_
  refine pu ?_
  refine Kf ?_
  obtain ⟨y46, q46, ho46⟩ := Kc hm
  refine KP (Y := Z3) (fun z46 => (⟨[(6, .v (SL z46))], [(0, Blk.row 2 (y46.map Ke) (SL z46))], []⟩ : S)) ?_ ?_
  ·clear hm; have hm := Ku q46
   refine KC ?_
   obtain ⟨u47, hl47, hq47⟩ := yes_m hm
   refine KaW (Y := Z3) hl47 (fun s47 z47 => (⟨[(6, .v (SL z47)), (25, .lst 1 (a0.map (eList 2 Ke)) .no), (26, .v (.int .i64 (a0.length : Int))), (27, .v (.int .i64 s47.1))], [(0, Blk.row 2 (s47.2.map Ke) (SL z47))], []⟩ : S)) ?_ ?_
   ·skip
    exact WkX.of w27 (WkS.perm (WkS.cons rfl (Wk.refl _) (WkS.cons rfl (Wk.refl _) (WkS.cons rfl (Wk.refl _) (WkS.cons rfl (Wk.refl _) (WkS.nil))))) Pf Pf)
   ·intro G47 s47 z47 hm
    refine Kh ?_
    refine pu ?_
    refine Kf ?_
    refine Ko ?_
    refine Kp rfl (fun hc60 => ?_) (fun hc60 => ?_)
    ·replace hm := yes_t hc60 hm
     refine Ks ?_
     refine Kd ?_
     refine Ko ?_
     refine KC ?_
     refine Kh ?_
     obtain ⟨x61, q61, hm⟩ := Kc hm
     refine KaB htab rfl rfl rfl rfl rfl rfl rfl rfl rfl rfl (KM q61) (K8 q61) ?_
     refine Kai htab rfl rfl rfl rfl rfl rfl rfl rfl ?_
     refine pu ?_
     refine Kf ?_
     refine Kr ?_
     refine pu ?_
     refine pu ?_
     obtain ⟨x62, q62, hm⟩ := Kc hm
     refine p_appR2 0 htab rfl rfl rfl rfl rfl rfl rfl rfl rfl rfl rfl rfl rfl rfl rfl rfl (KbZ q62) (KdF q62) (fun v62 => ?_)
     refine pu ?_
     refine Kt ?_
     refine Kz ?_
     refine Kd ?_
     refine Kr ?_
     refine pu ?_
     refine pu ?_
     refine Kt ?_
     refine Kd ⟨_, Kas hm, ?_⟩
     exact WkX.of v62 (WkS.perm (WkS.cons rfl (Wk.refl _) (WkS.cons rfl (Wk.refl _) (WkS.cons rfl (Wk.refl _) (WkS.cons rfl (Wk.refl _) (WkS.nil))))) Pf Pf)
    ·replace hm := yes_f hc60 hm
     refine Kal ?_
     refine KJ ?_
     have e47 := Kab hm; subst e47; clear hm; have hm := hq47
     refine KJ ?_
     refine Kaf ?_
     have e46 := Ki hm; subst e46
     refine ⟨rfl, ?_⟩
     exact WkX.of z47 (WkS.perm (WkS.cons rfl (Wk.refl _) (WkS.nil)) Pf Pf)
  ·intro s46 hw46; clear hm; have hm := ho46; clear q46 ho46
   refine Kd ?_
   refine KY hw46 (fun z46 => ?_)
   refine Kh ?_
   refine pu ?_
   refine pu ?_
   refine Kf ?_
   refine KA ?_
   have er63 := Ki hm; subst er63
   refine retX.wk (WkS.frz 0 rfl rfl) ?_
   refine retX.wk (WkS.tld 2 0 rfl rfl) ?_
   refine retX.wk (WkS.tld 6 0 rfl rfl) ?_
   refine retX.wk (WkS.tld 35 0 rfl rfl) ?_
   refine retX.wk (WkS.drop 0 rfl) ?_
   refine rP (t' := [(2, .lst 2 (y46.map Ke) (.cur (SL z46)))]) [] [0] 0 (wC wN) (lT lN) ?_
   exact ⟨(SL z46), rfl, rfl, rfl⟩
structure Kaa where
 gFrom : Int
 gTo : Int
 gKind : Int
 gName : ByteArray
 gFunc : ByteArray
 gExps : List Kq
def Km (x : Kaa) : D := .agg [.v (.int .i64 x.gFrom), .v (.int .i64 x.gTo), .v (.int .i64 x.gKind), .v (.string x.gName), .v (.string x.gFunc), .lst 5 (x.gExps.map Kn) .no]
structure KV where
 gFunc : ByteArray
 gNodes : Int
 gEdges : List Kaa
 gVars : List K9
 gMany : Int
def KQ (x : KV) : D := .agg [.v (.string x.gFunc), .v (.int .i64 x.gNodes), .lst 6 (x.gEdges.map Km) .no, .lst 2 (x.gVars.map Ke) .no, .v (.int .i64 x.gMany)]
structure Ka where
 gG : KV
 gAt : Int
 gPlaces : List Int
noncomputable def Kat (m0 : Ka) : Option (Int × Ka) :=
 some ((IntKind.i64.wrap ((IntKind.i64.wrap (m0.gG.gNodes + (1 : Int))) - (1 : Int))), (⟨(⟨m0.gG.gFunc, (IntKind.i64.wrap (m0.gG.gNodes + (1 : Int))), m0.gG.gEdges, m0.gG.gVars, m0.gG.gMany⟩ : KV), m0.gAt, m0.gPlaces⟩ : Ka))
theorem KaL (m0 : Ka) (o0 : Nat) (T0 : TypeId) (c0_2 : Cap) (c0_3 : Cap) (c0_6 : Cap) (r : Int × Ka) (h0 : Kat m0 = some r) : CallsD Tryz.prog 94 [.ptr o0 0] [(o0, Blk.cells [.v (.string m0.gG.gFunc), .v (.int .i64 m0.gG.gNodes), .lst 6 (m0.gG.gEdges.map Km) c0_2, .lst 2 (m0.gG.gVars.map Ke) c0_3, .v (.int .i64 m0.gG.gMany), .v (.int .i64 m0.gAt), .lst 1 (m0.gPlaces.map eI64) c0_6] T0)] [] (fun d h k => d = .v (.int .i64 r.1) ∧ h = [(o0, Blk.cells [.v (.string r.2.gG.gFunc), .v (.int .i64 r.2.gG.gNodes), .lst 6 (r.2.gG.gEdges.map Km) c0_2, .lst 2 (r.2.gG.gVars.map Ke) c0_3, .v (.int .i64 r.2.gG.gMany), .v (.int .i64 r.2.gAt), .lst 1 (r.2.gPlaces.map eI64) c0_6] T0)] ∧ k = []) := by
 have hm := Ku h0
 unfold Kat at hm
 clear h0
 refine K5 htab Tryz.func94 rfl rfl rfl rfl rfl (fun C => ?_)
 refine Kh ?_
 refine pu ?_
 refine KL ?_
 iterate 4 refine pu ?_
 refine pL 0 ?_
 iterate 4 refine pu ?_
 refine pS0 (ds' := [.v (.string m0.gG.gFunc), .v (.int .i64 (IntKind.i64.wrap (m0.gG.gNodes + (1 : Int)))), .lst 6 (m0.gG.gEdges.map Km) c0_2, .lst 2 (m0.gG.gVars.map Ke) c0_3, .v (.int .i64 m0.gG.gMany), .v (.int .i64 m0.gAt), .lst 1 (m0.gPlaces.map eI64) c0_6]) ?_
 refine KL ?_
 iterate 4 refine pu ?_
 refine pL 0 ?_
 refine pu ?_
 refine pu ?_
 refine Kf ?_
 refine KA ?_
 have er1 := Ki hm; subst er1
 refine rP (t' := [(2, .v (.int .i64 (IntKind.i64.wrap ((IntKind.i64.wrap (m0.gG.gNodes + (1 : Int))) - (1 : Int)))))]) [0] [] 1 (wC wN) (lT lN) ?_
 exact ⟨rfl, rfl, rfl⟩
noncomputable def Kag (m0 : Ka) (a1 : Int) (a2 : Int) (a3 : Int) (a4 : Kb) : Option (Ka) :=
 (Option.bind (α := ByteArray × ByteArray × List Kq) (bif (a3 != (0 : Int)) then ((KaX a4.gExps).bind fun x12 => some (a4.gName, a4.gFunc, x12)) else some (ByteArray.empty, ByteArray.empty, ([] : List Kq))) fun y9 => ((app 80 m0.gG.gEdges ([(⟨a1, a2, a3, y9.1, y9.2.1, y9.2.2⟩ : Kaa)] : List Kaa)).bind fun x16 => some (⟨(⟨m0.gG.gFunc, m0.gG.gNodes, x16, m0.gG.gVars, m0.gG.gMany⟩ : KV), m0.gAt, m0.gPlaces⟩ : Ka)))
theorem Kam (m0 : Ka) (a1 : Int) (a2 : Int) (a3 : Int) (a4 : Kb) (o0 : Nat) (T0 : TypeId) (k0_2 : Value) (c0_3 : Cap) (c0_6 : Cap) (r : Ka) (h0 : Kag m0 a1 a2 a3 a4 = some r) : CallsD Tryz.prog 54 [.ptr o0 0, .v (.int .i64 a1), .v (.int .i64 a2), .v (.int .i64 a3), Kg a4] [(o0, Blk.cells [.v (.string m0.gG.gFunc), .v (.int .i64 m0.gG.gNodes), .lst 6 (m0.gG.gEdges.map Km) (.cur k0_2), .lst 2 (m0.gG.gVars.map Ke) c0_3, .v (.int .i64 m0.gG.gMany), .v (.int .i64 m0.gAt), .lst 1 (m0.gPlaces.map eI64) c0_6] T0)] [(6, k0_2)] (fun d h k => ∃ y0, d = .tup [] ∧ h = [(o0, Blk.cells [.v (.string r.gG.gFunc), .v (.int .i64 r.gG.gNodes), .lst 6 (r.gG.gEdges.map Km) (.cur y0), .lst 2 (r.gG.gVars.map Ke) c0_3, .v (.int .i64 r.gG.gMany), .v (.int .i64 r.gAt), .lst 1 (r.gPlaces.map eI64) c0_6] T0)] ∧ k = [(6, y0)]) := by
 have hm := Ku h0
 unfold Kag at hm
 clear h0
 refine K5 htab Tryz.func54 rfl rfl rfl rfl rfl (fun C => ?_)
 refine w_eq (i := 4) rfl (Wk.of_eq (Kw a4)) ?_
 refine Kh ?_
 refine p_box rfl rfl rfl rfl rfl rfl rfl (fun b1 => ?_)
 refine KL ?_
 iterate 3 refine pu ?_
 refine Ka6 (r := [.v (.int .i64 a1), .v (.int .i64 a2), .v (.int .i64 a3), .v (.string ByteArray.empty), .v (.string ByteArray.empty), .lst 1 [] .full]) htab rfl rfl rfl rfl rfl rfl rfl rfl rfl ?_
 refine Kak htab rfl rfl rfl rfl rfl rfl rfl (fun b2 => ?_)
 refine pS2 (ds' := [.v (.int .i64 a1), .v (.int .i64 a2), .v (.int .i64 a3), .v (.string ByteArray.empty), .v (.string ByteArray.empty), .lst 1 [] .full]) ?_
 refine Kf ?_
 refine Ko ?_
 refine Kh ?_
 refine pu ?_
 refine pu ?_
 refine Kf ?_
 obtain ⟨y9, q9, ho9⟩ := Kc hm
 refine KP (Y := Unit) (fun z9 => (⟨[(0, .ptr o0 0), (10, .ptr b2 0)], [(o0, Blk.cells [.v (.string m0.gG.gFunc), .v (.int .i64 m0.gG.gNodes), .lst 6 (m0.gG.gEdges.map Km) (.cur k0_2), .lst 2 (m0.gG.gVars.map Ke) c0_3, .v (.int .i64 m0.gG.gMany), .v (.int .i64 m0.gAt), .lst 1 (m0.gPlaces.map eI64) c0_6] T0), (b2, Blk.cells [.v (.int .i64 a1), .v (.int .i64 a2), .v (.int .i64 a3), .v (.string y9.1), .v (.string y9.2.1), .lst 5 (y9.2.2.map Kn) .no] 73)], [(6, k0_2)]⟩ : S)) ?_ ?_
 ·clear hm; have hm := Ku q9
  refine Kp rfl (fun hc10 => ?_) (fun hc10 => ?_)
  ·replace hm := yes_t hc10 hm
   obtain ⟨x12, q12, hm⟩ := Kc hm
   refine wpD_store 9 [] [[],[0],[],[2],[],[4],[4,5],[0,1],[0,1,4,5,6,7]] [0,1,2,3,4,5,6,7,8] [[],[0],[],[2],[],[4],[4,5],[0,1],[0,1,4,5,6,7],[0,1,2,3,4,5,6,7,8],[0,1,2,3,4,5,6,7,8,9],[0,1,2,3,4,5,6,7,8,9,10],[0,1,2,3,4,5,6,7,8,9,10,11]] 8 (by kernel_rfl) (by kernel_rfl) (by kernel_rfl) (by rfl) (by rfl) (by kernel_rfl) ?_
   refine ⟨[(o0, Blk.cells [.v (.string m0.gG.gFunc), .v (.int .i64 m0.gG.gNodes), .lst 6 (m0.gG.gEdges.map Km) (.cur k0_2), .lst 2 (m0.gG.gVars.map Ke) c0_3, .v (.int .i64 m0.gG.gMany), .v (.int .i64 m0.gAt), .lst 1 (m0.gPlaces.map eI64) c0_6] T0), (b1, Blk.cells [.v (.int .i64 a4.gOp), .v (.string a4.gName), .v (.string a4.gFunc), .lst 5 (a4.gExps.map Kn) .no, .lst 7 (a4.gKids.map Kg) .no, .lst 7 (a4.gElse.map Kg) .no, .v (.int .i64 a4.gAt)] 91), (b2, Blk.cells [.v (.int .i64 a1), .v (.int .i64 a2), .v (.int .i64 a3), .v (.string a4.gName), .v (.string ByteArray.empty), .lst 1 [] .full] 73)], ?_⟩
   iterate 8 apply Exists.intro
   refine ⟨.any, ?_⟩
   intro bs v14
   refine zh_e rfl rfl (KaY htab rfl) rfl rfl rfl rfl rfl rfl rfl rfl ?_
   refine zh_M rfl rfl (fun _ => KX 1 htab rfl rfl rfl rfl rfl) (offB rfl) rfl rfl rfl rfl rfl rfl rfl rfl ?_
   refine zh_e rfl rfl (KaY htab rfl) rfl rfl rfl rfl rfl rfl rfl rfl ?_
   refine zh_M rfl rfl (fun _ => KX 1 htab rfl rfl rfl rfl rfl) (fun _ => KX 1 htab rfl rfl rfl rfl rfl) rfl rfl rfl rfl rfl rfl rfl rfl ?_
   refine zh_e rfl rfl (KaY htab rfl) rfl rfl rfl rfl rfl rfl rfl rfl ?_
   refine zh_M rfl rfl (fun _ => KX 1 htab rfl rfl rfl rfl rfl) (offB rfl) rfl rfl rfl rfl rfl rfl rfl rfl ?_
   refine zh_call rfl rfl (Kcy a4.gExps x12 q12) rfl rfl Wl rfl rfl rfl rfl rfl rfl rfl rfl ?_
   refine zh_e rfl rfl (KaY htab rfl) rfl rfl rfl rfl rfl rfl rfl rfl ?_
   refine zh_store 2 htab rfl rfl rfl rfl rfl rfl rfl rfl rfl rfl rfl rfl rfl rfl rfl rfl ?_
   refine zh_nil rfl rfl rfl rfl (fun e he => by simp [isAl] at he) ?_
   refine pu ?_
   refine pS2 (ds' := [.v (.int .i64 a1), .v (.int .i64 a2), .v (.int .i64 a3), .v (.string a4.gName), .v (.string a4.gFunc), .lst 1 [] .full]) ?_
   refine pu ?_
   refine pS2 (ds' := [.v (.int .i64 a1), .v (.int .i64 a2), .v (.int .i64 a3), .v (.string a4.gName), .v (.string a4.gFunc), .lst 5 (x12.map Kn) .no]) ?_
   refine Kt ?_
   have e9 := Ki hm; subst e9
   refine ⟨rfl, ?_⟩
   exact WkX.of () (WkS.perm (WkS.cons rfl (Wk.refl _) (WkS.cons rfl (Wk.refl _) (WkS.nil))) ((K2 (j := 0) rfl).trans (List.Perm.cons _ ((K2 (j := 1) rfl).trans (List.Perm.cons _ Pf)))) Pf)
  ·replace hm := yes_f hc10 hm
   refine Ks ?_
   have e9 := Ki hm; subst e9
   refine ⟨rfl, ?_⟩
   refine WkX.wk (WkS.bl2 (ds' := [.v (.int .i64 a1), .v (.int .i64 a2), .v (.int .i64 a3), .v (.string ByteArray.empty), .v (.string ByteArray.empty), .lst 5 (([] : List Kq).map Kn) .no]) (rC (rC (rC (rC (rC (WkR.cons (WkC.nil) rfl WkR.nil))))))) ?_
   exact WkX.of () (WkS.perm (WkS.cons rfl (Wk.refl _) (WkS.cons rfl (Wk.refl _) (WkS.nil))) ((K2 (j := 0) rfl).trans (List.Perm.cons _ ((K2 (j := 1) rfl).trans (List.Perm.cons _ Pf)))) Pf)
 ·intro s9 hw9; clear hm; have hm := ho9; clear q9 ho9
  refine Kd ?_
  refine KY hw9 (fun z9 => ?_)
  obtain ⟨x16, q16, hm⟩ := Kc hm
  refine Kfy 9 [] [[],[],[1],[1,2],[1,2,3],[1,2,3,4],[],[6],[1,2,3,4,5,6,7]] [0,1,2,3,4,5,6,7,8] [[],[],[1],[1,2],[1,2,3],[1,2,3,4],[],[6],[1,2,3,4,5,6,7],[0,1,2,3,4,5,6,7,8],[0,1,2,3,4,5,6,7,8,9],[0,1,2,3,4,5,6,7,8,9,10],[0,1,2,3,4,5,6,7,8,9,10,11]] 8 6 0 (by kernel_rfl) (by kernel_rfl) (by kernel_rfl) (by rfl) (by rfl) (by kernel_rfl) rfl ?_
  iterate 9 apply Exists.intro
  refine ⟨.any, ?_⟩
  intro bs v16
  iterate 5 refine zh_e rfl rfl (KaY htab rfl) rfl rfl rfl rfl rfl rfl rfl rfl ?_
  refine zh_M rfl rfl (fun _ => KX 0 htab rfl rfl rfl rfl rfl) (offB rfl) rfl rfl rfl rfl rfl rfl rfl rfl ?_
  refine zh_M rfl rfl (fun _ => KX (d := Km (⟨a1, a2, a3, y9.1, y9.2.1, y9.2.2⟩ : Kaa)) 1 htab rfl rfl rfl rfl rfl) (offB rfl) rfl rfl rfl rfl rfl rfl rfl rfl ?_
  refine zh_E rfl rfl (ExE.wk (x_lit htab rfl rfl rfl rfl rfl rfl rfl rfl rfl rfl rfl) (show Wk _ (.lst 6 (([(⟨a1, a2, a3, y9.1, y9.2.1, y9.2.2⟩ : Kaa)] : List Kaa).map Km) .full) from Wk.lst0 (.cons (WkC.refl _) (.nil)))) rfl rfl rfl rfl rfl rfl rfl rfl ?_
  refine zh_app htab rfl rfl rfl rfl rfl rfl rfl rfl (rep_of rfl) rfl (app_kC rfl) (K2 (j := 0) rfl) rfl rfl rfl rfl rfl rfl rfl rfl rfl (KbZ q16) (KdF q16) ?_
  refine zh_nil rfl rfl rfl rfl (fun e he => by simp [isAl] at he) ?_
  iterate 3 refine pu ?_
  refine pS0 (ds' := [.v (.string m0.gG.gFunc), .v (.int .i64 m0.gG.gNodes), .lst 6 (x16.map Km) (.cur v16), .lst 2 (m0.gG.gVars.map Ke) c0_3, .v (.int .i64 m0.gG.gMany), .v (.int .i64 m0.gAt), .lst 1 (m0.gPlaces.map eI64) c0_6]) ?_
  refine Kt ?_
  have er17 := Ki hm; subst er17
  refine rP (t' := []) [0] [0] 1 wN lN ?_
  exact ⟨v16, rfl, rfl, rfl⟩
noncomputable def KaG (m0 : Ka) (a1 : Int) (a2 : Kb) : Option (Ka) :=
 ((Kat m0).bind fun x2 => ((Kag (⟨x2.2.gG, x2.1, x2.2.gPlaces⟩ : Ka) m0.gAt x2.1 a1 a2).bind fun x4 => some x4))
theorem Kbb (m0 : Ka) (a1 : Int) (a2 : Kb) (o0 : Nat) (T0 : TypeId) (k0_2 : Value) (c0_3 : Cap) (c0_6 : Cap) (r : Ka) (h0 : KaG m0 a1 a2 = some r) : CallsD Tryz.prog 80 [.ptr o0 0, .v (.int .i64 a1), Kg a2] [(o0, Blk.cells [.v (.string m0.gG.gFunc), .v (.int .i64 m0.gG.gNodes), .lst 6 (m0.gG.gEdges.map Km) (.cur k0_2), .lst 2 (m0.gG.gVars.map Ke) c0_3, .v (.int .i64 m0.gG.gMany), .v (.int .i64 m0.gAt), .lst 1 (m0.gPlaces.map eI64) c0_6] T0)] [(6, k0_2)] (fun d h k => ∃ y0, d = .tup [] ∧ h = [(o0, Blk.cells [.v (.string r.gG.gFunc), .v (.int .i64 r.gG.gNodes), .lst 6 (r.gG.gEdges.map Km) (.cur y0), .lst 2 (r.gG.gVars.map Ke) c0_3, .v (.int .i64 r.gG.gMany), .v (.int .i64 r.gAt), .lst 1 (r.gPlaces.map eI64) c0_6] T0)] ∧ k = [(6, y0)]) := by
 have hm := Ku h0
 unfold KaG at hm
 clear h0
 refine K5 htab Tryz.func80 rfl rfl rfl rfl rfl (fun C => ?_)
 refine w_eq (i := 2) rfl (Wk.of_eq (Kw a2)) ?_
 refine Kh ?_
 refine p_box rfl rfl rfl rfl rfl rfl rfl (fun b1 => ?_)
 refine KL ?_
 iterate 3 refine pu ?_
 refine pL 0 ?_
 refine pu ?_
 refine KL ?_
 refine pu ?_
 refine pu ?_
 obtain ⟨x2, q2, hm⟩ := Kc hm
 refine pG (KaL m0 o0 T0 (.cur k0_2) c0_3 c0_6 x2 q2) Wl Pf Pf ?_
 rintro _ _ _ ⟨rfl, rfl, rfl⟩
 refine pu ?_
 refine pu ?_
 refine pS0 (ds' := [.v (.string x2.2.gG.gFunc), .v (.int .i64 x2.2.gG.gNodes), .lst 6 (x2.2.gG.gEdges.map Km) (.cur k0_2), .lst 2 (x2.2.gG.gVars.map Ke) c0_3, .v (.int .i64 x2.2.gG.gMany), .v (.int .i64 x2.1), .lst 1 (x2.2.gPlaces.map eI64) c0_6]) ?_
 refine Kf ?_
 refine Kax 8 [] [[],[],[],[2],[2,3],[2,3,4],[],[]] [0,2,3,4,7] [[],[],[],[2],[2,3],[2,3,4],[],[],[0,1,2,3,4,5,6,7]] (by kernel_rfl) (by kernel_rfl) (by kernel_rfl) (by rfl) (by rfl) (by kernel_rfl) ?_
 iterate 5 apply Exists.intro
 intro bs
 refine zep ?_
 refine zqp ?_
 iterate 3 refine zep ?_
 refine z_qM rfl rfl (KX 0 htab rfl rfl rfl rfl rfl) rfl rfl rfl rfl rfl rfl ?_
 refine zqp ?_
 refine z_eM rfl rfl (KX (d := .agg [.v (.int .i64 a2.gOp), .v (.string a2.gName), .v (.string a2.gFunc), .lst 5 (a2.gExps.map Kn) .no, .lst 7 (a2.gKids.map Kg) .no, .lst 7 (a2.gElse.map Kg) .no, .v (.int .i64 a2.gAt)]) 1 htab rfl rfl rfl rfl rfl) rfl rfl rfl rfl rfl rfl ?_
 refine z_nil rfl rfl (fun e he => by simp [isAl] at he) ?_
 obtain ⟨x4, q4, hm⟩ := Kc hm
 refine KaM (Kam (⟨x2.2.gG, x2.1, x2.2.gPlaces⟩ : Ka) m0.gAt x2.1 a1 a2 o0 T0 k0_2 c0_3 c0_6 x4 q4) rfl rfl rfl rfl rfl (WkL.cons (Wk.refl _) (WkL.cons (Wk.refl _) (WkL.cons (Wk.refl _) (WkL.cons (Wk.refl _) (WkL.cons (Wk.trans (Wk.agg (WkR.refl _)) (Wk.of_eq (Kw a2).symm)) Wl))))) Pf Pf ?_
 rintro _ _ _ ⟨w3, rfl, rfl, rfl⟩
 refine Kt ?_
 have er5 := Ki hm; subst er5
 refine rP (t' := []) [0] [0] 1 wN lN ?_
 exact ⟨w3, rfl, rfl, rfl⟩
noncomputable def KbE (m0 : Ka) (a1 : Kb) : Option (Ka) :=
 ((Kag m0 m0.gAt (1 : Int) (8 : Int) (⟨(0 : Int), ByteArray.empty, ByteArray.empty, a1.gExps, [], [], (0 : Int)⟩ : Kb)).bind fun x3 => ((Kat x3).bind fun x4 => some (⟨x4.2.gG, x4.1, x4.2.gPlaces⟩ : Ka)))
theorem Ke9 (m0 : Ka) (a1 : Kb) (o0 : Nat) (T0 : TypeId) (k0_2 : Value) (c0_3 : Cap) (c0_6 : Cap) (r : Ka) (h0 : KbE m0 a1 = some r) : CallsD Tryz.prog 81 [.ptr o0 0, Kg a1] [(o0, Blk.cells [.v (.string m0.gG.gFunc), .v (.int .i64 m0.gG.gNodes), .lst 6 (m0.gG.gEdges.map Km) (.cur k0_2), .lst 2 (m0.gG.gVars.map Ke) c0_3, .v (.int .i64 m0.gG.gMany), .v (.int .i64 m0.gAt), .lst 1 (m0.gPlaces.map eI64) c0_6] T0)] [(6, k0_2)] (fun d h k => ∃ y0, d = .tup [] ∧ h = [(o0, Blk.cells [.v (.string r.gG.gFunc), .v (.int .i64 r.gG.gNodes), .lst 6 (r.gG.gEdges.map Km) (.cur y0), .lst 2 (r.gG.gVars.map Ke) c0_3, .v (.int .i64 r.gG.gMany), .v (.int .i64 r.gAt), .lst 1 (r.gPlaces.map eI64) c0_6] T0)] ∧ k = [(6, y0)]) := by
 have hm := Ku h0
 unfold KbE at hm
 clear h0
 refine K5 htab Tryz.func81 rfl rfl rfl rfl rfl (fun C => ?_)
 refine w_eq (i := 1) rfl (Wk.of_eq (Kw a1)) ?_
 refine Kh ?_
 refine p_box rfl rfl rfl rfl rfl rfl rfl (fun b1 => ?_)
 refine Kf ?_
 refine Ko ?_
 refine Kax 8 [] [[],[],[1],[1,2],[1,2,3],[],[5],[5,6]] [0,1,2,3,5,6,7] [[],[],[1],[1,2],[1,2,3],[],[5],[5,6],[0,1,2,3,4,5,6,7]] (by kernel_rfl) (by kernel_rfl) (by kernel_rfl) (by rfl) (by rfl) (by kernel_rfl) ?_
 iterate 7 apply Exists.intro
 intro bs
 iterate 4 refine zep ?_
 refine z_qM rfl rfl (KX 0 htab rfl rfl rfl rfl rfl) rfl rfl rfl rfl rfl rfl ?_
 refine zep ?_
 refine z_eM rfl rfl (KX 1 htab rfl rfl rfl rfl rfl) rfl rfl rfl rfl rfl rfl ?_
 refine z_e rfl rfl (x_build (r := [.v (.int .i64 (0 : Int)), .v (.string ByteArray.empty), .v (.string ByteArray.empty), .lst 5 (a1.gExps.map Kn) .no, .lst 1 [] .full, .lst 1 [] .full, .v (.int .i64 (0 : Int))]) htab rfl rfl rfl rfl rfl rfl) rfl rfl rfl rfl rfl rfl ?_
 refine z_nil rfl rfl (fun e he => by simp [isAl] at he) ?_
 obtain ⟨x3, q3, hm⟩ := Kc hm
 refine KaM (Kam m0 m0.gAt (1 : Int) (8 : Int) (⟨(0 : Int), ByteArray.empty, ByteArray.empty, a1.gExps, [], [], (0 : Int)⟩ : Kb) o0 T0 k0_2 c0_3 c0_6 x3 q3) rfl rfl rfl rfl rfl (WkL.cons (Wk.refl _) (WkL.cons (Wk.refl _) (WkL.cons (Wk.refl _) (WkL.cons (Wk.refl _) (WkL.cons (Wk.trans (Wk.agg (rC (rC (rC (rC (WkR.cons (WkC.nil) rfl (WkR.cons (WkC.nil) rfl (rC WkR.nil)))))))) (Wk.of_eq (Kw (⟨(0 : Int), ByteArray.empty, ByteArray.empty, a1.gExps, [], [], (0 : Int)⟩ : Kb)).symm)) Wl))))) Pf Pf ?_
 rintro _ _ _ ⟨w2, rfl, rfl, rfl⟩
 refine Kf ?_
 refine Kr ?_
 refine pu ?_
 refine pu ?_
 obtain ⟨x4, q4, hm⟩ := Kc hm
 refine pG (KaL x3 o0 T0 (.cur w2) c0_3 c0_6 x4 q4) Wl Pf Pf ?_
 rintro _ _ _ ⟨rfl, rfl, rfl⟩
 refine pu ?_
 refine pu ?_
 refine pS0 (ds' := [.v (.string x4.2.gG.gFunc), .v (.int .i64 x4.2.gG.gNodes), .lst 6 (x4.2.gG.gEdges.map Km) (.cur w2), .lst 2 (x4.2.gG.gVars.map Ke) c0_3, .v (.int .i64 x4.2.gG.gMany), .v (.int .i64 x4.1), .lst 1 (x4.2.gPlaces.map eI64) c0_6]) ?_
 refine Kt ?_
 have er5 := Ki hm; subst er5
 refine rP (t' := []) [0] [0] 1 wN lN ?_
 exact ⟨w2, rfl, rfl, rfl⟩
noncomputable def Kb0 (a0 : Kb) : Option (Kb) :=
 some (⟨(0 : Int), ByteArray.empty, ByteArray.empty, a0.gExps, [], [], (0 : Int)⟩ : Kb)
theorem Kdf (a0 : Kb) (r : Kb) (h0 : Kb0 a0 = some r) : CallsD Tryz.prog 95 [Kg a0] [] [] (fun d h k => d = Kg r ∧ h = [] ∧ k = []) := by
 have hm := Ku h0
 unfold Kb0 at hm
 clear h0
 refine K5 htab Tryz.func95 rfl rfl rfl rfl rfl (fun C => ?_)
 refine w_eq (i := 0) rfl (Wk.of_eq (Kw a0)) ?_
 refine Kh ?_
 refine p_box rfl rfl rfl rfl rfl rfl rfl (fun b1 => ?_)
 refine Kak htab rfl rfl rfl rfl rfl rfl rfl (fun b2 => ?_)
 refine KL ?_
 refine pu ?_
 refine pL 0 ?_
 refine Ka6 (r := [.v (.int .i64 (0 : Int)), .v (.string ByteArray.empty), .v (.string ByteArray.empty), .lst 5 (a0.gExps.map Kn) .no, .lst 1 [] .full, .lst 1 [] .full, .v (.int .i64 (0 : Int))]) htab rfl rfl rfl rfl rfl rfl rfl rfl rfl ?_
 refine pS1 (ds' := [.v (.int .i64 (0 : Int)), .v (.string ByteArray.empty), .v (.string ByteArray.empty), .lst 5 (a0.gExps.map Kn) .no, .lst 1 [] .full, .lst 1 [] .full, .v (.int .i64 (0 : Int))]) ?_
 refine Kf ?_
 refine KA ?_
 have er3 := Ki hm; subst er3
 refine retX.wk (WkS.bl1 (ds' := [.v (.int .i64 (0 : Int)), .v (.string ByteArray.empty), .v (.string ByteArray.empty), .lst 5 (a0.gExps.map Kn) .no, .lst 7 (([] : List Kb).map Kg) .no, .lst 7 (([] : List Kb).map Kg) .no, .v (.int .i64 (0 : Int))]) (rC (rC (rC (rC (WkR.cons (WkC.nil) rfl (WkR.cons (WkC.nil) rfl (rC WkR.nil)))))))) ?_
 refine rP (t' := [(2, .ptr b2 0)]) [1] [] 0 (wC wN) (lC 0 lN) ?_
 exact ⟨by first | rfl | (simp only [wrapD, Kw]; done) | (simp only [wrapD, Kw]; rfl), rfl, rfl⟩
abbrev nlRn1_1 : List (List Nat) := nlD [] [(0,[]),(0,[]),(0,[1]),(3,[2]),(4,[3]),(0,[]),(0,[5]),(7,[6]),(8,[7]),(9,[8]),(5,[4,5,6,7,8,9]),(0,[0,1,2,3,4,5,6,7,8,9,10]),(12,[11]),(13,[12])]
noncomputable def Ka1 (g0 : (Ka) → (List Kb) → Option (Ka)) (g1 : (Ka) → (Kb) → Option (Ka)) (g2 : (Ka) → (Kb) → Option (Ka)) (g3 : (Ka) → (Kb) → Option (Ka)) (m0 : Ka) (a1 : List Kb) : Option (Ka) :=
 (Option.bind (α := ByteArray × Int × List Kaa × List K9 × Int × Int × List Int) (loopM (fun (s24 : Int × ByteArray × Int × List Kaa × List K9 × Int × Int × List Int) => (bif (decide (s24.1 < (a1.length : Int))) then ((idx a1 s24.1).bind fun x40 => ((g1 (⟨(⟨s24.2.1, s24.2.2.1, s24.2.2.2.1, s24.2.2.2.2.1, s24.2.2.2.2.2.1⟩ : KV), s24.2.2.2.2.2.2.1, s24.2.2.2.2.2.2.2⟩ : Ka) x40).bind fun x44 => some (.next ((IntKind.i64.wrap (s24.1 + (1 : Int))), x44.gG.gFunc, x44.gG.gNodes, x44.gG.gEdges, x44.gG.gVars, x44.gG.gMany, x44.gAt, x44.gPlaces)))) else some (.done (s24.2.1, s24.2.2.1, s24.2.2.2.1, s24.2.2.2.2.1, s24.2.2.2.2.2.1, s24.2.2.2.2.2.2.1, s24.2.2.2.2.2.2.2)))) ((0 : Int), m0.gG.gFunc, m0.gG.gNodes, m0.gG.gEdges, m0.gG.gVars, m0.gG.gMany, m0.gAt, m0.gPlaces)) fun y23 => some (⟨(⟨y23.1, y23.2.1, y23.2.2.1, y23.2.2.2.1, y23.2.2.2.2.1⟩ : KV), y23.2.2.2.2.2.1, y23.2.2.2.2.2.2⟩ : Ka))
theorem Kfa (g0 : (Ka) → (List Kb) → Option (Ka)) (g1 : (Ka) → (Kb) → Option (Ka)) (g2 : (Ka) → (Kb) → Option (Ka)) (g3 : (Ka) → (Kb) → Option (Ka)) (hg0 : ∀ (m0 : Ka) (a1 : List Kb) (o0 : Nat) (T0 : TypeId) (k0_2 : Value) (c0_3 : Cap) (k0_6 : Value) (r : Ka) (h0 : g0 m0 a1 = some r), CallsD Tryz.prog 53 [.ptr o0 0, .lst 7 (a1.map Kg) .no] [(o0, Blk.cells [.v (.string m0.gG.gFunc), .v (.int .i64 m0.gG.gNodes), .lst 6 (m0.gG.gEdges.map Km) (.cur k0_2), .lst 2 (m0.gG.gVars.map Ke) c0_3, .v (.int .i64 m0.gG.gMany), .v (.int .i64 m0.gAt), .lst 1 (m0.gPlaces.map eI64) (.cur k0_6)] T0)] [(6, k0_2), (1, k0_6)] (fun d h k => ∃ y0 y1, d = .tup [] ∧ h = [(o0, Blk.cells [.v (.string r.gG.gFunc), .v (.int .i64 r.gG.gNodes), .lst 6 (r.gG.gEdges.map Km) (.cur y0), .lst 2 (r.gG.gVars.map Ke) .no, .v (.int .i64 r.gG.gMany), .v (.int .i64 r.gAt), .lst 1 (r.gPlaces.map eI64) (.cur y1)] T0)] ∧ k = [(6, y0), (1, y1)])) (hg1 : ∀ (m0 : Ka) (a1 : Kb) (o0 : Nat) (T0 : TypeId) (k0_2 : Value) (c0_3 : Cap) (k0_6 : Value) (r : Ka) (h0 : g1 m0 a1 = some r), CallsD Tryz.prog 65 [.ptr o0 0, Kg a1] [(o0, Blk.cells [.v (.string m0.gG.gFunc), .v (.int .i64 m0.gG.gNodes), .lst 6 (m0.gG.gEdges.map Km) (.cur k0_2), .lst 2 (m0.gG.gVars.map Ke) c0_3, .v (.int .i64 m0.gG.gMany), .v (.int .i64 m0.gAt), .lst 1 (m0.gPlaces.map eI64) (.cur k0_6)] T0)] [(6, k0_2), (1, k0_6)] (fun d h k => ∃ y0 y1, d = .tup [] ∧ h = [(o0, Blk.cells [.v (.string r.gG.gFunc), .v (.int .i64 r.gG.gNodes), .lst 6 (r.gG.gEdges.map Km) (.cur y0), .lst 2 (r.gG.gVars.map Ke) .no, .v (.int .i64 r.gG.gMany), .v (.int .i64 r.gAt), .lst 1 (r.gPlaces.map eI64) (.cur y1)] T0)] ∧ k = [(6, y0), (1, y1)])) (hg2 : ∀ (m0 : Ka) (a1 : Kb) (o0 : Nat) (T0 : TypeId) (k0_2 : Value) (c0_3 : Cap) (k0_6 : Value) (r : Ka) (h0 : g2 m0 a1 = some r), CallsD Tryz.prog 82 [.ptr o0 0, Kg a1] [(o0, Blk.cells [.v (.string m0.gG.gFunc), .v (.int .i64 m0.gG.gNodes), .lst 6 (m0.gG.gEdges.map Km) (.cur k0_2), .lst 2 (m0.gG.gVars.map Ke) c0_3, .v (.int .i64 m0.gG.gMany), .v (.int .i64 m0.gAt), .lst 1 (m0.gPlaces.map eI64) (.cur k0_6)] T0)] [(6, k0_2), (1, k0_6)] (fun d h k => ∃ y0 y1, d = .tup [] ∧ h = [(o0, Blk.cells [.v (.string r.gG.gFunc), .v (.int .i64 r.gG.gNodes), .lst 6 (r.gG.gEdges.map Km) (.cur y0), .lst 2 (r.gG.gVars.map Ke) .no, .v (.int .i64 r.gG.gMany), .v (.int .i64 r.gAt), .lst 1 (r.gPlaces.map eI64) (.cur y1)] T0)] ∧ k = [(6, y0), (1, y1)])) (hg3 : ∀ (m0 : Ka) (a1 : Kb) (o0 : Nat) (T0 : TypeId) (k0_2 : Value) (c0_3 : Cap) (k0_6 : Value) (r : Ka) (h0 : g3 m0 a1 = some r), CallsD Tryz.prog 83 [.ptr o0 0, Kg a1] [(o0, Blk.cells [.v (.string m0.gG.gFunc), .v (.int .i64 m0.gG.gNodes), .lst 6 (m0.gG.gEdges.map Km) (.cur k0_2), .lst 2 (m0.gG.gVars.map Ke) c0_3, .v (.int .i64 m0.gG.gMany), .v (.int .i64 m0.gAt), .lst 1 (m0.gPlaces.map eI64) (.cur k0_6)] T0)] [(6, k0_2), (1, k0_6)] (fun d h k => ∃ y0 y1, d = .tup [] ∧ h = [(o0, Blk.cells [.v (.string r.gG.gFunc), .v (.int .i64 r.gG.gNodes), .lst 6 (r.gG.gEdges.map Km) (.cur y0), .lst 2 (r.gG.gVars.map Ke) .no, .v (.int .i64 r.gG.gMany), .v (.int .i64 r.gAt), .lst 1 (r.gPlaces.map eI64) (.cur y1)] T0)] ∧ k = [(6, y0), (1, y1)])) (m0 : Ka) (a1 : List Kb) (o0 : Nat) (T0 : TypeId) (k0_2 : Value) (c0_3 : Cap) (k0_6 : Value) (r : Ka) (h0 : Ka1 g0 g1 g2 g3 m0 a1 = some r) : CallsD Tryz.prog 53 [.ptr o0 0, .lst 7 (a1.map Kg) .no] [(o0, Blk.cells [.v (.string m0.gG.gFunc), .v (.int .i64 m0.gG.gNodes), .lst 6 (m0.gG.gEdges.map Km) (.cur k0_2), .lst 2 (m0.gG.gVars.map Ke) c0_3, .v (.int .i64 m0.gG.gMany), .v (.int .i64 m0.gAt), .lst 1 (m0.gPlaces.map eI64) (.cur k0_6)] T0)] [(6, k0_2), (1, k0_6)] (fun d h k => ∃ y0 y1, d = .tup [] ∧ h = [(o0, Blk.cells [.v (.string r.gG.gFunc), .v (.int .i64 r.gG.gNodes), .lst 6 (r.gG.gEdges.map Km) (.cur y0), .lst 2 (r.gG.gVars.map Ke) .no, .v (.int .i64 r.gG.gMany), .v (.int .i64 r.gAt), .lst 1 (r.gPlaces.map eI64) (.cur y1)] T0)] ∧ k = [(6, y0), (1, y1)]) := by
 have hm := Ku h0
 unfold Ka1 at hm
 clear h0
 refine K5 htab Tryz.func53 rfl rfl rfl rfl rfl (fun C => ?_)
 refine Kh ?_
 iterate 3 refine pu ?_
 refine KL ?_
 refine pu ?_
 refine Kao htab rfl rfl rfl rfl rfl rfl rfl (by first | exact Kae | rfl) ?_
 refine pu ?_
 refine Kf ?_
 obtain ⟨y23, q23, ho23⟩ := Kc hm
 refine KP (Y := Value × Value) (fun z23 => (⟨[], [(o0, Blk.cells [.v (.string y23.1), .v (.int .i64 y23.2.1), .lst 6 (y23.2.2.1.map Km) (.cur z23.1), .lst 2 (y23.2.2.2.1.map Ke) .no, .v (.int .i64 y23.2.2.2.2.1), .v (.int .i64 y23.2.2.2.2.2.1), .lst 1 (y23.2.2.2.2.2.2.map eI64) (.cur z23.2)] T0)], [(6, z23.1), (1, z23.2)]⟩ : S)) ?_ ?_
 ·clear hm; have hm := Ku q23
  refine KC ?_
  obtain ⟨u24, hl24, hq24⟩ := yes_m hm
  refine KaW (Y := Value × Value) hl24 (fun s24 z24 => (⟨[(4, .fn (.func 65) [.ptr o0 0] []), (9, .lst 7 (a1.map Kg) .no), (10, .v (.int .i64 (a1.length : Int))), (11, .v (.int .i64 s24.1))], [(o0, Blk.cells [.v (.string s24.2.1), .v (.int .i64 s24.2.2.1), .lst 6 (s24.2.2.2.1.map Km) (.cur z24.1), .lst 2 (s24.2.2.2.2.1.map Ke) .no, .v (.int .i64 s24.2.2.2.2.2.1), .v (.int .i64 s24.2.2.2.2.2.2.1), .lst 1 (s24.2.2.2.2.2.2.2.map eI64) (.cur z24.2)] T0)], [(6, z24.1), (1, z24.2)]⟩ : S)) ?_ ?_
  ·skip
   refine WkX.wk (WkS.bl0 (ds' := [.v (.string m0.gG.gFunc), .v (.int .i64 m0.gG.gNodes), .lst 6 (m0.gG.gEdges.map Km) (.cur k0_2), .lst 2 (m0.gG.gVars.map Ke) .no, .v (.int .i64 m0.gG.gMany), .v (.int .i64 m0.gAt), .lst 1 (m0.gPlaces.map eI64) (.cur k0_6)]) (rC (rC (rC (rO (rC (rC (rC WkR.nil)))))))) ?_
   exact WkX.of (k0_2, k0_6) (WkS.perm (WkS.cons rfl (Wk.refl _) (WkS.cons rfl (Wk.refl _) (WkS.cons rfl (Wk.refl _) (WkS.cons rfl (Wk.refl _) (WkS.nil))))) Pf Pf)
  ·intro G24 s24 z24 hm
   refine Kh ?_
   refine pu ?_
   refine Kf ?_
   refine Ko ?_
   refine Kp rfl (fun hc39 => ?_) (fun hc39 => ?_)
   ·replace hm := yes_t hc39 hm
    refine Ks ?_
    refine Kd ?_
    refine Ko ?_
    refine KC ?_
    refine Kh ?_
    obtain ⟨x40, q40, hm⟩ := Kc hm
    refine KaB htab rfl rfl rfl rfl rfl rfl rfl rfl rfl rfl (KM q40) (K8 q40) ?_
    refine p_eq (i := 13) rfl (Wk.of_eq (congrArg D.el (Kw x40))) ?_
    refine Kai (d := .agg [.v (.int .i64 x40.gOp), .v (.string x40.gName), .v (.string x40.gFunc), .lst 5 (x40.gExps.map Kn) .no, .lst 7 (x40.gKids.map Kg) .no, .lst 7 (x40.gElse.map Kg) .no, .v (.int .i64 x40.gAt)]) htab rfl rfl rfl rfl rfl rfl rfl rfl ?_
    refine Kak htab rfl rfl rfl rfl rfl rfl rfl (fun b41 => ?_)
    refine pS1 (ds' := [.v (.int .i64 x40.gOp), .v (.string x40.gName), .v (.string x40.gFunc), .lst 5 (x40.gExps.map Kn) .no, .lst 7 (x40.gKids.map Kg) .no, .lst 7 (x40.gElse.map Kg) .no, .v (.int .i64 x40.gAt)]) ?_
    refine Kf ?_
    refine Kr ?_
    refine pu ?_
    refine K3 (d := .agg [.v (.int .i64 x40.gOp), .v (.string x40.gName), .v (.string x40.gFunc), .lst 5 (x40.gExps.map Kn) .no, .lst 7 (x40.gKids.map Kg) .no, .lst 7 (x40.gElse.map Kg) .no, .v (.int .i64 x40.gAt)]) 1 htab rfl rfl rfl rfl rfl rfl rfl rfl ?_
    obtain ⟨x44, q44, hm⟩ := Kc hm
    refine p_callV (hg1 (⟨(⟨s24.2.1, s24.2.2.1, s24.2.2.2.1, s24.2.2.2.2.1, s24.2.2.2.2.2.1⟩ : KV), s24.2.2.2.2.2.2.1, s24.2.2.2.2.2.2.2⟩ : Ka) x40 o0 T0 z24.1 .no z24.2 x44 q44) rfl rfl rfl rfl rfl rfl rfl (WkL.cons (Wk.refl _) (WkL.cons (Wk.trans (Wk.agg (WkR.refl _)) (Wk.of_eq (Kw x40).symm)) Wl)) Pf Pf ?_
    rintro _ _ _ ⟨w42, w43, rfl, rfl, rfl⟩
    refine Kt ?_
    refine Kz ?_
    refine Kd ?_
    refine Kr ?_
    refine pu ?_
    refine pu ?_
    refine Kt ?_
    refine Kd ⟨_, Kas hm, ?_⟩
    exact WkX.of (w42, w43) (WkS.perm (WkS.cons rfl (Wk.refl _) (WkS.cons rfl (Wk.refl _) (WkS.cons rfl (Wk.refl _) (WkS.cons rfl (Wk.refl _) (WkS.nil))))) Pf Pf)
   ·replace hm := yes_f hc39 hm
    refine Kal ?_
    refine KJ ?_
    have e24 := Kab hm; subst e24; clear hm; have hm := hq24
    refine KJ ?_
    refine Kaf ?_
    have e23 := Ki hm; subst e23
    refine ⟨rfl, ?_⟩
    exact WkX.of (z24.1, z24.2) (WkS.perm (WkS.nil) Pf Pf)
 ·intro s23 hw23; clear hm; have hm := ho23; clear q23 ho23
  refine retX.wkX hw23 (fun z23 => ?_)
  have er45 := Ki hm; subst er45
  refine rP (t' := []) [0] [0,0] 1 wN lN ?_
  exact ⟨z23.1, z23.2, rfl, rfl, rfl⟩
noncomputable def KaR (g0 : (Ka) → (List Kb) → Option (Ka)) (g1 : (Ka) → (Kb) → Option (Ka)) (g2 : (Ka) → (Kb) → Option (Ka)) (g3 : (Ka) → (Kb) → Option (Ka)) (m0 : Ka) (a1 : Kb) : Option (Ka) :=
 ((app 8 m0.gPlaces ([m0.gAt] : List Int)).bind fun x2 => (bif (a1.gOp == (1 : Int)) then ((KaG (⟨m0.gG, m0.gAt, x2⟩ : Ka) (1 : Int) a1).bind fun x5 => some x5) else (bif (a1.gOp == (2 : Int)) then ((KaG (⟨m0.gG, m0.gAt, x2⟩ : Ka) (2 : Int) a1).bind fun x9 => some x9) else (bif (a1.gOp == (3 : Int)) then ((KaG (⟨m0.gG, m0.gAt, x2⟩ : Ka) (3 : Int) a1).bind fun x13 => some x13) else (bif (a1.gOp == (4 : Int)) then ((KaG (⟨m0.gG, m0.gAt, x2⟩ : Ka) (4 : Int) a1).bind fun x17 => some x17) else (bif (a1.gOp == (5 : Int)) then ((KaG (⟨m0.gG, m0.gAt, x2⟩ : Ka) (5 : Int) a1).bind fun x21 => some x21) else (bif (a1.gOp == (9 : Int)) then ((KaG (⟨m0.gG, m0.gAt, x2⟩ : Ka) (9 : Int) a1).bind fun x25 => some x25) else (bif (a1.gOp == (8 : Int)) then ((KbE (⟨m0.gG, m0.gAt, x2⟩ : Ka) a1).bind fun x29 => some x29) else (bif (a1.gOp == (6 : Int)) then ((g2 (⟨m0.gG, m0.gAt, x2⟩ : Ka) a1).bind fun x34 => some x34) else (bif (a1.gOp == (7 : Int)) then ((g3 (⟨m0.gG, m0.gAt, x2⟩ : Ka) a1).bind fun x39 => some x39) else some (⟨m0.gG, m0.gAt, x2⟩ : Ka)))))))))))
theorem KeQ (g0 : (Ka) → (List Kb) → Option (Ka)) (g1 : (Ka) → (Kb) → Option (Ka)) (g2 : (Ka) → (Kb) → Option (Ka)) (g3 : (Ka) → (Kb) → Option (Ka)) (hg0 : ∀ (m0 : Ka) (a1 : List Kb) (o0 : Nat) (T0 : TypeId) (k0_2 : Value) (c0_3 : Cap) (k0_6 : Value) (r : Ka) (h0 : g0 m0 a1 = some r), CallsD Tryz.prog 53 [.ptr o0 0, .lst 7 (a1.map Kg) .no] [(o0, Blk.cells [.v (.string m0.gG.gFunc), .v (.int .i64 m0.gG.gNodes), .lst 6 (m0.gG.gEdges.map Km) (.cur k0_2), .lst 2 (m0.gG.gVars.map Ke) c0_3, .v (.int .i64 m0.gG.gMany), .v (.int .i64 m0.gAt), .lst 1 (m0.gPlaces.map eI64) (.cur k0_6)] T0)] [(6, k0_2), (1, k0_6)] (fun d h k => ∃ y0 y1, d = .tup [] ∧ h = [(o0, Blk.cells [.v (.string r.gG.gFunc), .v (.int .i64 r.gG.gNodes), .lst 6 (r.gG.gEdges.map Km) (.cur y0), .lst 2 (r.gG.gVars.map Ke) .no, .v (.int .i64 r.gG.gMany), .v (.int .i64 r.gAt), .lst 1 (r.gPlaces.map eI64) (.cur y1)] T0)] ∧ k = [(6, y0), (1, y1)])) (hg1 : ∀ (m0 : Ka) (a1 : Kb) (o0 : Nat) (T0 : TypeId) (k0_2 : Value) (c0_3 : Cap) (k0_6 : Value) (r : Ka) (h0 : g1 m0 a1 = some r), CallsD Tryz.prog 65 [.ptr o0 0, Kg a1] [(o0, Blk.cells [.v (.string m0.gG.gFunc), .v (.int .i64 m0.gG.gNodes), .lst 6 (m0.gG.gEdges.map Km) (.cur k0_2), .lst 2 (m0.gG.gVars.map Ke) c0_3, .v (.int .i64 m0.gG.gMany), .v (.int .i64 m0.gAt), .lst 1 (m0.gPlaces.map eI64) (.cur k0_6)] T0)] [(6, k0_2), (1, k0_6)] (fun d h k => ∃ y0 y1, d = .tup [] ∧ h = [(o0, Blk.cells [.v (.string r.gG.gFunc), .v (.int .i64 r.gG.gNodes), .lst 6 (r.gG.gEdges.map Km) (.cur y0), .lst 2 (r.gG.gVars.map Ke) .no, .v (.int .i64 r.gG.gMany), .v (.int .i64 r.gAt), .lst 1 (r.gPlaces.map eI64) (.cur y1)] T0)] ∧ k = [(6, y0), (1, y1)])) (hg2 : ∀ (m0 : Ka) (a1 : Kb) (o0 : Nat) (T0 : TypeId) (k0_2 : Value) (c0_3 : Cap) (k0_6 : Value) (r : Ka) (h0 : g2 m0 a1 = some r), CallsD Tryz.prog 82 [.ptr o0 0, Kg a1] [(o0, Blk.cells [.v (.string m0.gG.gFunc), .v (.int .i64 m0.gG.gNodes), .lst 6 (m0.gG.gEdges.map Km) (.cur k0_2), .lst 2 (m0.gG.gVars.map Ke) c0_3, .v (.int .i64 m0.gG.gMany), .v (.int .i64 m0.gAt), .lst 1 (m0.gPlaces.map eI64) (.cur k0_6)] T0)] [(6, k0_2), (1, k0_6)] (fun d h k => ∃ y0 y1, d = .tup [] ∧ h = [(o0, Blk.cells [.v (.string r.gG.gFunc), .v (.int .i64 r.gG.gNodes), .lst 6 (r.gG.gEdges.map Km) (.cur y0), .lst 2 (r.gG.gVars.map Ke) .no, .v (.int .i64 r.gG.gMany), .v (.int .i64 r.gAt), .lst 1 (r.gPlaces.map eI64) (.cur y1)] T0)] ∧ k = [(6, y0), (1, y1)])) (hg3 : ∀ (m0 : Ka) (a1 : Kb) (o0 : Nat) (T0 : TypeId) (k0_2 : Value) (c0_3 : Cap) (k0_6 : Value) (r : Ka) (h0 : g3 m0 a1 = some r), CallsD Tryz.prog 83 [.ptr o0 0, Kg a1] [(o0, Blk.cells [.v (.string m0.gG.gFunc), .v (.int .i64 m0.gG.gNodes), .lst 6 (m0.gG.gEdges.map Km) (.cur k0_2), .lst 2 (m0.gG.gVars.map Ke) c0_3, .v (.int .i64 m0.gG.gMany), .v (.int .i64 m0.gAt), .lst 1 (m0.gPlaces.map eI64) (.cur k0_6)] T0)] [(6, k0_2), (1, k0_6)] (fun d h k => ∃ y0 y1, d = .tup [] ∧ h = [(o0, Blk.cells [.v (.string r.gG.gFunc), .v (.int .i64 r.gG.gNodes), .lst 6 (r.gG.gEdges.map Km) (.cur y0), .lst 2 (r.gG.gVars.map Ke) .no, .v (.int .i64 r.gG.gMany), .v (.int .i64 r.gAt), .lst 1 (r.gPlaces.map eI64) (.cur y1)] T0)] ∧ k = [(6, y0), (1, y1)])) (m0 : Ka) (a1 : Kb) (o0 : Nat) (T0 : TypeId) (k0_2 : Value) (c0_3 : Cap) (k0_6 : Value) (r : Ka) (h0 : KaR g0 g1 g2 g3 m0 a1 = some r) : CallsD Tryz.prog 65 [.ptr o0 0, Kg a1] [(o0, Blk.cells [.v (.string m0.gG.gFunc), .v (.int .i64 m0.gG.gNodes), .lst 6 (m0.gG.gEdges.map Km) (.cur k0_2), .lst 2 (m0.gG.gVars.map Ke) c0_3, .v (.int .i64 m0.gG.gMany), .v (.int .i64 m0.gAt), .lst 1 (m0.gPlaces.map eI64) (.cur k0_6)] T0)] [(6, k0_2), (1, k0_6)] (fun d h k => ∃ y0 y1, d = .tup [] ∧ h = [(o0, Blk.cells [.v (.string r.gG.gFunc), .v (.int .i64 r.gG.gNodes), .lst 6 (r.gG.gEdges.map Km) (.cur y0), .lst 2 (r.gG.gVars.map Ke) .no, .v (.int .i64 r.gG.gMany), .v (.int .i64 r.gAt), .lst 1 (r.gPlaces.map eI64) (.cur y1)] T0)] ∧ k = [(6, y0), (1, y1)]) := by
 have hm := Ku h0
 unfold KaR at hm
 clear h0
 refine K5 htab Tryz.func65 rfl rfl rfl rfl rfl (fun C => ?_)
 refine w_eq (i := 1) rfl (Wk.of_eq (Kw a1)) ?_
 refine Kh ?_
 refine p_box rfl rfl rfl rfl rfl rfl rfl (fun b1 => ?_)
 refine Kf ?_
 refine Ko ?_
 obtain ⟨x2, q2, hm⟩ := Kc hm
 refine Kfy 11 [] [[],[],[1],[1,2],[1,2,3],[],[5],[5,6],[5,6,7],[5,6,7,8],[1,2,3,4,5,6,7,8,9]] [0,1,2,3,4,5,6,7,8,9,10] nlRn1_1 10 1 1 (by kernel_rfl) (by kernel_rfl) (by kernel_rfl) (by rfl) (by rfl) (by kernel_rfl) rfl ?_
 iterate 11 apply Exists.intro
 refine ⟨.any, ?_⟩
 intro bs v2
 iterate 4 refine zh_e rfl rfl (KaY htab rfl) rfl rfl rfl rfl rfl rfl rfl rfl ?_
 refine zh_M rfl rfl (fun _ => KX 0 htab rfl rfl rfl rfl rfl) (offB rfl) rfl rfl rfl rfl rfl rfl rfl rfl ?_
 iterate 3 refine zh_e rfl rfl (KaY htab rfl) rfl rfl rfl rfl rfl rfl rfl rfl ?_
 refine zh_M rfl rfl (fun _ => KX 0 htab rfl rfl rfl rfl rfl) (offB rfl) rfl rfl rfl rfl rfl rfl rfl rfl ?_
 refine zh_E rfl rfl (ExE.wk (x_lit htab rfl rfl rfl rfl rfl rfl rfl rfl rfl rfl rfl) (show Wk _ (.lst 1 (([m0.gAt] : List Int).map eI64) .full) from Wk.lst0 (.cons (WkC.refl _) (.nil)))) rfl rfl rfl rfl rfl rfl rfl rfl ?_
 refine zh_app htab rfl rfl rfl rfl rfl rfl rfl rfl (rep_of rfl) rfl (app_kC rfl) (K2 (j := 1) rfl) rfl rfl rfl rfl rfl rfl rfl rfl rfl (KbZ q2) (KdF q2) ?_
 refine zh_nil rfl rfl rfl rfl (fun e he => by simp [isAl] at he) ?_
 refine pu ?_
 refine pu ?_
 refine pS0 (ds' := [.v (.string m0.gG.gFunc), .v (.int .i64 m0.gG.gNodes), .lst 6 (m0.gG.gEdges.map Km) (.cur k0_2), .lst 2 (m0.gG.gVars.map Ke) c0_3, .v (.int .i64 m0.gG.gMany), .v (.int .i64 m0.gAt), .lst 1 (x2.map eI64) (.cur v2)]) ?_
 refine KL ?_
 refine pu ?_
 refine pL 1 ?_
 refine Kf ?_
 refine KC ?_
 refine Kh ?_
 refine pu ?_
 refine pu ?_
 refine Kf ?_
 refine Kp rfl (fun hc3 => ?_) (fun hc3 => ?_)
 ·replace hm := yes_t hc3 hm
  refine Kr ?_
  refine pu ?_
  refine K3 (d := .agg [.v (.int .i64 a1.gOp), .v (.string a1.gName), .v (.string a1.gFunc), .lst 5 (a1.gExps.map Kn) .no, .lst 7 (a1.gKids.map Kg) .no, .lst 7 (a1.gElse.map Kg) .no, .v (.int .i64 a1.gAt)]) 1 htab rfl rfl rfl rfl rfl rfl rfl rfl ?_
  obtain ⟨x5, q5, hm⟩ := Kc hm
  refine KaM (Kbb (⟨m0.gG, m0.gAt, x2⟩ : Ka) (1 : Int) a1 o0 T0 k0_2 c0_3 (.cur v2) x5 q5) rfl rfl rfl rfl rfl (WkL.cons (Wk.refl _) (WkL.cons (Wk.refl _) (WkL.cons (Wk.trans (Wk.agg (WkR.refl _)) (Wk.of_eq (Kw a1).symm)) Wl))) Pf ((K2 (j := 1) rfl).trans (List.Perm.cons _ Pf)) ?_
  rintro _ _ _ ⟨w4, rfl, rfl, rfl⟩
  refine Kt ?_
  refine Kz ?_
  have er6 := Ki hm; subst er6
  refine retX.wk (WkS.bl0 (ds' := [.v (.string x5.gG.gFunc), .v (.int .i64 x5.gG.gNodes), .lst 6 (x5.gG.gEdges.map Km) (.cur w4), .lst 2 (x5.gG.gVars.map Ke) .no, .v (.int .i64 x5.gG.gMany), .v (.int .i64 x5.gAt), .lst 1 (x5.gPlaces.map eI64) (.cur v2)]) (rC (rC (rC (rO (rC (rC (rC WkR.nil)))))))) ?_
  refine rP (t' := []) [0] [0,0] 1 wN lN ?_
  exact ⟨w4, v2, rfl, rfl, rfl⟩
 ·replace hm := yes_f hc3 hm
  refine Kh ?_
  refine pu ?_
  refine pu ?_
  refine Kf ?_
  refine Kp rfl (fun hc7 => ?_) (fun hc7 => ?_)
  ·replace hm := yes_t hc7 hm
   refine Kr ?_
   refine pu ?_
   refine K3 (d := .agg [.v (.int .i64 a1.gOp), .v (.string a1.gName), .v (.string a1.gFunc), .lst 5 (a1.gExps.map Kn) .no, .lst 7 (a1.gKids.map Kg) .no, .lst 7 (a1.gElse.map Kg) .no, .v (.int .i64 a1.gAt)]) 1 htab rfl rfl rfl rfl rfl rfl rfl rfl ?_
   obtain ⟨x9, q9, hm⟩ := Kc hm
   refine KaM (Kbb (⟨m0.gG, m0.gAt, x2⟩ : Ka) (2 : Int) a1 o0 T0 k0_2 c0_3 (.cur v2) x9 q9) rfl rfl rfl rfl rfl (WkL.cons (Wk.refl _) (WkL.cons (Wk.refl _) (WkL.cons (Wk.trans (Wk.agg (WkR.refl _)) (Wk.of_eq (Kw a1).symm)) Wl))) Pf ((K2 (j := 1) rfl).trans (List.Perm.cons _ Pf)) ?_
   rintro _ _ _ ⟨w8, rfl, rfl, rfl⟩
   refine Kt ?_
   refine Kz ?_
   have er10 := Ki hm; subst er10
   refine retX.wk (WkS.bl0 (ds' := [.v (.string x9.gG.gFunc), .v (.int .i64 x9.gG.gNodes), .lst 6 (x9.gG.gEdges.map Km) (.cur w8), .lst 2 (x9.gG.gVars.map Ke) .no, .v (.int .i64 x9.gG.gMany), .v (.int .i64 x9.gAt), .lst 1 (x9.gPlaces.map eI64) (.cur v2)]) (rC (rC (rC (rO (rC (rC (rC WkR.nil)))))))) ?_
   refine rP (t' := []) [0] [0,0] 1 wN lN ?_
   exact ⟨w8, v2, rfl, rfl, rfl⟩
  ·replace hm := yes_f hc7 hm
   refine Kh ?_
   refine pu ?_
   refine pu ?_
   refine Kf ?_
   refine Kp rfl (fun hc11 => ?_) (fun hc11 => ?_)
   ·replace hm := yes_t hc11 hm
    refine Kr ?_
    refine pu ?_
    refine K3 (d := .agg [.v (.int .i64 a1.gOp), .v (.string a1.gName), .v (.string a1.gFunc), .lst 5 (a1.gExps.map Kn) .no, .lst 7 (a1.gKids.map Kg) .no, .lst 7 (a1.gElse.map Kg) .no, .v (.int .i64 a1.gAt)]) 1 htab rfl rfl rfl rfl rfl rfl rfl rfl ?_
    obtain ⟨x13, q13, hm⟩ := Kc hm
    refine KaM (Kbb (⟨m0.gG, m0.gAt, x2⟩ : Ka) (3 : Int) a1 o0 T0 k0_2 c0_3 (.cur v2) x13 q13) rfl rfl rfl rfl rfl (WkL.cons (Wk.refl _) (WkL.cons (Wk.refl _) (WkL.cons (Wk.trans (Wk.agg (WkR.refl _)) (Wk.of_eq (Kw a1).symm)) Wl))) Pf ((K2 (j := 1) rfl).trans (List.Perm.cons _ Pf)) ?_
    rintro _ _ _ ⟨w12, rfl, rfl, rfl⟩
    refine Kt ?_
    refine Kz ?_
    have er14 := Ki hm; subst er14
    refine retX.wk (WkS.bl0 (ds' := [.v (.string x13.gG.gFunc), .v (.int .i64 x13.gG.gNodes), .lst 6 (x13.gG.gEdges.map Km) (.cur w12), .lst 2 (x13.gG.gVars.map Ke) .no, .v (.int .i64 x13.gG.gMany), .v (.int .i64 x13.gAt), .lst 1 (x13.gPlaces.map eI64) (.cur v2)]) (rC (rC (rC (rO (rC (rC (rC WkR.nil)))))))) ?_
    refine rP (t' := []) [0] [0,0] 1 wN lN ?_
    exact ⟨w12, v2, rfl, rfl, rfl⟩
   ·replace hm := yes_f hc11 hm
    refine Kh ?_
    refine pu ?_
    refine pu ?_
    refine Kf ?_
    refine Kp rfl (fun hc15 => ?_) (fun hc15 => ?_)
    ·replace hm := yes_t hc15 hm
     refine Kr ?_
     refine pu ?_
     refine K3 (d := .agg [.v (.int .i64 a1.gOp), .v (.string a1.gName), .v (.string a1.gFunc), .lst 5 (a1.gExps.map Kn) .no, .lst 7 (a1.gKids.map Kg) .no, .lst 7 (a1.gElse.map Kg) .no, .v (.int .i64 a1.gAt)]) 1 htab rfl rfl rfl rfl rfl rfl rfl rfl ?_
     obtain ⟨x17, q17, hm⟩ := Kc hm
     refine KaM (Kbb (⟨m0.gG, m0.gAt, x2⟩ : Ka) (4 : Int) a1 o0 T0 k0_2 c0_3 (.cur v2) x17 q17) rfl rfl rfl rfl rfl (WkL.cons (Wk.refl _) (WkL.cons (Wk.refl _) (WkL.cons (Wk.trans (Wk.agg (WkR.refl _)) (Wk.of_eq (Kw a1).symm)) Wl))) Pf ((K2 (j := 1) rfl).trans (List.Perm.cons _ Pf)) ?_
     rintro _ _ _ ⟨w16, rfl, rfl, rfl⟩
     refine Kt ?_
     refine Kz ?_
     have er18 := Ki hm; subst er18
     refine retX.wk (WkS.bl0 (ds' := [.v (.string x17.gG.gFunc), .v (.int .i64 x17.gG.gNodes), .lst 6 (x17.gG.gEdges.map Km) (.cur w16), .lst 2 (x17.gG.gVars.map Ke) .no, .v (.int .i64 x17.gG.gMany), .v (.int .i64 x17.gAt), .lst 1 (x17.gPlaces.map eI64) (.cur v2)]) (rC (rC (rC (rO (rC (rC (rC WkR.nil)))))))) ?_
     refine rP (t' := []) [0] [0,0] 1 wN lN ?_
     exact ⟨w16, v2, rfl, rfl, rfl⟩
    ·replace hm := yes_f hc15 hm
     refine Kh ?_
     refine pu ?_
     refine pu ?_
     refine Kf ?_
     refine Kp rfl (fun hc19 => ?_) (fun hc19 => ?_)
     ·replace hm := yes_t hc19 hm
      refine Kr ?_
      refine pu ?_
      refine K3 (d := .agg [.v (.int .i64 a1.gOp), .v (.string a1.gName), .v (.string a1.gFunc), .lst 5 (a1.gExps.map Kn) .no, .lst 7 (a1.gKids.map Kg) .no, .lst 7 (a1.gElse.map Kg) .no, .v (.int .i64 a1.gAt)]) 1 htab rfl rfl rfl rfl rfl rfl rfl rfl ?_
      obtain ⟨x21, q21, hm⟩ := Kc hm
      refine KaM (Kbb (⟨m0.gG, m0.gAt, x2⟩ : Ka) (5 : Int) a1 o0 T0 k0_2 c0_3 (.cur v2) x21 q21) rfl rfl rfl rfl rfl (WkL.cons (Wk.refl _) (WkL.cons (Wk.refl _) (WkL.cons (Wk.trans (Wk.agg (WkR.refl _)) (Wk.of_eq (Kw a1).symm)) Wl))) Pf ((K2 (j := 1) rfl).trans (List.Perm.cons _ Pf)) ?_
      rintro _ _ _ ⟨w20, rfl, rfl, rfl⟩
      refine Kt ?_
      refine Kz ?_
      have er22 := Ki hm; subst er22
      refine retX.wk (WkS.bl0 (ds' := [.v (.string x21.gG.gFunc), .v (.int .i64 x21.gG.gNodes), .lst 6 (x21.gG.gEdges.map Km) (.cur w20), .lst 2 (x21.gG.gVars.map Ke) .no, .v (.int .i64 x21.gG.gMany), .v (.int .i64 x21.gAt), .lst 1 (x21.gPlaces.map eI64) (.cur v2)]) (rC (rC (rC (rO (rC (rC (rC WkR.nil)))))))) ?_
      refine rP (t' := []) [0] [0,0] 1 wN lN ?_
      exact ⟨w20, v2, rfl, rfl, rfl⟩
     ·replace hm := yes_f hc19 hm
      refine Kh ?_
      refine pu ?_
      refine pu ?_
      refine Kf ?_
      refine Kp rfl (fun hc23 => ?_) (fun hc23 => ?_)
      ·replace hm := yes_t hc23 hm
       refine Kr ?_
       refine pu ?_
       refine K3 (d := .agg [.v (.int .i64 a1.gOp), .v (.string a1.gName), .v (.string a1.gFunc), .lst 5 (a1.gExps.map Kn) .no, .lst 7 (a1.gKids.map Kg) .no, .lst 7 (a1.gElse.map Kg) .no, .v (.int .i64 a1.gAt)]) 1 htab rfl rfl rfl rfl rfl rfl rfl rfl ?_
       obtain ⟨x25, q25, hm⟩ := Kc hm
       refine KaM (Kbb (⟨m0.gG, m0.gAt, x2⟩ : Ka) (9 : Int) a1 o0 T0 k0_2 c0_3 (.cur v2) x25 q25) rfl rfl rfl rfl rfl (WkL.cons (Wk.refl _) (WkL.cons (Wk.refl _) (WkL.cons (Wk.trans (Wk.agg (WkR.refl _)) (Wk.of_eq (Kw a1).symm)) Wl))) Pf ((K2 (j := 1) rfl).trans (List.Perm.cons _ Pf)) ?_
       rintro _ _ _ ⟨w24, rfl, rfl, rfl⟩
       refine Kt ?_
       refine Kz ?_
       have er26 := Ki hm; subst er26
       refine retX.wk (WkS.bl0 (ds' := [.v (.string x25.gG.gFunc), .v (.int .i64 x25.gG.gNodes), .lst 6 (x25.gG.gEdges.map Km) (.cur w24), .lst 2 (x25.gG.gVars.map Ke) .no, .v (.int .i64 x25.gG.gMany), .v (.int .i64 x25.gAt), .lst 1 (x25.gPlaces.map eI64) (.cur v2)]) (rC (rC (rC (rO (rC (rC (rC WkR.nil)))))))) ?_
       refine rP (t' := []) [0] [0,0] 1 wN lN ?_
       exact ⟨w24, v2, rfl, rfl, rfl⟩
      ·replace hm := yes_f hc23 hm
       refine Kh ?_
       refine pu ?_
       refine pu ?_
       refine Kf ?_
       refine Kp rfl (fun hc27 => ?_) (fun hc27 => ?_)
       ·replace hm := yes_t hc27 hm
        refine Kr ?_
        refine pu ?_
        refine K3 (d := .agg [.v (.int .i64 a1.gOp), .v (.string a1.gName), .v (.string a1.gFunc), .lst 5 (a1.gExps.map Kn) .no, .lst 7 (a1.gKids.map Kg) .no, .lst 7 (a1.gElse.map Kg) .no, .v (.int .i64 a1.gAt)]) 1 htab rfl rfl rfl rfl rfl rfl rfl rfl ?_
        obtain ⟨x29, q29, hm⟩ := Kc hm
        refine KaM (Ke9 (⟨m0.gG, m0.gAt, x2⟩ : Ka) a1 o0 T0 k0_2 c0_3 (.cur v2) x29 q29) rfl rfl rfl rfl rfl (WkL.cons (Wk.refl _) (WkL.cons (Wk.trans (Wk.agg (WkR.refl _)) (Wk.of_eq (Kw a1).symm)) Wl)) Pf ((K2 (j := 1) rfl).trans (List.Perm.cons _ Pf)) ?_
        rintro _ _ _ ⟨w28, rfl, rfl, rfl⟩
        refine Kt ?_
        refine Kz ?_
        have er30 := Ki hm; subst er30
        refine retX.wk (WkS.bl0 (ds' := [.v (.string x29.gG.gFunc), .v (.int .i64 x29.gG.gNodes), .lst 6 (x29.gG.gEdges.map Km) (.cur w28), .lst 2 (x29.gG.gVars.map Ke) .no, .v (.int .i64 x29.gG.gMany), .v (.int .i64 x29.gAt), .lst 1 (x29.gPlaces.map eI64) (.cur v2)]) (rC (rC (rC (rO (rC (rC (rC WkR.nil)))))))) ?_
        refine rP (t' := []) [0] [0,0] 1 wN lN ?_
        exact ⟨w28, v2, rfl, rfl, rfl⟩
       ·replace hm := yes_f hc27 hm
        refine Kh ?_
        refine pu ?_
        refine pu ?_
        refine Kf ?_
        refine Kp rfl (fun hc31 => ?_) (fun hc31 => ?_)
        ·replace hm := yes_t hc31 hm
         refine Kr ?_
         refine pu ?_
         refine K3 (d := .agg [.v (.int .i64 a1.gOp), .v (.string a1.gName), .v (.string a1.gFunc), .lst 5 (a1.gExps.map Kn) .no, .lst 7 (a1.gKids.map Kg) .no, .lst 7 (a1.gElse.map Kg) .no, .v (.int .i64 a1.gAt)]) 1 htab rfl rfl rfl rfl rfl rfl rfl rfl ?_
         obtain ⟨x34, q34, hm⟩ := Kc hm
         refine KaM (hg2 (⟨m0.gG, m0.gAt, x2⟩ : Ka) a1 o0 T0 k0_2 c0_3 v2 x34 q34) rfl rfl rfl rfl rfl (WkL.cons (Wk.refl _) (WkL.cons (Wk.trans (Wk.agg (WkR.refl _)) (Wk.of_eq (Kw a1).symm)) Wl)) Pf ((K2 (j := 1) rfl).trans (List.Perm.cons _ ((K2 (j := 0) rfl).trans (List.Perm.cons _ Pf)))) ?_
         rintro _ _ _ ⟨w32, w33, rfl, rfl, rfl⟩
         refine Kt ?_
         refine Kz ?_
         have er35 := Ki hm; subst er35
         refine rP (t' := []) [0] [0,0] 1 wN lN ?_
         exact ⟨w32, w33, rfl, rfl, rfl⟩
        ·replace hm := yes_f hc31 hm
         refine Kh ?_
         refine pu ?_
         refine pu ?_
         refine Kf ?_
         refine Kp rfl (fun hc36 => ?_) (fun hc36 => ?_)
         ·replace hm := yes_t hc36 hm
          refine Kr ?_
          refine pu ?_
          refine K3 (d := .agg [.v (.int .i64 a1.gOp), .v (.string a1.gName), .v (.string a1.gFunc), .lst 5 (a1.gExps.map Kn) .no, .lst 7 (a1.gKids.map Kg) .no, .lst 7 (a1.gElse.map Kg) .no, .v (.int .i64 a1.gAt)]) 1 htab rfl rfl rfl rfl rfl rfl rfl rfl ?_
          obtain ⟨x39, q39, hm⟩ := Kc hm
          refine KaM (hg3 (⟨m0.gG, m0.gAt, x2⟩ : Ka) a1 o0 T0 k0_2 c0_3 v2 x39 q39) rfl rfl rfl rfl rfl (WkL.cons (Wk.refl _) (WkL.cons (Wk.trans (Wk.agg (WkR.refl _)) (Wk.of_eq (Kw a1).symm)) Wl)) Pf ((K2 (j := 1) rfl).trans (List.Perm.cons _ ((K2 (j := 0) rfl).trans (List.Perm.cons _ Pf)))) ?_
          rintro _ _ _ ⟨w37, w38, rfl, rfl, rfl⟩
          refine Kt ?_
          refine Kz ?_
          have er40 := Ki hm; subst er40
          refine rP (t' := []) [0] [0,0] 1 wN lN ?_
          exact ⟨w37, w38, rfl, rfl, rfl⟩
         ·replace hm := yes_f hc36 hm
          refine Ks ?_
          refine Kz ?_
          have er41 := Ki hm; subst er41
          refine retX.wk (WkS.bl0 (ds' := [.v (.string m0.gG.gFunc), .v (.int .i64 m0.gG.gNodes), .lst 6 (m0.gG.gEdges.map Km) (.cur k0_2), .lst 2 (m0.gG.gVars.map Ke) .no, .v (.int .i64 m0.gG.gMany), .v (.int .i64 m0.gAt), .lst 1 (x2.map eI64) (.cur v2)]) (rC (rC (rC (rO (rC (rC (rC WkR.nil)))))))) ?_
          refine rP (t' := []) [0] [1,0] 1 wN lN ?_
          exact ⟨k0_2, v2, rfl, rfl, rfl⟩
noncomputable def KaA (g0 : (Ka) → (List Kb) → Option (Ka)) (g1 : (Ka) → (Kb) → Option (Ka)) (g2 : (Ka) → (Kb) → Option (Ka)) (g3 : (Ka) → (Kb) → Option (Ka)) (m0 : Ka) (a1 : Kb) : Option (Ka) :=
 ((Kat m0).bind fun x2 => ((Kat x2.2).bind fun x3 => ((Kb0 a1).bind fun x4 => ((Kag x3.2 m0.gAt x2.1 (6 : Int) x4).bind fun x6 => ((Kb0 a1).bind fun x7 => ((Kag x6 m0.gAt x3.1 (7 : Int) x7).bind fun x9 => ((g0 (⟨x9.gG, x2.1, x9.gPlaces⟩ : Ka) a1.gKids).bind fun x12 => ((Kat x12).bind fun x13 => ((Kag x13.2 x13.2.gAt x13.1 (0 : Int) a1).bind fun x15 => ((g0 (⟨x15.gG, x3.1, x15.gPlaces⟩ : Ka) a1.gElse).bind fun x18 => ((Kag x18 x18.gAt x13.1 (0 : Int) a1).bind fun x20 => some (⟨x20.gG, x13.1, x20.gPlaces⟩ : Ka))))))))))))
theorem Kd9 (g0 : (Ka) → (List Kb) → Option (Ka)) (g1 : (Ka) → (Kb) → Option (Ka)) (g2 : (Ka) → (Kb) → Option (Ka)) (g3 : (Ka) → (Kb) → Option (Ka)) (hg0 : ∀ (m0 : Ka) (a1 : List Kb) (o0 : Nat) (T0 : TypeId) (k0_2 : Value) (c0_3 : Cap) (k0_6 : Value) (r : Ka) (h0 : g0 m0 a1 = some r), CallsD Tryz.prog 53 [.ptr o0 0, .lst 7 (a1.map Kg) .no] [(o0, Blk.cells [.v (.string m0.gG.gFunc), .v (.int .i64 m0.gG.gNodes), .lst 6 (m0.gG.gEdges.map Km) (.cur k0_2), .lst 2 (m0.gG.gVars.map Ke) c0_3, .v (.int .i64 m0.gG.gMany), .v (.int .i64 m0.gAt), .lst 1 (m0.gPlaces.map eI64) (.cur k0_6)] T0)] [(6, k0_2), (1, k0_6)] (fun d h k => ∃ y0 y1, d = .tup [] ∧ h = [(o0, Blk.cells [.v (.string r.gG.gFunc), .v (.int .i64 r.gG.gNodes), .lst 6 (r.gG.gEdges.map Km) (.cur y0), .lst 2 (r.gG.gVars.map Ke) .no, .v (.int .i64 r.gG.gMany), .v (.int .i64 r.gAt), .lst 1 (r.gPlaces.map eI64) (.cur y1)] T0)] ∧ k = [(6, y0), (1, y1)])) (hg1 : ∀ (m0 : Ka) (a1 : Kb) (o0 : Nat) (T0 : TypeId) (k0_2 : Value) (c0_3 : Cap) (k0_6 : Value) (r : Ka) (h0 : g1 m0 a1 = some r), CallsD Tryz.prog 65 [.ptr o0 0, Kg a1] [(o0, Blk.cells [.v (.string m0.gG.gFunc), .v (.int .i64 m0.gG.gNodes), .lst 6 (m0.gG.gEdges.map Km) (.cur k0_2), .lst 2 (m0.gG.gVars.map Ke) c0_3, .v (.int .i64 m0.gG.gMany), .v (.int .i64 m0.gAt), .lst 1 (m0.gPlaces.map eI64) (.cur k0_6)] T0)] [(6, k0_2), (1, k0_6)] (fun d h k => ∃ y0 y1, d = .tup [] ∧ h = [(o0, Blk.cells [.v (.string r.gG.gFunc), .v (.int .i64 r.gG.gNodes), .lst 6 (r.gG.gEdges.map Km) (.cur y0), .lst 2 (r.gG.gVars.map Ke) .no, .v (.int .i64 r.gG.gMany), .v (.int .i64 r.gAt), .lst 1 (r.gPlaces.map eI64) (.cur y1)] T0)] ∧ k = [(6, y0), (1, y1)])) (hg2 : ∀ (m0 : Ka) (a1 : Kb) (o0 : Nat) (T0 : TypeId) (k0_2 : Value) (c0_3 : Cap) (k0_6 : Value) (r : Ka) (h0 : g2 m0 a1 = some r), CallsD Tryz.prog 82 [.ptr o0 0, Kg a1] [(o0, Blk.cells [.v (.string m0.gG.gFunc), .v (.int .i64 m0.gG.gNodes), .lst 6 (m0.gG.gEdges.map Km) (.cur k0_2), .lst 2 (m0.gG.gVars.map Ke) c0_3, .v (.int .i64 m0.gG.gMany), .v (.int .i64 m0.gAt), .lst 1 (m0.gPlaces.map eI64) (.cur k0_6)] T0)] [(6, k0_2), (1, k0_6)] (fun d h k => ∃ y0 y1, d = .tup [] ∧ h = [(o0, Blk.cells [.v (.string r.gG.gFunc), .v (.int .i64 r.gG.gNodes), .lst 6 (r.gG.gEdges.map Km) (.cur y0), .lst 2 (r.gG.gVars.map Ke) .no, .v (.int .i64 r.gG.gMany), .v (.int .i64 r.gAt), .lst 1 (r.gPlaces.map eI64) (.cur y1)] T0)] ∧ k = [(6, y0), (1, y1)])) (hg3 : ∀ (m0 : Ka) (a1 : Kb) (o0 : Nat) (T0 : TypeId) (k0_2 : Value) (c0_3 : Cap) (k0_6 : Value) (r : Ka) (h0 : g3 m0 a1 = some r), CallsD Tryz.prog 83 [.ptr o0 0, Kg a1] [(o0, Blk.cells [.v (.string m0.gG.gFunc), .v (.int .i64 m0.gG.gNodes), .lst 6 (m0.gG.gEdges.map Km) (.cur k0_2), .lst 2 (m0.gG.gVars.map Ke) c0_3, .v (.int .i64 m0.gG.gMany), .v (.int .i64 m0.gAt), .lst 1 (m0.gPlaces.map eI64) (.cur k0_6)] T0)] [(6, k0_2), (1, k0_6)] (fun d h k => ∃ y0 y1, d = .tup [] ∧ h = [(o0, Blk.cells [.v (.string r.gG.gFunc), .v (.int .i64 r.gG.gNodes), .lst 6 (r.gG.gEdges.map Km) (.cur y0), .lst 2 (r.gG.gVars.map Ke) .no, .v (.int .i64 r.gG.gMany), .v (.int .i64 r.gAt), .lst 1 (r.gPlaces.map eI64) (.cur y1)] T0)] ∧ k = [(6, y0), (1, y1)])) (m0 : Ka) (a1 : Kb) (o0 : Nat) (T0 : TypeId) (k0_2 : Value) (c0_3 : Cap) (k0_6 : Value) (r : Ka) (h0 : KaA g0 g1 g2 g3 m0 a1 = some r) : CallsD Tryz.prog 82 [.ptr o0 0, Kg a1] [(o0, Blk.cells [.v (.string m0.gG.gFunc), .v (.int .i64 m0.gG.gNodes), .lst 6 (m0.gG.gEdges.map Km) (.cur k0_2), .lst 2 (m0.gG.gVars.map Ke) c0_3, .v (.int .i64 m0.gG.gMany), .v (.int .i64 m0.gAt), .lst 1 (m0.gPlaces.map eI64) (.cur k0_6)] T0)] [(6, k0_2), (1, k0_6)] (fun d h k => ∃ y0 y1, d = .tup [] ∧ h = [(o0, Blk.cells [.v (.string r.gG.gFunc), .v (.int .i64 r.gG.gNodes), .lst 6 (r.gG.gEdges.map Km) (.cur y0), .lst 2 (r.gG.gVars.map Ke) .no, .v (.int .i64 r.gG.gMany), .v (.int .i64 r.gAt), .lst 1 (r.gPlaces.map eI64) (.cur y1)] T0)] ∧ k = [(6, y0), (1, y1)]) := by
 have hm := Ku h0
 unfold KaA at hm
 clear h0
 refine K5 htab Tryz.func82 rfl rfl rfl rfl rfl (fun C => ?_)
 refine w_eq (i := 1) rfl (Wk.of_eq (Kw a1)) ?_
 refine Kh ?_
 refine p_box rfl rfl rfl rfl rfl rfl rfl (fun b1 => ?_)
 refine KL ?_
 iterate 3 refine pu ?_
 refine pL 0 ?_
 refine pu ?_
 refine KL ?_
 refine pu ?_
 obtain ⟨x2, q2, hm⟩ := Kc hm
 refine pG (KaL m0 o0 T0 (.cur k0_2) c0_3 (.cur k0_6) x2 q2) Wl Pf Pf ?_
 rintro _ _ _ ⟨rfl, rfl, rfl⟩
 refine pu ?_
 refine KL ?_
 refine pu ?_
 obtain ⟨x3, q3, hm⟩ := Kc hm
 refine pG (KaL x2.2 o0 T0 (.cur k0_2) c0_3 (.cur k0_6) x3 q3) Wl Pf Pf ?_
 rintro _ _ _ ⟨rfl, rfl, rfl⟩
 refine pu ?_
 refine KL ?_
 iterate 3 refine pu ?_
 refine K3 (d := .agg [.v (.int .i64 a1.gOp), .v (.string a1.gName), .v (.string a1.gFunc), .lst 5 (a1.gExps.map Kn) .no, .lst 7 (a1.gKids.map Kg) .no, .lst 7 (a1.gElse.map Kg) .no, .v (.int .i64 a1.gAt)]) 1 htab rfl rfl rfl rfl rfl rfl rfl rfl ?_
 obtain ⟨x4, q4, hm⟩ := Kc hm
 refine KT (Kdf a1 x4 q4) rfl rfl rfl rfl rfl (WkL.cons (Wk.trans (Wk.agg (WkR.refl _)) (Wk.of_eq (Kw a1).symm)) Wl) ?_
 rintro _ rfl
 refine p_eq (i := 20) rfl (Wk.of_eq (Kw x4)) ?_
 obtain ⟨x6, q6, hm⟩ := Kc hm
 refine KaM (Kam x3.2 m0.gAt x2.1 (6 : Int) x4 o0 T0 k0_2 c0_3 (.cur k0_6) x6 q6) rfl rfl rfl rfl rfl (WkL.cons (Wk.refl _) (WkL.cons (Wk.refl _) (WkL.cons (Wk.refl _) (WkL.cons (Wk.refl _) (WkL.cons (Wk.trans (Wk.agg (WkR.refl _)) (Wk.of_eq (Kw x4).symm)) Wl))))) Pf Pf ?_
 rintro _ _ _ ⟨w5, rfl, rfl, rfl⟩
 refine KL ?_
 iterate 3 refine pu ?_
 refine K3 (d := .agg [.v (.int .i64 a1.gOp), .v (.string a1.gName), .v (.string a1.gFunc), .lst 5 (a1.gExps.map Kn) .no, .lst 7 (a1.gKids.map Kg) .no, .lst 7 (a1.gElse.map Kg) .no, .v (.int .i64 a1.gAt)]) 1 htab rfl rfl rfl rfl rfl rfl rfl rfl ?_
 obtain ⟨x7, q7, hm⟩ := Kc hm
 refine KT (Kdf a1 x7 q7) rfl rfl rfl rfl rfl (WkL.cons (Wk.trans (Wk.agg (WkR.refl _)) (Wk.of_eq (Kw a1).symm)) Wl) ?_
 rintro _ rfl
 refine p_eq (i := 26) rfl (Wk.of_eq (Kw x7)) ?_
 obtain ⟨x9, q9, hm⟩ := Kc hm
 refine KaM (Kam x6 m0.gAt x3.1 (7 : Int) x7 o0 T0 w5 c0_3 (.cur k0_6) x9 q9) rfl rfl rfl rfl rfl (WkL.cons (Wk.refl _) (WkL.cons (Wk.refl _) (WkL.cons (Wk.refl _) (WkL.cons (Wk.refl _) (WkL.cons (Wk.trans (Wk.agg (WkR.refl _)) (Wk.of_eq (Kw x7).symm)) Wl))))) Pf Pf ?_
 rintro _ _ _ ⟨w8, rfl, rfl, rfl⟩
 refine KL ?_
 iterate 4 refine pu ?_
 refine pS0 (ds' := [.v (.string x9.gG.gFunc), .v (.int .i64 x9.gG.gNodes), .lst 6 (x9.gG.gEdges.map Km) (.cur w8), .lst 2 (x9.gG.gVars.map Ke) c0_3, .v (.int .i64 x9.gG.gMany), .v (.int .i64 x2.1), .lst 1 (x9.gPlaces.map eI64) (.cur k0_6)]) ?_
 refine KL ?_
 refine pu ?_
 refine pu ?_
 refine pL 1 ?_
 obtain ⟨x12, q12, hm⟩ := Kc hm
 refine pG (hg0 (⟨x9.gG, x2.1, x9.gPlaces⟩ : Ka) a1.gKids o0 T0 w8 c0_3 k0_6 x12 q12) Wl Pf Pf ?_
 rintro _ _ _ ⟨w10, w11, rfl, rfl, rfl⟩
 refine KL ?_
 refine pu ?_
 obtain ⟨x13, q13, hm⟩ := Kc hm
 refine pG (KaL x12 o0 T0 (.cur w10) .no (.cur w11) x13 q13) Wl Pf Pf ?_
 rintro _ _ _ ⟨rfl, rfl, rfl⟩
 refine pu ?_
 refine Kf ?_
 refine Ko ?_
 refine Kax 7 [] [[],[],[1],[1,2],[1,2,3],[],[]] [0,1,2,3,6] [[],[],[1],[1,2],[1,2,3],[],[],[0,1,2,3,4,5,6]] (by kernel_rfl) (by kernel_rfl) (by kernel_rfl) (by rfl) (by rfl) (by kernel_rfl) ?_
 iterate 5 apply Exists.intro
 intro bs
 iterate 4 refine zep ?_
 refine z_qM rfl rfl (KX 0 htab rfl rfl rfl rfl rfl) rfl rfl rfl rfl rfl rfl ?_
 refine zqp ?_
 refine z_eM rfl rfl (KX (d := .agg [.v (.int .i64 a1.gOp), .v (.string a1.gName), .v (.string a1.gFunc), .lst 5 (a1.gExps.map Kn) .no, .lst 7 (a1.gKids.map Kg) .no, .lst 7 (a1.gElse.map Kg) .no, .v (.int .i64 a1.gAt)]) 1 htab rfl rfl rfl rfl rfl) rfl rfl rfl rfl rfl rfl ?_
 refine z_nil rfl rfl (fun e he => by simp [isAl] at he) ?_
 obtain ⟨x15, q15, hm⟩ := Kc hm
 refine KaM (Kam x13.2 x13.2.gAt x13.1 (0 : Int) a1 o0 T0 w10 .no (.cur w11) x15 q15) rfl rfl rfl rfl rfl (WkL.cons (Wk.refl _) (WkL.cons (Wk.refl _) (WkL.cons (Wk.refl _) (WkL.cons (Wk.refl _) (WkL.cons (Wk.trans (Wk.agg (WkR.refl _)) (Wk.of_eq (Kw a1).symm)) Wl))))) Pf Pf ?_
 rintro _ _ _ ⟨w14, rfl, rfl, rfl⟩
 refine KL ?_
 iterate 4 refine pu ?_
 refine pS0 (ds' := [.v (.string x15.gG.gFunc), .v (.int .i64 x15.gG.gNodes), .lst 6 (x15.gG.gEdges.map Km) (.cur w14), .lst 2 (x15.gG.gVars.map Ke) .no, .v (.int .i64 x15.gG.gMany), .v (.int .i64 x3.1), .lst 1 (x15.gPlaces.map eI64) (.cur w11)]) ?_
 refine KL ?_
 refine pu ?_
 refine pu ?_
 refine pL 1 ?_
 obtain ⟨x18, q18, hm⟩ := Kc hm
 refine pG (hg0 (⟨x15.gG, x3.1, x15.gPlaces⟩ : Ka) a1.gElse o0 T0 w14 .no w11 x18 q18) Wl Pf Pf ?_
 rintro _ _ _ ⟨w16, w17, rfl, rfl, rfl⟩
 refine Kf ?_
 refine Ko ?_
 refine Kax 7 [] [[],[],[1],[1,2],[1,2,3],[],[]] [0,1,2,3,6] [[],[],[1],[1,2],[1,2,3],[],[],[0,1,2,3,4,5,6]] (by kernel_rfl) (by kernel_rfl) (by kernel_rfl) (by rfl) (by rfl) (by kernel_rfl) ?_
 iterate 5 apply Exists.intro
 intro bs
 iterate 4 refine zep ?_
 refine z_qM rfl rfl (KX 0 htab rfl rfl rfl rfl rfl) rfl rfl rfl rfl rfl rfl ?_
 refine zqp ?_
 refine z_eM rfl rfl (KX (d := .agg [.v (.int .i64 a1.gOp), .v (.string a1.gName), .v (.string a1.gFunc), .lst 5 (a1.gExps.map Kn) .no, .lst 7 (a1.gKids.map Kg) .no, .lst 7 (a1.gElse.map Kg) .no, .v (.int .i64 a1.gAt)]) 1 htab rfl rfl rfl rfl rfl) rfl rfl rfl rfl rfl rfl ?_
 refine z_nil rfl rfl (fun e he => by simp [isAl] at he) ?_
 obtain ⟨x20, q20, hm⟩ := Kc hm
 refine KaM (Kam x18 x18.gAt x13.1 (0 : Int) a1 o0 T0 w16 .no (.cur w17) x20 q20) rfl rfl rfl rfl rfl (WkL.cons (Wk.refl _) (WkL.cons (Wk.refl _) (WkL.cons (Wk.refl _) (WkL.cons (Wk.refl _) (WkL.cons (Wk.trans (Wk.agg (WkR.refl _)) (Wk.of_eq (Kw a1).symm)) Wl))))) Pf Pf ?_
 rintro _ _ _ ⟨w19, rfl, rfl, rfl⟩
 refine Kf ?_
 refine Kr ?_
 iterate 4 refine pu ?_
 refine pS0 (ds' := [.v (.string x20.gG.gFunc), .v (.int .i64 x20.gG.gNodes), .lst 6 (x20.gG.gEdges.map Km) (.cur w19), .lst 2 (x20.gG.gVars.map Ke) .no, .v (.int .i64 x20.gG.gMany), .v (.int .i64 x13.1), .lst 1 (x20.gPlaces.map eI64) (.cur w17)]) ?_
 refine Kt ?_
 have er21 := Ki hm; subst er21
 refine rP (t' := []) [0] [0,0] 1 wN lN ?_
 exact ⟨w19, w17, rfl, rfl, rfl⟩
noncomputable def KaS (g0 : (Ka) → (List Kb) → Option (Ka)) (g1 : (Ka) → (Kb) → Option (Ka)) (g2 : (Ka) → (Kb) → Option (Ka)) (g3 : (Ka) → (Kb) → Option (Ka)) (m0 : Ka) (a1 : Kb) : Option (Ka) :=
 ((Kat m0).bind fun x2 => ((Kag x2.2 x2.2.gAt x2.1 (0 : Int) a1).bind fun x4 => ((Kat x4).bind fun x5 => ((Kat x5.2).bind fun x6 => ((Kb0 a1).bind fun x7 => ((Kag x6.2 x2.1 x5.1 (6 : Int) x7).bind fun x9 => ((Kb0 a1).bind fun x10 => ((Kag x9 x2.1 x6.1 (7 : Int) x10).bind fun x12 => ((g0 (⟨x12.gG, x5.1, x12.gPlaces⟩ : Ka) a1.gKids).bind fun x15 => ((Kag x15 x15.gAt x2.1 (0 : Int) a1).bind fun x17 => some (⟨x17.gG, x6.1, x17.gPlaces⟩ : Ka)))))))))))
theorem KeR (g0 : (Ka) → (List Kb) → Option (Ka)) (g1 : (Ka) → (Kb) → Option (Ka)) (g2 : (Ka) → (Kb) → Option (Ka)) (g3 : (Ka) → (Kb) → Option (Ka)) (hg0 : ∀ (m0 : Ka) (a1 : List Kb) (o0 : Nat) (T0 : TypeId) (k0_2 : Value) (c0_3 : Cap) (k0_6 : Value) (r : Ka) (h0 : g0 m0 a1 = some r), CallsD Tryz.prog 53 [.ptr o0 0, .lst 7 (a1.map Kg) .no] [(o0, Blk.cells [.v (.string m0.gG.gFunc), .v (.int .i64 m0.gG.gNodes), .lst 6 (m0.gG.gEdges.map Km) (.cur k0_2), .lst 2 (m0.gG.gVars.map Ke) c0_3, .v (.int .i64 m0.gG.gMany), .v (.int .i64 m0.gAt), .lst 1 (m0.gPlaces.map eI64) (.cur k0_6)] T0)] [(6, k0_2), (1, k0_6)] (fun d h k => ∃ y0 y1, d = .tup [] ∧ h = [(o0, Blk.cells [.v (.string r.gG.gFunc), .v (.int .i64 r.gG.gNodes), .lst 6 (r.gG.gEdges.map Km) (.cur y0), .lst 2 (r.gG.gVars.map Ke) .no, .v (.int .i64 r.gG.gMany), .v (.int .i64 r.gAt), .lst 1 (r.gPlaces.map eI64) (.cur y1)] T0)] ∧ k = [(6, y0), (1, y1)])) (hg1 : ∀ (m0 : Ka) (a1 : Kb) (o0 : Nat) (T0 : TypeId) (k0_2 : Value) (c0_3 : Cap) (k0_6 : Value) (r : Ka) (h0 : g1 m0 a1 = some r), CallsD Tryz.prog 65 [.ptr o0 0, Kg a1] [(o0, Blk.cells [.v (.string m0.gG.gFunc), .v (.int .i64 m0.gG.gNodes), .lst 6 (m0.gG.gEdges.map Km) (.cur k0_2), .lst 2 (m0.gG.gVars.map Ke) c0_3, .v (.int .i64 m0.gG.gMany), .v (.int .i64 m0.gAt), .lst 1 (m0.gPlaces.map eI64) (.cur k0_6)] T0)] [(6, k0_2), (1, k0_6)] (fun d h k => ∃ y0 y1, d = .tup [] ∧ h = [(o0, Blk.cells [.v (.string r.gG.gFunc), .v (.int .i64 r.gG.gNodes), .lst 6 (r.gG.gEdges.map Km) (.cur y0), .lst 2 (r.gG.gVars.map Ke) .no, .v (.int .i64 r.gG.gMany), .v (.int .i64 r.gAt), .lst 1 (r.gPlaces.map eI64) (.cur y1)] T0)] ∧ k = [(6, y0), (1, y1)])) (hg2 : ∀ (m0 : Ka) (a1 : Kb) (o0 : Nat) (T0 : TypeId) (k0_2 : Value) (c0_3 : Cap) (k0_6 : Value) (r : Ka) (h0 : g2 m0 a1 = some r), CallsD Tryz.prog 82 [.ptr o0 0, Kg a1] [(o0, Blk.cells [.v (.string m0.gG.gFunc), .v (.int .i64 m0.gG.gNodes), .lst 6 (m0.gG.gEdges.map Km) (.cur k0_2), .lst 2 (m0.gG.gVars.map Ke) c0_3, .v (.int .i64 m0.gG.gMany), .v (.int .i64 m0.gAt), .lst 1 (m0.gPlaces.map eI64) (.cur k0_6)] T0)] [(6, k0_2), (1, k0_6)] (fun d h k => ∃ y0 y1, d = .tup [] ∧ h = [(o0, Blk.cells [.v (.string r.gG.gFunc), .v (.int .i64 r.gG.gNodes), .lst 6 (r.gG.gEdges.map Km) (.cur y0), .lst 2 (r.gG.gVars.map Ke) .no, .v (.int .i64 r.gG.gMany), .v (.int .i64 r.gAt), .lst 1 (r.gPlaces.map eI64) (.cur y1)] T0)] ∧ k = [(6, y0), (1, y1)])) (hg3 : ∀ (m0 : Ka) (a1 : Kb) (o0 : Nat) (T0 : TypeId) (k0_2 : Value) (c0_3 : Cap) (k0_6 : Value) (r : Ka) (h0 : g3 m0 a1 = some r), CallsD Tryz.prog 83 [.ptr o0 0, Kg a1] [(o0, Blk.cells [.v (.string m0.gG.gFunc), .v (.int .i64 m0.gG.gNodes), .lst 6 (m0.gG.gEdges.map Km) (.cur k0_2), .lst 2 (m0.gG.gVars.map Ke) c0_3, .v (.int .i64 m0.gG.gMany), .v (.int .i64 m0.gAt), .lst 1 (m0.gPlaces.map eI64) (.cur k0_6)] T0)] [(6, k0_2), (1, k0_6)] (fun d h k => ∃ y0 y1, d = .tup [] ∧ h = [(o0, Blk.cells [.v (.string r.gG.gFunc), .v (.int .i64 r.gG.gNodes), .lst 6 (r.gG.gEdges.map Km) (.cur y0), .lst 2 (r.gG.gVars.map Ke) .no, .v (.int .i64 r.gG.gMany), .v (.int .i64 r.gAt), .lst 1 (r.gPlaces.map eI64) (.cur y1)] T0)] ∧ k = [(6, y0), (1, y1)])) (m0 : Ka) (a1 : Kb) (o0 : Nat) (T0 : TypeId) (k0_2 : Value) (c0_3 : Cap) (k0_6 : Value) (r : Ka) (h0 : KaS g0 g1 g2 g3 m0 a1 = some r) : CallsD Tryz.prog 83 [.ptr o0 0, Kg a1] [(o0, Blk.cells [.v (.string m0.gG.gFunc), .v (.int .i64 m0.gG.gNodes), .lst 6 (m0.gG.gEdges.map Km) (.cur k0_2), .lst 2 (m0.gG.gVars.map Ke) c0_3, .v (.int .i64 m0.gG.gMany), .v (.int .i64 m0.gAt), .lst 1 (m0.gPlaces.map eI64) (.cur k0_6)] T0)] [(6, k0_2), (1, k0_6)] (fun d h k => ∃ y0 y1, d = .tup [] ∧ h = [(o0, Blk.cells [.v (.string r.gG.gFunc), .v (.int .i64 r.gG.gNodes), .lst 6 (r.gG.gEdges.map Km) (.cur y0), .lst 2 (r.gG.gVars.map Ke) .no, .v (.int .i64 r.gG.gMany), .v (.int .i64 r.gAt), .lst 1 (r.gPlaces.map eI64) (.cur y1)] T0)] ∧ k = [(6, y0), (1, y1)]) := by
 have hm := Ku h0
 unfold KaS at hm
 clear h0
 refine K5 htab Tryz.func83 rfl rfl rfl rfl rfl (fun C => ?_)
 refine w_eq (i := 1) rfl (Wk.of_eq (Kw a1)) ?_
 refine Kh ?_
 refine p_box rfl rfl rfl rfl rfl rfl rfl (fun b1 => ?_)
 refine KL ?_
 refine pu ?_
 obtain ⟨x2, q2, hm⟩ := Kc hm
 refine pG (KaL m0 o0 T0 (.cur k0_2) c0_3 (.cur k0_6) x2 q2) Wl Pf Pf ?_
 rintro _ _ _ ⟨rfl, rfl, rfl⟩
 refine pu ?_
 refine Kf ?_
 refine Ko ?_
 refine Kax 7 [] [[],[],[1],[1,2],[1,2,3],[],[]] [0,1,2,3,6] [[],[],[1],[1,2],[1,2,3],[],[],[0,1,2,3,4,5,6]] (by kernel_rfl) (by kernel_rfl) (by kernel_rfl) (by rfl) (by rfl) (by kernel_rfl) ?_
 iterate 5 apply Exists.intro
 intro bs
 iterate 4 refine zep ?_
 refine z_qM rfl rfl (KX 0 htab rfl rfl rfl rfl rfl) rfl rfl rfl rfl rfl rfl ?_
 refine zqp ?_
 refine z_eM rfl rfl (KX (d := .agg [.v (.int .i64 a1.gOp), .v (.string a1.gName), .v (.string a1.gFunc), .lst 5 (a1.gExps.map Kn) .no, .lst 7 (a1.gKids.map Kg) .no, .lst 7 (a1.gElse.map Kg) .no, .v (.int .i64 a1.gAt)]) 1 htab rfl rfl rfl rfl rfl) rfl rfl rfl rfl rfl rfl ?_
 refine z_nil rfl rfl (fun e he => by simp [isAl] at he) ?_
 obtain ⟨x4, q4, hm⟩ := Kc hm
 refine KaM (Kam x2.2 x2.2.gAt x2.1 (0 : Int) a1 o0 T0 k0_2 c0_3 (.cur k0_6) x4 q4) rfl rfl rfl rfl rfl (WkL.cons (Wk.refl _) (WkL.cons (Wk.refl _) (WkL.cons (Wk.refl _) (WkL.cons (Wk.refl _) (WkL.cons (Wk.trans (Wk.agg (WkR.refl _)) (Wk.of_eq (Kw a1).symm)) Wl))))) Pf Pf ?_
 rintro _ _ _ ⟨w3, rfl, rfl, rfl⟩
 refine KL ?_
 refine pu ?_
 obtain ⟨x5, q5, hm⟩ := Kc hm
 refine pG (KaL x4 o0 T0 (.cur w3) c0_3 (.cur k0_6) x5 q5) Wl Pf Pf ?_
 rintro _ _ _ ⟨rfl, rfl, rfl⟩
 refine pu ?_
 refine KL ?_
 refine pu ?_
 obtain ⟨x6, q6, hm⟩ := Kc hm
 refine pG (KaL x5.2 o0 T0 (.cur w3) c0_3 (.cur k0_6) x6 q6) Wl Pf Pf ?_
 rintro _ _ _ ⟨rfl, rfl, rfl⟩
 refine pu ?_
 refine KL ?_
 iterate 3 refine pu ?_
 refine K3 (d := .agg [.v (.int .i64 a1.gOp), .v (.string a1.gName), .v (.string a1.gFunc), .lst 5 (a1.gExps.map Kn) .no, .lst 7 (a1.gKids.map Kg) .no, .lst 7 (a1.gElse.map Kg) .no, .v (.int .i64 a1.gAt)]) 1 htab rfl rfl rfl rfl rfl rfl rfl rfl ?_
 obtain ⟨x7, q7, hm⟩ := Kc hm
 refine KT (Kdf a1 x7 q7) rfl rfl rfl rfl rfl (WkL.cons (Wk.trans (Wk.agg (WkR.refl _)) (Wk.of_eq (Kw a1).symm)) Wl) ?_
 rintro _ rfl
 refine p_eq (i := 25) rfl (Wk.of_eq (Kw x7)) ?_
 obtain ⟨x9, q9, hm⟩ := Kc hm
 refine KaM (Kam x6.2 x2.1 x5.1 (6 : Int) x7 o0 T0 w3 c0_3 (.cur k0_6) x9 q9) rfl rfl rfl rfl rfl (WkL.cons (Wk.refl _) (WkL.cons (Wk.refl _) (WkL.cons (Wk.refl _) (WkL.cons (Wk.refl _) (WkL.cons (Wk.trans (Wk.agg (WkR.refl _)) (Wk.of_eq (Kw x7).symm)) Wl))))) Pf Pf ?_
 rintro _ _ _ ⟨w8, rfl, rfl, rfl⟩
 refine KL ?_
 iterate 3 refine pu ?_
 refine K3 (d := .agg [.v (.int .i64 a1.gOp), .v (.string a1.gName), .v (.string a1.gFunc), .lst 5 (a1.gExps.map Kn) .no, .lst 7 (a1.gKids.map Kg) .no, .lst 7 (a1.gElse.map Kg) .no, .v (.int .i64 a1.gAt)]) 1 htab rfl rfl rfl rfl rfl rfl rfl rfl ?_
 obtain ⟨x10, q10, hm⟩ := Kc hm
 refine KT (Kdf a1 x10 q10) rfl rfl rfl rfl rfl (WkL.cons (Wk.trans (Wk.agg (WkR.refl _)) (Wk.of_eq (Kw a1).symm)) Wl) ?_
 rintro _ rfl
 refine p_eq (i := 31) rfl (Wk.of_eq (Kw x10)) ?_
 obtain ⟨x12, q12, hm⟩ := Kc hm
 refine KaM (Kam x9 x2.1 x6.1 (7 : Int) x10 o0 T0 w8 c0_3 (.cur k0_6) x12 q12) rfl rfl rfl rfl rfl (WkL.cons (Wk.refl _) (WkL.cons (Wk.refl _) (WkL.cons (Wk.refl _) (WkL.cons (Wk.refl _) (WkL.cons (Wk.trans (Wk.agg (WkR.refl _)) (Wk.of_eq (Kw x10).symm)) Wl))))) Pf Pf ?_
 rintro _ _ _ ⟨w11, rfl, rfl, rfl⟩
 refine KL ?_
 iterate 4 refine pu ?_
 refine pS0 (ds' := [.v (.string x12.gG.gFunc), .v (.int .i64 x12.gG.gNodes), .lst 6 (x12.gG.gEdges.map Km) (.cur w11), .lst 2 (x12.gG.gVars.map Ke) c0_3, .v (.int .i64 x12.gG.gMany), .v (.int .i64 x5.1), .lst 1 (x12.gPlaces.map eI64) (.cur k0_6)]) ?_
 refine KL ?_
 refine pu ?_
 refine pu ?_
 refine pL 1 ?_
 obtain ⟨x15, q15, hm⟩ := Kc hm
 refine pG (hg0 (⟨x12.gG, x5.1, x12.gPlaces⟩ : Ka) a1.gKids o0 T0 w11 c0_3 k0_6 x15 q15) Wl Pf Pf ?_
 rintro _ _ _ ⟨w13, w14, rfl, rfl, rfl⟩
 refine Kf ?_
 refine Ko ?_
 refine Kax 7 [] [[],[],[1],[1,2],[1,2,3],[],[]] [0,1,2,3,6] [[],[],[1],[1,2],[1,2,3],[],[],[0,1,2,3,4,5,6]] (by kernel_rfl) (by kernel_rfl) (by kernel_rfl) (by rfl) (by rfl) (by kernel_rfl) ?_
 iterate 5 apply Exists.intro
 intro bs
 iterate 4 refine zep ?_
 refine z_qM rfl rfl (KX 0 htab rfl rfl rfl rfl rfl) rfl rfl rfl rfl rfl rfl ?_
 refine zqp ?_
 refine z_eM rfl rfl (KX (d := .agg [.v (.int .i64 a1.gOp), .v (.string a1.gName), .v (.string a1.gFunc), .lst 5 (a1.gExps.map Kn) .no, .lst 7 (a1.gKids.map Kg) .no, .lst 7 (a1.gElse.map Kg) .no, .v (.int .i64 a1.gAt)]) 1 htab rfl rfl rfl rfl rfl) rfl rfl rfl rfl rfl rfl ?_
 refine z_nil rfl rfl (fun e he => by simp [isAl] at he) ?_
 obtain ⟨x17, q17, hm⟩ := Kc hm
 refine KaM (Kam x15 x15.gAt x2.1 (0 : Int) a1 o0 T0 w13 .no (.cur w14) x17 q17) rfl rfl rfl rfl rfl (WkL.cons (Wk.refl _) (WkL.cons (Wk.refl _) (WkL.cons (Wk.refl _) (WkL.cons (Wk.refl _) (WkL.cons (Wk.trans (Wk.agg (WkR.refl _)) (Wk.of_eq (Kw a1).symm)) Wl))))) Pf Pf ?_
 rintro _ _ _ ⟨w16, rfl, rfl, rfl⟩
 refine Kf ?_
 refine Kr ?_
 iterate 4 refine pu ?_
 refine pS0 (ds' := [.v (.string x17.gG.gFunc), .v (.int .i64 x17.gG.gNodes), .lst 6 (x17.gG.gEdges.map Km) (.cur w16), .lst 2 (x17.gG.gVars.map Ke) .no, .v (.int .i64 x17.gG.gMany), .v (.int .i64 x6.1), .lst 1 (x17.gPlaces.map eI64) (.cur w14)]) ?_
 refine Kt ?_
 have er18 := Ki hm; subst er18
 refine rP (t' := []) [0] [0,0] 1 wN lN ?_
 exact ⟨w16, w14, rfl, rfl, rfl⟩
noncomputable def Kj : Nat → ((Ka) → (List Kb) → Option (Ka)) × ((Ka) → (Kb) → Option (Ka)) × ((Ka) → (Kb) → Option (Ka)) × ((Ka) → (Kb) → Option (Ka))
 | 0 => (fun _ _ => none, fun _ _ => none, fun _ _ => none, fun _ _ => none)
 | n + 1 => (Ka1 ((Kj n).1) ((Kj n).2.1) ((Kj n).2.2.1) ((Kj n).2.2.2), KaR ((Kj n).1) ((Kj n).2.1) ((Kj n).2.2.1) ((Kj n).2.2.2), KaA ((Kj n).1) ((Kj n).2.1) ((Kj n).2.2.1) ((Kj n).2.2.2), KaS ((Kj n).1) ((Kj n).2.1) ((Kj n).2.2.1) ((Kj n).2.2.2))
theorem Kdm : ∀ n, (∀ (m0 : Ka) (a1 : List Kb) (o0 : Nat) (T0 : TypeId) (k0_2 : Value) (c0_3 : Cap) (k0_6 : Value) (r : Ka) (h0 : (Kj n).1 m0 a1 = some r), CallsD Tryz.prog 53 [.ptr o0 0, .lst 7 (a1.map Kg) .no] [(o0, Blk.cells [.v (.string m0.gG.gFunc), .v (.int .i64 m0.gG.gNodes), .lst 6 (m0.gG.gEdges.map Km) (.cur k0_2), .lst 2 (m0.gG.gVars.map Ke) c0_3, .v (.int .i64 m0.gG.gMany), .v (.int .i64 m0.gAt), .lst 1 (m0.gPlaces.map eI64) (.cur k0_6)] T0)] [(6, k0_2), (1, k0_6)] (fun d h k => ∃ y0 y1, d = .tup [] ∧ h = [(o0, Blk.cells [.v (.string r.gG.gFunc), .v (.int .i64 r.gG.gNodes), .lst 6 (r.gG.gEdges.map Km) (.cur y0), .lst 2 (r.gG.gVars.map Ke) .no, .v (.int .i64 r.gG.gMany), .v (.int .i64 r.gAt), .lst 1 (r.gPlaces.map eI64) (.cur y1)] T0)] ∧ k = [(6, y0), (1, y1)])) ∧ (∀ (m0 : Ka) (a1 : Kb) (o0 : Nat) (T0 : TypeId) (k0_2 : Value) (c0_3 : Cap) (k0_6 : Value) (r : Ka) (h0 : (Kj n).2.1 m0 a1 = some r), CallsD Tryz.prog 65 [.ptr o0 0, Kg a1] [(o0, Blk.cells [.v (.string m0.gG.gFunc), .v (.int .i64 m0.gG.gNodes), .lst 6 (m0.gG.gEdges.map Km) (.cur k0_2), .lst 2 (m0.gG.gVars.map Ke) c0_3, .v (.int .i64 m0.gG.gMany), .v (.int .i64 m0.gAt), .lst 1 (m0.gPlaces.map eI64) (.cur k0_6)] T0)] [(6, k0_2), (1, k0_6)] (fun d h k => ∃ y0 y1, d = .tup [] ∧ h = [(o0, Blk.cells [.v (.string r.gG.gFunc), .v (.int .i64 r.gG.gNodes), .lst 6 (r.gG.gEdges.map Km) (.cur y0), .lst 2 (r.gG.gVars.map Ke) .no, .v (.int .i64 r.gG.gMany), .v (.int .i64 r.gAt), .lst 1 (r.gPlaces.map eI64) (.cur y1)] T0)] ∧ k = [(6, y0), (1, y1)])) ∧ (∀ (m0 : Ka) (a1 : Kb) (o0 : Nat) (T0 : TypeId) (k0_2 : Value) (c0_3 : Cap) (k0_6 : Value) (r : Ka) (h0 : (Kj n).2.2.1 m0 a1 = some r), CallsD Tryz.prog 82 [.ptr o0 0, Kg a1] [(o0, Blk.cells [.v (.string m0.gG.gFunc), .v (.int .i64 m0.gG.gNodes), .lst 6 (m0.gG.gEdges.map Km) (.cur k0_2), .lst 2 (m0.gG.gVars.map Ke) c0_3, .v (.int .i64 m0.gG.gMany), .v (.int .i64 m0.gAt), .lst 1 (m0.gPlaces.map eI64) (.cur k0_6)] T0)] [(6, k0_2), (1, k0_6)] (fun d h k => ∃ y0 y1, d = .tup [] ∧ h = [(o0, Blk.cells [.v (.string r.gG.gFunc), .v (.int .i64 r.gG.gNodes), .lst 6 (r.gG.gEdges.map Km) (.cur y0), .lst 2 (r.gG.gVars.map Ke) .no, .v (.int .i64 r.gG.gMany), .v (.int .i64 r.gAt), .lst 1 (r.gPlaces.map eI64) (.cur y1)] T0)] ∧ k = [(6, y0), (1, y1)])) ∧ (∀ (m0 : Ka) (a1 : Kb) (o0 : Nat) (T0 : TypeId) (k0_2 : Value) (c0_3 : Cap) (k0_6 : Value) (r : Ka) (h0 : (Kj n).2.2.2 m0 a1 = some r), CallsD Tryz.prog 83 [.ptr o0 0, Kg a1] [(o0, Blk.cells [.v (.string m0.gG.gFunc), .v (.int .i64 m0.gG.gNodes), .lst 6 (m0.gG.gEdges.map Km) (.cur k0_2), .lst 2 (m0.gG.gVars.map Ke) c0_3, .v (.int .i64 m0.gG.gMany), .v (.int .i64 m0.gAt), .lst 1 (m0.gPlaces.map eI64) (.cur k0_6)] T0)] [(6, k0_2), (1, k0_6)] (fun d h k => ∃ y0 y1, d = .tup [] ∧ h = [(o0, Blk.cells [.v (.string r.gG.gFunc), .v (.int .i64 r.gG.gNodes), .lst 6 (r.gG.gEdges.map Km) (.cur y0), .lst 2 (r.gG.gVars.map Ke) .no, .v (.int .i64 r.gG.gMany), .v (.int .i64 r.gAt), .lst 1 (r.gPlaces.map eI64) (.cur y1)] T0)] ∧ k = [(6, y0), (1, y1)]))
  | 0 => ⟨(fun _ _ _ _ _ _ _ _ h0 => by cases h0), (fun _ _ _ _ _ _ _ _ h0 => by cases h0), (fun _ _ _ _ _ _ _ _ h0 => by cases h0), (fun _ _ _ _ _ _ _ _ h0 => by cases h0)⟩
  | n + 1 => by
    have ih := Kdm n
    exact ⟨Kfa ((Kj n).1) ((Kj n).2.1) ((Kj n).2.2.1) ((Kj n).2.2.2) (ih.1) (ih.2.1) (ih.2.2.1) (ih.2.2.2), KeQ ((Kj n).1) ((Kj n).2.1) ((Kj n).2.2.1) ((Kj n).2.2.2) (ih.1) (ih.2.1) (ih.2.2.1) (ih.2.2.2), Kd9 ((Kj n).1) ((Kj n).2.1) ((Kj n).2.2.1) ((Kj n).2.2.2) (ih.1) (ih.2.1) (ih.2.2.1) (ih.2.2.2), KeR ((Kj n).1) ((Kj n).2.1) ((Kj n).2.2.1) ((Kj n).2.2.2) (ih.1) (ih.2.1) (ih.2.2.1) (ih.2.2.2)⟩
theorem Kdn : ∀ n, (∀ (m0 : Ka) (a1 : List Kb), Le ((Kj n).1 m0 a1) ((Kj (n + 1)).1 m0 a1)) ∧ (∀ (m0 : Ka) (a1 : Kb), Le ((Kj n).2.1 m0 a1) ((Kj (n + 1)).2.1 m0 a1)) ∧ (∀ (m0 : Ka) (a1 : Kb), Le ((Kj n).2.2.1 m0 a1) ((Kj (n + 1)).2.2.1 m0 a1)) ∧ (∀ (m0 : Ka) (a1 : Kb), Le ((Kj n).2.2.2 m0 a1) ((Kj (n + 1)).2.2.2 m0 a1))
  | 0 => ⟨fun _ _ => Le.none _, fun _ _ => Le.none _, fun _ _ => Le.none _, fun _ _ => Le.none _⟩
  | n + 1 => by
    have ih := Kdn n
    exact ⟨fun m0 a1 => by show Le (Ka1 ((Kj n).1) ((Kj n).2.1) ((Kj n).2.2.1) ((Kj n).2.2.2) m0 a1) (Ka1 ((Kj (n + 1)).1) ((Kj (n + 1)).2.1) ((Kj (n + 1)).2.2.1) ((Kj (n + 1)).2.2.2) m0 a1); unfold Ka1; repeat (first | exact Le.refl _ | exact ih.1 _ _ | exact ih.2.1 _ _ | exact ih.2.2.1 _ _ | exact ih.2.2.2 _ _ | assumption | (refine Le.bind ?_ (fun _ => ?_)) | (refine Le.cond ?_ ?_) | (refine Le.loop (fun _ => ?_)) | (refine Le.elim (fun _ => ?_) (fun _ => ?_))), fun m0 a1 => by show Le (KaR ((Kj n).1) ((Kj n).2.1) ((Kj n).2.2.1) ((Kj n).2.2.2) m0 a1) (KaR ((Kj (n + 1)).1) ((Kj (n + 1)).2.1) ((Kj (n + 1)).2.2.1) ((Kj (n + 1)).2.2.2) m0 a1); unfold KaR; repeat (first | exact Le.refl _ | exact ih.1 _ _ | exact ih.2.1 _ _ | exact ih.2.2.1 _ _ | exact ih.2.2.2 _ _ | assumption | (refine Le.bind ?_ (fun _ => ?_)) | (refine Le.cond ?_ ?_) | (refine Le.loop (fun _ => ?_)) | (refine Le.elim (fun _ => ?_) (fun _ => ?_))), fun m0 a1 => by show Le (KaA ((Kj n).1) ((Kj n).2.1) ((Kj n).2.2.1) ((Kj n).2.2.2) m0 a1) (KaA ((Kj (n + 1)).1) ((Kj (n + 1)).2.1) ((Kj (n + 1)).2.2.1) ((Kj (n + 1)).2.2.2) m0 a1); unfold KaA; repeat (first | exact Le.refl _ | exact ih.1 _ _ | exact ih.2.1 _ _ | exact ih.2.2.1 _ _ | exact ih.2.2.2 _ _ | assumption | (refine Le.bind ?_ (fun _ => ?_)) | (refine Le.cond ?_ ?_) | (refine Le.loop (fun _ => ?_)) | (refine Le.elim (fun _ => ?_) (fun _ => ?_))), fun m0 a1 => by show Le (KaS ((Kj n).1) ((Kj n).2.1) ((Kj n).2.2.1) ((Kj n).2.2.2) m0 a1) (KaS ((Kj (n + 1)).1) ((Kj (n + 1)).2.1) ((Kj (n + 1)).2.2.1) ((Kj (n + 1)).2.2.2) m0 a1); unfold KaS; repeat (first | exact Le.refl _ | exact ih.1 _ _ | exact ih.2.1 _ _ | exact ih.2.2.1 _ _ | exact ih.2.2.2 _ _ | assumption | (refine Le.bind ?_ (fun _ => ?_)) | (refine Le.cond ?_ ?_) | (refine Le.loop (fun _ => ?_)) | (refine Le.elim (fun _ => ?_) (fun _ => ?_)))⟩
noncomputable def Kcv (m0 : Ka) (a1 : List Kb) : Option (Ka) := anyN fun n => (Kj n).1 m0 a1
theorem Kfz (m0 : Ka) (a1 : List Kb) {r : Ka} (n : Nat) (h : (Kj n).1 m0 a1 = some r) : Kcv m0 a1 = some r := anyN_of (fun m => (Kdn m).1 m0 a1) h
theorem KfA (m0 : Ka) (a1 : List Kb) (o0 : Nat) (T0 : TypeId) (k0_2 : Value) (c0_3 : Cap) (k0_6 : Value) (r : Ka) (h0 : Kcv m0 a1 = some r) : CallsD Tryz.prog 53 [.ptr o0 0, .lst 7 (a1.map Kg) .no] [(o0, Blk.cells [.v (.string m0.gG.gFunc), .v (.int .i64 m0.gG.gNodes), .lst 6 (m0.gG.gEdges.map Km) (.cur k0_2), .lst 2 (m0.gG.gVars.map Ke) c0_3, .v (.int .i64 m0.gG.gMany), .v (.int .i64 m0.gAt), .lst 1 (m0.gPlaces.map eI64) (.cur k0_6)] T0)] [(6, k0_2), (1, k0_6)] (fun d h k => ∃ y0 y1, d = .tup [] ∧ h = [(o0, Blk.cells [.v (.string r.gG.gFunc), .v (.int .i64 r.gG.gNodes), .lst 6 (r.gG.gEdges.map Km) (.cur y0), .lst 2 (r.gG.gVars.map Ke) .no, .v (.int .i64 r.gG.gMany), .v (.int .i64 r.gAt), .lst 1 (r.gPlaces.map eI64) (.cur y1)] T0)] ∧ k = [(6, y0), (1, y1)]) :=
 let ⟨n, hn⟩ := KfU h0; (Kdm n).1 m0 a1 o0 T0 k0_2 c0_3 k0_6 r hn
abbrev nlRn1_2 : List (List Nat) := nlD [] [(0,[]),(0,[0]),(0,[]),(0,[2]),(0,[]),(0,[4]),(4,[3,4,5]),(7,[6]),(0,[]),(0,[8]),(10,[9]),(2,[1,2,3,4,5,6,7,8,9,10]),(12,[11]),(13,[12]),(14,[13])]
noncomputable def Keo (a0 : Kaj) : Option (Ka) :=
 ((Kaw ([a0.gParams, a0.gLocals] : List (List K9))).bind fun x3 => ((Kcv (⟨(⟨a0.gName, (2 : Int), [], x3, (a0.gParams.length : Int)⟩ : KV), (0 : Int), []⟩ : Ka) a0.gBody).bind fun x13 => ((Kag x13 x13.gAt (1 : Int) (8 : Int) (⟨(0 : Int), ByteArray.empty, ByteArray.empty, ([(⟨(1 : Int), (0 : Int), ByteArray.empty, [], (0 : Int)⟩ : Kq)] : List Kq), [], [], (0 : Int)⟩ : Kb)).bind fun x15 => some x15)))
theorem flow_of_ok (a0 : Kaj) (r : Ka) (h0 : Keo a0 = some r) : CallsD Tryz.prog 41 [KH a0] [] [] (fun d h k => ∃ y0 y1 y2, d = .ptr y0 0 ∧ h = [(y0, Blk.cells [.v (.string r.gG.gFunc), .v (.int .i64 r.gG.gNodes), .lst 6 (r.gG.gEdges.map Km) (.cur y1), .lst 2 (r.gG.gVars.map Ke) .no, .v (.int .i64 r.gG.gMany), .v (.int .i64 r.gAt), .lst 1 (r.gPlaces.map eI64) (.cur y2)] 111)] ∧ k = [(6, y1), (1, y2)]) := by
 have hm := Ku h0
 unfold Keo at hm
 clear h0
 refine K5 htab Tryz.func41 rfl rfl rfl rfl rfl (fun C => ?_)
 refine Kh ?_
 refine p_box rfl rfl rfl rfl rfl rfl rfl (fun b1 => ?_)
 refine pu ?_
 refine Kf ?_
 refine Ko ?_
 obtain ⟨x3, q3, hm⟩ := Kc hm
 refine wpD_drawsT 11 [] [(7, 2)] [[],[0],[],[2],[],[4],[2,3,4,5],[2,3,4,5,6],[],[8],[8,9]] [0,2,3,4,5,6,7,8,9] nlRn1_2 (by kernel_rfl) (by kernel_rfl) (by kernel_rfl) (by rfl) (by rfl) (by kernel_rfl) ?_
 iterate 9 apply Exists.intro
 intro bs
 refine zt_e rfl rfl (KaY htab rfl) rfl rfl rfl rfl rfl rfl rfl ?_
 refine zt_qM rfl rfl (KX 0 htab rfl rfl rfl rfl rfl) rfl rfl rfl rfl rfl rfl ?_
 refine zt_e rfl rfl (KaY htab rfl) rfl rfl rfl rfl rfl rfl rfl ?_
 refine zt_eM rfl rfl (KX 0 htab rfl rfl rfl rfl rfl) rfl rfl rfl rfl rfl rfl rfl ?_
 refine zt_e rfl rfl (KaY htab rfl) rfl rfl rfl rfl rfl rfl rfl ?_
 refine zt_eM rfl rfl (KX 0 htab rfl rfl rfl rfl rfl) rfl rfl rfl rfl rfl rfl rfl ?_
 refine zt_E rfl rfl (ExE.wk (x_lit htab rfl rfl rfl rfl rfl rfl rfl rfl rfl rfl rfl) (show Wk _ (.lst 1 (([a0.gParams, a0.gLocals] : List (List K9)).map (eList 2 Ke)) .full) from Wk.lst0 (.cons (WkC.refl _) (.cons (WkC.refl _) (.nil))))) rfl rfl rfl rfl rfl rfl rfl ?_
 refine zt_callT rfl rfl (KcP ([a0.gParams, a0.gLocals] : List (List K9)) x3 q3) rfl rfl (WkL.cons (Wk.no) Wl) rfl rfl rfl rfl rfl (by simp) (by decide) rfl ?_
 refine zt_e rfl rfl (KaY htab rfl) rfl rfl rfl rfl rfl rfl rfl ?_
 refine zt_eM rfl rfl (KX 0 htab rfl rfl rfl rfl rfl) rfl rfl rfl rfl rfl rfl rfl ?_
 refine zt_q rfl rfl (x_lenL htab rfl rfl rfl rfl (by first | exact Kae | rfl)) rfl rfl rfl rfl rfl rfl ?_
 refine zt_nil (k' := [(2, (bs 7))]) rfl (fun e he => by simp [isT] at he; subst he; rfl) rfl rfl (fun e he => by simp [isAl] at he) ?_
 obtain ⟨w7, hw7⟩ : ∃ y, bs 7 = y := ⟨_, rfl⟩
 simp only [hw7]
 clear hw7
 refine Ka6 (r := [.v (.string a0.gName), .v (.int .i64 (2 : Int)), .lst 1 [] .full, .lst 2 (x3.map Ke) (.cur w7), .v (.int .i64 (a0.gParams.length : Int))]) htab rfl rfl rfl rfl rfl rfl rfl rfl rfl ?_
 refine Ka6 (r := [.v (.string a0.gName), .v (.int .i64 (2 : Int)), .lst 1 [] .full, .lst 2 (x3.map Ke) (.cur w7), .v (.int .i64 (a0.gParams.length : Int)), .v (.int .i64 (0 : Int)), .lst 1 [] .full]) htab rfl rfl rfl rfl rfl rfl rfl rfl rfl ?_
 refine p_box rfl rfl rfl rfl rfl rfl rfl (fun b8 => ?_)
 refine pu ?_
 refine KL ?_
 refine pu ?_
 refine pu ?_
 refine pL 0 ?_
 refine p_cellF (off := 2) 6 1 rfl rfl (by first | exact Or.inl rfl | exact Or.inr rfl) (fun w9 => ?_)
 refine p_cellF (off := 6) 1 1 rfl rfl (by first | exact Or.inl rfl | exact Or.inr rfl) (fun w10 => ?_)
 obtain ⟨x13, q13, hm⟩ := Kc hm
 refine pG (KfA (⟨(⟨a0.gName, (2 : Int), [], x3, (a0.gParams.length : Int)⟩ : KV), (0 : Int), []⟩ : Ka) a0.gBody b8 111 w9 (.cur w7) w10 x13 q13) Wl ((K2 (j := 1) rfl).trans (List.Perm.cons _ Pf)) ((K2 (j := 1) rfl).trans (List.Perm.cons _ ((K2 (j := 0) rfl).trans (List.Perm.cons _ Pf)))) ?_
 rintro _ _ _ ⟨w11, w12, rfl, rfl, rfl⟩
 refine KL ?_
 iterate 4 refine pu ?_
 refine pL 0 ?_
 refine Ka6 (r := [.v (.int .i64 (1 : Int)), .v (.int .i64 (0 : Int)), .v (.string ByteArray.empty), .lst 1 [] .full, .v (.int .i64 (0 : Int))]) htab rfl rfl rfl rfl rfl rfl rfl rfl rfl ?_
 refine p_lit htab rfl rfl rfl rfl rfl rfl rfl rfl rfl rfl rfl rfl rfl rfl ?_
 refine p_eq (i := 28) (d' := .lst 5 (([(⟨(1 : Int), (0 : Int), ByteArray.empty, [], (0 : Int)⟩ : Kq)] : List Kq).map Kn) .full) rfl (Wk.lst0 (.cons (WkC.trans (WkC.agg (rC (rC (rC (WkR.cons (WkC.nil) rfl (rC WkR.nil)))))) (WkC.of_eq (K0 (⟨(1 : Int), (0 : Int), ByteArray.empty, [], (0 : Int)⟩ : Kq)).symm)) (.nil))) ?_
 refine Ka6 (r := [.v (.int .i64 (0 : Int)), .v (.string ByteArray.empty), .v (.string ByteArray.empty), .lst 5 (([(⟨(1 : Int), (0 : Int), ByteArray.empty, [], (0 : Int)⟩ : Kq)] : List Kq).map Kn) .full, .lst 1 [] .full, .lst 1 [] .full, .v (.int .i64 (0 : Int))]) htab rfl rfl rfl rfl rfl rfl rfl rfl rfl ?_
 obtain ⟨x15, q15, hm⟩ := Kc hm
 refine KaM (Kam x13 x13.gAt (1 : Int) (8 : Int) (⟨(0 : Int), ByteArray.empty, ByteArray.empty, ([(⟨(1 : Int), (0 : Int), ByteArray.empty, [], (0 : Int)⟩ : Kq)] : List Kq), [], [], (0 : Int)⟩ : Kb) b8 111 w11 .no (.cur w12) x15 q15) rfl rfl rfl rfl rfl (WkL.cons (Wk.refl _) (WkL.cons (Wk.refl _) (WkL.cons (Wk.refl _) (WkL.cons (Wk.refl _) (WkL.cons (Wk.trans (Wk.agg (rC (rC (rC (rO (WkR.cons (WkC.nil) rfl (WkR.cons (WkC.nil) rfl (rC WkR.nil)))))))) (Wk.of_eq (Kw (⟨(0 : Int), ByteArray.empty, ByteArray.empty, ([(⟨(1 : Int), (0 : Int), ByteArray.empty, [], (0 : Int)⟩ : Kq)] : List Kq), [], [], (0 : Int)⟩ : Kb)).symm)) Wl))))) Pf Pf ?_
 rintro _ _ _ ⟨w14, rfl, rfl, rfl⟩
 refine KL ?_
 refine pu ?_
 refine pu ?_
 refine Kf ?_
 refine KA ?_
 have er16 := Ki hm; subst er16
 refine rP (t' := [(2, .ptr b8 0)]) [0] [0,0] 1 (wC wN) (lT lN) ?_
 exact ⟨b8, w14, w12, rfl, rfl, rfl⟩
noncomputable def Kcw (a0 : Kaj) : Option (KV) :=
 ((Keo a0).bind fun x6 => some x6.gG)
theorem KgR (a0 : Kaj) (r : KV) (h0 : Kcw a0 = some r) : CallsD Tryz.prog 26 [KH a0] [] [] (fun d h k => ∃ y0, d = .agg [.v (.string r.gFunc), .v (.int .i64 r.gNodes), .lst 6 (r.gEdges.map Km) (.cur y0), .lst 2 (r.gVars.map Ke) .no, .v (.int .i64 r.gMany)] ∧ h = [] ∧ k = [(6, y0)]) := by
 have hm := Ku h0
 unfold Kcw at hm
 clear h0
 refine K5 htab Tryz.func26 rfl rfl rfl rfl rfl (fun C => ?_)
 refine Kh ?_
 refine p_box rfl rfl rfl rfl rfl rfl rfl (fun b1 => ?_)
 refine Kak htab rfl rfl rfl rfl rfl rfl rfl (fun b2 => ?_)
 refine KL ?_
 refine K3 (d := KH a0) 0 htab rfl rfl rfl rfl rfl rfl rfl rfl ?_
 obtain ⟨x6, q6, hm⟩ := Kc hm
 refine pG (flow_of_ok a0 x6 q6) Wl Pf Pf ?_
 rintro _ _ _ ⟨w3, w4, w5, rfl, rfl, rfl⟩
 refine pu ?_
 refine pu ?_
 refine K3 (d := .agg [.v (.string x6.gG.gFunc), .v (.int .i64 x6.gG.gNodes), .lst 6 (x6.gG.gEdges.map Km) (.cur w4), .lst 2 (x6.gG.gVars.map Ke) .no, .v (.int .i64 x6.gG.gMany)]) 0 htab rfl rfl rfl rfl rfl rfl rfl rfl ?_
 refine pS2 (ds' := [.v (.string x6.gG.gFunc), .v (.int .i64 x6.gG.gNodes), .lst 6 (x6.gG.gEdges.map Km) (.cur w4), .lst 2 (x6.gG.gVars.map Ke) .no, .v (.int .i64 x6.gG.gMany)]) ?_
 refine Kf ?_
 refine KA ?_
 have er7 := Ki hm; subst er7
 refine rP (t' := [(2, .ptr b2 0)]) [2] [0] 0 (wC wN) (lC 0 lN) ?_
 exact ⟨w4, rfl, rfl, rfl⟩
theorem Kgj (a0 : Kaj) (r : KV) (h0 : Kcw a0 = some r) : CallsD Tryz.prog 26 [KH a0] [] [] (fun d h k => d = KQ r ∧ h = [] ∧ k = []) :=
 (KgR a0 r h0).drop fun d h k ⟨y0, e, _, _⟩ => by subst e; exact Wk.agg (WkR.cons (WkC.refl _) rfl (WkR.cons (WkC.refl _) rfl (WkR.cons (WkC.no) rfl (WkR.cons (WkC.refl _) rfl (WkR.cons (WkC.refl _) rfl (WkR.nil))))))
structure Kew where
 gSizes : List (ByteArray × Int)
 gWords : List (KK × Ky)
 gCells : List KK
end Go.Proofs.YtaclkgjnoaeihaaGreat.Ab
namespace Go.Proofs.YtaclkgjnoaeihaaGreat.Ab
open Go
set_option linter.all false
noncomputable def Kep (a0 : Kad) : Option (Kew) :=
 (Option.bind (α := List KK × List (ByteArray × Int) × List (KK × Ky)) (loopM (fun (s190 : Int × List KK × List (ByteArray × Int) × List (KK × Ky)) => (bif (decide (s190.1 < (a0.gGlobals.length : Int))) then ((idx a0.gGlobals s190.1).bind fun x329 => (bif (decide ((0 : Int) < (mgetD s190.2.2.1 x329.gName (0 : Int)))) then some (.next ((IntKind.i64.wrap (s190.1 + (1 : Int))), s190.2.1, s190.2.2.1, s190.2.2.2)) else (Option.bind (α := Bool) (bif (!x329.gPtr) then some (decide ((0 : Int) < x329.gSize)) else some false) fun y333 => (Option.bind (α := Int) (bif y333 then some x329.gSize else some (1 : Int)) fun y336 => (Option.bind (α := List KK × List (KK × Ky)) (loopM (fun (s355 : Int × List KK × List (KK × Ky)) => (bif (decide (s355.1 < y336)) then ((app 24 s355.2.1 ([(⟨x329.gName, s355.1⟩ : KK)] : List KK)).bind fun x370 => some (.next ((IntKind.i64.wrap (s355.1 + (1 : Int))), x370, (mput s355.2.2 (⟨x329.gName, s355.1⟩ : KK) (⟨x329.gPtr, (0 : Int), (⟨ByteArray.empty, (0 : Int)⟩ : KK)⟩ : Ky))))) else some (.done (s355.2.1, s355.2.2)))) ((0 : Int), s190.2.1, s190.2.2.2)) fun y354 => some (.next ((IntKind.i64.wrap (s190.1 + (1 : Int))), y354.1, (mput s190.2.2.1 x329.gName y336), y354.2))))))) else some (.done (s190.2.1, s190.2.2.1, s190.2.2.2)))) ((0 : Int), ([] : List KK), ([] : List (ByteArray × Int)), ([] : List (KK × Ky)))) fun y189 => some (⟨y189.2.1, y189.2.2, y189.1⟩ : Kew))
theorem mem_New_ok (a0 : Kad) (r : Kew) (h0 : Kep a0 = some r) : CallsD Tryz.prog 24 [Ka8 a0] [] [] (fun d h k => ∃ y0 y1 y2 y3, d = .ptr y0 0 ∧ h = [(y0, Blk.cells [.v (.map (some y1)), .v (.map (some y2)), .lst 2 (r.gCells.map KaZ) (.cur y3)] 70), (y1, Blk.mp (r.gSizes.map fun p => ((fun s : ByteArray => Value.string s) p.1, eI64 p.2))), (y2, Blk.mp (r.gWords.map fun p => ((fun a => Value.agg (Ka3 a).toArray) p.1, K4 p.2)))] ∧ k = [(2, y3)]) := by
 have hm := Ku h0
 unfold Kep at hm
 clear h0
 refine K5 htab Tryz.func24 rfl rfl rfl rfl rfl (fun C => ?_)
 refine Kh ?_
 refine p_box rfl rfl rfl rfl rfl rfl rfl (fun b1 => ?_)
 refine pu ?_
 refine KL ?_
 refine Kd2 rfl rfl rfl rfl (fun b2 => ?_)
 refine Kd2 rfl rfl rfl rfl (fun b3 => ?_)
 refine Ka6 (r := [.v (.map (some b2)), .v (.map (some b3)), .lst 1 [] .full]) htab rfl rfl rfl rfl rfl rfl rfl rfl rfl ?_
 refine p_box rfl rfl rfl rfl rfl rfl rfl (fun b4 => ?_)
 refine pu ?_
 refine Kf ?_
 refine Ko ?_
 refine Kh ?_
 refine pu ?_
 refine pL 2 ?_
 refine Kao htab rfl rfl rfl rfl rfl rfl rfl (by first | exact Kae | rfl) ?_
 refine pu ?_
 refine Kf ?_
 obtain ⟨y189, q189, ho189⟩ := Kc hm
 refine KP (Y := Value) (fun z189 => (⟨[(3, .ptr b4 0)], [(b3, Blk.mp (y189.2.2.map fun p => ((fun a => Value.agg (Ka3 a).toArray) p.1, K4 p.2))), (b2, Blk.mp (y189.2.1.map fun p => ((fun s : ByteArray => Value.string s) p.1, eI64 p.2))), (b4, Blk.cells [.v (.map (some b2)), .v (.map (some b3)), .lst 2 (y189.1.map KaZ) (.cur z189)] 70)], [(2, z189)]⟩ : S)) ?_ ?_
 ·clear hm; have hm := Ku q189
  refine KC ?_
  obtain ⟨u190, hl190, hq190⟩ := yes_m hm
  refine KaW (Y := Value) hl190 (fun s190 z190 => (⟨[(3, .ptr b4 0), (14, .lst 4 (a0.gGlobals.map KE) .no), (15, .v (.int .i64 (a0.gGlobals.length : Int))), (16, .v (.int .i64 s190.1))], [(b3, Blk.mp (s190.2.2.2.map fun p => ((fun a => Value.agg (Ka3 a).toArray) p.1, K4 p.2))), (b2, Blk.mp (s190.2.2.1.map fun p => ((fun s : ByteArray => Value.string s) p.1, eI64 p.2))), (b4, Blk.cells [.v (.map (some b2)), .v (.map (some b3)), .lst 2 (s190.2.1.map KaZ) (.cur z190)] 70)], [(2, z190)]⟩ : S)) ?_ ?_
  ·skip
   refine WkX.cellF (off := 2) 2 3 rfl rfl (by first | exact Or.inl rfl | exact Or.inr rfl) (fun w327 => ?_)
   exact WkX.of w327 (WkS.perm (WkS.cons rfl (Wk.refl _) (WkS.cons rfl (Wk.refl _) (WkS.cons rfl (Wk.refl _) (WkS.cons rfl (Wk.refl _) (WkS.nil))))) ((K2 (j := 0) rfl).trans (List.Perm.cons _ ((K2 (j := 0) rfl).trans (List.Perm.cons _ ((K2 (j := 1) rfl).trans (List.Perm.cons _ Pf)))))) Pf)
  ·intro G190 s190 z190 hm
   refine Kh ?_
   refine pu ?_
   refine Kf ?_
   refine Ko ?_
   refine Kp rfl (fun hc328 => ?_) (fun hc328 => ?_)
   ·replace hm := yes_t hc328 hm
    refine Ks ?_
    refine Kd ?_
    refine Ko ?_
    refine KC ?_
    refine Kh ?_
    obtain ⟨x329, q329, hm⟩ := Kc hm
    refine KaB htab rfl rfl rfl rfl rfl rfl rfl rfl rfl rfl (KM q329) (K8 q329) ?_
    refine Kai (d := KE x329) htab rfl rfl rfl rfl rfl rfl rfl rfl ?_
    refine Kak htab rfl rfl rfl rfl rfl rfl rfl (fun b330 => ?_)
    refine pS3 (ds' := [.v (.string x329.gName), .v (.bool x329.gPtr), .v (.int .i64 x329.gSize), .v (.int .i64 x329.gAt)]) ?_
    refine Kf ?_
    refine Ko ?_
    refine Ko ?_
    refine Kax 6 [] [[],[0],[0,1],[0,1,2],[],[4]] [0,1,2,3,4] [[],[0],[0,1],[0,1,2],[],[4],[0,1,2,3,4,5],[0,1,2,3,4,5,6]] (by kernel_rfl) (by kernel_rfl) (by kernel_rfl) (by rfl) (by rfl) (by kernel_rfl) ?_
    iterate 5 apply Exists.intro
    intro bs
    iterate 3 refine zep ?_
    refine z_eM rfl rfl (KX 2 htab rfl rfl rfl rfl rfl) rfl rfl rfl rfl rfl rfl ?_
    refine zep ?_
    refine z_qM rfl rfl (KX 3 htab rfl rfl rfl rfl rfl) rfl rfl rfl rfl rfl rfl ?_
    refine z_nil rfl rfl (fun e he => by simp [isAl] at he) ?_
    refine KcO (l := s190.2.2.1) (f := (fun s : ByteArray => Value.string s)) (e := eI64) (kk := x329.gName) (z := (0 : Int)) (dr := .v (.int .i64 (mgetD s190.2.2.1 x329.gName (0 : Int)))) 1 htab rfl rfl rfl rfl rfl rfl rfl rfl rfl rfl mk66 (fun H v h => KO h) mz66 mr66 rfl ?_
    refine pu ?_
    refine Kf ?_
    refine Kp rfl (fun hc331 => ?_) (fun hc331 => ?_)
    ·replace hm := yes_t hc331 hm
     refine Kal ?_
     refine KJ ?_
     refine Kaf ?_
     refine Kd ?_
     refine Kr ?_
     refine pu ?_
     refine pu ?_
     refine Kt ?_
     refine Kd ⟨_, Kas hm, ?_⟩
     exact WkX.of z190 (WkS.perm (WkS.cons rfl (Wk.refl _) (WkS.cons rfl (Wk.refl _) (WkS.cons rfl (Wk.refl _) (WkS.cons rfl (Wk.refl _) (WkS.nil))))) Pf Pf)
    ·replace hm := yes_f hc331 hm
     refine Ks ?_
     refine Kd ?_
     refine Kh ?_
     refine pu ?_
     refine Kf ?_
     refine Ko ?_
     refine Ko ?_
     obtain ⟨y333, q333, ho333⟩ := Kc hm
     refine KP (Y := Unit) (fun z333 => (⟨[(3, .ptr b4 0), (5, .ptr b330 0), (6, .v (.int .i64 (1 : Int))), (14, .lst 4 (a0.gGlobals.map KE) .no), (15, .v (.int .i64 (a0.gGlobals.length : Int))), (16, .v (.int .i64 s190.1)), (35, .v (.bool y333))], [(b3, Blk.mp (s190.2.2.2.map fun p => ((fun a => Value.agg (Ka3 a).toArray) p.1, K4 p.2))), (b2, Blk.mp (s190.2.2.1.map fun p => ((fun s : ByteArray => Value.string s) p.1, eI64 p.2))), (b4, Blk.cells [.v (.map (some b2)), .v (.map (some b3)), .lst 2 (s190.2.1.map KaZ) (.cur z190)] 70), (b330, Blk.cells [.v (.string x329.gName), .v (.bool x329.gPtr), .v (.int .i64 x329.gSize), .v (.int .i64 x329.gAt)] 109)], [(2, z190)]⟩ : S)) ?_ ?_
     ·clear hm; have hm := Ku q333
      refine Kr ?_
      refine pu ?_
      refine pL 3 ?_
      refine pu ?_
      refine pu ?_
      refine KbR (i := 31) rfl (fun hg334 => ?_) (fun hg334 => ?_)
      ·replace hm := yes_t hg334 hm
       refine pu ?_
       refine pL 3 ?_
       refine pu ?_
       refine KbP rfl rfl rfl rfl rfl rfl ?_
       refine Kt ?_
       have e333 := Ki hm; subst e333
       refine ⟨rfl, ?_⟩
       exact WkX.of () (WkS.perm (WkS.cons rfl (Wk.refl _) (WkS.cons rfl (Wk.refl _) (WkS.cons rfl (Wk.refl _) (WkS.cons rfl (Wk.refl _) (WkS.cons rfl (Wk.refl _) (WkS.cons rfl (Wk.refl _) (WkS.cons rfl (Wk.refl _) (WkS.nil)))))))) Pf Pf)
      ·replace hm := yes_f hg334 hm
       iterate 3 refine pK ?_
       refine KbQ rfl rfl rfl rfl rfl rfl ?_
       refine Kt ?_
       have e333 := Ki hm; subst e333
       refine ⟨rfl, ?_⟩
       exact WkX.of () (WkS.perm (WkS.cons rfl (Wk.refl _) (WkS.cons rfl (Wk.refl _) (WkS.cons rfl (Wk.refl _) (WkS.cons rfl (Wk.refl _) (WkS.cons rfl (Wk.refl _) (WkS.cons rfl (Wk.refl _) (WkS.cons rfl (Wk.refl _) (WkS.nil)))))))) Pf Pf)
     ·intro s333 hw333; clear hm; have hm := ho333; clear q333 ho333
      refine Kd ?_
      refine KY hw333 (fun z333 => ?_)
      obtain ⟨y336, q336, ho336⟩ := Kc hm
      refine KP (Y := Unit) (fun z336 => (⟨[(3, .ptr b4 0), (5, .ptr b330 0), (6, .v (.int .i64 y336)), (14, .lst 4 (a0.gGlobals.map KE) .no), (15, .v (.int .i64 (a0.gGlobals.length : Int))), (16, .v (.int .i64 s190.1))], [(b3, Blk.mp (s190.2.2.2.map fun p => ((fun a => Value.agg (Ka3 a).toArray) p.1, K4 p.2))), (b2, Blk.mp (s190.2.2.1.map fun p => ((fun s : ByteArray => Value.string s) p.1, eI64 p.2))), (b4, Blk.cells [.v (.map (some b2)), .v (.map (some b3)), .lst 2 (s190.2.1.map KaZ) (.cur z190)] 70), (b330, Blk.cells [.v (.string x329.gName), .v (.bool x329.gPtr), .v (.int .i64 x329.gSize), .v (.int .i64 x329.gAt)] 109)], [(2, z190)]⟩ : S)) ?_ ?_
      ·clear hm; have hm := Ku q336
       refine Kp rfl (fun hc337 => ?_) (fun hc337 => ?_)
       ·replace hm := yes_t hc337 hm
        refine Kr ?_
        refine pu ?_
        refine pL 3 ?_
        refine pu ?_
        refine Kt ?_
        have e336 := Ki hm; subst e336
        refine ⟨rfl, ?_⟩
        exact WkX.of () (WkS.perm (WkS.cons rfl (Wk.refl _) (WkS.cons rfl (Wk.refl _) (WkS.cons rfl (Wk.refl _) (WkS.cons rfl (Wk.refl _) (WkS.cons rfl (Wk.refl _) (WkS.cons rfl (Wk.refl _) (WkS.nil))))))) Pf Pf)
       ·replace hm := yes_f hc337 hm
        refine Ks ?_
        have e336 := Ki hm; subst e336
        refine ⟨rfl, ?_⟩
        exact WkX.of () (WkS.perm (WkS.cons rfl (Wk.refl _) (WkS.cons rfl (Wk.refl _) (WkS.cons rfl (Wk.refl _) (WkS.cons rfl (Wk.refl _) (WkS.cons rfl (Wk.refl _) (WkS.cons rfl (Wk.refl _) (WkS.nil))))))) Pf Pf)
      ·intro s336 hw336; clear hm; have hm := ho336; clear q336 ho336
       refine Kd ?_
       refine KY hw336 (fun z336 => ?_)
       refine Ko ?_
       refine Kax 7 [] [[],[0],[0,1],[0,1,2],[],[4],[]] [0,1,2,3,4] [[],[0],[0,1],[0,1,2],[],[4],[],[0,1,2,3,4,5,6]] (by kernel_rfl) (by kernel_rfl) (by kernel_rfl) (by rfl) (by rfl) (by kernel_rfl) ?_
       iterate 5 apply Exists.intro
       intro bs
       iterate 3 refine zep ?_
       refine z_eM rfl rfl (KX 2 htab rfl rfl rfl rfl rfl) rfl rfl rfl rfl rfl rfl ?_
       refine zep ?_
       refine z_qM rfl rfl (KX 3 htab rfl rfl rfl rfl rfl) rfl rfl rfl rfl rfl rfl ?_
       refine zqp ?_
       refine z_nil rfl rfl (fun e he => by simp [isAl] at he) ?_
       refine KcC (l := s190.2.2.1) (f := (fun s : ByteArray => Value.string s)) (e := eI64) (kk := x329.gName) (vv := y336) (h' := [(b3, Blk.mp (s190.2.2.2.map fun p => ((fun a => Value.agg (Ka3 a).toArray) p.1, K4 p.2))), (b2, Blk.mp ((mput s190.2.2.1 x329.gName y336).map fun p => ((fun s : ByteArray => Value.string s) p.1, eI64 p.2))), (b4, Blk.cells [.v (.map (some b2)), .v (.map (some b3)), .lst 2 (s190.2.1.map KaZ) (.cur z190)] 70), (b330, Blk.cells [.v (.string x329.gName), .v (.bool x329.gPtr), .v (.int .i64 x329.gSize), .v (.int .i64 x329.gAt)] 109)]) 1 htab rfl rfl rfl rfl rfl rfl rfl rfl rfl rfl mk66 (fun H v h => KO h) (Wk.refl _) rfl ?_
       refine KL ?_
       refine pu ?_
       refine pu ?_
       refine Kf ?_
       obtain ⟨y354, q354, ho354⟩ := Kc hm
       refine KP (Y := Value) (fun z354 => (⟨[(3, .ptr b4 0), (14, .lst 4 (a0.gGlobals.map KE) .no), (15, .v (.int .i64 (a0.gGlobals.length : Int))), (16, .v (.int .i64 s190.1))], [(b3, Blk.mp (y354.2.map fun p => ((fun a => Value.agg (Ka3 a).toArray) p.1, K4 p.2))), (b2, Blk.mp ((mput s190.2.2.1 x329.gName y336).map fun p => ((fun s : ByteArray => Value.string s) p.1, eI64 p.2))), (b4, Blk.cells [.v (.map (some b2)), .v (.map (some b3)), .lst 2 (y354.1.map KaZ) (.cur z354)] 70)], [(2, z354)]⟩ : S)) ?_ ?_
       ·clear hm; have hm := Ku q354
        refine KC ?_
        obtain ⟨u355, hl355, hq355⟩ := yes_m hm
        refine KaW (Y := Value) hl355 (fun s355 z355 => (⟨[(3, .ptr b4 0), (5, .ptr b330 0), (14, .lst 4 (a0.gGlobals.map KE) .no), (15, .v (.int .i64 (a0.gGlobals.length : Int))), (16, .v (.int .i64 s190.1)), (45, .v (.int .i64 y336)), (46, .v (.int .i64 s355.1))], [(b3, Blk.mp (s355.2.2.map fun p => ((fun a => Value.agg (Ka3 a).toArray) p.1, K4 p.2))), (b2, Blk.mp ((mput s190.2.2.1 x329.gName y336).map fun p => ((fun s : ByteArray => Value.string s) p.1, eI64 p.2))), (b4, Blk.cells [.v (.map (some b2)), .v (.map (some b3)), .lst 2 (s355.2.1.map KaZ) (.cur z355)] 70), (b330, Blk.cells [.v (.string x329.gName), .v (.bool x329.gPtr), .v (.int .i64 x329.gSize), .v (.int .i64 x329.gAt)] 109)], [(2, z355)]⟩ : S)) ?_ ?_
        ·skip
         exact WkX.of z190 (WkS.perm (WkS.cons rfl (Wk.refl _) (WkS.cons rfl (Wk.refl _) (WkS.cons rfl (Wk.refl _) (WkS.cons rfl (Wk.refl _) (WkS.cons rfl (Wk.refl _) (WkS.cons rfl (Wk.refl _) (WkS.cons rfl (Wk.refl _) (WkS.nil)))))))) Pf Pf)
        ·intro G355 s355 z355 hm
         refine Kh ?_
         refine pu ?_
         refine Kf ?_
         refine Ko ?_
         refine Kp rfl (fun hc368 => ?_) (fun hc368 => ?_)
         ·replace hm := yes_t hc368 hm
          refine Ks ?_
          refine Kd ?_
          refine Ko ?_
          refine KC ?_
          refine Kh ?_
          refine pu ?_
          refine pu ?_
          refine KL ?_
          refine pu ?_
          refine pL 3 ?_
          refine pu ?_
          refine Ka6 (r := [.v (.string x329.gName), .v (.int .i64 s355.1)]) htab rfl rfl rfl rfl rfl rfl rfl rfl rfl ?_
          refine Kak htab rfl rfl rfl rfl rfl rfl rfl (fun b369 => ?_)
          refine pS4 (ds' := [.v (.string x329.gName), .v (.int .i64 s355.1)]) ?_
          refine Kf ?_
          refine Ko ?_
          refine Kax 8 [] [[],[0],[0,1],[0,1,2],[],[],[5],[5]] [0,1,2,3,4,5,7] [[],[0],[0,1],[0,1,2],[],[],[5],[5,6],[0,1,2,3,4,5,6,7]] (by kernel_rfl) (by kernel_rfl) (by kernel_rfl) (by rfl) (by rfl) (by kernel_rfl) ?_
          iterate 7 apply Exists.intro
          intro bs
          iterate 3 refine zep ?_
          refine z_eM rfl rfl (KX 2 htab rfl rfl rfl rfl rfl) rfl rfl rfl rfl rfl rfl ?_
          refine z_eM rfl rfl (KX (d := KaZ (⟨x329.gName, s355.1⟩ : KK)) 4 htab rfl rfl rfl rfl rfl) rfl rfl rfl rfl rfl rfl ?_
          refine zep ?_
          refine z_qM rfl rfl (KX 3 htab rfl rfl rfl rfl rfl) rfl rfl rfl rfl rfl rfl ?_
          refine z_e rfl rfl (x_build (r := [.v (.bool x329.gPtr), .v (.int .i64 (0 : Int)), .v (.string ByteArray.empty), .v (.int .i64 (0 : Int))]) htab rfl rfl rfl rfl rfl rfl) rfl rfl rfl rfl rfl rfl ?_
          refine z_nil rfl rfl (fun e he => by simp [isAl] at he) ?_
          refine KcC (l := s355.2.2) (f := (fun a => Value.agg (Ka3 a).toArray)) (e := K4) (kk := (⟨x329.gName, s355.1⟩ : KK)) (vv := (⟨x329.gPtr, (0 : Int), (⟨ByteArray.empty, (0 : Int)⟩ : KK)⟩ : Ky)) (h' := [(b3, Blk.mp ((mput s355.2.2 (⟨x329.gName, s355.1⟩ : KK) (⟨x329.gPtr, (0 : Int), (⟨ByteArray.empty, (0 : Int)⟩ : KK)⟩ : Ky)).map fun p => ((fun a => Value.agg (Ka3 a).toArray) p.1, K4 p.2))), (b2, Blk.mp ((mput s190.2.2.1 x329.gName y336).map fun p => ((fun s : ByteArray => Value.string s) p.1, eI64 p.2))), (b4, Blk.cells [.v (.map (some b2)), .v (.map (some b3)), .lst 2 (s355.2.1.map KaZ) (.cur z355)] 70), (b330, Blk.cells [.v (.string x329.gName), .v (.bool x329.gPtr), .v (.int .i64 x329.gSize), .v (.int .i64 x329.gAt)] 109), (b369, Blk.cells [.v (.string x329.gName), .v (.int .i64 s355.1)] 23)]) 0 htab rfl rfl rfl rfl rfl rfl rfl rfl rfl rfl mk67 (fun H v h => rep_va_inv (us := Ka3 (⟨x329.gName, s355.1⟩ : KK)) h) (Wk.refl _) rfl ?_
          refine Kf ?_
          obtain ⟨x370, q370, hm⟩ := Kc hm
          refine Kfy 8 [] [[],[],[1],[1,2],[1,2,3],[],[5],[1,2,3,4,5,6]] [0,1,2,3,4,5,6,7] [[],[],[1],[1,2],[1,2,3],[],[5],[1,2,3,4,5,6],[0,1,2,3,4,5,6,7],[0,1,2,3,4,5,6,7,8],[0,1,2,3,4,5,6,7,8,9]] 7 2 0 (by kernel_rfl) (by kernel_rfl) (by kernel_rfl) (by rfl) (by rfl) (by kernel_rfl) rfl ?_
          iterate 8 apply Exists.intro
          refine ⟨.any, ?_⟩
          intro bs v370
          iterate 4 refine zh_e rfl rfl (KaY htab rfl) rfl rfl rfl rfl rfl rfl rfl rfl ?_
          refine zh_M rfl rfl (fun _ => KX 2 htab rfl rfl rfl rfl rfl) (offB rfl) rfl rfl rfl rfl rfl rfl rfl rfl ?_
          refine zh_M rfl rfl (fun _ => KX (d := KaZ (⟨x329.gName, s355.1⟩ : KK)) 4 htab rfl rfl rfl rfl rfl) (offB rfl) rfl rfl rfl rfl rfl rfl rfl rfl ?_
          refine zh_E rfl rfl (ExE.wk (x_lit htab rfl rfl rfl rfl rfl rfl rfl rfl rfl rfl rfl) (show Wk _ (.lst 2 (([(⟨x329.gName, s355.1⟩ : KK)] : List KK).map KaZ) .full) from Wk.lst0 (.cons (WkC.refl _) (.nil)))) rfl rfl rfl rfl rfl rfl rfl rfl ?_
          refine zh_app htab rfl rfl rfl rfl rfl rfl rfl rfl (rep_of rfl) rfl (app_kC rfl) (K2 (j := 0) rfl) rfl rfl rfl rfl rfl rfl rfl rfl rfl (KbZ q370) (KdF q370) ?_
          refine zh_nil rfl rfl rfl rfl (fun e he => by simp [isAl] at he) ?_
          refine pu ?_
          refine pu ?_
          refine pS2 (ds' := [.v (.map (some b2)), .v (.map (some b3)), .lst 2 (x370.map KaZ) (.cur v370)]) ?_
          refine Kt ?_
          refine Kz ?_
          refine Kd ?_
          refine Kr ?_
          refine pu ?_
          refine pu ?_
          refine Kt ?_
          refine Kd ⟨_, Kas hm, ?_⟩
          exact WkX.of v370 (WkS.perm (WkS.cons rfl (Wk.refl _) (WkS.cons rfl (Wk.refl _) (WkS.cons rfl (Wk.refl _) (WkS.cons rfl (Wk.refl _) (WkS.cons rfl (Wk.refl _) (WkS.cons rfl (Wk.refl _) (WkS.cons rfl (Wk.refl _) (WkS.nil)))))))) Pf Pf)
         ·replace hm := yes_f hc368 hm
          refine Kal ?_
          refine KJ ?_
          have e355 := Kab hm; subst e355; clear hm; have hm := hq355
          refine KJ ?_
          refine Kaf ?_
          have e354 := Ki hm; subst e354
          refine ⟨rfl, ?_⟩
          exact WkX.of z355 (WkS.perm (WkS.cons rfl (Wk.refl _) (WkS.cons rfl (Wk.refl _) (WkS.cons rfl (Wk.refl _) (WkS.cons rfl (Wk.refl _) (WkS.nil))))) Pf Pf)
       ·intro s354 hw354; clear hm; have hm := ho354; clear q354 ho354
        refine Kz ?_
        refine Kd ?_
        refine KY hw354 (fun z354 => ?_)
        refine Kr ?_
        refine pu ?_
        refine pu ?_
        refine Kt ?_
        refine Kd ⟨_, Kas hm, ?_⟩
        exact WkX.of z354 (WkS.perm (WkS.cons rfl (Wk.refl _) (WkS.cons rfl (Wk.refl _) (WkS.cons rfl (Wk.refl _) (WkS.cons rfl (Wk.refl _) (WkS.nil))))) Pf Pf)
   ·replace hm := yes_f hc328 hm
    refine Kal ?_
    refine KJ ?_
    have e190 := Kab hm; subst e190; clear hm; have hm := hq190
    refine KJ ?_
    refine Kaf ?_
    have e189 := Ki hm; subst e189
    refine ⟨rfl, ?_⟩
    exact WkX.of z190 (WkS.perm (WkS.cons rfl (Wk.refl _) (WkS.nil)) Pf Pf)
 ·intro s189 hw189; clear hm; have hm := ho189; clear q189 ho189
  refine Kd ?_
  refine KY hw189 (fun z189 => ?_)
  refine Kh ?_
  refine pu ?_
  refine pu ?_
  refine Kf ?_
  refine KA ?_
  have er371 := Ki hm; subst er371
  refine rP (t' := [(2, .ptr b4 0)]) [2,1,0] [0] 3 (wC wN) (lT lN) ?_
  exact ⟨b4, b2, b3, z189, rfl, rfl, rfl⟩
structure Kdl where
 gVars : List K9
 gWords : List Ky
noncomputable def KdR (a0 : KV) (a1 : List Ky) : Option (Kdl) :=
 ((Kbn a0.gVars).bind fun x3 => (Option.bind (α := List Ky) (loopM (fun (s50 : Int × List Ky) => (bif (decide (s50.1 < (a0.gVars.length : Int))) then ((idx a0.gVars s50.1).bind fun x81 => (Option.bind (α := Bool) (bif (decide (s50.1 < (a1.length : Int))) then some (decide (s50.1 < a0.gMany)) else some false) fun y85 => (Option.bind (α := Bool × Int × ByteArray × Int) (bif y85 then ((idx a1 s50.1).bind fun x91 => some (x91.gPtr, x91.gN, x91.gTo.gName, x91.gTo.gAt)) else some (x81.gPtr, (0 : Int), ByteArray.empty, (0 : Int))) fun y89 => ((app 40 s50.2 ([(⟨y89.1, y89.2.1, (⟨y89.2.2.1, y89.2.2.2⟩ : KK)⟩ : Ky)] : List Ky)).bind fun x92 => some (.next ((IntKind.i64.wrap (s50.1 + (1 : Int))), x92)))))) else some (.done s50.2))) ((0 : Int), ([] : List Ky))) fun y49 => some (⟨x3, y49⟩ : Kdl)))
theorem Kg8 (a0 : KV) (a1 : List Ky) (r : Kdl) (h0 : KdR a0 a1 = some r) : CallsD Tryz.prog 44 [KQ a0, .lst 4 (a1.map K4) .no] [] [] (fun d h k => ∃ y0 y1 y2, d = .ptr y0 0 ∧ h = [(y0, Blk.cells [.lst 2 (r.gVars.map Ke) (.cur y1), .lst 4 (r.gWords.map K4) (.cur y2)] 64)] ∧ k = [(2, y1), (4, y2)]) := by
 have hm := Ku h0
 unfold KdR at hm
 clear h0
 refine K5 htab Tryz.func44 rfl rfl rfl rfl rfl (fun C => ?_)
 refine Kh ?_
 refine p_box rfl rfl rfl rfl rfl rfl rfl (fun b1 => ?_)
 refine pu ?_
 refine KL ?_
 refine pu ?_
 refine pL 0 ?_
 obtain ⟨x3, q3, hm⟩ := Kc hm
 refine pG (Kc2 a0.gVars x3 q3) Wl Pf Pf ?_
 rintro _ _ _ ⟨w2, rfl, rfl, rfl⟩
 refine Ka6 (r := [.lst 2 (x3.map Ke) (.cur w2), .lst 1 [] .full]) htab rfl rfl rfl rfl rfl rfl rfl rfl rfl ?_
 refine p_box rfl rfl rfl rfl rfl rfl rfl (fun b4 => ?_)
 refine pu ?_
 refine Kf ?_
 refine Ko ?_
 refine Kh ?_
 refine pu ?_
 refine pL 0 ?_
 refine Kao htab rfl rfl rfl rfl rfl rfl rfl (by first | exact Kae | rfl) ?_
 refine pu ?_
 refine Kf ?_
 obtain ⟨y49, q49, ho49⟩ := Kc hm
 refine KP (Y := Value) (fun z49 => (⟨[(5, .ptr b4 0)], [(b4, Blk.cells [.lst 2 (x3.map Ke) (.cur w2), .lst 4 (y49.map K4) (.cur z49)] 64)], [(4, z49), (2, w2)]⟩ : S)) ?_ ?_
 ·clear hm; have hm := Ku q49
  refine KC ?_
  obtain ⟨u50, hl50, hq50⟩ := yes_m hm
  refine KaW (Y := Value) hl50 (fun s50 z50 => (⟨[(1, .lst 4 (a1.map K4) .no), (2, .ptr b1 0), (5, .ptr b4 0), (15, .lst 2 (a0.gVars.map Ke) .no), (16, .v (.int .i64 (a0.gVars.length : Int))), (17, .v (.int .i64 s50.1))], [(b1, Blk.cells [.v (.string a0.gFunc), .v (.int .i64 a0.gNodes), .lst 6 (a0.gEdges.map Km) .no, .lst 2 (a0.gVars.map Ke) .no, .v (.int .i64 a0.gMany)] 43), (b4, Blk.cells [.lst 2 (x3.map Ke) (.cur w2), .lst 4 (s50.2.map K4) (.cur z50)] 64)], [(4, z50), (2, w2)]⟩ : S)) ?_ ?_
  ·skip
   refine WkX.cellF (off := 1) 4 1 rfl rfl (by first | exact Or.inl rfl | exact Or.inr rfl) (fun w79 => ?_)
   exact WkX.of w79 (WkS.perm (WkS.cons rfl (Wk.refl _) (WkS.cons rfl (Wk.refl _) (WkS.cons rfl (Wk.refl _) (WkS.cons rfl (Wk.refl _) (WkS.cons rfl (Wk.refl _) (WkS.cons rfl (Wk.refl _) (WkS.nil))))))) Pf Pf)
  ·intro G50 s50 z50 hm
   refine Kh ?_
   refine pu ?_
   refine Kf ?_
   refine Ko ?_
   refine Kp rfl (fun hc80 => ?_) (fun hc80 => ?_)
   ·replace hm := yes_t hc80 hm
    refine Ks ?_
    refine Kd ?_
    refine Ko ?_
    refine KC ?_
    refine Kh ?_
    refine pu ?_
    obtain ⟨x81, q81, hm⟩ := Kc hm
    refine KaB htab rfl rfl rfl rfl rfl rfl rfl rfl rfl rfl (KM q81) (K8 q81) ?_
    refine Kai (d := Ke x81) htab rfl rfl rfl rfl rfl rfl rfl rfl ?_
    refine Kak htab rfl rfl rfl rfl rfl rfl rfl (fun b82 => ?_)
    refine pu ?_
    refine pS2 (ds' := [.v (.string x81.gName), .v (.bool x81.gPtr)]) ?_
    refine KL ?_
    refine pu ?_
    refine pL 2 ?_
    refine Ka6 (r := [.v (.bool x81.gPtr), .v (.int .i64 (0 : Int)), .v (.string ByteArray.empty), .v (.int .i64 (0 : Int))]) htab rfl rfl rfl rfl rfl rfl rfl rfl rfl ?_
    refine Kak htab rfl rfl rfl rfl rfl rfl rfl (fun b83 => ?_)
    refine pS3 (ds' := [.v (.bool x81.gPtr), .v (.int .i64 (0 : Int)), .v (.string ByteArray.empty), .v (.int .i64 (0 : Int))]) ?_
    refine Kf ?_
    refine Ko ?_
    refine Ko ?_
    obtain ⟨y85, q85, ho85⟩ := Kc hm
    refine KP (Y := Unit) (fun z85 => (⟨[(1, .lst 4 (a1.map K4) .no), (2, .ptr b1 0), (5, .ptr b4 0), (6, .v (.int .i64 s50.1)), (8, .ptr b83 0), (15, .lst 2 (a0.gVars.map Ke) .no), (16, .v (.int .i64 (a0.gVars.length : Int))), (17, .v (.int .i64 s50.1)), (34, .v (.bool y85))], [(b1, Blk.cells [.v (.string a0.gFunc), .v (.int .i64 a0.gNodes), .lst 6 (a0.gEdges.map Km) .no, .lst 2 (a0.gVars.map Ke) .no, .v (.int .i64 a0.gMany)] 43), (b4, Blk.cells [.lst 2 (x3.map Ke) (.cur w2), .lst 4 (s50.2.map K4) (.cur z50)] 64), (b83, Blk.cells [.v (.bool x81.gPtr), .v (.int .i64 (0 : Int)), .v (.string ByteArray.empty), .v (.int .i64 (0 : Int))] 28)], [(4, z50), (2, w2)]⟩ : S)) ?_ ?_
    ·clear hm; have hm := Ku q85
     refine Kr ?_
     refine pu ?_
     refine pu ?_
     refine Kao htab rfl rfl rfl rfl rfl rfl rfl (by first | exact Kae | rfl) ?_
     refine pu ?_
     refine pu ?_
     refine KbR (i := 29) rfl (fun hg86 => ?_) (fun hg86 => ?_)
     ·replace hm := yes_t hg86 hm
      refine pu ?_
      refine pu ?_
      refine pL 0 ?_
      refine pu ?_
      refine KbP rfl rfl rfl rfl rfl rfl ?_
      refine Kt ?_
      have e85 := Ki hm; subst e85
      refine ⟨rfl, ?_⟩
      exact WkX.of () (WkS.perm (WkS.cons rfl (Wk.refl _) (WkS.cons rfl (Wk.refl _) (WkS.cons rfl (Wk.refl _) (WkS.cons rfl (Wk.refl _) (WkS.cons rfl (Wk.refl _) (WkS.cons rfl (Wk.refl _) (WkS.cons rfl (Wk.refl _) (WkS.cons rfl (Wk.refl _) (WkS.cons rfl (Wk.refl _) (WkS.nil)))))))))) ((K2 (j := 0) rfl).trans (List.Perm.cons _ ((K2 (j := 0) rfl).trans (List.Perm.cons _ ((K2 (j := 1) rfl).trans (List.Perm.cons _ Pf)))))) Pf)
     ·replace hm := yes_f hg86 hm
      iterate 4 refine pK ?_
      refine KbQ rfl rfl rfl rfl rfl rfl ?_
      refine Kt ?_
      have e85 := Ki hm; subst e85
      refine ⟨rfl, ?_⟩
      exact WkX.of () (WkS.perm (WkS.cons rfl (Wk.refl _) (WkS.cons rfl (Wk.refl _) (WkS.cons rfl (Wk.refl _) (WkS.cons rfl (Wk.refl _) (WkS.cons rfl (Wk.refl _) (WkS.cons rfl (Wk.refl _) (WkS.cons rfl (Wk.refl _) (WkS.cons rfl (Wk.refl _) (WkS.cons rfl (Wk.refl _) (WkS.nil)))))))))) ((K2 (j := 0) rfl).trans (List.Perm.cons _ ((K2 (j := 0) rfl).trans (List.Perm.cons _ ((K2 (j := 1) rfl).trans (List.Perm.cons _ Pf)))))) Pf)
    ·intro s85 hw85; clear hm; have hm := ho85; clear q85 ho85
     refine Kd ?_
     refine KY hw85 (fun z85 => ?_)
     obtain ⟨y89, q89, ho89⟩ := Kc hm
     refine KP (Y := Unit) (fun z89 => (⟨[(1, .lst 4 (a1.map K4) .no), (2, .ptr b1 0), (5, .ptr b4 0), (8, .ptr b83 0), (15, .lst 2 (a0.gVars.map Ke) .no), (16, .v (.int .i64 (a0.gVars.length : Int))), (17, .v (.int .i64 s50.1))], [(b1, Blk.cells [.v (.string a0.gFunc), .v (.int .i64 a0.gNodes), .lst 6 (a0.gEdges.map Km) .no, .lst 2 (a0.gVars.map Ke) .no, .v (.int .i64 a0.gMany)] 43), (b4, Blk.cells [.lst 2 (x3.map Ke) (.cur w2), .lst 4 (s50.2.map K4) (.cur z50)] 64), (b83, Blk.cells [.v (.bool y89.1), .v (.int .i64 y89.2.1), .v (.string y89.2.2.1), .v (.int .i64 y89.2.2.2)] 28)], [(4, z50), (2, w2)]⟩ : S)) ?_ ?_
     ·clear hm; have hm := Ku q89
      refine Kp rfl (fun hc90 => ?_) (fun hc90 => ?_)
      ·replace hm := yes_t hc90 hm
       refine Kr ?_
       refine pu ?_
       refine pu ?_
       obtain ⟨x91, q91, hm⟩ := Kc hm
       refine KaB htab rfl rfl rfl rfl rfl rfl rfl rfl rfl rfl (KM q91) (K8 q91) ?_
       refine Kai (d := K4 x91) htab rfl rfl rfl rfl rfl rfl rfl rfl ?_
       refine pS2 (ds' := [.v (.bool x91.gPtr), .v (.int .i64 x91.gN), .v (.string x91.gTo.gName), .v (.int .i64 x91.gTo.gAt)]) ?_
       refine Kt ?_
       have e89 := Ki hm; subst e89
       refine ⟨rfl, ?_⟩
       exact WkX.of () (WkS.perm (WkS.cons rfl (Wk.refl _) (WkS.cons rfl (Wk.refl _) (WkS.cons rfl (Wk.refl _) (WkS.cons rfl (Wk.refl _) (WkS.cons rfl (Wk.refl _) (WkS.cons rfl (Wk.refl _) (WkS.cons rfl (Wk.refl _) (WkS.nil)))))))) Pf Pf)
      ·replace hm := yes_f hc90 hm
       refine Ks ?_
       have e89 := Ki hm; subst e89
       refine ⟨rfl, ?_⟩
       exact WkX.of () (WkS.perm (WkS.cons rfl (Wk.refl _) (WkS.cons rfl (Wk.refl _) (WkS.cons rfl (Wk.refl _) (WkS.cons rfl (Wk.refl _) (WkS.cons rfl (Wk.refl _) (WkS.cons rfl (Wk.refl _) (WkS.cons rfl (Wk.refl _) (WkS.nil)))))))) Pf Pf)
     ·intro s89 hw89; clear hm; have hm := ho89; clear q89 ho89
      refine Kd ?_
      refine KY hw89 (fun z89 => ?_)
      obtain ⟨x92, q92, hm⟩ := Kc hm
      refine Kfy 8 [] [[],[],[1],[1,2],[1,2,3],[],[5],[1,2,3,4,5,6]] [0,1,2,3,4,5,6,7] [[],[],[1],[1,2],[1,2,3],[],[5],[1,2,3,4,5,6],[0,1,2,3,4,5,6,7],[0,1,2,3,4,5,6,7,8],[0,1,2,3,4,5,6,7,8,9]] 7 4 0 (by kernel_rfl) (by kernel_rfl) (by kernel_rfl) (by rfl) (by rfl) (by kernel_rfl) rfl ?_
      iterate 8 apply Exists.intro
      refine ⟨.any, ?_⟩
      intro bs v92
      iterate 4 refine zh_e rfl rfl (KaY htab rfl) rfl rfl rfl rfl rfl rfl rfl rfl ?_
      refine zh_M rfl rfl (fun _ => KX 1 htab rfl rfl rfl rfl rfl) (offB rfl) rfl rfl rfl rfl rfl rfl rfl rfl ?_
      refine zh_M rfl rfl (fun _ => KX (d := K4 (⟨y89.1, y89.2.1, (⟨y89.2.2.1, y89.2.2.2⟩ : KK)⟩ : Ky)) 2 htab rfl rfl rfl rfl rfl) (offB rfl) rfl rfl rfl rfl rfl rfl rfl rfl ?_
      refine zh_E rfl rfl (ExE.wk (x_lit htab rfl rfl rfl rfl rfl rfl rfl rfl rfl rfl rfl) (show Wk _ (.lst 4 (([(⟨y89.1, y89.2.1, (⟨y89.2.2.1, y89.2.2.2⟩ : KK)⟩ : Ky)] : List Ky).map K4) .full) from Wk.lst0 (.cons (WkC.refl _) (.nil)))) rfl rfl rfl rfl rfl rfl rfl rfl ?_
      refine zh_app htab rfl rfl rfl rfl rfl rfl rfl rfl (rep_of rfl) rfl (app_kC rfl) (K2 (j := 0) rfl) rfl rfl rfl rfl rfl rfl rfl rfl rfl (KbZ q92) (KdF q92) ?_
      refine zh_nil rfl rfl rfl rfl (fun e he => by simp [isAl] at he) ?_
      refine pu ?_
      refine pu ?_
      refine pS1 (ds' := [.lst 2 (x3.map Ke) (.cur w2), .lst 4 (x92.map K4) (.cur v92)]) ?_
      refine Kt ?_
      refine Kz ?_
      refine Kd ?_
      refine Kr ?_
      refine pu ?_
      refine pu ?_
      refine Kt ?_
      refine Kd ⟨_, Kas hm, ?_⟩
      exact WkX.of v92 (WkS.perm (WkS.cons rfl (Wk.refl _) (WkS.cons rfl (Wk.refl _) (WkS.cons rfl (Wk.refl _) (WkS.cons rfl (Wk.refl _) (WkS.cons rfl (Wk.refl _) (WkS.cons rfl (Wk.refl _) (WkS.nil))))))) Pf Pf)
   ·replace hm := yes_f hc80 hm
    refine Kal ?_
    refine KJ ?_
    have e50 := Kab hm; subst e50; clear hm; have hm := hq50
    refine KJ ?_
    refine Kaf ?_
    have e49 := Ki hm; subst e49
    refine ⟨rfl, ?_⟩
    exact WkX.of z50 (WkS.perm (WkS.cons rfl (Wk.refl _) (WkS.nil)) ((K2 (j := 1) rfl).trans (List.Perm.cons _ Pf)) Pf)
 ·intro s49 hw49; clear hm; have hm := ho49; clear q49 ho49
  refine Kd ?_
  refine KY hw49 (fun z49 => ?_)
  refine Kh ?_
  refine pu ?_
  refine pu ?_
  refine Kf ?_
  refine KA ?_
  have er93 := Ki hm; subst er93
  refine rP (t' := [(4, .ptr b4 0)]) [0] [1,0] 1 (wC wN) (lT lN) ?_
  exact ⟨b4, w2, z49, rfl, rfl, rfl⟩
noncomputable def Kfk : Option (Kad) :=
 some (⟨[], ([(⟨(ByteArray.mk #[109, 97, 105, 110]), [], [], ([(⟨(8 : Int), ByteArray.empty, ByteArray.empty, ([(⟨(1 : Int), (3 : Int), ByteArray.empty, [], (0 : Int)⟩ : Kq)] : List Kq), [], [], (0 : Int)⟩ : Kb)] : List Kb), (0 : Int)⟩ : Kaj)] : List Kaj)⟩ : Kad)
theorem KgZ  (r : Kad) (h0 : Kfk = some r) : CallsD Tryz.prog 17 [] [] [] (fun d h k => d = Ka8 r ∧ h = [] ∧ k = []) := by
 have hm := Ku h0
 unfold Kfk at hm
 clear h0
 refine K5 htab Tryz.func17 rfl rfl rfl rfl rfl (fun C => ?_)
 refine Kh ?_
 refine Kak htab rfl rfl rfl rfl rfl rfl rfl (fun b1 => ?_)
 refine KL ?_
 refine Ka6 (r := [.v (.int .i64 (1 : Int)), .v (.int .i64 (3 : Int)), .v (.string ByteArray.empty), .lst 1 [] .full, .v (.int .i64 (0 : Int))]) htab rfl rfl rfl rfl rfl rfl rfl rfl rfl ?_
 refine p_lit htab rfl rfl rfl rfl rfl rfl rfl rfl rfl rfl rfl rfl rfl rfl ?_
 refine p_eq (i := 2) (d' := .lst 5 (([(⟨(1 : Int), (3 : Int), ByteArray.empty, [], (0 : Int)⟩ : Kq)] : List Kq).map Kn) .full) rfl (Wk.lst0 (.cons (WkC.trans (WkC.agg (rC (rC (rC (WkR.cons (WkC.nil) rfl (rC WkR.nil)))))) (WkC.of_eq (K0 (⟨(1 : Int), (3 : Int), ByteArray.empty, [], (0 : Int)⟩ : Kq)).symm)) (.nil))) ?_
 refine Ka6 (r := [.v (.int .i64 (8 : Int)), .v (.string ByteArray.empty), .v (.string ByteArray.empty), .lst 5 (([(⟨(1 : Int), (3 : Int), ByteArray.empty, [], (0 : Int)⟩ : Kq)] : List Kq).map Kn) .full, .lst 1 [] .full, .lst 1 [] .full, .v (.int .i64 (0 : Int))]) htab rfl rfl rfl rfl rfl rfl rfl rfl rfl ?_
 refine p_lit htab rfl rfl rfl rfl rfl rfl rfl rfl rfl rfl rfl rfl rfl rfl ?_
 refine p_eq (i := 4) (d' := .lst 7 (([(⟨(8 : Int), ByteArray.empty, ByteArray.empty, ([(⟨(1 : Int), (3 : Int), ByteArray.empty, [], (0 : Int)⟩ : Kq)] : List Kq), [], [], (0 : Int)⟩ : Kb)] : List Kb).map Kg) .full) rfl (Wk.lst0 (.cons (WkC.trans (WkC.agg (rC (rC (rC (rO (WkR.cons (WkC.nil) rfl (WkR.cons (WkC.nil) rfl (rC WkR.nil)))))))) (WkC.of_eq (Kw (⟨(8 : Int), ByteArray.empty, ByteArray.empty, ([(⟨(1 : Int), (3 : Int), ByteArray.empty, [], (0 : Int)⟩ : Kq)] : List Kq), [], [], (0 : Int)⟩ : Kb)).symm)) (.nil))) ?_
 refine Ka6 (r := [.v (.string (ByteArray.mk #[109, 97, 105, 110])), .lst 1 [] .full, .lst 1 [] .full, .lst 7 (([(⟨(8 : Int), ByteArray.empty, ByteArray.empty, ([(⟨(1 : Int), (3 : Int), ByteArray.empty, [], (0 : Int)⟩ : Kq)] : List Kq), [], [], (0 : Int)⟩ : Kb)] : List Kb).map Kg) .full, .v (.int .i64 (0 : Int))]) htab rfl rfl rfl rfl rfl rfl rfl rfl rfl ?_
 refine p_lit htab rfl rfl rfl rfl rfl rfl rfl rfl rfl rfl rfl rfl rfl rfl ?_
 refine p_eq (i := 6) (d' := .lst 5 (([(⟨(ByteArray.mk #[109, 97, 105, 110]), [], [], ([(⟨(8 : Int), ByteArray.empty, ByteArray.empty, ([(⟨(1 : Int), (3 : Int), ByteArray.empty, [], (0 : Int)⟩ : Kq)] : List Kq), [], [], (0 : Int)⟩ : Kb)] : List Kb), (0 : Int)⟩ : Kaj)] : List Kaj).map KH) .full) rfl (Wk.lst0 (.cons (WkC.agg (rC (WkR.cons (WkC.nil) rfl (WkR.cons (WkC.nil) rfl (rO (rC WkR.nil)))))) (.nil))) ?_
 refine Ka6 (r := [.lst 1 [] .full, .lst 5 (([(⟨(ByteArray.mk #[109, 97, 105, 110]), [], [], ([(⟨(8 : Int), ByteArray.empty, ByteArray.empty, ([(⟨(1 : Int), (3 : Int), ByteArray.empty, [], (0 : Int)⟩ : Kq)] : List Kq), [], [], (0 : Int)⟩ : Kb)] : List Kb), (0 : Int)⟩ : Kaj)] : List Kaj).map KH) .full]) htab rfl rfl rfl rfl rfl rfl rfl rfl rfl ?_
 refine pS0 (ds' := [.lst 1 [] .full, .lst 5 (([(⟨(ByteArray.mk #[109, 97, 105, 110]), [], [], ([(⟨(8 : Int), ByteArray.empty, ByteArray.empty, ([(⟨(1 : Int), (3 : Int), ByteArray.empty, [], (0 : Int)⟩ : Kq)] : List Kq), [], [], (0 : Int)⟩ : Kb)] : List Kb), (0 : Int)⟩ : Kaj)] : List Kaj).map KH) .full]) ?_
 refine Kf ?_
 refine KA ?_
 have er2 := Ki hm; subst er2
 refine retX.wk (WkS.bl0 (ds' := [.lst 4 (([] : List KeY).map KE) .no, .lst 5 (([(⟨(ByteArray.mk #[109, 97, 105, 110]), [], [], ([(⟨(8 : Int), ByteArray.empty, ByteArray.empty, ([(⟨(1 : Int), (3 : Int), ByteArray.empty, [], (0 : Int)⟩ : Kq)] : List Kq), [], [], (0 : Int)⟩ : Kb)] : List Kb), (0 : Int)⟩ : Kaj)] : List Kaj).map KH) .no]) (WkR.cons (WkC.nil) rfl (rO WkR.nil))) ?_
 refine rP (t' := [(0, .ptr b1 0)]) [0] [] 0 (wC wN) (lC 0 lN) ?_
 exact ⟨rfl, rfl, rfl⟩
end Go.Proofs.YtaclkgjnoaeihaaGreat.Ab
namespace Go.Proofs.YtaclkgjnoaeihaaGreat
open Go Go.RowKit
set_option linter.all false
abbrev Hp := Addr → Option Value
def Hp.le (H H' : Hp) : Prop := ∀ a v, H a = some v → H' a = some v
theorem Hp.le_refl (H : Hp) : H.le H := fun _ _ h => h
theorem Hp.le_trans {H H' H'' : Hp} (h : H.le H') (k : H'.le H'') : H.le H'' := fun a v x => k a v (h a v x)
def Ag (H : Hp) (w : World) : Prop := ∀ a v, H a = some v → w.cell? a = some v
theorem cell_lt {w : World} {a : Addr} {v : Value} (h : w.cell? a = some v) : a.block < w.heap.size := by
 unfold World.cell? at h
 rcases Nat.lt_or_ge a.block w.heap.size with hl | hl
 ·exact hl
 ·rw [Array.getElem?_eq_none hl] at h; cases h
theorem Ag.lt {H : Hp} {w : World} (h : Ag H w) {a : Addr} {v : Value} (ha : H a = some v) : a.block < w.heap.size := cell_lt (h a v ha)
theorem Ag.below {H : Hp} {w w' : World} (h : Ag H w) (hb : Below w.heap.size w w') : Ag H w' := fun a v ha => by rw [hb.cell (p := a) (h.lt ha)]; exact h a v ha
theorem Ag.drew {H : Hp} {w : World} (h : Ag H w) : Ag H w.drew := h
theorem Ag.alloc {H : Hp} {w : World} (h : Ag H w) (o : Obj) : Ag H (w.alloc o) := h.below ((Below.refl _ _).alloc (Nat.le_refl _) o)
structure Grow (H : Hp) (w : World) (H' : Hp) (w' : World) : Prop where
 le : H.le H'
 new : ∀ a v, H' a = some v → H a = some v ∨ w.heap.size ≤ a.block
 ag : Ag H' w'
 below : Below w.heap.size w w'
theorem Grow.refl {H : Hp} {w : World} (h : Ag H w) : Grow H w H w := ⟨Hp.le_refl H, fun _ _ h => .inl h, h, Below.refl _ _⟩
theorem Grow.trans {H H1 H2 : Hp} {w w1 w2 : World} (h : Grow H w H1 w1) (k : Grow H1 w1 H2 w2) : Grow H w H2 w2 :=
 ⟨Hp.le_trans h.le k.le, fun a v x => by
  rcases k.new a v x with y | y
  ·exact h.new a v y
  ·exact .inr (Nat.le_trans h.below.size y), k.ag, h.below.trans (k.below.mono h.below.size)⟩
theorem Grow.of_below {H : Hp} {w w' : World} (h : Ag H w) (hb : Below w.heap.size w w') : Grow H w H w' := ⟨Hp.le_refl H, fun _ _ h => .inl h, h.below hb, hb⟩
theorem Grow.drew {H H' : Hp} {w w' : World} (h : Grow H w H' w') : Grow H w H' w'.drew := ⟨h.le, h.new, h.ag, h.below.drew⟩
theorem Grow.cell {H H' : Hp} {w w' : World} (h : Grow H w H' w') : (∀ b o, b < w.heap.size → w'.cell? ⟨b, o, none⟩ = w.cell? ⟨b, o, none⟩) ∧ (∀ b o, b < w.heap.size → w'.frozen? ⟨b, o, none⟩ = w.frozen? ⟨b, o, none⟩) :=
 ⟨fun b o hb => h.below.cell (p := ⟨b, o, none⟩) hb, fun b o hb => h.below.frozen (p := ⟨b, o, none⟩) hb⟩
def E : Hp := fun _ => none
theorem hp_alloc (w : World) (o : Obj) (k : Nat) : (w.alloc o).heap[k]? = if k = w.heap.size then some o else w.heap[k]? := by
 show (w.heap.push o)[k]? = _
 rw [Array.getElem?_push]
theorem hp_drew (w : World) (k : Nat) : w.drew.heap[k]? = w.heap[k]? := rfl
def setO (off : Nat) (v : Value) : Obj → Obj
 | .cells c e fr => .cells (c.setIfInBounds off v) e fr
 | o => o
theorem K6 (w : World) (b o : Nat) (v : Value) (k : Nat) : (w.setCell ⟨b, o, none⟩ v).heap[k]? = if b = k then (w.heap[k]?).map (setO o v) else w.heap[k]? := by
 simp only [World.setCell, Array.getElem?_modify]
 by_cases h : b = k
 ·rw [if_pos h, if_pos h]
  cases w.heap[k]? with
  | none => rfl
  | some x => cases x <;> rfl
 ·rw [if_neg h, if_neg h]
def IsPtr (v : Value) (b : Nat) : Prop := v = .pointer (some ⟨b, 0, none⟩)
structure Blk (H : Hp) (w : World) (n : Nat) (b : Nat) (c : Array Value) (T : TypeId) : Prop where
 ge : n ≤ b
 at_ : w.heap[b]? = some (.cells c T (0, 0))
 out : ∀ o, H ⟨b, o, none⟩ = none
theorem Blk.lt {H : Hp} {w : World} {n b : Nat} {c : Array Value} {T : TypeId} (h : Blk H w n b c T) : b < w.heap.size := (Array.getElem?_eq_some_iff.1 h.at_).1
theorem Blk.grow {H H' : Hp} {w w' : World} {n b : Nat} {c : Array Value} {T : TypeId} (h : Blk H w n b c T) (hg : Grow H w H' w') : Blk H' w' n b c T :=
  ⟨h.ge, by rw [hg.below.block b h.lt]; exact h.at_, fun o => by
    cases e : H' ⟨b, o, none⟩ with
    | none => rfl
    | some v =>
      rcases hg.new _ v e with x | x
      · rw [h.out] at x; cases x
      · have := h.lt; exact absurd x (by show ¬ w.heap.size ≤ b; omega)⟩
theorem Blk.new {H : Hp} {w : World} (hA : Ag H w) {n : Nat} (hn : n ≤ w.heap.size) (c : Array Value) (T : TypeId) : Blk H (w.alloc (.cells c T)) n w.heap.size c T :=
 ⟨hn, by show (w.heap.push _)[w.heap.size]? = _; simp, fun o => by
  cases e : H ⟨w.heap.size, o, none⟩ with
  | none => rfl
  | some v => exact absurd (hA.lt e) (Nat.lt_irrefl _)⟩
theorem Blk.alloc {H : Hp} {w : World} {n b : Nat} {c : Array Value} {T : TypeId} (h : Blk H w n b c T) (o : Obj) : Blk H (w.alloc o) n b c T :=
 ⟨h.ge, by rw [hp_alloc, if_neg (by have := h.lt; omega)]; exact h.at_, h.out⟩
theorem Blk.drew {H : Hp} {w : World} {n b : Nat} {c : Array Value} {T : TypeId} (h : Blk H w n b c T) : Blk H w.drew n b c T := ⟨h.ge, h.at_, h.out⟩
theorem Blk.set {H : Hp} {w : World} {n b : Nat} {c : Array Value} {T : TypeId} (h : Blk H w n b c T) (o : Nat) (v : Value) : Blk H (w.setCell ⟨b, o, none⟩ v) n b (c.setIfInBounds o v) T :=
 ⟨h.ge, by rw [K6, if_pos rfl, h.at_]; rfl, h.out⟩
theorem Kdu {B : Nat} {a w : World} {p : Addr} {u : Value} (hp : B ≤ p.block) (h : Below B a w) : Below B a (w.setCell p u) := h.setCell hp u
theorem Kg9 {B : Nat} {a w : World} {o : Obj} (hB : B ≤ w.heap.size) (h : Below B a w) : Below B a (w.alloc o) := h.alloc hB o
theorem Blk.below {H : Hp} {w w' : World} {n b : Nat} {c : Array Value} {T : TypeId} (h : Blk H w n b c T) (hb : Below w.heap.size w w') : Blk H w' n b c T :=
 ⟨h.ge, by rw [hb.block b h.lt]; exact h.at_, h.out⟩
theorem Blk.cell {H : Hp} {w : World} {n b : Nat} {c : Array Value} {T : TypeId} (h : Blk H w n b c T) (o : Nat) : w.cell? ⟨b, o, none⟩ = c[o]? := by
 simp [World.cell?, h.at_]
theorem Blk.frozen {H : Hp} {w : World} {n b : Nat} {c : Array Value} {T : TypeId} (h : Blk H w n b c T) (o : Nat) : w.frozen? ⟨b, o, none⟩ = false := by
 simp [World.frozen?, h.at_]
structure St where
 r : Hp → World → Value → Prop
 st : ∀ H w H' w', Grow H w H' w' → ∀ v, r H w v → r H' w' v
def St.tt : St := ⟨fun _ _ _ => True, fun _ _ _ _ _ _ h => h⟩
def St.hp (p : Hp → Value → Prop) (hp : ∀ H H', Hp.le H H' → ∀ v, p H v → p H' v) : St := ⟨fun H _ v => p H v, fun H _ H' _ hg v h => hp H H' hg.le v h⟩
section
variable {P : Program} {ops : Array Oper} {Q : Exit → Act → World → Prop} {H0 : Hp} {w0 : World} {R : Nat → St} {pre : List (List Nat)} {ev al : List Nat} {l2 : List Oper} {vals : Nat → Value} {i : Nat} {o : Oper} {rest : List Oper} {a : Act}
def Cls (H0 : Hp) (w0 : World) (R : Nat → St) (al : List Nat) (S : Nat → Bool) (vals : Nat → Value) (w : World) : Prop :=
  ∃ H, Grow H0 w0 H w ∧ (∀ e, S e = true → (R e).r H w (vals e)) ∧ (∀ e ∈ al, S e = true → ∃ b, IsPtr (vals e) b ∧ b < w.heap.size) ∧
    ∀ e ∈ al, ∀ e' ∈ al, e ≠ e' → S e = true → S e' = true → ∀ b, IsPtr (vals e) b → ¬ IsPtr (vals e') b
def Ls (P : Program) (ops : Array Oper) (Q : Exit → Act → World → Prop) (H0 : Hp) (w0 : World) (R : Nat → St) (pre : List (List Nat)) (ev al : List Nat) (l2 : List Oper) (vals : Nat → Value) : Nat → List Oper → Act → Prop :=
 Jx.Lx P ops (Cls H0 w0 R al) (fun i => pre.getD i []) (fun i => ev.contains i) vals (fun a => ∀ S w, (∀ i, ev.contains i = true → S i = true) → Cls H0 w0 R al S vals w → wpList P ops Q l2 a w)
theorem ls_quiet {out : Value} (hw : Region.wanted o (yielded ops a.tmps) = true) (he : ev.contains i = false)
  (h : ∀ H w, Grow H0 w0 H w → (∀ k ∈ pre.getD i [], (R k).r H w (vals k)) → (execOp a.eval o).run P w = .ok (.value out) w) (k : Ls P ops Q H0 w0 R pre ev al l2 vals (i + 1) rest (a.put o.dst out)) :
  Ls P ops Q H0 w0 R pre ev al l2 vals i (o :: rest) a := by
 refine ⟨out, ?_, k⟩
 unfold Jx.OK
 rw [if_pos hw, if_neg (by show ¬ ev.contains i = true; rw [he]; exact Bool.false_ne_true)]
 exact fun S w ⟨H, hg, hr, _⟩ hp => h H w hg fun k hk => hr k (hp k hk)
theorem lsq (hw : Region.wanted o (yielded ops a.tmps) = true) (he : ev.contains i = false)
 (h : ∃ out, (∀ H w, Grow H0 w0 H w → (∀ k ∈ pre.getD i [], (R k).r H w (vals k)) → (execOp a.eval o).run P w = .ok (.value out) w) ∧ Ls P ops Q H0 w0 R pre ev al l2 vals (i + 1) rest (a.put o.dst out)) :
 Ls P ops Q H0 w0 R pre ev al l2 vals i (o :: rest) a := let ⟨_, h1, h2⟩ := h; ls_quiet hw he h1 h2
theorem ls_ev (hw : Region.wanted o (yielded ops a.tmps) = true) (he : ev.contains i = true) (hal : al.contains i = false)
  (h : ∀ H w, Grow H0 w0 H w → (∀ k ∈ pre.getD i [], (R k).r H w (vals k)) → Jx.Gives P o a w fun v w' => ∃ H', Grow H w H' w' ∧ (R i).r H' w' v)
  (k : Ls P ops Q H0 w0 R pre ev al l2 vals (i + 1) rest (a.put o.dst (vals i))) : Ls P ops Q H0 w0 R pre ev al l2 vals i (o :: rest) a := by
 refine ⟨vals i, ?_, k⟩
 have hni : ∀ e ∈ al, e ≠ i := fun e hea h => by subst h; rw [← Bool.not_eq_true, List.contains_iff_mem] at hal; exact hal hea
 unfold Jx.OK
 rw [if_pos hw, if_pos he]
 refine ⟨rfl, fun S w ⟨H, hg, hr, hp1, hp2⟩ hS hp => (h H w hg fun k hk => hr k (hp k hk)).mono fun v w' ⟨H', hg', hv⟩ => ⟨H', hg.trans hg', fun e hes => ?_, fun e hea hes => ?_, fun e hea e' hea' hne hes hes' b => ?_⟩⟩
 ·by_cases hei : e = i
  ·subst hei; rw [Jx.upd_same]; exact hv
  ·rw [Jx.upd_ne _ _ hei] at hes ⊢; exact (R e).st H w H' w' hg' _ (hr e hes)
 ·rw [Jx.upd_ne _ _ (hni e hea)] at hes ⊢
  obtain ⟨b, hb, hl⟩ := hp1 e hea hes
  exact ⟨b, hb, Nat.lt_of_lt_of_le hl hg'.below.size⟩
 ·rw [Jx.upd_ne _ _ (hni e hea)] at hes ⊢
  rw [Jx.upd_ne _ _ (hni e' hea')] at hes' ⊢
  exact hp2 e hea e' hea' hne hes hes' b
theorem ls_nil (h : ∀ H w, Grow H0 w0 H w → (∀ e ∈ ev, (R e).r H w (vals e)) → (∀ e ∈ al, ∀ e' ∈ al, e ≠ e' → e ∈ ev → e' ∈ ev → ∀ b, IsPtr (vals e) b → ¬ IsPtr (vals e') b) → wpList P ops Q l2 a w) : Ls P ops Q H0 w0 R pre ev al l2 vals i [] a :=
 fun S w hS ⟨H, hg, hr, _, hp2⟩ => h H w hg (fun e he => hr e (hS e (by simpa using he))) fun e hea e' hea' hne he he' b => hp2 e hea e' hea' hne (hS e (by simpa using he)) (hS e' (by simpa using he')) b
theorem ls_region {id : Nat} {l1 : List Oper} (R : Nat → St) (pre : List (List Nat)) (ev al : List Nat) (tp : List (List Nat)) (hA : Ag H0 w0) (hm : P.follows .mixedOrders = true) (hsl : Jx.slotsB (l1 ++ l2).toArray = true)
  (hp : Jx.preB (l1 ++ l2).toArray (fun i => pre.getD i []) = true) (hpe : pre.all (·.all ev.contains) = true) (hev : ev.all (· < l1.length) = true) (hsuf : Jx.sufB (l1 ++ l2).toArray tp l1.length = true)
  (hwalk : ∀ vals, Ls P (l1 ++ l2).toArray Q H0 w0 R pre ev al l2 vals 0 l1 a) : (Code.region id (l1 ++ l2).toArray true).wp P Q a w0 := by
 refine Jx.region_any (Cls H0 w0 R al) (fun i => pre.getD i []) (fun i => ev.contains i) tp hm hsl hp ?_ ?_ hsuf ?_ ?_ hwalk
 ·intro i k hk
  rw [List.all_eq_true] at hpe
  by_cases hi : i < pre.length
  ·have e : pre.getD i [] = pre[i] := by simp [hi]
   rw [e] at hk
   exact List.all_eq_true.1 (hpe _ (List.getElem_mem hi)) k hk
  ·have e : pre.getD i [] = [] := by simp [Nat.le_of_not_lt hi]
   rw [e] at hk; cases hk
 ·intro i hi
  rw [List.all_eq_true] at hev
  simpa using hev i (by simpa using hi)
 ·rintro S vals vals' w hv ⟨H, hg, hr, hp1, hp2⟩
  exact ⟨H, hg, fun e he => hv e he ▸ hr e he, fun e hea he => hv e he ▸ hp1 e hea he, fun e hea e' hea' hne he he' b => hv e he ▸ hv e' he' ▸ hp2 e hea e' hea' hne he he' b⟩
 ·exact fun vals => ⟨H0, (Grow.refl hA).drew, fun e he => absurd he Bool.false_ne_true, fun e _ he => absurd he Bool.false_ne_true, fun e _ e' _ _ he => absurd he Bool.false_ne_true⟩
theorem Kgb {o : Oper} {a : Act} {w : World} {K : Value → World → Prop} {f : FuncId} (h : ∃ args, (execOp a.eval o).run P w = .ok (.enter f args) w ∧ Calls P f args w fun e w'' => ∃ v, e = .returned v ∧ K v w'') : Jx.Gives P o a w K := by
 obtain ⟨args, h1, h2⟩ := h
 unfold Jx.Gives
 rw [h1]
 exact h2
theorem ls_take {id : Nat} {l : List Oper} (m : Nat) (R : Nat → St) (pre : List (List Nat)) (ev al : List Nat) (tp : List (List Nat)) (hA : Ag H0 w0) (hm : P.follows .mixedOrders = true) (hsl : Jx.slotsB l.toArray = true)
  (hp : Jx.preB l.toArray (fun i => pre.getD i []) = true) (hpe : pre.all (·.all ev.contains) = true) (hev : ev.all (· < (l.take m).length) = true) (hsuf : Jx.sufB l.toArray tp (l.take m).length = true)
  (hwalk : ∀ vals, Ls P l.toArray Q H0 w0 R pre ev al (l.drop m) vals 0 (l.take m) a) : (Code.region id l.toArray true).wp P Q a w0 := by
 have h := ls_region (P := P) (Q := Q) (H0 := H0) (w0 := w0) (a := a) (id := id) (l1 := l.take m) (l2 := l.drop m) R pre ev al tp hA hm (by rw [List.take_append_drop]; exact hsl) (by rw [List.take_append_drop]; exact hp) hpe hev (by rw [List.take_append_drop]; exact hsuf)
  (by rw [List.take_append_drop]; exact hwalk)
 rw [List.take_append_drop] at h
 exact h
end
end Go.Proofs.YtaclkgjnoaeihaaGreat
namespace Go.Proofs.YtaclkgjnoaeihaaGreat.Ab
open Go Go.RowKit Go.Shelf Go.Proofs
set_option linter.all false
def pO (x : Option Nat) : Option Addr := x.map fun b => ⟨b, 0, none⟩
def ePtr (x : Option Nat) : D := .v (.pointer (pO x))
end Go.Proofs.YtaclkgjnoaeihaaGreat.Ab
namespace Go.Proofs.YtaclkgjnoaeihaaGreat.Ab
open Go
set_option linter.all false
noncomputable def Kdg (a0 : Int) : Option (Int) :=
 (Option.bind (α := (Unit) ⊕ (Int)) (Option.bind (α := Bool) (bif (a0 == (1 : Int)) then some (a0 == (1 : Int)) else (Option.bind (α := Bool) (bif (a0 == (2 : Int)) then some (a0 == (2 : Int)) else (Option.bind (α := Bool) (bif (a0 == (4 : Int)) then some (a0 == (4 : Int)) else (Option.bind (α := Bool) (bif (a0 == (18 : Int)) then some (a0 == (18 : Int)) else some (a0 == (19 : Int))) fun y44 => some y44)) fun y41 => some y41)) fun y37 => some y37)) fun y32 => (Option.bind (α := (Unit) ⊕ (Int)) (bif y32 then some (.inr (0 : Int)) else (Option.bind (α := Bool) (bif (a0 == (3 : Int)) then some (a0 == (3 : Int)) else (Option.bind (α := Bool) (bif (a0 == (20 : Int)) then some (a0 == (20 : Int)) else (Option.bind (α := Bool) (bif (a0 == (5 : Int)) then some (a0 == (5 : Int)) else some (a0 == (6 : Int))) fun y67 => some y67)) fun y64 => some y64)) fun y60 => (bif y60 then some (.inr (1 : Int)) else some (.inl ())))) (Sum.elim (fun y54 => some (.inl ())) (fun r => some (.inr r))))) (Sum.elim (fun y27 => (bif (decide ((7 : Int) ≤ a0)) then (bif (decide (a0 ≤ (17 : Int))) then some (2 : Int) else some (-1 : Int)) else some (-1 : Int))) (fun r => some r)))
theorem KgS (a0 : Int) (r : Int) (h0 : Kdg a0 = some r) : CallsD Tryz.prog 56 [.v (.int .i64 a0)] [] [] (fun d h k => d = .v (.int .i64 r) ∧ h = [] ∧ k = []) := by
 have hm := Ku h0
 unfold Kdg at hm
 clear h0
 refine K5 htab Tryz.func56 rfl rfl rfl rfl rfl (fun C => ?_)
 refine Kh ?_
 refine pu ?_
 refine Kf ?_
 refine Ko ?_
 refine Kh ?_
 refine pu ?_
 refine Kf ?_
 obtain ⟨x27, q27, ho27⟩ := Kc hm
 refine Kbe (τ := Unit) (Y := Unit) (fun y27 z27 => (⟨[(0, .v (.int .i64 a0))], [], []⟩ : S)) x27 ?_ ?_
 ·clear hm; have hm := Ku q27
  refine KC ?_
  refine Ko ?_
  refine Kh ?_
  refine pu ?_
  refine pu ?_
  refine Kf ?_
  obtain ⟨y32, q32, ho32⟩ := Kc hm
  refine KP (Y := Unit) (fun z32 => (⟨[(0, .v (.int .i64 a0)), (3, .v (.int .i64 a0)), (4, .v (.bool y32))], [], []⟩ : S)) ?_ ?_
  ·clear hm; have hm := Ku q32
   refine Kp rfl (fun hc33 => ?_) (fun hc33 => ?_)
   ·replace hm := yes_t hc33 hm
    refine Ks ?_
    have e32 := Ki hm; subst e32
    refine ⟨rfl, ?_⟩
    exact WkX.of () (WkS.perm (WkS.cons rfl (Wk.refl _) (WkS.cons rfl (Wk.refl _) (WkS.cons rfl (Wk.refl _) (WkS.nil)))) Pf Pf)
   ·replace hm := yes_f hc33 hm
    refine Kh ?_
    refine pu ?_
    refine pu ?_
    refine Kf ?_
    obtain ⟨y37, q37, ho37⟩ := Kc hm
    refine KP (Y := Unit) (fun z37 => (⟨[(0, .v (.int .i64 a0)), (3, .v (.int .i64 a0)), (4, .v (.bool y37))], [], []⟩ : S)) ?_ ?_
    ·clear hm; have hm := Ku q37
     refine Kp rfl (fun hc38 => ?_) (fun hc38 => ?_)
     ·replace hm := yes_t hc38 hm
      refine Ks ?_
      have e37 := Ki hm; subst e37
      refine ⟨rfl, ?_⟩
      exact WkX.of () (WkS.perm (WkS.cons rfl (Wk.refl _) (WkS.cons rfl (Wk.refl _) (WkS.cons rfl (Wk.refl _) (WkS.nil)))) Pf Pf)
     ·replace hm := yes_f hc38 hm
      refine Kh ?_
      refine pu ?_
      refine pu ?_
      refine Kf ?_
      obtain ⟨y41, q41, ho41⟩ := Kc hm
      refine KP (Y := Unit) (fun z41 => (⟨[(0, .v (.int .i64 a0)), (3, .v (.int .i64 a0)), (4, .v (.bool y41))], [], []⟩ : S)) ?_ ?_
      ·clear hm; have hm := Ku q41
       refine Kp rfl (fun hc42 => ?_) (fun hc42 => ?_)
       ·replace hm := yes_t hc42 hm
        refine Ks ?_
        have e41 := Ki hm; subst e41
        refine ⟨rfl, ?_⟩
        exact WkX.of () (WkS.perm (WkS.cons rfl (Wk.refl _) (WkS.cons rfl (Wk.refl _) (WkS.cons rfl (Wk.refl _) (WkS.nil)))) Pf Pf)
       ·replace hm := yes_f hc42 hm
        refine Kh ?_
        refine pu ?_
        refine pu ?_
        refine Kf ?_
        obtain ⟨y44, q44, ho44⟩ := Kc hm
        refine KP (Y := Unit) (fun z44 => (⟨[(0, .v (.int .i64 a0)), (3, .v (.int .i64 a0)), (4, .v (.bool y44))], [], []⟩ : S)) ?_ ?_
        ·clear hm; have hm := Ku q44
         refine Kp rfl (fun hc45 => ?_) (fun hc45 => ?_)
         ·replace hm := yes_t hc45 hm
          refine Ks ?_
          have e44 := Ki hm; subst e44
          refine ⟨rfl, ?_⟩
          exact WkX.of () (WkS.perm (WkS.cons rfl (Wk.refl _) (WkS.cons rfl (Wk.refl _) (WkS.cons rfl (Wk.refl _) (WkS.nil)))) Pf Pf)
         ·replace hm := yes_f hc45 hm
          refine Kr ?_
          refine pu ?_
          refine pu ?_
          refine Kt ?_
          have e44 := Ki hm; subst e44
          refine ⟨rfl, ?_⟩
          exact WkX.of () (WkS.perm (WkS.cons rfl (Wk.refl _) (WkS.cons rfl (Wk.refl _) (WkS.cons rfl (Wk.refl _) (WkS.nil)))) Pf Pf)
        ·intro s44 hw44; clear hm; have hm := ho44; clear q44 ho44
         have e41 := Ki hm; subst e41
         refine ⟨rfl, ?_⟩
         refine WkX.trans hw44 (fun z44 => ?_)
         exact WkX.of () (WkS.perm (WkS.cons rfl (Wk.refl _) (WkS.cons rfl (Wk.refl _) (WkS.cons rfl (Wk.refl _) (WkS.nil)))) Pf Pf)
      ·intro s41 hw41; clear hm; have hm := ho41; clear q41 ho41
       have e37 := Ki hm; subst e37
       refine ⟨rfl, ?_⟩
       refine WkX.trans hw41 (fun z41 => ?_)
       exact WkX.of () (WkS.perm (WkS.cons rfl (Wk.refl _) (WkS.cons rfl (Wk.refl _) (WkS.cons rfl (Wk.refl _) (WkS.nil)))) Pf Pf)
    ·intro s37 hw37; clear hm; have hm := ho37; clear q37 ho37
     have e32 := Ki hm; subst e32
     refine ⟨rfl, ?_⟩
     refine WkX.trans hw37 (fun z37 => ?_)
     exact WkX.of () (WkS.perm (WkS.cons rfl (Wk.refl _) (WkS.cons rfl (Wk.refl _) (WkS.cons rfl (Wk.refl _) (WkS.nil)))) Pf Pf)
  ·intro s32 hw32; clear hm; have hm := ho32; clear q32 ho32
   refine Kd ?_
   refine KY hw32 (fun z32 => ?_)
   obtain ⟨x54, q54, ho54⟩ := Kc hm
   refine Kbe (τ := Unit) (Y := Unit) (fun y54 z54 => (⟨[(0, .v (.int .i64 a0))], [], []⟩ : S)) x54 ?_ ?_
   ·clear hm; have hm := Ku q54
    refine Kp rfl (fun hc55 => ?_) (fun hc55 => ?_)
    ·replace hm := yes_t hc55 hm
     refine Kh ?_
     refine pu ?_
     refine Kf ?_
     refine KA ?_
     have e54 := Ki hm; subst e54; refine KaD ?_; clear hm; have hm := ho54; simp only [Sum.elim_inr] at hm
     refine KW ?_
     have e27 := Ki hm; subst e27; refine KaD ?_; clear hm; have hm := ho27; simp only [Sum.elim_inr] at hm
     refine KB ?_
     have er56 := Ki hm; subst er56
     refine rP (t' := [(2, .v (.int .i64 (0 : Int)))]) [] [] 0 (wC wN) (lT lN) ?_
     exact ⟨rfl, rfl, rfl⟩
    ·replace hm := yes_f hc55 hm
     refine Ko ?_
     refine Kh ?_
     refine pu ?_
     refine pu ?_
     refine Kf ?_
     obtain ⟨y60, q60, ho60⟩ := Kc hm
     refine KP (Y := Unit) (fun z60 => (⟨[(0, .v (.int .i64 a0)), (10, .v (.bool y60))], [], []⟩ : S)) ?_ ?_
     ·clear hm; have hm := Ku q60
      refine Kp rfl (fun hc61 => ?_) (fun hc61 => ?_)
      ·replace hm := yes_t hc61 hm
       refine Ks ?_
       have e60 := Ki hm; subst e60
       refine ⟨rfl, ?_⟩
       exact WkX.of () (WkS.perm (WkS.cons rfl (Wk.refl _) (WkS.cons rfl (Wk.refl _) (WkS.nil))) Pf Pf)
      ·replace hm := yes_f hc61 hm
       refine Kh ?_
       refine pu ?_
       refine pu ?_
       refine Kf ?_
       obtain ⟨y64, q64, ho64⟩ := Kc hm
       refine KP (Y := Unit) (fun z64 => (⟨[(0, .v (.int .i64 a0)), (10, .v (.bool y64))], [], []⟩ : S)) ?_ ?_
       ·clear hm; have hm := Ku q64
        refine Kp rfl (fun hc65 => ?_) (fun hc65 => ?_)
        ·replace hm := yes_t hc65 hm
         refine Ks ?_
         have e64 := Ki hm; subst e64
         refine ⟨rfl, ?_⟩
         exact WkX.of () (WkS.perm (WkS.cons rfl (Wk.refl _) (WkS.cons rfl (Wk.refl _) (WkS.nil))) Pf Pf)
        ·replace hm := yes_f hc65 hm
         refine Kh ?_
         refine pu ?_
         refine pu ?_
         refine Kf ?_
         obtain ⟨y67, q67, ho67⟩ := Kc hm
         refine KP (Y := Unit) (fun z67 => (⟨[(0, .v (.int .i64 a0)), (10, .v (.bool y67))], [], []⟩ : S)) ?_ ?_
         ·clear hm; have hm := Ku q67
          refine Kp rfl (fun hc68 => ?_) (fun hc68 => ?_)
          ·replace hm := yes_t hc68 hm
           refine Ks ?_
           have e67 := Ki hm; subst e67
           refine ⟨rfl, ?_⟩
           exact WkX.of () (WkS.perm (WkS.cons rfl (Wk.refl _) (WkS.cons rfl (Wk.refl _) (WkS.nil))) Pf Pf)
          ·replace hm := yes_f hc68 hm
           refine Kr ?_
           refine pu ?_
           refine pu ?_
           refine Kt ?_
           have e67 := Ki hm; subst e67
           refine ⟨rfl, ?_⟩
           exact WkX.of () (WkS.perm (WkS.cons rfl (Wk.refl _) (WkS.cons rfl (Wk.refl _) (WkS.nil))) Pf Pf)
         ·intro s67 hw67; clear hm; have hm := ho67; clear q67 ho67
          have e64 := Ki hm; subst e64
          refine ⟨rfl, ?_⟩
          refine WkX.trans hw67 (fun z67 => ?_)
          exact WkX.of () (WkS.perm (WkS.cons rfl (Wk.refl _) (WkS.cons rfl (Wk.refl _) (WkS.nil))) Pf Pf)
       ·intro s64 hw64; clear hm; have hm := ho64; clear q64 ho64
        have e60 := Ki hm; subst e60
        refine ⟨rfl, ?_⟩
        refine WkX.trans hw64 (fun z64 => ?_)
        exact WkX.of () (WkS.perm (WkS.cons rfl (Wk.refl _) (WkS.cons rfl (Wk.refl _) (WkS.nil))) Pf Pf)
     ·intro s60 hw60; clear hm; have hm := ho60; clear q60 ho60
      refine Kd ?_
      refine KY hw60 (fun z60 => ?_)
      refine Kp rfl (fun hc70 => ?_) (fun hc70 => ?_)
      ·replace hm := yes_t hc70 hm
       refine Kh ?_
       refine pu ?_
       refine Kf ?_
       refine KA ?_
       have e54 := Ki hm; subst e54; refine KaD ?_; clear hm; have hm := ho54; simp only [Sum.elim_inr] at hm
       refine KW ?_
       have e27 := Ki hm; subst e27; refine KaD ?_; clear hm; have hm := ho27; simp only [Sum.elim_inr] at hm
       refine KB ?_
       have er71 := Ki hm; subst er71
       refine rP (t' := [(2, .v (.int .i64 (1 : Int)))]) [] [] 0 (wC wN) (lT lN) ?_
       exact ⟨rfl, rfl, rfl⟩
      ·replace hm := yes_f hc70 hm
       refine Ks ?_
       have e54 := Ki hm; subst e54
       refine Kbf ?_
       exact WkX.of () (WkS.perm (WkS.cons rfl (Wk.refl _) (WkS.nil)) Pf Pf)
   ·intro y54 s54 hx54 hw54; subst hx54; clear hm; have hm := ho54; simp only [Sum.elim_inl] at hm; clear q54 ho54
    refine Kz ?_
    have e27 := Ki hm; subst e27
    refine Kbf ?_
    refine WkX.trans hw54 (fun z54 => ?_)
    exact WkX.of () (WkS.perm (WkS.cons rfl (Wk.refl _) (WkS.nil)) Pf Pf)
 ·intro y27 s27 hx27 hw27; subst hx27; clear hm; have hm := ho27; simp only [Sum.elim_inl] at hm; clear q27 ho27
  refine Kd ?_
  refine KY hw27 (fun z27 => ?_)
  refine Ko ?_
  refine Kh ?_
  iterate 3 refine pu ?_
  refine KbR (i := 17) rfl (fun hg72 => ?_) (fun hg72 => ?_)
  ·replace hm := yes_t hg72 hm
   refine pu ?_
   refine pu ?_
   refine KbP rfl rfl rfl rfl rfl rfl ?_
   refine Kf ?_
   refine Kp rfl (fun hc73 => ?_) (fun hc73 => ?_)
   ·replace hm := yes_t hc73 hm
    refine Kh ?_
    refine pu ?_
    refine Kf ?_
    refine KA ?_
    refine KB ?_
    have er74 := Ki hm; subst er74
    refine rP (t' := [(2, .v (.int .i64 (2 : Int)))]) [] [] 0 (wC wN) (lT lN) ?_
    exact ⟨rfl, rfl, rfl⟩
   ·replace hm := yes_f hc73 hm
    refine Ks ?_
    refine Kd ?_
    refine Kh ?_
    refine pu ?_
    refine Kf ?_
    refine KA ?_
    have er75 := Ki hm; subst er75
    refine rP (t' := [(2, .v (.int .i64 (-1 : Int)))]) [] [] 0 (wC wN) (lT lN) ?_
    exact ⟨rfl, rfl, rfl⟩
  ·replace hm := yes_f hg72 hm
   refine pK ?_
   refine pK ?_
   refine KbQ rfl rfl rfl rfl rfl rfl ?_
   refine Kf ?_
   refine Kgw rfl ?_
   refine Ks ?_
   refine Kd ?_
   refine Kh ?_
   refine pu ?_
   refine Kf ?_
   refine KA ?_
   have er76 := Ki hm; subst er76
   refine rP (t' := [(2, .v (.int .i64 (-1 : Int)))]) [] [] 0 (wC wN) (lT lN) ?_
   exact ⟨rfl, rfl, rfl⟩
noncomputable def KdS (a0 : Int) (a1 : Int) : Option (Ky × Int) :=
 some ((⟨false, a0, (⟨ByteArray.empty, (0 : Int)⟩ : KK)⟩ : Ky), a1)
theorem Kha (a0 : Int) (a1 : Int) (r : Ky × Int) (h0 : KdS a0 a1 = some r) : CallsD Tryz.prog 67 [.v (.int .i64 a0), .v (.int .i64 a1)] [] [] (fun d h k => d = .tup [K4 r.1, .v (.int .i64 r.2)] ∧ h = [] ∧ k = []) := by
 have hm := Ku h0
 unfold KdS at hm
 clear h0
 refine K5 htab Tryz.func67 rfl rfl rfl rfl rfl (fun C => ?_)
 refine Kh ?_
 refine Kak htab rfl rfl rfl rfl rfl rfl rfl (fun b1 => ?_)
 refine pu ?_
 refine KL ?_
 refine pu ?_
 refine Ka6 (r := [.v (.bool false), .v (.int .i64 a0), .v (.string ByteArray.empty), .v (.int .i64 (0 : Int))]) htab rfl rfl rfl rfl rfl rfl rfl rfl rfl ?_
 refine pu ?_
 refine pS0 (ds' := [.v (.bool false), .v (.int .i64 a0), .v (.string ByteArray.empty), .v (.int .i64 (0 : Int))]) ?_
 refine pu ?_
 refine Kf ?_
 refine KA ?_
 have er2 := Ki hm; subst er2
 refine rP (t' := [(4, .ptr b1 0), (5, .v (.int .i64 a1))]) [0] [] 0 (wC (wC wN)) (lC 0 (lT lN)) ?_
 exact ⟨rfl, rfl, rfl⟩
structure Kbl where
 gM : Option Nat
 gF : Option Nat
def KeS (x : Kbl) : D := .agg [.v (.pointer (pO x.gM)), .v (.pointer (pO x.gF))]
noncomputable def KbT (a0 : Kbl) (a1 : Kq) : Option (Ky × Int) :=
 (bif (a1.gOp == (1 : Int)) then ((KdS a1.gN (0 : Int)).bind fun x5 => some (x5.1, x5.2)) else none)
theorem KfB (a0 : Kbl) (a1 : Kq) (r : Ky × Int) (h0 : KbT a0 a1 = some r) : CallsD Tryz.prog 57 [KeS a0, Kn a1] [] [] (fun d h k => d = .tup [K4 r.1, .v (.int .i64 r.2)] ∧ h = [] ∧ k = []) := by
 have hm := Ku h0
 unfold KbT at hm
 clear h0
 refine K5 htab Tryz.func57 rfl rfl rfl rfl rfl (fun C => ?_)
 refine w_eq (i := 1) rfl (Wk.of_eq (K0 a1)) ?_
 refine Kh ?_
 refine p_box rfl rfl rfl rfl rfl rfl rfl (fun b1 => ?_)
 refine p_box rfl rfl rfl rfl rfl rfl rfl (fun b2 => ?_)
 refine Kak htab rfl rfl rfl rfl rfl rfl rfl (fun b3 => ?_)
 refine pu ?_
 refine Kf ?_
 refine Ko ?_
 refine Kh ?_
 refine pu ?_
 refine pL 1 ?_
 refine Kf ?_
 refine KC ?_
 refine Kh ?_
 refine pu ?_
 refine pu ?_
 refine Kf ?_
 refine Kp rfl (fun hc4 => ?_) (fun hc4 => ?_)
 ·replace hm := yes_t hc4 hm
  refine Kh ?_
  refine pu ?_
  refine pL 1 ?_
  obtain ⟨x5, q5, hm⟩ := Kc hm
  refine KT (Kha a1.gN (0 : Int) x5 q5) rfl rfl rfl rfl rfl Wl ?_
  rintro _ rfl
  refine pu ?_
  refine pu ?_
  refine pS2 (ds' := [.v (.bool x5.1.gPtr), .v (.int .i64 x5.1.gN), .v (.string x5.1.gTo.gName), .v (.int .i64 x5.1.gTo.gAt)]) ?_
  refine pu ?_
  refine Kf ?_
  refine KA ?_
  refine KW ?_
  refine KB ?_
  have er6 := Ki hm; subst er6
  refine rP (t' := [(4, .ptr b3 0), (5, .v (.int .i64 x5.2))]) [2] [] 0 (wC (wC wN)) (lC 0 (lT lN)) ?_
  exact ⟨rfl, rfl, rfl⟩
 ·replace hm := yes_f hc4 hm
  exact (Kbt hm).elim
noncomputable def KbU (a0 : Kbl) (a1 : Kq) : Option (Ky × Int) :=
 ((Kdg a1.gOp).bind fun x4 => (Option.bind (α := Bool) (bif (decide (x4 < (0 : Int))) then some true else some ((a1.gKids.length : Int) != x4)) fun y6 => (bif y6 then some ((⟨false, (0 : Int), (⟨ByteArray.empty, (0 : Int)⟩ : KK)⟩ : Ky), (2 : Int)) else (Option.bind (α := Unit) (loopM (fun (s18 : Unit) => (bif (decide ((0 : Int) < (a1.gKids.length : Int))) then none else some (.done ()))) ()) fun y17 => (bif (x4 == (0 : Int)) then ((KbT a0 a1).bind fun x27 => some (x27.1, x27.2)) else none)))))
theorem KfC (a0 : Kbl) (a1 : Kq) (r : Ky × Int) (h0 : KbU a0 a1 = some r) : CallsD Tryz.prog 47 [KeS a0, Kn a1] [] [] (fun d h k => d = .tup [K4 r.1, .v (.int .i64 r.2)] ∧ h = [] ∧ k = []) := by
 have hm := Ku h0
 unfold KbU at hm
 clear h0
 refine K5 htab Tryz.func47 rfl rfl rfl rfl rfl (fun C => ?_)
 refine w_eq (i := 1) rfl (Wk.of_eq (K0 a1)) ?_
 refine Kh ?_
 refine p_box rfl rfl rfl rfl rfl rfl rfl (fun b1 => ?_)
 refine p_box rfl rfl rfl rfl rfl rfl rfl (fun b2 => ?_)
 refine Kak htab rfl rfl rfl rfl rfl rfl rfl (fun b3 => ?_)
 refine pu ?_
 refine KL ?_
 refine pu ?_
 refine pL 1 ?_
 obtain ⟨x4, q4, hm⟩ := Kc hm
 refine KT (KgS a1.gOp x4 q4) rfl rfl rfl rfl rfl Wl ?_
 rintro _ rfl
 refine pu ?_
 refine Kf ?_
 refine Ko ?_
 refine Ko ?_
 obtain ⟨y6, q6, ho6⟩ := Kc hm
 refine KP (Y := Unit) (fun z6 => (⟨[(2, .ptr b1 0), (3, .ptr b2 0), (4, .ptr b3 0), (6, .v (.int .i64 x4)), (23, .v (.bool y6))], [(b1, Blk.cells [.v (.pointer (pO a0.gM)), .v (.pointer (pO a0.gF))] 120), (b2, Blk.cells [.v (.int .i64 a1.gOp), .v (.int .i64 a1.gN), .v (.string a1.gName), .lst 5 (a1.gKids.map Kn) .no, .v (.int .i64 a1.gAt)] 89), (b3, Blk.cells [.v (.bool false), .v (.int .i64 (0 : Int)), .v (.string ByteArray.empty), .v (.int .i64 (0 : Int))] 28)], []⟩ : S)) ?_ ?_
 ·clear hm; have hm := Ku q6
  refine Kr ?_
  iterate 3 refine pu ?_
  refine KbR (i := 17) rfl (fun hg7 => ?_) (fun hg7 => ?_)
  ·replace hm := yes_t hg7 hm
   iterate 5 refine pK ?_
   refine KbP rfl rfl rfl rfl rfl rfl ?_
   refine Kt ?_
   have e6 := Ki hm; subst e6
   refine ⟨rfl, ?_⟩
   exact WkX.of () (WkS.perm (WkS.cons rfl (Wk.refl _) (WkS.cons rfl (Wk.refl _) (WkS.cons rfl (Wk.refl _) (WkS.cons rfl (Wk.refl _) (WkS.cons rfl (Wk.refl _) (WkS.nil)))))) Pf Pf)
  ·replace hm := yes_f hg7 hm
   refine pu ?_
   refine pL 1 ?_
   refine Kao htab rfl rfl rfl rfl rfl rfl rfl (by first | exact Kae | rfl) ?_
   refine pu ?_
   refine pu ?_
   refine KbQ rfl rfl rfl rfl rfl rfl ?_
   refine Kt ?_
   have e6 := Ki hm; subst e6
   refine ⟨rfl, ?_⟩
   exact WkX.of () (WkS.perm (WkS.cons rfl (Wk.refl _) (WkS.cons rfl (Wk.refl _) (WkS.cons rfl (Wk.refl _) (WkS.cons rfl (Wk.refl _) (WkS.cons rfl (Wk.refl _) (WkS.nil)))))) Pf Pf)
 ·intro s6 hw6; clear hm; have hm := ho6; clear q6 ho6
  refine Kd ?_
  refine KY hw6 (fun z6 => ?_)
  refine Kp rfl (fun hc9 => ?_) (fun hc9 => ?_)
  ·replace hm := yes_t hc9 hm
   refine Kh ?_
   refine Ka6 (r := [.v (.bool false), .v (.int .i64 (0 : Int)), .v (.string ByteArray.empty), .v (.int .i64 (0 : Int))]) htab rfl rfl rfl rfl rfl rfl rfl rfl rfl ?_
   refine pS2 (ds' := [.v (.bool false), .v (.int .i64 (0 : Int)), .v (.string ByteArray.empty), .v (.int .i64 (0 : Int))]) ?_
   refine pu ?_
   refine Kf ?_
   refine KA ?_
   refine KB ?_
   have er10 := Ki hm; subst er10
   refine rP (t' := [(4, .ptr b3 0), (5, .v (.int .i64 (2 : Int)))]) [2] [] 0 (wC (wC wN)) (lC 0 (lT lN)) ?_
   exact ⟨rfl, rfl, rfl⟩
  ·replace hm := yes_f hc9 hm
   refine Ks ?_
   refine Kd ?_
   refine Kh ?_
   refine Kak htab rfl rfl rfl rfl rfl rfl rfl (fun b11 => ?_)
   refine Kf ?_
   refine Ko ?_
   refine Kh ?_
   refine pu ?_
   refine pL 1 ?_
   refine Kao htab rfl rfl rfl rfl rfl rfl rfl (by first | exact Kae | rfl) ?_
   refine pu ?_
   refine Kf ?_
   obtain ⟨y17, q17, ho17⟩ := Kc hm
   refine KP (Y := Unit) (fun z17 => (⟨[(2, .ptr b1 0), (3, .ptr b2 0), (4, .ptr b3 0), (6, .v (.int .i64 x4)), (7, .ptr b11 0)], [(b1, Blk.cells [.v (.pointer (pO a0.gM)), .v (.pointer (pO a0.gF))] 120), (b2, Blk.cells [.v (.int .i64 a1.gOp), .v (.int .i64 a1.gN), .v (.string a1.gName), .lst 5 (a1.gKids.map Kn) .no, .v (.int .i64 a1.gAt)] 89), (b3, Blk.cells [.v (.bool false), .v (.int .i64 (0 : Int)), .v (.string ByteArray.empty), .v (.int .i64 (0 : Int))] 28), (b11, Blk.cells [.v (.bool false), .v (.int .i64 (0 : Int)), .v (.string ByteArray.empty), .v (.int .i64 (0 : Int)), .v (.bool false), .v (.int .i64 (0 : Int)), .v (.string ByteArray.empty), .v (.int .i64 (0 : Int))] 132)], []⟩ : S)) ?_ ?_
   ·clear hm; have hm := Ku q17
    refine KC ?_
    obtain ⟨u18, hl18, hq18⟩ := yes_m hm
    refine KaW (Y := Unit) hl18 (fun s18 z18 => (⟨[(2, .ptr b1 0), (3, .ptr b2 0), (4, .ptr b3 0), (6, .v (.int .i64 x4)), (7, .ptr b11 0), (26, .lst 5 (a1.gKids.map Kn) .no), (27, .v (.int .i64 (a1.gKids.length : Int))), (28, .v (.int .i64 (0 : Int)))], [(b1, Blk.cells [.v (.pointer (pO a0.gM)), .v (.pointer (pO a0.gF))] 120), (b2, Blk.cells [.v (.int .i64 a1.gOp), .v (.int .i64 a1.gN), .v (.string a1.gName), .lst 5 (a1.gKids.map Kn) .no, .v (.int .i64 a1.gAt)] 89), (b3, Blk.cells [.v (.bool false), .v (.int .i64 (0 : Int)), .v (.string ByteArray.empty), .v (.int .i64 (0 : Int))] 28), (b11, Blk.cells [.v (.bool false), .v (.int .i64 (0 : Int)), .v (.string ByteArray.empty), .v (.int .i64 (0 : Int)), .v (.bool false), .v (.int .i64 (0 : Int)), .v (.string ByteArray.empty), .v (.int .i64 (0 : Int))] 132)], []⟩ : S)) ?_ ?_
    ·skip
     exact WkX.of () (WkS.perm (WkS.cons rfl (Wk.refl _) (WkS.cons rfl (Wk.refl _) (WkS.cons rfl (Wk.refl _) (WkS.cons rfl (Wk.refl _) (WkS.cons rfl (Wk.refl _) (WkS.cons rfl (Wk.refl _) (WkS.cons rfl (Wk.refl _) (WkS.cons rfl (Wk.refl _) (WkS.nil))))))))) Pf Pf)
    ·intro G18 s18 z18 hm
     refine Kh ?_
     refine pu ?_
     refine Kf ?_
     refine Ko ?_
     refine Kp rfl (fun hc21 => ?_) (fun hc21 => ?_)
     ·replace hm := yes_t hc21 hm
      exact (Kbt hm).elim
     ·replace hm := yes_f hc21 hm
      refine Kal ?_
      refine KJ ?_
      have e18 := Kab hm; subst e18; clear hm; have hm := hq18
      refine KJ ?_
      refine Kaf ?_
      have e17 := Ki hm; subst e17
      refine ⟨rfl, ?_⟩
      exact WkX.of () (WkS.perm (WkS.cons rfl (Wk.refl _) (WkS.cons rfl (Wk.refl _) (WkS.cons rfl (Wk.refl _) (WkS.cons rfl (Wk.refl _) (WkS.cons rfl (Wk.refl _) (WkS.nil)))))) Pf Pf)
   ·intro s17 hw17; clear hm; have hm := ho17; clear q17 ho17
    refine Kd ?_
    refine KY hw17 (fun z17 => ?_)
    refine Ko ?_
    refine Kh ?_
    refine pu ?_
    refine Kf ?_
    refine KC ?_
    refine Kh ?_
    refine pu ?_
    refine pu ?_
    refine Kf ?_
    refine Kp rfl (fun hc26 => ?_) (fun hc26 => ?_)
    ·replace hm := yes_t hc26 hm
     refine Kh ?_
     refine K3 (d := KeS a0) 0 htab rfl rfl rfl rfl rfl rfl rfl rfl ?_
     refine K3 (d := .agg [.v (.int .i64 a1.gOp), .v (.int .i64 a1.gN), .v (.string a1.gName), .lst 5 (a1.gKids.map Kn) .no, .v (.int .i64 a1.gAt)]) 1 htab rfl rfl rfl rfl rfl rfl rfl rfl ?_
     obtain ⟨x27, q27, hm⟩ := Kc hm
     refine KT (KfB a0 a1 x27 q27) rfl rfl rfl rfl rfl (WkL.cons (Wk.refl _) (WkL.cons (Wk.trans (Wk.agg (WkR.refl _)) (Wk.of_eq (K0 a1).symm)) Wl)) ?_
     rintro _ rfl
     refine pu ?_
     refine pu ?_
     refine pS2 (ds' := [.v (.bool x27.1.gPtr), .v (.int .i64 x27.1.gN), .v (.string x27.1.gTo.gName), .v (.int .i64 x27.1.gTo.gAt)]) ?_
     refine pu ?_
     refine Kf ?_
     refine KA ?_
     refine KW ?_
     refine KB ?_
     have er28 := Ki hm; subst er28
     refine rP (t' := [(4, .ptr b3 0), (5, .v (.int .i64 x27.2))]) [2] [] 0 (wC (wC wN)) (lC 0 (lT lN)) ?_
     exact ⟨rfl, rfl, rfl⟩
    ·replace hm := yes_f hc26 hm
     exact (Kbt hm).elim
noncomputable def Kdv (a0 : Option Nat) (a1 : Option Nat) (a2 : Kq) : Option (Ky × Int) :=
 ((KbU (⟨a0, a1⟩ : Kbl) a2).bind fun x3 => some (x3.1, x3.2))
theorem Kg0 (a0 : Option Nat) (a1 : Option Nat) (a2 : Kq) (r : Ky × Int) (h0 : Kdv a0 a1 a2 = some r) : CallsD Tryz.prog 34 [.v (.pointer (pO a0)), .v (.pointer (pO a1)), Kn a2] [] [] (fun d h k => d = .tup [K4 r.1, .v (.int .i64 r.2)] ∧ h = [] ∧ k = []) := by
 have hm := Ku h0
 unfold Kdv at hm
 clear h0
 refine K5 htab Tryz.func34 rfl rfl rfl rfl rfl (fun C => ?_)
 refine w_eq (i := 2) rfl (Wk.of_eq (K0 a2)) ?_
 refine Kh ?_
 refine p_box rfl rfl rfl rfl rfl rfl rfl (fun b1 => ?_)
 refine Kak htab rfl rfl rfl rfl rfl rfl rfl (fun b2 => ?_)
 refine pu ?_
 refine KL ?_
 refine pu ?_
 refine pu ?_
 refine Ka6 (r := [.v (.pointer (pO a0)), .v (.pointer (pO a1))]) htab rfl rfl rfl rfl rfl rfl rfl rfl rfl ?_
 refine K3 (d := .agg [.v (.int .i64 a2.gOp), .v (.int .i64 a2.gN), .v (.string a2.gName), .lst 5 (a2.gKids.map Kn) .no, .v (.int .i64 a2.gAt)]) 0 htab rfl rfl rfl rfl rfl rfl rfl rfl ?_
 obtain ⟨x3, q3, hm⟩ := Kc hm
 refine KT (KfC (⟨a0, a1⟩ : Kbl) a2 x3 q3) rfl rfl rfl rfl rfl (WkL.cons (Wk.refl _) (WkL.cons (Wk.trans (Wk.agg (WkR.refl _)) (Wk.of_eq (K0 a2).symm)) Wl)) ?_
 rintro _ rfl
 refine pu ?_
 refine pu ?_
 refine pS1 (ds' := [.v (.bool x3.1.gPtr), .v (.int .i64 x3.1.gN), .v (.string x3.1.gTo.gName), .v (.int .i64 x3.1.gTo.gAt)]) ?_
 refine pu ?_
 refine Kf ?_
 refine KA ?_
 have er4 := Ki hm; subst er4
 refine rP (t' := [(6, .ptr b2 0), (7, .v (.int .i64 x3.2))]) [1] [] 0 (wC (wC wN)) (lC 0 (lT lN)) ?_
 exact ⟨rfl, rfl, rfl⟩
structure KN where
 gG : KV
 gF : Option Nat
 gNode : Int
 gRet : Ky
noncomputable def KbV (m0 : KN) : Option (List Kaa) :=
 (Option.bind (α := List Kaa) (loopM (fun (s22 : List Kaa × Int) => (bif (decide (s22.2 < (m0.gG.gEdges.length : Int))) then ((idx m0.gG.gEdges s22.2).bind fun x37 => (bif (x37.gFrom == m0.gNode) then ((app 80 s22.1 ([x37] : List Kaa)).bind fun x40 => some (.next (x40, (IntKind.i64.wrap (s22.2 + (1 : Int)))))) else some (.next (s22.1, (IntKind.i64.wrap (s22.2 + (1 : Int))))))) else some (.done s22.1))) (([] : List Kaa), (0 : Int))) fun y21 => some y21)
theorem KfD (m0 : KN) (o0 : Nat) (T0 : TypeId) (c0_2 : Cap) (c0_3 : Cap) (r : List Kaa) (h0 : KbV m0 = some r) : CallsD Tryz.prog 32 [.ptr o0 0] [(o0, Blk.cells [.v (.string m0.gG.gFunc), .v (.int .i64 m0.gG.gNodes), .lst 6 (m0.gG.gEdges.map Km) c0_2, .lst 2 (m0.gG.gVars.map Ke) c0_3, .v (.int .i64 m0.gG.gMany), .v (.pointer (pO m0.gF)), .v (.int .i64 m0.gNode), .v (.bool m0.gRet.gPtr), .v (.int .i64 m0.gRet.gN), .v (.string m0.gRet.gTo.gName), .v (.int .i64 m0.gRet.gTo.gAt)] T0)] [] (fun d h k => ∃ y0, d = .lst 6 (r.map Km) (.cur y0) ∧ h = [(o0, Blk.cells [.v (.string m0.gG.gFunc), .v (.int .i64 m0.gG.gNodes), .lst 6 (m0.gG.gEdges.map Km) c0_2, .lst 2 (m0.gG.gVars.map Ke) c0_3, .v (.int .i64 m0.gG.gMany), .v (.pointer (pO m0.gF)), .v (.int .i64 m0.gNode), .v (.bool m0.gRet.gPtr), .v (.int .i64 m0.gRet.gN), .v (.string m0.gRet.gTo.gName), .v (.int .i64 m0.gRet.gTo.gAt)] T0)] ∧ k = [(6, y0)]) := by
 have hm := Ku h0
 unfold KbV at hm
 clear h0
 refine K5 htab Tryz.func32 rfl rfl rfl rfl rfl (fun C => ?_)
 refine Kh ?_
 refine pu ?_
 refine KL ?_
 refine pu ?_
 refine Kf ?_
 refine Ko ?_
 refine Kh ?_
 iterate 4 refine pu ?_
 refine pL 0 ?_
 refine Kao htab rfl rfl rfl rfl rfl rfl rfl (by first | exact Kae | rfl) ?_
 refine pu ?_
 refine Kf ?_
 obtain ⟨y21, q21, ho21⟩ := Kc hm
 refine KP (Y := Value) (fun z21 => (⟨[(3, .lst 6 (y21.map Km) (.cur z21))], [(o0, Blk.cells [.v (.string m0.gG.gFunc), .v (.int .i64 m0.gG.gNodes), .lst 6 (m0.gG.gEdges.map Km) c0_2, .lst 2 (m0.gG.gVars.map Ke) c0_3, .v (.int .i64 m0.gG.gMany), .v (.pointer (pO m0.gF)), .v (.int .i64 m0.gNode), .v (.bool m0.gRet.gPtr), .v (.int .i64 m0.gRet.gN), .v (.string m0.gRet.gTo.gName), .v (.int .i64 m0.gRet.gTo.gAt)] T0)], [(6, z21)]⟩ : S)) ?_ ?_
 ·clear hm; have hm := Ku q21
  refine KC ?_
  obtain ⟨u22, hl22, hq22⟩ := yes_m hm
  refine KaW (Y := Value) hl22 (fun s22 z22 => (⟨[(0, .ptr o0 0), (3, .lst 6 (s22.1.map Km) (.cur z22)), (10, .lst 6 (m0.gG.gEdges.map Km) c0_2), (11, .v (.int .i64 (m0.gG.gEdges.length : Int))), (12, .v (.int .i64 s22.2))], [(o0, Blk.cells [.v (.string m0.gG.gFunc), .v (.int .i64 m0.gG.gNodes), .lst 6 (m0.gG.gEdges.map Km) c0_2, .lst 2 (m0.gG.gVars.map Ke) c0_3, .v (.int .i64 m0.gG.gMany), .v (.pointer (pO m0.gF)), .v (.int .i64 m0.gNode), .v (.bool m0.gRet.gPtr), .v (.int .i64 m0.gRet.gN), .v (.string m0.gRet.gTo.gName), .v (.int .i64 m0.gRet.gTo.gAt)] T0)], [(6, z22)]⟩ : S)) ?_ ?_
  ·skip
   refine WkX.tokN (i := 3) 6 rfl (fun w35 => ?_)
   exact WkX.of w35 (WkS.perm (WkS.cons rfl (Wk.refl _) (WkS.cons rfl (Wk.refl _) (WkS.cons rfl (Wk.refl _) (WkS.cons rfl (Wk.refl _) (WkS.cons rfl (Wk.refl _) (WkS.nil)))))) Pf Pf)
  ·intro G22 s22 z22 hm
   refine Kh ?_
   refine pu ?_
   refine Kf ?_
   refine Ko ?_
   refine Kp rfl (fun hc36 => ?_) (fun hc36 => ?_)
   ·replace hm := yes_t hc36 hm
    refine Ks ?_
    refine Kd ?_
    refine Ko ?_
    refine KC ?_
    refine Kh ?_
    obtain ⟨x37, q37, hm⟩ := Kc hm
    refine KaB htab rfl rfl rfl rfl rfl rfl rfl rfl rfl rfl (KM q37) (K8 q37) ?_
    refine Kai (d := Km x37) htab rfl rfl rfl rfl rfl rfl rfl rfl ?_
    refine Kak htab rfl rfl rfl rfl rfl rfl rfl (fun b38 => ?_)
    refine pS1 (ds' := [.v (.int .i64 x37.gFrom), .v (.int .i64 x37.gTo), .v (.int .i64 x37.gKind), .v (.string x37.gName), .v (.string x37.gFunc), .lst 5 (x37.gExps.map Kn) .no]) ?_
    refine Kf ?_
    refine Ko ?_
    refine Kax 6 [] [[],[0],[],[2],[2,3],[2,3,4]] [0,2,3,4] [[],[0],[],[2],[2,3],[2,3,4],[0,1,2,3,4,5]] (by kernel_rfl) (by kernel_rfl) (by kernel_rfl) (by rfl) (by rfl) (by kernel_rfl) ?_
    iterate 4 apply Exists.intro
    intro bs
    refine zep ?_
    refine z_qM rfl rfl (KX 1 htab rfl rfl rfl rfl rfl) rfl rfl rfl rfl rfl rfl ?_
    iterate 3 refine zep ?_
    refine z_qM rfl rfl (KX 0 htab rfl rfl rfl rfl rfl) rfl rfl rfl rfl rfl rfl ?_
    refine z_nil rfl rfl (fun e he => by simp [isAl] at he) ?_
    refine pu ?_
    refine Kf ?_
    refine Kp rfl (fun hc39 => ?_) (fun hc39 => ?_)
    ·replace hm := yes_t hc39 hm
     refine Kr ?_
     refine pu ?_
     refine K3 (d := Km x37) 1 htab rfl rfl rfl rfl rfl rfl rfl rfl ?_
     refine p_lit htab rfl rfl rfl rfl rfl rfl rfl rfl rfl rfl rfl rfl rfl rfl ?_
     refine p_eq (i := 25) (d' := .lst 6 (([x37] : List Kaa).map Km) .full) rfl (Wk.lst0 (.cons (WkC.refl _) (.nil))) ?_
     obtain ⟨x40, q40, hm⟩ := Kc hm
     refine p_appC 0 htab rfl rfl rfl rfl rfl rfl rfl rfl rfl rfl rfl rfl rfl rfl rfl rfl rfl (KbZ q40) (fun v40 => ?_)
     refine p_mapD (i := 26) q40 rfl ?_
     refine pu ?_
     refine Kt ?_
     refine Kz ?_
     refine Kd ?_
     refine Kr ?_
     refine pu ?_
     refine pu ?_
     refine Kt ?_
     refine Kd ⟨_, Kas hm, ?_⟩
     exact WkX.of v40 (WkS.perm (WkS.cons rfl (Wk.refl _) (WkS.cons rfl (Wk.refl _) (WkS.cons rfl (Wk.refl _) (WkS.cons rfl (Wk.refl _) (WkS.cons rfl (Wk.refl _) (WkS.nil)))))) Pf Pf)
    ·replace hm := yes_f hc39 hm
     refine Ks ?_
     refine Kz ?_
     refine Kd ?_
     refine Kr ?_
     refine pu ?_
     refine pu ?_
     refine Kt ?_
     refine Kd ⟨_, Kas hm, ?_⟩
     exact WkX.of z22 (WkS.perm (WkS.cons rfl (Wk.refl _) (WkS.cons rfl (Wk.refl _) (WkS.cons rfl (Wk.refl _) (WkS.cons rfl (Wk.refl _) (WkS.cons rfl (Wk.refl _) (WkS.nil)))))) Pf Pf)
   ·replace hm := yes_f hc36 hm
    refine Kal ?_
    refine KJ ?_
    have e22 := Kab hm; subst e22; clear hm; have hm := hq22
    refine KJ ?_
    refine Kaf ?_
    have e21 := Ki hm; subst e21
    refine ⟨rfl, ?_⟩
    exact WkX.of z22 (WkS.perm (WkS.cons rfl (Wk.refl _) (WkS.nil)) Pf Pf)
 ·intro s21 hw21; clear hm; have hm := ho21; clear q21 ho21
  refine Kd ?_
  refine KY hw21 (fun z21 => ?_)
  refine Kh ?_
  refine pu ?_
  refine pu ?_
  refine Kf ?_
  refine KA ?_
  have er41 := Ki hm; subst er41
  refine rP (t' := [(2, .lst 6 (y21.map Km) (.cur z21))]) [0] [0] 1 (wC wN) (lT lN) ?_
  exact ⟨z21, rfl, rfl, rfl⟩
noncomputable def KbL (a0 : KV) (m0 : ByteArray) : Option (Bool) :=
 some (decide (a0.gFunc = m0))
theorem Kfl (a0 : KV) (m0 : ByteArray) (o0 : Nat) (T0 : TypeId) (r : Bool) (h0 : KbL a0 m0 = some r) : CallsD Tryz.prog 43 [KQ a0, .ptr o0 0] [(o0, Blk.cells [.v (.string m0)] T0)] [] (fun d h k => d = .v (.bool r) ∧ h = [(o0, Blk.cells [.v (.string m0)] T0)] ∧ k = []) := by
 have hm := Ku h0
 unfold KbL at hm
 clear h0
 refine K5 htab Tryz.func43 rfl rfl rfl rfl rfl (fun C => ?_)
 refine Kh ?_
 refine p_box rfl rfl rfl rfl rfl rfl rfl (fun b1 => ?_)
 refine pu ?_
 refine KL ?_
 refine pu ?_
 refine pL 1 ?_
 refine pL 0 ?_
 refine pu ?_
 refine pu ?_
 refine Kf ?_
 refine KA ?_
 have er2 := Ki hm; subst er2
 refine rP (t' := [(3, .v (.bool (decide (a0.gFunc = m0))))]) [0] [] 1 (wC wN) (lT lN) ?_
 exact ⟨rfl, rfl, rfl⟩
noncomputable def Kan (a0 : List KV) (m0 : ByteArray) : Option (Int) :=
 (Option.bind (α := (Unit) ⊕ (Int)) (loopM (fun (s18 : Int) => (bif (decide (s18 < (a0.length : Int))) then ((idx a0 s18).bind fun x30 => ((KbL x30 m0).bind fun x31 => (bif x31 then some (.done (.inr s18)) else some (.next (IntKind.i64.wrap (s18 + (1 : Int))))))) else some (.done (.inl ())))) (0 : Int)) (Sum.elim (fun y17 => some (-1 : Int)) (fun r => some r)))
theorem Kca (a0 : List KV) (m0 : ByteArray) (o0 : Nat) (T0 : TypeId) (r : Int) (h0 : Kan a0 m0 = some r) : CallsD Tryz.prog 42 [.lst 5 (a0.map KQ) .no, .fn (.func 43) [] [.ptr o0 0]] [(o0, Blk.cells [.v (.string m0)] T0)] [] (fun d h k => d = .v (.int .i64 r) ∧ h = [(o0, Blk.cells [.v (.string m0)] T0)] ∧ k = []) := by
 have hm := Ku h0
 unfold Kan at hm
 clear h0
 refine K5 htab Tryz.func42 rfl rfl rfl rfl rfl (fun C => ?_)
 refine Kh ?_
 refine pu ?_
 refine Kf ?_
 refine Ko ?_
 refine Kh ?_
 refine pu ?_
 refine Kao htab rfl rfl rfl rfl rfl rfl rfl (by first | exact Kae | rfl) ?_
 refine pu ?_
 refine Kf ?_
 obtain ⟨x17, q17, ho17⟩ := Kc hm
 refine Kbe (τ := Unit) (Y := Unit) (fun y17 z17 => (⟨[], [(o0, Blk.cells [.v (.string m0)] T0)], []⟩ : S)) x17 ?_ ?_
 ·clear hm; have hm := Ku q17
  refine KC ?_
  obtain ⟨u18, hl18, hq18⟩ := yes_m hm
  refine KaW (Y := Unit) hl18 (fun s18 z18 => (⟨[(0, .lst 5 (a0.map KQ) .no), (1, .fn (.func 43) [] [.ptr o0 0]), (7, .v (.int .i64 (a0.length : Int))), (8, .v (.int .i64 s18))], [(o0, Blk.cells [.v (.string m0)] T0)], []⟩ : S)) ?_ ?_
  ·skip
   exact WkX.of () (WkS.perm (WkS.cons rfl (Wk.refl _) (WkS.cons rfl (Wk.refl _) (WkS.cons rfl (Wk.refl _) (WkS.cons rfl (Wk.refl _) (WkS.nil))))) Pf Pf)
  ·intro G18 s18 z18 hm
   refine Kh ?_
   refine pu ?_
   refine Kf ?_
   refine Ko ?_
   refine Kp rfl (fun hc29 => ?_) (fun hc29 => ?_)
   ·replace hm := yes_t hc29 hm
    refine Ks ?_
    refine Kd ?_
    refine Ko ?_
    refine KC ?_
    refine Kh ?_
    refine pu ?_
    refine pu ?_
    refine KL ?_
    iterate 3 refine pu ?_
    obtain ⟨x30, q30, hm⟩ := Kc hm
    refine KaB htab rfl rfl rfl rfl rfl rfl rfl rfl rfl rfl (KM q30) (K8 q30) ?_
    refine Kai (d := KQ x30) htab rfl rfl rfl rfl rfl rfl rfl rfl ?_
    obtain ⟨x31, q31, hm⟩ := Kc hm
    refine p_callV (Kfl x30 m0 o0 T0 x31 q31) rfl rfl rfl rfl rfl rfl rfl Wl Pf Pf ?_
    rintro _ _ _ ⟨rfl, rfl, rfl⟩
    refine Kf ?_
    refine Kp rfl (fun hc32 => ?_) (fun hc32 => ?_)
    ·replace hm := yes_t hc32 hm
     refine Kh ?_
     refine pu ?_
     refine pu ?_
     refine Kf ?_
     refine KA ?_
     refine KW ?_
     refine KB ?_
     have e18 := Kab hm; subst e18; clear hm; have hm := hq18
     refine KB ?_
     refine KW ?_
     have e17 := Ki hm; subst e17; refine KaD ?_; clear hm; have hm := ho17; simp only [Sum.elim_inr] at hm
     refine KB ?_
     have er33 := Ki hm; subst er33
     refine rP (t' := [(4, .v (.int .i64 s18))]) [0] [] 1 (wC wN) (lT lN) ?_
     exact ⟨rfl, rfl, rfl⟩
    ·replace hm := yes_f hc32 hm
     refine Ks ?_
     refine Kz ?_
     refine Kd ?_
     refine Kr ?_
     refine pu ?_
     refine pu ?_
     refine Kt ?_
     refine Kd ⟨_, Kas hm, ?_⟩
     exact WkX.of () (WkS.perm (WkS.cons rfl (Wk.refl _) (WkS.cons rfl (Wk.refl _) (WkS.cons rfl (Wk.refl _) (WkS.cons rfl (Wk.refl _) (WkS.nil))))) Pf Pf)
   ·replace hm := yes_f hc29 hm
    refine Kal ?_
    refine KJ ?_
    have e18 := Kab hm; subst e18; clear hm; have hm := hq18
    refine KJ ?_
    refine Kaf ?_
    have e17 := Ki hm; subst e17
    refine Kbf ?_
    exact WkX.of () (WkS.perm (WkS.nil) Pf Pf)
 ·intro y17 s17 hx17 hw17; subst hx17; clear hm; have hm := ho17; simp only [Sum.elim_inl] at hm; clear q17 ho17
  refine Kd ?_
  refine KY hw17 (fun z17 => ?_)
  refine Kh ?_
  refine pu ?_
  refine Kf ?_
  refine KA ?_
  have er34 := Ki hm; subst er34
  refine rP (t' := [(4, .v (.int .i64 (-1 : Int)))]) [0] [] 1 (wC wN) (lT lN) ?_
  exact ⟨rfl, rfl, rfl⟩
structure KU where
 gGraphs : List KV
 gM : Option Nat
 gIn : List Int
 gCalls : List (Option Nat)
 gErr : Int
 gFailed : Int
noncomputable def KbI (m0 : KU) (a1 : ByteArray) : Option (KV × Bool) :=
 ((Kan m0.gGraphs a1).bind fun x3 => (bif (decide (x3 < (0 : Int))) then some ((⟨ByteArray.empty, (0 : Int), [], [], (0 : Int)⟩ : KV), false) else ((idx m0.gGraphs x3).bind fun x7 => some (x7, true))))
theorem KfV (m0 : KU) (a1 : ByteArray) (o0 : Nat) (T0 : TypeId) (c0_0 : Cap) (c0_2 : Cap) (c0_3 : Cap) (r : KV × Bool) (h0 : KbI m0 a1 = some r) : CallsD Tryz.prog 27 [.ptr o0 0, .v (.string a1)] [(o0, Blk.cells [.lst 5 (m0.gGraphs.map KQ) c0_0, .v (.pointer (pO m0.gM)), .lst 1 (m0.gIn.map eI64) c0_2, .lst 1 (m0.gCalls.map ePtr) c0_3, .v (.int .i64 m0.gErr), .v (.int .i64 m0.gFailed)] T0)] [] (fun d h k => d = .tup [KQ r.1, .v (.bool r.2)] ∧ h = [(o0, Blk.cells [.lst 5 (m0.gGraphs.map KQ) c0_0, .v (.pointer (pO m0.gM)), .lst 1 (m0.gIn.map eI64) c0_2, .lst 1 (m0.gCalls.map ePtr) c0_3, .v (.int .i64 m0.gErr), .v (.int .i64 m0.gFailed)] T0)] ∧ k = []) := by
 have hm := Ku h0
 unfold KbI at hm
 clear h0
 refine K5 htab Tryz.func27 rfl rfl rfl rfl rfl (fun C => ?_)
 refine Kh ?_
 refine p_box rfl rfl rfl rfl rfl rfl rfl (fun b1 => ?_)
 refine Kak htab rfl rfl rfl rfl rfl rfl rfl (fun b2 => ?_)
 refine pu ?_
 refine KL ?_
 iterate 3 refine pu ?_
 refine pL 0 ?_
 refine pu ?_
 obtain ⟨x3, q3, hm⟩ := Kc hm
 refine KaM (Kca m0.gGraphs a1 b1 9 x3 q3) rfl rfl rfl rfl rfl (WkL.cons (Wk.no) (WkL.cons (Wk.refl _) Wl)) ((K2 (j := 1) rfl).trans (List.Perm.cons _ Pf)) Pf ?_
 rintro _ _ _ ⟨rfl, rfl, rfl⟩
 refine pu ?_
 refine Kf ?_
 refine Ko ?_
 refine Kh ?_
 refine pu ?_
 refine pu ?_
 refine Kf ?_
 refine Kp rfl (fun hc5 => ?_) (fun hc5 => ?_)
 ·replace hm := yes_t hc5 hm
  refine Kh ?_
  refine Ka6 (r := [.v (.string ByteArray.empty), .v (.int .i64 (0 : Int)), .lst 1 [] .full, .lst 1 [] .full, .v (.int .i64 (0 : Int))]) htab rfl rfl rfl rfl rfl rfl rfl rfl rfl ?_
  refine pS2 (ds' := [.v (.string ByteArray.empty), .v (.int .i64 (0 : Int)), .lst 1 [] .full, .lst 1 [] .full, .v (.int .i64 (0 : Int))]) ?_
  refine pu ?_
  refine Kf ?_
  refine KA ?_
  refine KB ?_
  have er6 := Ki hm; subst er6
  refine retX.wk (WkS.bl2 (ds' := [.v (.string ByteArray.empty), .v (.int .i64 (0 : Int)), .lst 6 (([] : List Kaa).map Km) .no, .lst 2 (([] : List K9).map Ke) .no, .v (.int .i64 (0 : Int))]) (rC (rC (WkR.cons (WkC.nil) rfl (WkR.cons (WkC.nil) rfl (rC WkR.nil)))))) ?_
  refine rP (t' := [(4, .ptr b2 0), (5, .v (.bool false))]) [1,1] [] 1 (wC (wC wN)) (lC 1 (lT lN)) ?_
  exact ⟨rfl, rfl, rfl⟩
 ·replace hm := yes_f hc5 hm
  refine Ks ?_
  refine Kd ?_
  refine Kh ?_
  iterate 3 refine pu ?_
  refine pL 1 ?_
  refine pu ?_
  obtain ⟨x7, q7, hm⟩ := Kc hm
  refine KaB htab rfl rfl rfl rfl rfl rfl rfl rfl rfl rfl (KM q7) (K8 q7) ?_
  refine Kai (d := KQ x7) htab rfl rfl rfl rfl rfl rfl rfl rfl ?_
  refine pS2 (ds' := [.v (.string x7.gFunc), .v (.int .i64 x7.gNodes), .lst 6 (x7.gEdges.map Km) .no, .lst 2 (x7.gVars.map Ke) .no, .v (.int .i64 x7.gMany)]) ?_
  refine pu ?_
  refine Kf ?_
  refine KA ?_
  have er8 := Ki hm; subst er8
  refine rP (t' := [(4, .ptr b2 0), (5, .v (.bool true))]) [1,1] [] 1 (wC (wC wN)) (lC 1 (lT lN)) ?_
  exact ⟨rfl, rfl, rfl⟩
abbrev nlRn3_1 : List (List Nat) := nlD [] [(0,[]),(0,[0]),(2,[1]),(3,[2]),(0,[]),(0,[4]),(6,[5]),(7,[6]),(0,[]),(4,[3,4,5,6,7,8]),(10,[9]),(11,[10]),(12,[]),(0,[]),(12,[11,13])]
abbrev nlRn3_2 : List (List Nat) := nlD [] [(0,[]),(0,[0]),(2,[1]),(3,[2]),(0,[]),(0,[4]),(6,[5]),(7,[6]),(0,[]),(4,[3,4,5,6,7,8]),(10,[9]),(11,[10]),(12,[]),(0,[]),(12,[11,13]),(12,[11,12,13,14])]
noncomputable def Kcb (m0 : KU) (m1 : KN) (a2 : List Kq) : Option (List Ky × Int) :=
 (Option.bind (α := (List Ky) ⊕ (List Ky × Int)) (loopM (fun (s29 : List Ky × Int) => (bif (decide (s29.2 < (a2.length : Int))) then ((idx a2 s29.2).bind fun x48 => ((Kdv m0.gM m1.gF x48).bind fun x50 => (bif (x50.2 != (0 : Int)) then some (.done (.inr (([] : List Ky), x50.2))) else ((app 40 s29.1 ([x50.1] : List Ky)).bind fun x55 => some (.next (x55, (IntKind.i64.wrap (s29.2 + (1 : Int))))))))) else some (.done (.inl s29.1)))) (([] : List Ky), (0 : Int))) (Sum.elim (fun y28 => some (y28, (0 : Int))) (fun r => some r)))
theorem KfW (m0 : KU) (m1 : KN) (a2 : List Kq) (o0 : Nat) (T0 : TypeId) (c0_0 : Cap) (c0_2 : Cap) (c0_3 : Cap) (o1 : Nat) (T1 : TypeId) (c1_2 : Cap) (c1_3 : Cap) (r : List Ky × Int) (h0 : Kcb m0 m1 a2 = some r) : CallsD Tryz.prog 35 [.ptr o0 0, .ptr o1 0, .lst 5 (a2.map Kn) .no] [(o0, Blk.cells [.lst 5 (m0.gGraphs.map KQ) c0_0, .v (.pointer (pO m0.gM)), .lst 1 (m0.gIn.map eI64) c0_2, .lst 1 (m0.gCalls.map ePtr) c0_3, .v (.int .i64 m0.gErr), .v (.int .i64 m0.gFailed)] T0), (o1, Blk.cells [.v (.string m1.gG.gFunc), .v (.int .i64 m1.gG.gNodes), .lst 6 (m1.gG.gEdges.map Km) c1_2, .lst 2 (m1.gG.gVars.map Ke) c1_3, .v (.int .i64 m1.gG.gMany), .v (.pointer (pO m1.gF)), .v (.int .i64 m1.gNode), .v (.bool m1.gRet.gPtr), .v (.int .i64 m1.gRet.gN), .v (.string m1.gRet.gTo.gName), .v (.int .i64 m1.gRet.gTo.gAt)] T1)] [] (fun d h k => ∃ y0, d = .tup [.lst 4 (r.1.map K4) (.cur y0), .v (.int .i64 r.2)] ∧ h = [(o0, Blk.cells [.lst 5 (m0.gGraphs.map KQ) c0_0, .v (.pointer (pO m0.gM)), .lst 1 (m0.gIn.map eI64) c0_2, .lst 1 (m0.gCalls.map ePtr) c0_3, .v (.int .i64 m0.gErr), .v (.int .i64 m0.gFailed)] T0), (o1, Blk.cells [.v (.string m1.gG.gFunc), .v (.int .i64 m1.gG.gNodes), .lst 6 (m1.gG.gEdges.map Km) c1_2, .lst 2 (m1.gG.gVars.map Ke) c1_3, .v (.int .i64 m1.gG.gMany), .v (.pointer (pO m1.gF)), .v (.int .i64 m1.gNode), .v (.bool m1.gRet.gPtr), .v (.int .i64 m1.gRet.gN), .v (.string m1.gRet.gTo.gName), .v (.int .i64 m1.gRet.gTo.gAt)] T1)] ∧ k = [(4, y0)]) := by
 have hm := Ku h0
 unfold Kcb at hm
 clear h0
 refine K5 htab Tryz.func35 rfl rfl rfl rfl rfl (fun C => ?_)
 refine Kh ?_
 refine pu ?_
 refine pu ?_
 refine KL ?_
 refine pu ?_
 refine Kf ?_
 refine Ko ?_
 refine Kh ?_
 refine pu ?_
 refine Kao htab rfl rfl rfl rfl rfl rfl rfl (by first | exact Kae | rfl) ?_
 refine pu ?_
 refine Kf ?_
 obtain ⟨x28, q28, ho28⟩ := Kc hm
 refine Kbe (τ := List Ky) (Y := Value) (fun y28 z28 => (⟨[(8, .lst 4 (y28.map K4) (.cur z28))], [(o0, Blk.cells [.lst 5 (m0.gGraphs.map KQ) c0_0, .v (.pointer (pO m0.gM)), .lst 1 (m0.gIn.map eI64) c0_2, .lst 1 (m0.gCalls.map ePtr) c0_3, .v (.int .i64 m0.gErr), .v (.int .i64 m0.gFailed)] T0), (o1, Blk.cells [.v (.string m1.gG.gFunc), .v (.int .i64 m1.gG.gNodes), .lst 6 (m1.gG.gEdges.map Km) c1_2, .lst 2 (m1.gG.gVars.map Ke) c1_3, .v (.int .i64 m1.gG.gMany), .v (.pointer (pO m1.gF)), .v (.int .i64 m1.gNode), .v (.bool m1.gRet.gPtr), .v (.int .i64 m1.gRet.gN), .v (.string m1.gRet.gTo.gName), .v (.int .i64 m1.gRet.gTo.gAt)] T1)], [(4, z28)]⟩ : S)) x28 ?_ ?_
 ·clear hm; have hm := Ku q28
  refine KC ?_
  obtain ⟨u29, hl29, hq29⟩ := yes_m hm
  refine KaW (Y := Value) hl29 (fun s29 z29 => (⟨[(0, .ptr o0 0), (1, .ptr o1 0), (8, .lst 4 (s29.1.map K4) (.cur z29)), (13, .lst 5 (a2.map Kn) .no), (14, .v (.int .i64 (a2.length : Int))), (15, .v (.int .i64 s29.2))], [(o0, Blk.cells [.lst 5 (m0.gGraphs.map KQ) c0_0, .v (.pointer (pO m0.gM)), .lst 1 (m0.gIn.map eI64) c0_2, .lst 1 (m0.gCalls.map ePtr) c0_3, .v (.int .i64 m0.gErr), .v (.int .i64 m0.gFailed)] T0), (o1, Blk.cells [.v (.string m1.gG.gFunc), .v (.int .i64 m1.gG.gNodes), .lst 6 (m1.gG.gEdges.map Km) c1_2, .lst 2 (m1.gG.gVars.map Ke) c1_3, .v (.int .i64 m1.gG.gMany), .v (.pointer (pO m1.gF)), .v (.int .i64 m1.gNode), .v (.bool m1.gRet.gPtr), .v (.int .i64 m1.gRet.gN), .v (.string m1.gRet.gTo.gName), .v (.int .i64 m1.gRet.gTo.gAt)] T1)], [(4, z29)]⟩ : S)) ?_ ?_
  ·skip
   refine WkX.tokN (i := 8) 4 rfl (fun w46 => ?_)
   exact WkX.of w46 (WkS.perm (WkS.cons rfl (Wk.refl _) (WkS.cons rfl (Wk.refl _) (WkS.cons rfl (Wk.refl _) (WkS.cons rfl (Wk.refl _) (WkS.cons rfl (Wk.refl _) (WkS.cons rfl (Wk.refl _) (WkS.nil))))))) Pf Pf)
  ·intro G29 s29 z29 hm
   refine Kh ?_
   refine pu ?_
   refine Kf ?_
   refine Ko ?_
   refine Kp rfl (fun hc47 => ?_) (fun hc47 => ?_)
   ·replace hm := yes_t hc47 hm
    refine Ks ?_
    refine Kd ?_
    refine Ko ?_
    refine KC ?_
    refine Kh ?_
    obtain ⟨x48, q48, hm⟩ := Kc hm
    refine KaB htab rfl rfl rfl rfl rfl rfl rfl rfl rfl rfl (KM q48) (K8 q48) ?_
    refine p_eq (i := 17) rfl (Wk.of_eq (congrArg D.el (K0 x48))) ?_
    refine Kai (d := .agg [.v (.int .i64 x48.gOp), .v (.int .i64 x48.gN), .v (.string x48.gName), .lst 5 (x48.gKids.map Kn) .no, .v (.int .i64 x48.gAt)]) htab rfl rfl rfl rfl rfl rfl rfl rfl ?_
    refine Kak htab rfl rfl rfl rfl rfl rfl rfl (fun b49 => ?_)
    refine pS2 (ds' := [.v (.int .i64 x48.gOp), .v (.int .i64 x48.gN), .v (.string x48.gName), .lst 5 (x48.gKids.map Kn) .no, .v (.int .i64 x48.gAt)]) ?_
    refine Kf ?_
    refine Ko ?_
    obtain ⟨x50, q50, hm⟩ := Kc hm
    refine wpD_fills 15 [(13, [.v (.bool false), .v (.int .i64 (0 : Int)), .v (.string ByteArray.empty), .v (.int .i64 (0 : Int))], 28)] [(13, 14, [.v (.bool x50.1.gPtr), .v (.int .i64 x50.1.gN), .v (.string x50.1.gTo.gName), .v (.int .i64 x50.1.gTo.gAt)])] nlRn3_1 [0,1,2,3,4,5,6,7,8,9,10,11,13,14] nlRn3_2 (by kernel_rfl) (by kernel_rfl) (by kernel_rfl) (by rfl) (by rfl) (by kernel_rfl) ?_
    iterate 12 apply Exists.intro
    refine ⟨.any, ?_⟩
    refine ⟨.any, ?_⟩
    intro bs
    iterate 3 refine zf_e rfl rfl (KaY htab rfl) rfl rfl rfl rfl rfl rfl rfl ?_
    refine zf_eM rfl rfl (KX 0 htab rfl rfl rfl rfl rfl) rfl rfl rfl rfl rfl rfl rfl ?_
    iterate 3 refine zf_e rfl rfl (KaY htab rfl) rfl rfl rfl rfl rfl rfl rfl ?_
    refine zf_eM rfl rfl (KX 1 htab rfl rfl rfl rfl rfl) rfl rfl rfl rfl rfl rfl rfl ?_
    refine zf_eM rfl rfl (KX (d := .agg [.v (.int .i64 x48.gOp), .v (.int .i64 x48.gN), .v (.string x48.gName), .lst 5 (x48.gKids.map Kn) .no, .v (.int .i64 x48.gAt)]) 2 htab rfl rfl rfl rfl rfl) rfl rfl rfl rfl rfl rfl rfl ?_
    refine zf_call rfl rfl (Kg0 m0.gM m1.gF x48 x50 q50) rfl rfl (WkL.cons (Wk.refl _) (WkL.cons (Wk.refl _) (WkL.cons (Wk.trans (Wk.agg (WkR.refl _)) (Wk.of_eq (K0 x48).symm)) Wl))) rfl rfl rfl rfl rfl rfl rfl ?_
    refine zf_e rfl rfl (KaY htab rfl) rfl rfl rfl rfl rfl rfl rfl ?_
    refine zf_e rfl rfl (KaY htab rfl) rfl rfl rfl rfl rfl rfl rfl ?_
    refine zf_q rfl rfl (KaY htab rfl) rfl rfl rfl rfl rfl rfl ?_
    refine zf_alloc rfl htab rfl rfl rfl rfl rfl rfl rfl rfl rfl rfl (by simp [dOf, eI64]) (by simp) ?_
    refine zf_fill (e := 13) (zs := [.v (.bool false), .v (.int .i64 (0 : Int)), .v (.string ByteArray.empty), .v (.int .i64 (0 : Int))]) (T' := 28) (ds' := [.v (.bool x50.1.gPtr), .v (.int .i64 x50.1.gN), .v (.string x50.1.gTo.gName), .v (.int .i64 x50.1.gTo.gAt)]) htab rfl rfl rfl rfl rfl rfl rfl rfl rfl (by simp) (by simp) rfl rfl rfl rfl rfl rfl rfl rfl rfl ?_
    refine zf_nil (h' := [(o0, Blk.cells [.lst 5 (m0.gGraphs.map KQ) c0_0, .v (.pointer (pO m0.gM)), .lst 1 (m0.gIn.map eI64) c0_2, .lst 1 (m0.gCalls.map ePtr) c0_3, .v (.int .i64 m0.gErr), .v (.int .i64 m0.gFailed)] T0), (o1, Blk.cells [.v (.string m1.gG.gFunc), .v (.int .i64 m1.gG.gNodes), .lst 6 (m1.gG.gEdges.map Km) c1_2, .lst 2 (m1.gG.gVars.map Ke) c1_3, .v (.int .i64 m1.gG.gMany), .v (.pointer (pO m1.gF)), .v (.int .i64 m1.gNode), .v (.bool m1.gRet.gPtr), .v (.int .i64 m1.gRet.gN), .v (.string m1.gRet.gTo.gName), .v (.int .i64 m1.gRet.gTo.gAt)] T1), (b49, Blk.cells [.v (.int .i64 x48.gOp), .v (.int .i64 x48.gN), .v (.string x48.gName), .lst 5 (x48.gKids.map Kn) .no, .v (.int .i64 x48.gAt)] 89), (bs 13, Blk.cells [.v (.bool x50.1.gPtr), .v (.int .i64 x50.1.gN), .v (.string x50.1.gTo.gName), .v (.int .i64 x50.1.gTo.gAt)] 28)]) rfl rfl rfl (fun e he => by simp [isAl] at he; subst he; rfl) ?_
    obtain ⟨b51, hb51⟩ : ∃ b, bs 13 = b := ⟨_, rfl⟩
    simp only [hb51]
    clear hb51
    refine pu ?_
    refine Kf ?_
    refine Ko ?_
    refine Kh ?_
    refine pu ?_
    refine pu ?_
    refine Kf ?_
    refine Kp rfl (fun hc52 => ?_) (fun hc52 => ?_)
    ·replace hm := yes_t hc52 hm
     refine Kh ?_
     iterate 3 refine pu ?_
     refine Kf ?_
     refine KA ?_
     refine KB ?_
     refine KW ?_
     refine KB ?_
     have e29 := Kab hm; subst e29; clear hm; have hm := hq29
     refine KB ?_
     refine KW ?_
     have e28 := Ki hm; subst e28; refine KaD ?_; clear hm; have hm := ho28; simp only [Sum.elim_inr] at hm
     refine KB ?_
     have er53 := Ki hm; subst er53
     refine retX.tokN (i := 6) 4 rfl (fun w54 => ?_)
     refine rP (t' := [(6, .lst 4 (([] : List Ky).map K4) (.cur w54)), (7, .v (.int .i64 x50.2))]) [0,0] [0] 2 (wC (wC wN)) (lT (lT lN)) ?_
     exact ⟨w54, rfl, rfl, rfl⟩
    ·replace hm := yes_f hc52 hm
     refine Ks ?_
     refine Kd ?_
     refine Kr ?_
     refine pu ?_
     refine K3 (d := K4 x50.1) 3 htab rfl rfl rfl rfl rfl rfl rfl rfl ?_
     refine p_lit htab rfl rfl rfl rfl rfl rfl rfl rfl rfl rfl rfl rfl rfl rfl ?_
     refine p_eq (i := 37) (d' := .lst 4 (([x50.1] : List Ky).map K4) .full) rfl (Wk.lst0 (.cons (WkC.refl _) (.nil))) ?_
     obtain ⟨x55, q55, hm⟩ := Kc hm
     refine p_appC 0 htab rfl rfl rfl rfl rfl rfl rfl rfl rfl rfl rfl rfl rfl rfl rfl rfl rfl (KbZ q55) (fun v55 => ?_)
     refine p_mapD (i := 38) q55 rfl ?_
     refine pu ?_
     refine Kt ?_
     refine Kz ?_
     refine Kd ?_
     refine Kr ?_
     refine pu ?_
     refine pu ?_
     refine Kt ?_
     refine Kd ⟨_, Kas hm, ?_⟩
     exact WkX.of v55 (WkS.perm (WkS.cons rfl (Wk.refl _) (WkS.cons rfl (Wk.refl _) (WkS.cons rfl (Wk.refl _) (WkS.cons rfl (Wk.refl _) (WkS.cons rfl (Wk.refl _) (WkS.cons rfl (Wk.refl _) (WkS.nil))))))) Pf Pf)
   ·replace hm := yes_f hc47 hm
    refine Kal ?_
    refine KJ ?_
    have e29 := Kab hm; subst e29; clear hm; have hm := hq29
    refine KJ ?_
    refine Kaf ?_
    have e28 := Ki hm; subst e28
    refine Kbf ?_
    exact WkX.of z29 (WkS.perm (WkS.cons rfl (Wk.refl _) (WkS.nil)) Pf Pf)
 ·intro y28 s28 hx28 hw28; subst hx28; clear hm; have hm := ho28; simp only [Sum.elim_inl] at hm; clear q28 ho28
  refine Kd ?_
  refine KY hw28 (fun z28 => ?_)
  refine Kh ?_
  iterate 3 refine pu ?_
  refine Kf ?_
  refine KA ?_
  have er56 := Ki hm; subst er56
  refine rP (t' := [(6, .lst 4 (y28.map K4) (.cur z28)), (7, .v (.int .i64 (0 : Int)))]) [0,0] [0] 2 (wC (wC wN)) (lT (lT lN)) ?_
  exact ⟨z28, rfl, rfl, rfl⟩
noncomputable def Kcn (m0 : KU) (m1 : KN) : Option (Kaa × Int) :=
 ((KbV m1).bind fun x3 => (bif (decide ((x3.length : Int) < (2 : Int))) then ((idx x3 (0 : Int)).bind fun x7 => some (x7, (0 : Int))) else none))
theorem Kgc (m0 : KU) (m1 : KN) (o0 : Nat) (T0 : TypeId) (c0_0 : Cap) (c0_2 : Cap) (c0_3 : Cap) (o1 : Nat) (T1 : TypeId) (c1_2 : Cap) (c1_3 : Cap) (r : Kaa × Int) (h0 : Kcn m0 m1 = some r) : CallsD Tryz.prog 21 [.ptr o0 0, .ptr o1 0] [(o0, Blk.cells [.lst 5 (m0.gGraphs.map KQ) c0_0, .v (.pointer (pO m0.gM)), .lst 1 (m0.gIn.map eI64) c0_2, .lst 1 (m0.gCalls.map ePtr) c0_3, .v (.int .i64 m0.gErr), .v (.int .i64 m0.gFailed)] T0), (o1, Blk.cells [.v (.string m1.gG.gFunc), .v (.int .i64 m1.gG.gNodes), .lst 6 (m1.gG.gEdges.map Km) c1_2, .lst 2 (m1.gG.gVars.map Ke) c1_3, .v (.int .i64 m1.gG.gMany), .v (.pointer (pO m1.gF)), .v (.int .i64 m1.gNode), .v (.bool m1.gRet.gPtr), .v (.int .i64 m1.gRet.gN), .v (.string m1.gRet.gTo.gName), .v (.int .i64 m1.gRet.gTo.gAt)] T1)] [] (fun d h k => d = .tup [Km r.1, .v (.int .i64 r.2)] ∧ h = [(o0, Blk.cells [.lst 5 (m0.gGraphs.map KQ) c0_0, .v (.pointer (pO m0.gM)), .lst 1 (m0.gIn.map eI64) c0_2, .lst 1 (m0.gCalls.map ePtr) c0_3, .v (.int .i64 m0.gErr), .v (.int .i64 m0.gFailed)] T0), (o1, Blk.cells [.v (.string m1.gG.gFunc), .v (.int .i64 m1.gG.gNodes), .lst 6 (m1.gG.gEdges.map Km) c1_2, .lst 2 (m1.gG.gVars.map Ke) c1_3, .v (.int .i64 m1.gG.gMany), .v (.pointer (pO m1.gF)), .v (.int .i64 m1.gNode), .v (.bool m1.gRet.gPtr), .v (.int .i64 m1.gRet.gN), .v (.string m1.gRet.gTo.gName), .v (.int .i64 m1.gRet.gTo.gAt)] T1)] ∧ k = []) := by
 have hm := Ku h0
 unfold Kcn at hm
 clear h0
 refine K5 htab Tryz.func21 rfl rfl rfl rfl rfl (fun C => ?_)
 refine Kh ?_
 refine Kak htab rfl rfl rfl rfl rfl rfl rfl (fun b1 => ?_)
 refine pu ?_
 refine KL ?_
 refine pu ?_
 obtain ⟨x3, q3, hm⟩ := Kc hm
 refine pG (KfD m1 o1 T1 c1_2 c1_3 x3 q3) Wl ((K2 (j := 1) rfl).trans (List.Perm.cons _ Pf)) Pf ?_
 rintro _ _ _ ⟨w2, rfl, rfl, rfl⟩
 refine pu ?_
 refine Kf ?_
 refine Ko ?_
 refine Kh ?_
 refine pu ?_
 refine Kao htab rfl rfl rfl rfl rfl rfl rfl (by first | exact Kae | rfl) ?_
 refine pu ?_
 refine Kf ?_
 refine Kp rfl (fun hc6 => ?_) (fun hc6 => ?_)
 ·replace hm := yes_t hc6 hm
  refine Kh ?_
  refine pu ?_
  obtain ⟨x7, q7, hm⟩ := Kc hm
  refine KaB htab rfl rfl rfl rfl rfl rfl rfl rfl rfl rfl (KM q7) (K8 q7) ?_
  refine Kai (d := Km x7) htab rfl rfl rfl rfl rfl rfl rfl rfl ?_
  refine pS2 (ds' := [.v (.int .i64 x7.gFrom), .v (.int .i64 x7.gTo), .v (.int .i64 x7.gKind), .v (.string x7.gName), .v (.string x7.gFunc), .lst 5 (x7.gExps.map Kn) .no]) ?_
  refine pu ?_
  refine Kf ?_
  refine KA ?_
  refine KB ?_
  have er8 := Ki hm; subst er8
  refine rP (t' := [(4, .ptr b1 0), (5, .v (.int .i64 (0 : Int)))]) [1,0,0] [] 2 (wC (wC wN)) (lC 2 (lT lN)) ?_
  exact ⟨rfl, rfl, rfl⟩
 ·replace hm := yes_f hc6 hm
  exact (Kbt hm).elim
noncomputable def Kdh (m0 : KU) (m1 : KN) (a2 : Kaa) : Option (Int × KU × KN) :=
 ((Kcb m0 m1 a2.gExps).bind fun x3 => (bif (x3.2 != (0 : Int)) then some (x3.2, m0, m1) else (bif (a2.gKind == (1 : Int)) then none else (bif (a2.gKind == (5 : Int)) then none else (bif (a2.gKind == (2 : Int)) then none else (bif (a2.gKind == (3 : Int)) then none else (bif (a2.gKind == (4 : Int)) then none else (bif (a2.gKind == (8 : Int)) then ((idx x3.1 (0 : Int)).bind fun x13 => some ((0 : Int), m0, (⟨m1.gG, m1.gF, m1.gNode, x13⟩ : KN))) else (bif (a2.gKind == (9 : Int)) then ((idx x3.1 (0 : Int)).bind fun x16 => (bif (x16.gN == (0 : Int)) then some ((0 : Int), (⟨m0.gGraphs, m0.gM, m0.gIn, m0.gCalls, m0.gErr, (IntKind.i64.wrap (m0.gFailed + (1 : Int)))⟩ : KU), m1) else some ((0 : Int), m0, m1))) else some ((0 : Int), m0, m1))))))))))
theorem KgT (m0 : KU) (m1 : KN) (a2 : Kaa) (o0 : Nat) (T0 : TypeId) (c0_0 : Cap) (c0_2 : Cap) (c0_3 : Cap) (o1 : Nat) (T1 : TypeId) (c1_2 : Cap) (c1_3 : Cap) (r : Int × KU × KN) (h0 : Kdh m0 m1 a2 = some r) : CallsD Tryz.prog 22 [.ptr o0 0, .ptr o1 0, Km a2] [(o0, Blk.cells [.lst 5 (m0.gGraphs.map KQ) c0_0, .v (.pointer (pO m0.gM)), .lst 1 (m0.gIn.map eI64) c0_2, .lst 1 (m0.gCalls.map ePtr) c0_3, .v (.int .i64 m0.gErr), .v (.int .i64 m0.gFailed)] T0), (o1, Blk.cells [.v (.string m1.gG.gFunc), .v (.int .i64 m1.gG.gNodes), .lst 6 (m1.gG.gEdges.map Km) c1_2, .lst 2 (m1.gG.gVars.map Ke) c1_3, .v (.int .i64 m1.gG.gMany), .v (.pointer (pO m1.gF)), .v (.int .i64 m1.gNode), .v (.bool m1.gRet.gPtr), .v (.int .i64 m1.gRet.gN), .v (.string m1.gRet.gTo.gName), .v (.int .i64 m1.gRet.gTo.gAt)] T1)] [] (fun d h k => d = .v (.int .i64 r.1) ∧ h = [(o0, Blk.cells [.lst 5 (r.2.1.gGraphs.map KQ) c0_0, .v (.pointer (pO r.2.1.gM)), .lst 1 (r.2.1.gIn.map eI64) c0_2, .lst 1 (r.2.1.gCalls.map ePtr) c0_3, .v (.int .i64 r.2.1.gErr), .v (.int .i64 r.2.1.gFailed)] T0), (o1, Blk.cells [.v (.string r.2.2.gG.gFunc), .v (.int .i64 r.2.2.gG.gNodes), .lst 6 (r.2.2.gG.gEdges.map Km) c1_2, .lst 2 (r.2.2.gG.gVars.map Ke) c1_3, .v (.int .i64 r.2.2.gG.gMany), .v (.pointer (pO r.2.2.gF)), .v (.int .i64 r.2.2.gNode), .v (.bool r.2.2.gRet.gPtr), .v (.int .i64 r.2.2.gRet.gN), .v (.string r.2.2.gRet.gTo.gName), .v (.int .i64 r.2.2.gRet.gTo.gAt)] T1)] ∧ k = []) := by
 have hm := Ku h0
 unfold Kdh at hm
 clear h0
 refine K5 htab Tryz.func22 rfl rfl rfl rfl rfl (fun C => ?_)
 refine Kh ?_
 refine p_box rfl rfl rfl rfl rfl rfl rfl (fun b1 => ?_)
 refine pu ?_
 refine KL ?_
 iterate 3 refine pu ?_
 refine pL 2 ?_
 obtain ⟨x3, q3, hm⟩ := Kc hm
 refine pG (KfW m0 m1 a2.gExps o0 T0 c0_0 c0_2 c0_3 o1 T1 c1_2 c1_3 x3 q3) Wl Pf Pf ?_
 rintro _ _ _ ⟨w2, rfl, rfl, rfl⟩
 iterate 5 refine pu ?_
 refine Kf ?_
 refine Ko ?_
 refine Kh ?_
 refine pu ?_
 refine pu ?_
 refine Kf ?_
 refine Kp rfl (fun hc5 => ?_) (fun hc5 => ?_)
 ·replace hm := yes_t hc5 hm
  refine Kh ?_
  refine pu ?_
  refine pu ?_
  refine Kf ?_
  refine KA ?_
  refine KB ?_
  have er6 := Ki hm; subst er6
  refine rP (t' := [(6, .v (.int .i64 x3.2))]) [0,0] [] 2 (wC wN) (lT lN) ?_
  exact ⟨rfl, rfl, rfl⟩
 ·replace hm := yes_f hc5 hm
  refine Ks ?_
  refine Kd ?_
  refine Ko ?_
  refine Kh ?_
  refine pu ?_
  refine pL 2 ?_
  refine Kf ?_
  refine KC ?_
  refine Kh ?_
  refine pu ?_
  refine pu ?_
  refine Kf ?_
  refine Kp rfl (fun hc7 => ?_) (fun hc7 => ?_)
  ·replace hm := yes_t hc7 hm
   exact (Kbt hm).elim
  ·replace hm := yes_f hc7 hm
   refine Kh ?_
   refine pu ?_
   refine pu ?_
   refine Kf ?_
   refine Kp rfl (fun hc8 => ?_) (fun hc8 => ?_)
   ·replace hm := yes_t hc8 hm
    exact (Kbt hm).elim
   ·replace hm := yes_f hc8 hm
    refine Kh ?_
    refine pu ?_
    refine pu ?_
    refine Kf ?_
    refine Kp rfl (fun hc9 => ?_) (fun hc9 => ?_)
    ·replace hm := yes_t hc9 hm
     exact (Kbt hm).elim
    ·replace hm := yes_f hc9 hm
     refine Kh ?_
     refine pu ?_
     refine pu ?_
     refine Kf ?_
     refine Kp rfl (fun hc10 => ?_) (fun hc10 => ?_)
     ·replace hm := yes_t hc10 hm
      exact (Kbt hm).elim
     ·replace hm := yes_f hc10 hm
      refine Kh ?_
      refine pu ?_
      refine pu ?_
      refine Kf ?_
      refine Kp rfl (fun hc11 => ?_) (fun hc11 => ?_)
      ·replace hm := yes_t hc11 hm
       exact (Kbt hm).elim
      ·replace hm := yes_f hc11 hm
       refine Kh ?_
       refine pu ?_
       refine pu ?_
       refine Kf ?_
       refine Kp rfl (fun hc12 => ?_) (fun hc12 => ?_)
       ·replace hm := yes_t hc12 hm
        refine Kr ?_
        refine pu ?_
        refine pu ?_
        obtain ⟨x13, q13, hm⟩ := Kc hm
        refine KaB htab rfl rfl rfl rfl rfl rfl rfl rfl rfl rfl (KM q13) (K8 q13) ?_
        refine Kai (d := K4 x13) htab rfl rfl rfl rfl rfl rfl rfl rfl ?_
        refine pu ?_
        refine pu ?_
        refine pS1 (ds' := [.v (.string m1.gG.gFunc), .v (.int .i64 m1.gG.gNodes), .lst 6 (m1.gG.gEdges.map Km) c1_2, .lst 2 (m1.gG.gVars.map Ke) c1_3, .v (.int .i64 m1.gG.gMany), .v (.pointer (pO m1.gF)), .v (.int .i64 m1.gNode), .v (.bool x13.gPtr), .v (.int .i64 x13.gN), .v (.string x13.gTo.gName), .v (.int .i64 x13.gTo.gAt)]) ?_
        refine Kt ?_
        refine Kz ?_
        refine Kd ?_
        refine Kh ?_
        refine pu ?_
        refine Kf ?_
        refine KA ?_
        have er14 := Ki hm; subst er14
        refine rP (t' := [(6, .v (.int .i64 (0 : Int)))]) [0,0] [] 2 (wC wN) (lT lN) ?_
        exact ⟨rfl, rfl, rfl⟩
       ·replace hm := yes_f hc12 hm
        refine Kh ?_
        refine pu ?_
        refine pu ?_
        refine Kf ?_
        refine Kp rfl (fun hc15 => ?_) (fun hc15 => ?_)
        ·replace hm := yes_t hc15 hm
         refine Kh ?_
         refine pu ?_
         obtain ⟨x16, q16, hm⟩ := Kc hm
         refine KaB htab rfl rfl rfl rfl rfl rfl rfl rfl rfl rfl (KM q16) (K8 q16) ?_
         refine pu ?_
         refine Kai htab rfl rfl rfl rfl rfl rfl rfl rfl ?_
         refine pu ?_
         refine Kf ?_
         refine Kp rfl (fun hc17 => ?_) (fun hc17 => ?_)
         ·replace hm := yes_t hc17 hm
          refine Kr ?_
          iterate 3 refine pu ?_
          refine pL 0 ?_
          iterate 3 refine pu ?_
          refine pS0 (ds' := [.lst 5 (m0.gGraphs.map KQ) c0_0, .v (.pointer (pO m0.gM)), .lst 1 (m0.gIn.map eI64) c0_2, .lst 1 (m0.gCalls.map ePtr) c0_3, .v (.int .i64 m0.gErr), .v (.int .i64 (IntKind.i64.wrap (m0.gFailed + (1 : Int))))]) ?_
          refine Kt ?_
          refine Kz ?_
          refine Kd ?_
          refine Kh ?_
          refine pu ?_
          refine Kf ?_
          refine KA ?_
          have er18 := Ki hm; subst er18
          refine rP (t' := [(6, .v (.int .i64 (0 : Int)))]) [0,0] [] 2 (wC wN) (lT lN) ?_
          exact ⟨rfl, rfl, rfl⟩
         ·replace hm := yes_f hc17 hm
          refine Ks ?_
          refine Kz ?_
          refine Kd ?_
          refine Kh ?_
          refine pu ?_
          refine Kf ?_
          refine KA ?_
          have er19 := Ki hm; subst er19
          refine rP (t' := [(6, .v (.int .i64 (0 : Int)))]) [0,0] [] 2 (wC wN) (lT lN) ?_
          exact ⟨rfl, rfl, rfl⟩
        ·replace hm := yes_f hc15 hm
         refine Ks ?_
         refine Kz ?_
         refine Kd ?_
         refine Kh ?_
         refine pu ?_
         refine Kf ?_
         refine KA ?_
         have er20 := Ki hm; subst er20
         refine rP (t' := [(6, .v (.int .i64 (0 : Int)))]) [0,0] [] 2 (wC wN) (lT lN) ?_
         exact ⟨rfl, rfl, rfl⟩
noncomputable def Kce (m0 : KU) (m1 : KN) : Option (Int × KU × KN) :=
 (bif (m1.gNode == (1 : Int)) then none else ((Kcn m0 m1).bind fun x3 => (bif (x3.2 != (0 : Int)) then some (x3.2, m0, m1) else ((Kdh m0 m1 x3.1).bind fun x8 => (bif (x8.1 != (0 : Int)) then some (x8.1, x8.2.1, x8.2.2) else (bif (x3.1.gKind != (4 : Int)) then some ((0 : Int), x8.2.1, (⟨x8.2.2.gG, x8.2.2.gF, x3.1.gTo, x8.2.2.gRet⟩ : KN)) else some ((0 : Int), x8.2.1, x8.2.2)))))))
theorem Kgk (m0 : KU) (m1 : KN) (o0 : Nat) (T0 : TypeId) (c0_0 : Cap) (c0_2 : Cap) (c0_3 : Cap) (o1 : Nat) (T1 : TypeId) (c1_2 : Cap) (c1_3 : Cap) (r : Int × KU × KN) (h0 : Kce m0 m1 = some r) : CallsD Tryz.prog 15 [.ptr o0 0, .ptr o1 0] [(o0, Blk.cells [.lst 5 (m0.gGraphs.map KQ) c0_0, .v (.pointer (pO m0.gM)), .lst 1 (m0.gIn.map eI64) c0_2, .lst 1 (m0.gCalls.map ePtr) c0_3, .v (.int .i64 m0.gErr), .v (.int .i64 m0.gFailed)] T0), (o1, Blk.cells [.v (.string m1.gG.gFunc), .v (.int .i64 m1.gG.gNodes), .lst 6 (m1.gG.gEdges.map Km) c1_2, .lst 2 (m1.gG.gVars.map Ke) c1_3, .v (.int .i64 m1.gG.gMany), .v (.pointer (pO m1.gF)), .v (.int .i64 m1.gNode), .v (.bool m1.gRet.gPtr), .v (.int .i64 m1.gRet.gN), .v (.string m1.gRet.gTo.gName), .v (.int .i64 m1.gRet.gTo.gAt)] T1)] [] (fun d h k => d = .v (.int .i64 r.1) ∧ h = [(o0, Blk.cells [.lst 5 (r.2.1.gGraphs.map KQ) c0_0, .v (.pointer (pO r.2.1.gM)), .lst 1 (r.2.1.gIn.map eI64) c0_2, .lst 1 (r.2.1.gCalls.map ePtr) c0_3, .v (.int .i64 r.2.1.gErr), .v (.int .i64 r.2.1.gFailed)] T0), (o1, Blk.cells [.v (.string r.2.2.gG.gFunc), .v (.int .i64 r.2.2.gG.gNodes), .lst 6 (r.2.2.gG.gEdges.map Km) c1_2, .lst 2 (r.2.2.gG.gVars.map Ke) c1_3, .v (.int .i64 r.2.2.gG.gMany), .v (.pointer (pO r.2.2.gF)), .v (.int .i64 r.2.2.gNode), .v (.bool r.2.2.gRet.gPtr), .v (.int .i64 r.2.2.gRet.gN), .v (.string r.2.2.gRet.gTo.gName), .v (.int .i64 r.2.2.gRet.gTo.gAt)] T1)] ∧ k = []) := by
 have hm := Ku h0
 unfold Kce at hm
 clear h0
 refine K5 htab Tryz.func15 rfl rfl rfl rfl rfl (fun C => ?_)
 refine Kh ?_
 refine pu ?_
 refine Kf ?_
 refine Ko ?_
 refine Kh ?_
 iterate 3 refine pu ?_
 refine pL 1 ?_
 refine pu ?_
 refine Kf ?_
 refine Kp rfl (fun hc2 => ?_) (fun hc2 => ?_)
 ·replace hm := yes_t hc2 hm
  exact (Kbt hm).elim
 ·replace hm := yes_f hc2 hm
  refine Ks ?_
  refine Kd ?_
  refine Kh ?_
  refine pu ?_
  refine pu ?_
  obtain ⟨x3, q3, hm⟩ := Kc hm
  refine pG (Kgc m0 m1 o0 T0 c0_0 c0_2 c0_3 o1 T1 c1_2 c1_3 x3 q3) Wl Pf Pf ?_
  rintro _ _ _ ⟨rfl, rfl, rfl⟩
  iterate 3 refine pu ?_
  refine Kak htab rfl rfl rfl rfl rfl rfl rfl (fun b4 => ?_)
  refine pS2 (ds' := [.v (.int .i64 x3.1.gFrom), .v (.int .i64 x3.1.gTo), .v (.int .i64 x3.1.gKind), .v (.string x3.1.gName), .v (.string x3.1.gFunc), .lst 5 (x3.1.gExps.map Kn) .no]) ?_
  refine pu ?_
  refine Kf ?_
  refine Ko ?_
  refine Kh ?_
  refine pu ?_
  refine pu ?_
  refine Kf ?_
  refine Kp rfl (fun hc6 => ?_) (fun hc6 => ?_)
  ·replace hm := yes_t hc6 hm
   refine Kh ?_
   refine pu ?_
   refine pu ?_
   refine Kf ?_
   refine KA ?_
   refine KB ?_
   have er7 := Ki hm; subst er7
   refine rP (t' := [(4, .v (.int .i64 x3.2))]) [0,0] [] 2 (wC wN) (lT lN) ?_
   exact ⟨rfl, rfl, rfl⟩
  ·replace hm := yes_f hc6 hm
   refine Ks ?_
   refine Kd ?_
   refine Ko ?_
   refine Kh ?_
   refine pu ?_
   refine pu ?_
   refine K3 (d := Km x3.1) 2 htab rfl rfl rfl rfl rfl rfl rfl rfl ?_
   obtain ⟨x8, q8, hm⟩ := Kc hm
   refine pG (KgT m0 m1 x3.1 o0 T0 c0_0 c0_2 c0_3 o1 T1 c1_2 c1_3 x8 q8) Wl Pf Pf ?_
   rintro _ _ _ ⟨rfl, rfl, rfl⟩
   refine pu ?_
   refine KL ?_
   refine pu ?_
   refine pu ?_
   refine Kf ?_
   refine Kp rfl (fun hc10 => ?_) (fun hc10 => ?_)
   ·replace hm := yes_t hc10 hm
    refine Kh ?_
    refine pu ?_
    refine pu ?_
    refine Kf ?_
    refine KA ?_
    refine KB ?_
    have er11 := Ki hm; subst er11
    refine rP (t' := [(4, .v (.int .i64 x8.1))]) [0,0] [] 2 (wC wN) (lT lN) ?_
    exact ⟨rfl, rfl, rfl⟩
   ·replace hm := yes_f hc10 hm
    refine Ks ?_
    refine Kd ?_
    refine Ko ?_
    refine Kh ?_
    refine pu ?_
    refine pL 2 ?_
    refine pu ?_
    refine Kf ?_
    refine Kp rfl (fun hc12 => ?_) (fun hc12 => ?_)
    ·replace hm := yes_t hc12 hm
     refine Kr ?_
     refine pu ?_
     refine pu ?_
     refine pL 2 ?_
     refine pu ?_
     refine pu ?_
     refine pS1 (ds' := [.v (.string x8.2.2.gG.gFunc), .v (.int .i64 x8.2.2.gG.gNodes), .lst 6 (x8.2.2.gG.gEdges.map Km) c1_2, .lst 2 (x8.2.2.gG.gVars.map Ke) c1_3, .v (.int .i64 x8.2.2.gG.gMany), .v (.pointer (pO x8.2.2.gF)), .v (.int .i64 x3.1.gTo), .v (.bool x8.2.2.gRet.gPtr), .v (.int .i64 x8.2.2.gRet.gN), .v (.string x8.2.2.gRet.gTo.gName), .v (.int .i64 x8.2.2.gRet.gTo.gAt)]) ?_
     refine KL ?_
     refine pu ?_
     refine Kf ?_
     refine KA ?_
     have er13 := Ki hm; subst er13
     refine rP (t' := [(4, .v (.int .i64 (0 : Int)))]) [0,0] [] 2 (wC wN) (lT lN) ?_
     exact ⟨rfl, rfl, rfl⟩
    ·replace hm := yes_f hc12 hm
     refine Ks ?_
     refine Kd ?_
     refine Kh ?_
     refine pu ?_
     refine Kf ?_
     refine KA ?_
     have er14 := Ki hm; subst er14
     refine rP (t' := [(4, .v (.int .i64 (0 : Int)))]) [0,0] [] 2 (wC wN) (lT lN) ?_
     exact ⟨rfl, rfl, rfl⟩
end Go.Proofs.YtaclkgjnoaeihaaGreat.Ab
namespace Go.Proofs.YtaclkgjnoaeihaaGreat.Ab
open Go Go.RowKit Go.Shelf Go.Proofs
set_option linter.all false
theorem try1_idle (p : Addr) (w : World) :
  Go.CallsD Tryz.prog 60 #[.pointer (some p)] .returning w fun e u' w' => e = .returned (.tuple #[]) ∧ u' = .returning ∧ w' = w := by
 refine callsD_of_wpS Tryz.func60 rfl fun c₀ cs hu => ?_
 apply wpS_seq
 apply wpS_region
 simp [wpOpsS, go_sem, recoverD, hu, Tryz.ntmps60, Exit.thenS]
 apply wpS_seq
 apply wpS_region
 simp [wpOpsS, go_sem, recoverD, hu, Tryz.ntmps60, Exit.thenS]
 refine wpS_cond (t := false) (by simp [Act.eval, Array.replicate]) ?_
 simp only [Bool.false_eq_true, if_false]
 refine wpS_of_wp (wp_skip ?_)
 cases c₀
 simp_all [bodyPostS, results, Tryz.results60]
theorem try_calls (cap : Array Value) (w : World) (hcl : Calls Tryz.prog 49 cap (w.alloc (.cells #[.int .i64 0, .int .i64 0] 123)) fun e w' => e = .returned (.tuple #[]) ∧ Below (w.heap.size + 1) (w.alloc (.cells #[.int .i64 0, .int .i64 0] 123)) w') :
  Calls Tryz.prog 48 #[.func (.func 49) #[] cap] w fun e w' => e = .returned (.agg #[.int .i64 0, .int .i64 0]) ∧ Below w.heap.size w w' := by
 have hmf : ∀ (fn : Fn) (first cap : Array Value) (w : World), (Instr.makeFunc fn first cap).run Tryz.prog w = .ok (.func fn first cap) w := fun _ _ _ _ => rfl
 go_enter_defers Tryz.func48, Tryz.ntmps48
 go_wp2_with fail
 refine hcl.mono ?_
 rintro e w1 ⟨rfl, hb⟩
 have hx : w1.heap[w.heap.size]? = some (.cells #[.int .i64 0, .int .i64 0] 123 (0, 0)) := by
  rw [hb.block _ (Nat.lt_succ_self _), KS, if_pos rfl]
 have x0 : w1.cell? ⟨w.heap.size, 0, none⟩ = some (.int .i64 0) := by simp [World.cell?, hx]
 have x1 : w1.cell? ⟨w.heap.size, 1, none⟩ = some (.int .i64 0) := by simp [World.cell?, hx]
 have z0 : w1.frozen? ⟨w.heap.size, 0, none⟩ = false := by simp [World.frozen?, hx]
 have z1 : w1.frozen? ⟨w.heap.size, 1, none⟩ = false := by simp [World.frozen?, hx]
 go_wp2_with fail
 obtain ⟨W9, hW9⟩ : ∃ W9, W9 = (w1.setCell ⟨w.heap.size, 0, none⟩ (.int .i64 0)).setCell ⟨w.heap.size, 1, none⟩ (.int .i64 0) := ⟨_, rfl⟩
 rw [← hW9]
 have hx9 : W9.heap[w.heap.size]? = some (.cells #[.int .i64 0, .int .i64 0] 123 (0, 0)) := by
  rw [hW9, K6, if_pos rfl, K6, if_pos rfl, hx]; rfl
 have y0 : W9.cell? ⟨w.heap.size, 0, none⟩ = some (.int .i64 0) := by simp [World.cell?, hx9]
 have y1 : W9.cell? ⟨w.heap.size, 1, none⟩ = some (.int .i64 0) := by simp [World.cell?, hx9]
 have hb9 : Below w.heap.size w W9 := by
  rw [hW9]
  exact Kdu (Nat.le_refl _) (Kdu (Nat.le_refl _) (((Below.refl _ w).alloc (Nat.le_refl _) _).trans (hb.mono (Nat.le_succ _))))
 clear hW9 hx9 x0 x1 z0 z1 hx hcl
 refine leaves_cons (f := 60) (args := #[.pointer (some ⟨w.heap.size, 0, none⟩)]) (by simp) (by simp [go_sem]) ?_
 refine (try1_idle ⟨w.heap.size, 0, none⟩ _).mono ?_
 rintro e u' w'' ⟨rfl, rfl, rfl⟩
 simp [Leaves, settle, results, Tryz.results48, go_sem, y0, y1]
 exact hb9
noncomputable def checkF (p : Kad) (f : Kaj) : Option (Int × Int) := (Kbj ⟨p, f⟩).bind fun _ => (Kbu ⟨p, f⟩ f.gBody).bind fun _ => some (0, 0)
theorem Kgd {H H' : Hp} {w w' : World} {h : List (Nat × Blk)} {k : List (Nat × Value)} (c : Core ⟨H, w, []⟩ H' h k w') : Below w.heap.size w w' := ⟨c.env.1, c.env.2.1, c.env.2.2.1, c.size, fun j hj => c.same j hj (by simp)⟩
theorem u_calls {f : FuncId} {ds : List D} {us : Array Value} (c : CallsD Tryz.prog f ds [] [] (fun d h k => d = .tup [] ∧ h = [] ∧ k = [])) {H : Hp} {w : World} (hA : Ag H w) (hv : RepsV H ds us.toList) :
  Calls Tryz.prog f us w fun e w' => e = .returned (.tuple #[]) ∧ Below w.heap.size w w' :=
 (c.2 H w us.toList hv hA (by simp) (by simp) (by simp [Kv])).mono fun e w' ⟨v, H', d, h', k', he, hr, hc, e1, e2, e3⟩ => by
  subst e1; subst e2; subst e3
  refine ⟨?_, Kgd hc⟩
  obtain ⟨r1, r2⟩ := hr
  cases v <;> simp [D.shape, RepC, RepsV, Value.cells] at r1 r2
  rw [he]; simp_all
theorem checkF_ok (p : Kad) (f : Kaj) (r : Int × Int) (h0 : checkF p f = some r) : CallsD Tryz.prog 40 [Ka8 p, KH f] [] [] (fun d h k => d = .tup [.v (.int .i64 r.1), .v (.int .i64 r.2)] ∧ h = [] ∧ k = []) := by
 unfold checkF at h0
 cases hn : Kbj ⟨p, f⟩ with
 | none => rw [hn] at h0; cases h0
 | some u =>
 rw [hn, Option.bind_some] at h0
 cases hs : Kbu ⟨p, f⟩ f.gBody with
 | none => rw [hs] at h0; cases h0
 | some u2 =>
 rw [hs, Option.bind_some] at h0
 cases h0
 refine ⟨⟨_, Tryz.func40, rfl, rfl⟩, fun H w vs hv hA _ _ _ => ?_⟩
 simp only [RepsV] at hv
 obtain ⟨u1, _, rfl, g1, u2, _, rfl, g2, rfl⟩ := hv
 obtain ⟨us1, rfl, r1⟩ := Kbo g1
 obtain ⟨us2, rfl, r2⟩ := Kbo g2
 simp only [Reps] at r1 r2
 obtain ⟨p0, _, rfl, q0, p1, _, rfl, q1, rfl⟩ := r1
 obtain ⟨f0, _, rfl, k0, f1, _, rfl, k1, f2, _, rfl, k2, f3, _, rfl, k3, f4, _, rfl, k4, rfl⟩ := r2
 have lst1 : ∀ {kk : Nat} {xs : List D} {u : Value}, RepC H (.lst kk xs .no) [u] → ∃ a n m, u = .slice a n m := fun {kk xs u} h => by
  simp only [RepC] at h
  obtain ⟨y, e, _, h⟩ := h
  simp only [List.cons.injEq, and_true] at e
  subst e
  rcases h with ⟨_, a, m, e, _⟩ | ⟨b, off, m, e, _⟩
  ·exact ⟨_, _, _, e⟩
  ·exact ⟨_, _, _, e⟩
 obtain ⟨pa, pn, pm, rfl⟩ := lst1 q0.1
 obtain ⟨qa, qn, qm, rfl⟩ := lst1 q1.1
 obtain ⟨ra, rn, rm, rfl⟩ := lst1 k1.1
 obtain ⟨sa, sn, sm, rfl⟩ := lst1 k2.1
 obtain ⟨ta, tn, tm, rfl⟩ := lst1 k3.1
 obtain rfl : f0 = .string f.gName := by simpa [RepC] using k0.1
 obtain rfl : f4 = .int .i64 f.gAt := by simpa [RepC] using k4.1
 suffices hs : Calls Tryz.prog 40 #[.agg #[(.slice pa pn pm), (.slice qa qn qm)], .agg #[(.string f.gName), (.slice ra rn rm), (.slice sa sn sm), (.slice ta tn tm), (.int .i64 f.gAt)]] w fun e w' => e = .returned (.tuple #[.int .i64 0, .int .i64 0]) ∧ Below w.heap.size w w' from
  hs.mono fun e w' ⟨he, hb⟩ => ⟨_, H, .tup [.v (.int .i64 0), .v (.int .i64 0)], [], [], he, ⟨by simp only [Value.cells, RepC]; exact ⟨[.int .i64 0, .int .i64 0], rfl, by simp only [RepsV]; exact ⟨_, _, rfl, rep_v rfl, _, _, rfl, rep_v rfl, rfl⟩⟩, rfl⟩, KfK hA hb, rfl, rfl, rfl⟩
 obtain ⟨W2, hW2⟩ : ∃ W2, W2 = (w.alloc (.cells #[(.slice pa pn pm), (.slice qa qn qm)] 59)).alloc (.cells #[(.string f.gName), (.slice ra rn rm), (.slice sa sn sm), (.slice ta tn tm), (.int .i64 f.gAt)] 83) := ⟨_, rfl⟩
 have hb2 : Below w.heap.size w W2 := by rw [hW2]; exact ((Below.refl _ w).alloc (Nat.le_refl _) _).alloc (by simp) _
 have hs2 : W2.heap.size = w.heap.size + 2 := by rw [hW2]; simp
 have hx1 : W2.heap[w.heap.size]? = some (.cells #[(.slice pa pn pm), (.slice qa qn qm)] 59 (0, 0)) := by rw [hW2, KS, if_neg (by simp), KS, if_pos rfl]
 have hx2 : W2.heap[w.heap.size + 1]? = some (.cells #[(.string f.gName), (.slice ra rn rm), (.slice sa sn sm), (.slice ta tn tm), (.int .i64 f.gAt)] 83 (0, 0)) := by rw [hW2, KS, if_pos (by simp)]
 have o0 := q0.2.1
 have o1 := q1.2.1
 have sc : ∀ {u : Value}, one u = true → u.cells.toList = [u] := fun {u} h => by cases u <;> simp [one] at h <;> rfl
 have hrep : Rep H (Kx ⟨p, f⟩) (.agg #[(.slice pa pn pm), (.slice qa qn qm), (.string f.gName), (.slice ra rn rm), (.slice sa sn sm), (.slice ta tn tm), (.int .i64 f.gAt)]) := Kee (us := [(.slice pa pn pm), (.slice qa qn qm), (.string f.gName), (.slice ra rn rm), (.slice sa sn sm), (.slice ta tn tm), (.int .i64 f.gAt)]) (by
  simp only [Reps]
  exact ⟨_, _, rfl, q0, _, _, rfl, q1, _, _, rfl, k0, _, _, rfl, k1, _, _, rfl, k2, _, _, rfl, k3, _, _, rfl, k4, rfl⟩)
 have rb : Rep H (.lst 7 (f.gBody.map Kg) .no) (.slice ta tn tm) := Kac k3.1 k3.2.1 rfl
 have fn1 : ∀ W : World, W2.heap.size ≤ W.heap.size → Below W2.heap.size W2 W → Calls Tryz.prog 49 #[.pointer (some ⟨w.heap.size, 0, none⟩), .pointer (some ⟨w.heap.size + 1, 0, none⟩)] W fun e w' => e = .returned (.tuple #[]) ∧ Below W.heap.size W w' := by
  intro W hsz hb
  have hy1 := (hb.block _ (by omega)).trans hx1
  have hy2 := (hb.block _ (by omega)).trans hx2
  have x0 : W.cell? ⟨w.heap.size, 0, none⟩ = some (.slice pa pn pm) := by simp [World.cell?, hy1]
  have x1 : W.cell? ⟨w.heap.size, 1, none⟩ = some (.slice qa qn qm) := by simp [World.cell?, hy1]
  have y0 : W.cell? ⟨w.heap.size + 1, 0, none⟩ = some (.string f.gName) := by simp [World.cell?, hy2]
  have y1 : W.cell? ⟨w.heap.size + 1, 1, none⟩ = some (.slice ra rn rm) := by simp [World.cell?, hy2]
  have y2 : W.cell? ⟨w.heap.size + 1, 2, none⟩ = some (.slice sa sn sm) := by simp [World.cell?, hy2]
  have y3 : W.cell? ⟨w.heap.size + 1, 3, none⟩ = some (.slice ta tn tm) := by simp [World.cell?, hy2]
  have y4 : W.cell? ⟨w.heap.size + 1, 4, none⟩ = some (.int .i64 f.gAt) := by simp [World.cell?, hy2]
  go_enter Tryz.func49, Tryz.ntmps49
  have hAW : Ag H W := Go.Proofs.YtaclkgjnoaeihaaGreat.Ag.below hA (hb2.trans (hb.mono hb2.size))
  generalize hWa : W.alloc (.cells #[.slice pa pn pm, .slice qa qn qm, .string f.gName, .slice ra rn rm, .slice sa sn sm, .slice ta tn tm, .int .i64 f.gAt] 126) = Wa
  have hba : Below W.heap.size W Wa := by rw [← hWa]; exact (Below.refl _ _).alloc (Nat.le_refl _) _
  have hsa : W.heap.size < Wa.heap.size := by rw [← hWa]; simp
  have hxa : Wa.heap[W.heap.size]? = some (.cells #[.slice pa pn pm, .slice qa qn qm, .string f.gName, .slice ra rn rm, .slice sa sn sm, .slice ta tn tm, .int .i64 f.gAt] 126 (0, 0)) := by rw [← hWa, KS, if_pos rfl]
  have hAa : Ag H Wa := Go.Proofs.YtaclkgjnoaeihaaGreat.Ag.below hAW hba
  have hn1 := u_calls (us := #[.agg #[.slice pa pn pm, .slice qa qn qm, .string f.gName, .slice ra rn rm, .slice sa sn sm, .slice ta tn tm, .int .i64 f.gAt]]) (KeN ⟨p, f⟩ u hn) hAa (by simp only [RepsV]; exact ⟨_, _, rfl, hrep, rfl⟩)
  have d0 : Wa.cell? ⟨W.heap.size, 0, none⟩ = some (.slice pa pn pm) := by simp [World.cell?, hxa]
  have d1 : Wa.cell? ⟨W.heap.size, 1, none⟩ = some (.slice qa qn qm) := by simp [World.cell?, hxa]
  have d2 : Wa.cell? ⟨W.heap.size, 2, none⟩ = some (.string f.gName) := by simp [World.cell?, hxa]
  have d3 : Wa.cell? ⟨W.heap.size, 3, none⟩ = some (.slice ra rn rm) := by simp [World.cell?, hxa]
  have d4 : Wa.cell? ⟨W.heap.size, 4, none⟩ = some (.slice sa sn sm) := by simp [World.cell?, hxa]
  have d5 : Wa.cell? ⟨W.heap.size, 5, none⟩ = some (.slice ta tn tm) := by simp [World.cell?, hxa]
  have d6 : Wa.cell? ⟨W.heap.size, 6, none⟩ = some (.int .i64 f.gAt) := by simp [World.cell?, hxa]
  go_wp2_with fail
  refine hn1.mono ?_
  rintro e w5 ⟨rfl, h5⟩
  clear hWa x0 x1 y0 y1 y2 y3 y4 d0 d1 d2 d3 d4 d5 d6
  have hxb := (h5.block _ hsa).trans hxa
  have hba5 : Below W.heap.size W w5 := hba.trans (h5.mono hba.size)
  have hyc := (hba5.block _ (by omega)).trans hy2
  have e0 : w5.cell? ⟨W.heap.size, 0, none⟩ = some (.slice pa pn pm) := by simp [World.cell?, hxb]
  have e1 : w5.cell? ⟨W.heap.size, 1, none⟩ = some (.slice qa qn qm) := by simp [World.cell?, hxb]
  have e2 : w5.cell? ⟨W.heap.size, 2, none⟩ = some (.string f.gName) := by simp [World.cell?, hxb]
  have e3 : w5.cell? ⟨W.heap.size, 3, none⟩ = some (.slice ra rn rm) := by simp [World.cell?, hxb]
  have e4 : w5.cell? ⟨W.heap.size, 4, none⟩ = some (.slice sa sn sm) := by simp [World.cell?, hxb]
  have e5 : w5.cell? ⟨W.heap.size, 5, none⟩ = some (.slice ta tn tm) := by simp [World.cell?, hxb]
  have e6 : w5.cell? ⟨W.heap.size, 6, none⟩ = some (.int .i64 f.gAt) := by simp [World.cell?, hxb]
  have e7 : w5.cell? ⟨w.heap.size + 1, 3, none⟩ = some (.slice ta tn tm) := by simp [World.cell?, hyc]
  have hA5 : Ag H w5 := Go.Proofs.YtaclkgjnoaeihaaGreat.Ag.below hAa h5
  have hn2 := u_calls (us := #[.agg #[.slice pa pn pm, .slice qa qn qm, .string f.gName, .slice ra rn rm, .slice sa sn sm, .slice ta tn tm, .int .i64 f.gAt], .slice ta tn tm]) (KeP ⟨p, f⟩ f.gBody u2 (by assumption)) hA5 (by simp only [RepsV]; exact ⟨_, _, rfl, hrep, _, _, rfl, rb, rfl⟩)
  go_wp2_with fail
  refine hn2.mono ?_
  rintro e w6 ⟨rfl, h6⟩
  go_wp2
  go_end0
  exact ⟨rfl, hba5.trans (h6.mono hba5.size)⟩
 have hmf : ∀ (fn : Fn) (first cap : Array Value) (w : World), (Instr.makeFunc fn first cap).run Tryz.prog w = .ok (.func fn first cap) w := fun _ _ _ _ => rfl
 have htry := try_calls #[.pointer (some ⟨w.heap.size, 0, none⟩), .pointer (some ⟨w.heap.size + 1, 0, none⟩)] W2 (by
  have := fn1 (W2.alloc (.cells #[.int .i64 0, .int .i64 0] 123)) (by simp) ((Below.refl _ _).alloc (Nat.le_refl _) _)
  simpa using this)
 go_enter Tryz.func40, Tryz.ntmps40
 go_wp2_with fail
 rw [← hW2]
 refine htry.mono ?_
 rintro e w7 ⟨rfl, h7⟩
 go_wp2_with fail
 go_region
 all_goals
  go_wp2
  go_ret2
  exact ⟨rfl, hb2.trans ((h7.trans (Kg9 h7.size (Below.refl _ w7)).drew).mono hb2.size)⟩
end Go.Proofs.YtaclkgjnoaeihaaGreat.Ab
