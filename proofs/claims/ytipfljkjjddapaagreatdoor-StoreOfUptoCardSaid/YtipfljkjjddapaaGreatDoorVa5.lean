/- The texts that storeOfUptoCard_holds leans on, part 5. -/
import Derived.Test.YtipfljkjjddapaaGreatDoorVa4
set_option maxRecDepth 100000
set_option maxHeartbeats 80000000
namespace Go.Proofs.YtipfljkjjddapaaGreatDoor.Ab
open Go
set_option linter.all false
noncomputable def KbZ (a0 : Kl) : Option (Int × Int × Int) :=
 (Option.bind (α := Bool) (bif (decide ((24 : Int) < (a0.gGlobals.length : Int))) then some true else some (decide ((24 : Int) < (a0.gFuncs.length : Int)))) fun y3 => (bif y3 then some ((0 : Int), (0 : Int), (6 : Int)) else ((KcX a0).bind fun x8 => (bif (decide ((0 : Int) ≤ x8)) then some (x8, (0 : Int), (8 : Int)) else (Option.bind (α := (Unit) ⊕ (Int × Int × Int)) (loopM (fun (s32 : Int) => (bif (decide (s32 < (a0.gFuncs.length : Int))) then ((idx a0.gFuncs s32).bind fun x46 => ((Khb a0 x46).bind fun x48 => (bif (x48.2 != (0 : Int)) then some (.done (.inr ((IntKind.i64.wrap ((a0.gGlobals.length : Int) + s32)), x48.1, x48.2))) else some (.next (IntKind.i64.wrap (s32 + (1 : Int))))))) else some (.done (.inl ())))) (0 : Int)) (Sum.elim (fun y31 => some ((0 : Int), (0 : Int), (0 : Int))) (fun r => some r)))))))
theorem Kfo (a0 : Kl) (r : Int × Int × Int) (h0 : KbZ a0 = some r) : CallsD Tryz.prog 43 [KL a0] [] [] (fun d h k => d = .tup [.v (.int .i64 r.1), .v (.int .i64 r.2.1), .v (.int .i64 r.2.2)] ∧ h = [] ∧ k = []) := by
 have hm := Kw h0
 unfold KbZ at hm
 clear h0
 refine K0 htab Tryz.func43 rfl rfl rfl rfl rfl (fun C => ?_)
 refine Kd ?_
 refine p_box rfl rfl rfl rfl rfl rfl rfl (fun b1 => ?_)
 iterate 3 refine pu ?_
 refine Kb ?_
 refine Kg ?_
 refine Kg ?_
 obtain ⟨y3, q3, ho3⟩ := Kc hm
 refine K5 (Y := Unit) (fun z3 => (⟨[(1, .ptr b1 0), (19, .v (.bool y3))], [(b1, Blk.cells [.lst 4 (a0.gGlobals.map Ks) .no, .lst 5 (a0.gFuncs.map Ko) .no] 28)], []⟩ : S)) ?_ ?_
 ·clear hm; have hm := Kw q3
  refine Kx ?_
  refine pu ?_
  refine pL 0 ?_
  refine Kaa htab rfl rfl rfl rfl rfl rfl rfl (by first | exact KM | rfl) ?_
  refine pu ?_
  refine pu ?_
  refine Kaj (i := 14) rfl (fun hg4 => ?_) (fun hg4 => ?_)
  ·replace hm := yes_t hg4 hm
   iterate 4 refine pK ?_
   refine K3 rfl rfl rfl rfl rfl rfl ?_
   refine Ky ?_
   have e3 := Ke hm; subst e3
   refine ⟨rfl, ?_⟩
   exact WkX.of () (WkS.perm (WkS.cons rfl (Wk.refl _) (WkS.cons rfl (Wk.refl _) (WkS.nil))) Pf Pf)
  ·replace hm := yes_f hg4 hm
   refine pu ?_
   refine pL 0 ?_
   refine Kaa htab rfl rfl rfl rfl rfl rfl rfl (by first | exact KM | rfl) ?_
   refine pu ?_
   refine KO rfl rfl rfl rfl rfl rfl ?_
   refine Ky ?_
   have e3 := Ke hm; subst e3
   refine ⟨rfl, ?_⟩
   exact WkX.of () (WkS.perm (WkS.cons rfl (Wk.refl _) (WkS.cons rfl (Wk.refl _) (WkS.nil))) Pf Pf)
 ·intro s3 hw3; clear hm; have hm := ho3; clear q3 ho3
  refine Ka ?_
  refine KQ hw3 (fun z3 => ?_)
  refine Kk rfl (fun hc6 => ?_) (fun hc6 => ?_)
  ·replace hm := yes_t hc6 hm
   refine Kd ?_
   iterate 3 refine pu ?_
   refine Kb ?_
   refine Kr ?_
   refine Kt ?_
   have er7 := Ke hm; subst er7
   refine rP (t' := [(2, .v (.int .i64 (0 : Int))), (3, .v (.int .i64 (0 : Int))), (4, .v (.int .i64 (6 : Int)))]) [] [] 0 (wC (wC (wC wN))) (lT (lT (lT lN))) ?_
   exact ⟨rfl, rfl, rfl⟩
  ·replace hm := yes_f hc6 hm
   refine Kp ?_
   refine Ka ?_
   refine Kg ?_
   refine Kd ?_
   refine Kai (d := KL a0) 0 htab rfl rfl rfl rfl rfl rfl rfl rfl ?_
   obtain ⟨x8, q8, hm⟩ := Kc hm
   refine KN (Kla a0 x8 q8) rfl rfl rfl rfl rfl Wl ?_
   rintro _ rfl
   refine pu ?_
   refine KK ?_
   refine pu ?_
   refine pu ?_
   refine Kb ?_
   refine Kk rfl (fun hc10 => ?_) (fun hc10 => ?_)
   ·replace hm := yes_t hc10 hm
    refine Kd ?_
    iterate 4 refine pu ?_
    refine Kb ?_
    refine Kr ?_
    refine Kt ?_
    have er11 := Ke hm; subst er11
    refine rP (t' := [(2, .v (.int .i64 x8)), (3, .v (.int .i64 (0 : Int))), (4, .v (.int .i64 (8 : Int)))]) [] [] 0 (wC (wC (wC wN))) (lT (lT (lT lN))) ?_
    exact ⟨rfl, rfl, rfl⟩
   ·replace hm := yes_f hc10 hm
    refine Kp ?_
    refine Ka ?_
    refine Kg ?_
    refine Kd ?_
    refine pu ?_
    refine pL 0 ?_
    refine Kaa htab rfl rfl rfl rfl rfl rfl rfl (by first | exact KM | rfl) ?_
    refine pu ?_
    refine Kb ?_
    obtain ⟨x31, q31, ho31⟩ := Kc hm
    refine Kaq (τ := Unit) (Y := Unit) (fun y31 z31 => (⟨[], [], []⟩ : S)) x31 ?_ ?_
    ·clear hm; have hm := Kw q31
     refine KA ?_
     obtain ⟨u32, hl32, hq32⟩ := yes_m hm
     refine Kav (Y := Unit) hl32 (fun s32 z32 => (⟨[(1, .ptr b1 0), (26, .lst 5 (a0.gFuncs.map Ko) .no), (27, .v (.int .i64 (a0.gFuncs.length : Int))), (28, .v (.int .i64 s32))], [(b1, Blk.cells [.lst 4 (a0.gGlobals.map Ks) .no, .lst 5 (a0.gFuncs.map Ko) .no] 28)], []⟩ : S)) ?_ ?_
     ·skip
      exact WkX.of () (WkS.perm (WkS.cons rfl (Wk.refl _) (WkS.cons rfl (Wk.refl _) (WkS.cons rfl (Wk.refl _) (WkS.cons rfl (Wk.refl _) (WkS.nil))))) Pf Pf)
     ·intro G32 s32 z32 hm
      refine Kd ?_
      refine pu ?_
      refine Kb ?_
      refine Kg ?_
      refine Kk rfl (fun hc45 => ?_) (fun hc45 => ?_)
      ·replace hm := yes_t hc45 hm
       refine Kp ?_
       refine Ka ?_
       refine Kg ?_
       refine KA ?_
       refine Kd ?_
       refine pu ?_
       obtain ⟨x46, q46, hm⟩ := Kc hm
       refine KaD htab rfl rfl rfl rfl rfl rfl rfl rfl rfl rfl (Kz q46) (KG q46) ?_
       refine Kat (d := Ko x46) htab rfl rfl rfl rfl rfl rfl rfl rfl ?_
       refine Kar htab rfl rfl rfl rfl rfl rfl rfl (fun b47 => ?_)
       refine pu ?_
       refine pS1 (ds' := [.v (.string x46.gName), .lst 2 (x46.gParams.map Kj) .no, .lst 2 (x46.gLocals.map Kj) .no, .lst 7 (x46.gBody.map Kf) .no, .v (.int .i64 x46.gAt)]) ?_
       refine KK ?_
       refine Kai (d := KL a0) 0 htab rfl rfl rfl rfl rfl rfl rfl rfl ?_
       refine Kai (d := Ko x46) 1 htab rfl rfl rfl rfl rfl rfl rfl rfl ?_
       obtain ⟨x48, q48, hm⟩ := Kc hm
       refine KN (checkF_ok a0 x46 x48 q48) rfl rfl rfl rfl rfl Wl ?_
       rintro _ rfl
       iterate 5 refine pu ?_
       refine KK ?_
       refine pu ?_
       refine pu ?_
       refine Kb ?_
       refine Kk rfl (fun hc49 => ?_) (fun hc49 => ?_)
       ·replace hm := yes_t hc49 hm
        refine Kd ?_
        refine pu ?_
        refine pL 0 ?_
        refine Kaa htab rfl rfl rfl rfl rfl rfl rfl (by first | exact KM | rfl) ?_
        iterate 7 refine pu ?_
        refine Kb ?_
        refine Kr ?_
        refine KE ?_
        refine Kt ?_
        have e32 := KP hm; subst e32; clear hm; have hm := hq32
        refine Kt ?_
        refine KE ?_
        have e31 := Ke hm; subst e31; refine Kax ?_; clear hm; have hm := ho31; simp only [Sum.elim_inr] at hm
        refine Kt ?_
        have er50 := Ke hm; subst er50
        refine rP (t' := [(2, .v (.int .i64 (IntKind.i64.wrap ((a0.gGlobals.length : Int) + s32)))), (3, .v (.int .i64 x48.1)), (4, .v (.int .i64 x48.2))]) [] [] 0 (wC (wC (wC wN))) (lT (lT (lT lN))) ?_
        exact ⟨rfl, rfl, rfl⟩
       ·replace hm := yes_f hc49 hm
        refine Kp ?_
        refine KF ?_
        refine Ka ?_
        refine Kx ?_
        refine pu ?_
        refine pu ?_
        refine Ky ?_
        refine Ka ⟨_, Kam hm, ?_⟩
        exact WkX.of () (WkS.perm (WkS.cons rfl (Wk.refl _) (WkS.cons rfl (Wk.refl _) (WkS.cons rfl (Wk.refl _) (WkS.cons rfl (Wk.refl _) (WkS.nil))))) Pf Pf)
      ·replace hm := yes_f hc45 hm
       refine Kad ?_
       refine KC ?_
       have e32 := KP hm; subst e32; clear hm; have hm := hq32
       refine KC ?_
       refine K7 ?_
       have e31 := Ke hm; subst e31
       refine Kaf ?_
       exact WkX.of () (WkS.perm (WkS.nil) Pf Pf)
    ·intro y31 s31 hx31 hw31; subst hx31; clear hm; have hm := ho31; simp only [Sum.elim_inl] at hm; clear q31 ho31
     refine Ka ?_
     refine KQ hw31 (fun z31 => ?_)
     refine Kd ?_
     iterate 3 refine pu ?_
     refine Kb ?_
     refine Kr ?_
     have er51 := Ke hm; subst er51
     refine rP (t' := [(2, .v (.int .i64 (0 : Int))), (3, .v (.int .i64 (0 : Int))), (4, .v (.int .i64 (0 : Int)))]) [] [] 0 (wC (wC (wC wN))) (lT (lT (lT lN))) ?_
     exact ⟨rfl, rfl, rfl⟩
noncomputable def KeU (a0 : Kl) (a1 : ByteArray) : Option (Int) :=
 (Option.bind (α := (Unit) ⊕ (Int)) (loopM (fun (s27 : Int) => (bif (decide (s27 < (a0.gGlobals.length : Int))) then ((idx a0.gGlobals s27).bind fun x43 => (bif (decide (x43.gName = a1)) then (bif x43.gPtr then some (.done (.inr (2 : Int))) else (bif (decide ((0 : Int) < x43.gSize)) then some (.done (.inr (3 : Int))) else some (.done (.inr (1 : Int))))) else some (.next (IntKind.i64.wrap (s27 + (1 : Int)))))) else some (.done (.inl ())))) (0 : Int)) (Sum.elim (fun y26 => some (0 : Int)) (fun r => some r)))
theorem Kjq (a0 : Kl) (a1 : ByteArray) (r : Int) (h0 : KeU a0 a1 = some r) : CallsD Tryz.prog 80 [KL a0, .v (.string a1)] [] [] (fun d h k => d = .v (.int .i64 r) ∧ h = [] ∧ k = []) := by
 have hm := Kw h0
 unfold KeU at hm
 clear h0
 refine K0 htab Tryz.func80 rfl rfl rfl rfl rfl (fun C => ?_)
 refine Kd ?_
 refine p_box rfl rfl rfl rfl rfl rfl rfl (fun b1 => ?_)
 refine pu ?_
 refine Kb ?_
 refine Kg ?_
 refine Kd ?_
 refine pu ?_
 refine Kb ?_
 obtain ⟨x26, q26, ho26⟩ := Kc hm
 refine Kaq (τ := Unit) (Y := Unit) (fun y26 z26 => (⟨[], [], []⟩ : S)) x26 ?_ ?_
 ·clear hm; have hm := Kw q26
  refine KA ?_
  obtain ⟨u27, hl27, hq27⟩ := yes_m hm
  refine Kav (Y := Unit) hl27 (fun s27 z27 => (⟨[(1, .v (.string a1)), (2, .ptr b1 0), (5, .v (.int .i64 s27))], [(b1, Blk.cells [.lst 4 (a0.gGlobals.map Ks) .no, .lst 5 (a0.gFuncs.map Ko) .no] 28)], []⟩ : S)) ?_ ?_
  ·skip
   exact WkX.of () (WkS.perm (WkS.cons rfl (Wk.refl _) (WkS.cons rfl (Wk.refl _) (WkS.cons rfl (Wk.refl _) (WkS.nil)))) Pf Pf)
  ·intro G27 s27 z27 hm
   refine Kg ?_
   refine Kd ?_
   refine pu ?_
   refine pu ?_
   refine pL 0 ?_
   refine Kaa htab rfl rfl rfl rfl rfl rfl rfl (by first | exact KM | rfl) ?_
   refine pu ?_
   refine Kb ?_
   refine Kk rfl (fun hc42 => ?_) (fun hc42 => ?_)
   ·replace hm := yes_t hc42 hm
    refine Kp ?_
    refine Ka ?_
    refine Kg ?_
    refine KA ?_
    refine Kd ?_
    refine pu ?_
    refine pL 0 ?_
    refine pu ?_
    obtain ⟨x43, q43, hm⟩ := Kc hm
    refine KaD htab rfl rfl rfl rfl rfl rfl rfl rfl rfl rfl (Kz q43) (KG q43) ?_
    refine Kat (d := Ks x43) htab rfl rfl rfl rfl rfl rfl rfl rfl ?_
    refine Kar htab rfl rfl rfl rfl rfl rfl rfl (fun b44 => ?_)
    refine pS1 (ds' := [.v (.string x43.gName), .v (.bool x43.gPtr), .v (.int .i64 x43.gSize), .v (.int .i64 x43.gAt)]) ?_
    refine KK ?_
    refine pu ?_
    refine pL 1 ?_
    refine pu ?_
    refine pu ?_
    refine Kb ?_
    refine Kk rfl (fun hc45 => ?_) (fun hc45 => ?_)
    ·replace hm := yes_t hc45 hm
     refine Kg ?_
     refine Kd ?_
     refine pu ?_
     refine pL 1 ?_
     refine Kb ?_
     refine Kk rfl (fun hc46 => ?_) (fun hc46 => ?_)
     ·replace hm := yes_t hc46 hm
      refine Kd ?_
      refine pu ?_
      refine Kb ?_
      refine Kr ?_
      refine Kt ?_
      refine KE ?_
      refine Kt ?_
      have e27 := KP hm; subst e27; clear hm; have hm := hq27
      refine Kt ?_
      refine KE ?_
      have e26 := Ke hm; subst e26; refine Kax ?_; clear hm; have hm := ho26; simp only [Sum.elim_inr] at hm
      refine Kt ?_
      have er47 := Ke hm; subst er47
      refine rP (t' := [(4, .v (.int .i64 (2 : Int)))]) [] [] 0 (wC wN) (lT lN) ?_
      exact ⟨rfl, rfl, rfl⟩
     ·replace hm := yes_f hc46 hm
      refine Kp ?_
      refine Ka ?_
      refine Kg ?_
      refine Kd ?_
      refine pu ?_
      refine pL 1 ?_
      refine pu ?_
      refine Kb ?_
      refine Kk rfl (fun hc48 => ?_) (fun hc48 => ?_)
      ·replace hm := yes_t hc48 hm
       refine Kd ?_
       refine pu ?_
       refine Kb ?_
       refine Kr ?_
       refine Kt ?_
       refine KE ?_
       refine Kt ?_
       have e27 := KP hm; subst e27; clear hm; have hm := hq27
       refine Kt ?_
       refine KE ?_
       have e26 := Ke hm; subst e26; refine Kax ?_; clear hm; have hm := ho26; simp only [Sum.elim_inr] at hm
       refine Kt ?_
       have er49 := Ke hm; subst er49
       refine rP (t' := [(4, .v (.int .i64 (3 : Int)))]) [] [] 0 (wC wN) (lT lN) ?_
       exact ⟨rfl, rfl, rfl⟩
      ·replace hm := yes_f hc48 hm
       refine Kp ?_
       refine Ka ?_
       refine Kd ?_
       refine pu ?_
       refine Kb ?_
       refine Kr ?_
       refine KE ?_
       refine Kt ?_
       have e27 := KP hm; subst e27; clear hm; have hm := hq27
       refine Kt ?_
       refine KE ?_
       have e26 := Ke hm; subst e26; refine Kax ?_; clear hm; have hm := ho26; simp only [Sum.elim_inr] at hm
       refine Kt ?_
       have er50 := Ke hm; subst er50
       refine rP (t' := [(4, .v (.int .i64 (1 : Int)))]) [] [] 0 (wC wN) (lT lN) ?_
       exact ⟨rfl, rfl, rfl⟩
    ·replace hm := yes_f hc45 hm
     refine Kp ?_
     refine KF ?_
     refine Ka ?_
     refine Kx ?_
     iterate 3 refine pu ?_
     refine Ky ?_
     refine Ka ⟨_, Kam hm, ?_⟩
     exact WkX.of () (WkS.perm (WkS.cons rfl (Wk.refl _) (WkS.cons rfl (Wk.refl _) (WkS.cons rfl (Wk.refl _) (WkS.nil)))) Pf Pf)
   ·replace hm := yes_f hc42 hm
    refine Kad ?_
    refine KC ?_
    have e27 := KP hm; subst e27; clear hm; have hm := hq27
    refine KC ?_
    refine K7 ?_
    have e26 := Ke hm; subst e26
    refine Kaf ?_
    exact WkX.of () (WkS.perm (WkS.nil) Pf Pf)
 ·intro y26 s26 hx26 hw26; subst hx26; clear hm; have hm := ho26; simp only [Sum.elim_inl] at hm; clear q26 ho26
  refine Ka ?_
  refine KQ hw26 (fun z26 => ?_)
  refine Kd ?_
  refine pu ?_
  refine Kb ?_
  refine Kr ?_
  have er51 := Ke hm; subst er51
  refine rP (t' := [(4, .v (.int .i64 (0 : Int)))]) [] [] 0 (wC wN) (lT lN) ?_
  exact ⟨rfl, rfl, rfl⟩
noncomputable def Kgf (a0 : Ki) : Option (Int) :=
 (Option.bind (α := Bool) (bif (decide (a0.gOp < (1 : Int))) then some true else some (decide ((9 : Int) < a0.gOp))) fun y3 => (bif y3 then some (-1 : Int) else (bif (a0.gOp == (4 : Int)) then some (a0.gExps.length : Int) else ((idx ([(1 : Int), (2 : Int), (1 : Int), (0 : Int), (0 : Int), (1 : Int), (1 : Int), (1 : Int), (1 : Int)] : List Int) (IntKind.i64.wrap (a0.gOp - (1 : Int)))).bind fun x11 => some x11))))
theorem KhY (a0 : Ki) (r : Int) (h0 : Kgf a0 = some r) : CallsD Tryz.prog 154 [Kf a0] [] [] (fun d h k => d = .v (.int .i64 r) ∧ h = [] ∧ k = []) := by
 have hm := Kw h0
 unfold Kgf at hm
 clear h0
 refine K0 htab Tryz.func154 rfl rfl rfl rfl rfl (fun C => ?_)
 refine w_eq (i := 0) rfl (Wk.of_eq (KU a0)) ?_
 refine Kd ?_
 refine p_box rfl rfl rfl rfl rfl rfl rfl (fun b1 => ?_)
 refine pu ?_
 refine Kb ?_
 refine Kg ?_
 refine Kg ?_
 obtain ⟨y3, q3, ho3⟩ := Kc hm
 refine K5 (Y := Unit) (fun z3 => (⟨[(1, .ptr b1 0), (10, .v (.bool y3))], [(b1, Blk.cells [.v (.int .i64 a0.gOp), .v (.string a0.gName), .v (.string a0.gFunc), .lst 5 (a0.gExps.map Kn) .no, .lst 7 (a0.gKids.map Kf) .no, .lst 7 (a0.gElse.map Kf) .no, .v (.int .i64 a0.gAt)] 121)], []⟩ : S)) ?_ ?_
 ·clear hm; have hm := Kw q3
  refine Kx ?_
  refine pu ?_
  refine pL 0 ?_
  refine pu ?_
  refine pu ?_
  refine Kaj (i := 6) rfl (fun hg4 => ?_) (fun hg4 => ?_)
  ·replace hm := yes_t hg4 hm
   iterate 3 refine pK ?_
   refine K3 rfl rfl rfl rfl rfl rfl ?_
   refine Ky ?_
   have e3 := Ke hm; subst e3
   refine ⟨rfl, ?_⟩
   exact WkX.of () (WkS.perm (WkS.cons rfl (Wk.refl _) (WkS.cons rfl (Wk.refl _) (WkS.nil))) Pf Pf)
  ·replace hm := yes_f hg4 hm
   refine pu ?_
   refine pL 0 ?_
   refine pu ?_
   refine KO rfl rfl rfl rfl rfl rfl ?_
   refine Ky ?_
   have e3 := Ke hm; subst e3
   refine ⟨rfl, ?_⟩
   exact WkX.of () (WkS.perm (WkS.cons rfl (Wk.refl _) (WkS.cons rfl (Wk.refl _) (WkS.nil))) Pf Pf)
 ·intro s3 hw3; clear hm; have hm := ho3; clear q3 ho3
  refine Ka ?_
  refine KQ hw3 (fun z3 => ?_)
  refine Kk rfl (fun hc6 => ?_) (fun hc6 => ?_)
  ·replace hm := yes_t hc6 hm
   refine Kd ?_
   refine pu ?_
   refine Kb ?_
   refine Kr ?_
   refine Kt ?_
   have er7 := Ke hm; subst er7
   refine rP (t' := [(2, .v (.int .i64 (-1 : Int)))]) [] [] 0 (wC wN) (lT lN) ?_
   exact ⟨rfl, rfl, rfl⟩
  ·replace hm := yes_f hc6 hm
   refine Kp ?_
   refine Ka ?_
   refine Kg ?_
   refine Kd ?_
   refine pu ?_
   refine pL 0 ?_
   refine pu ?_
   refine Kb ?_
   refine Kk rfl (fun hc9 => ?_) (fun hc9 => ?_)
   ·replace hm := yes_t hc9 hm
    refine Kd ?_
    refine pu ?_
    refine pL 0 ?_
    refine Kaa htab rfl rfl rfl rfl rfl rfl rfl (by first | exact KM | rfl) ?_
    refine pu ?_
    refine Kb ?_
    refine Kr ?_
    refine Kt ?_
    have er10 := Ke hm; subst er10
    refine rP (t' := [(2, .v (.int .i64 (a0.gExps.length : Int)))]) [] [] 0 (wC wN) (lT lN) ?_
    exact ⟨rfl, rfl, rfl⟩
   ·replace hm := yes_f hc9 hm
    refine Kp ?_
    refine Ka ?_
    refine Kd ?_
    refine p_lit htab rfl rfl rfl rfl rfl rfl rfl rfl rfl rfl rfl rfl rfl rfl ?_
    refine p_eq (i := 17) (d' := .lst 1 (([(1 : Int), (2 : Int), (1 : Int), (0 : Int), (0 : Int), (1 : Int), (1 : Int), (1 : Int), (1 : Int)] : List Int).map eI64) .full) rfl (Wk.lst0 (.cons (WkC.refl _) (.cons (WkC.refl _) (.cons (WkC.refl _) (.cons (WkC.refl _) (.cons (WkC.refl _) (.cons (WkC.refl _) (.cons (WkC.refl _) (.cons (WkC.refl _) (.cons (WkC.refl _) (.nil))))))))))) ?_
    refine pu ?_
    refine pL 0 ?_
    refine pu ?_
    obtain ⟨x11, q11, hm⟩ := Kc hm
    refine KaD htab rfl rfl rfl rfl rfl rfl rfl rfl rfl rfl (Kz q11) (KG q11) ?_
    refine Kat htab rfl rfl rfl rfl rfl rfl rfl rfl ?_
    refine pu ?_
    refine Kb ?_
    refine Kr ?_
    have er12 := Ke hm; subst er12
    refine rP (t' := [(2, .v (.int .i64 x11))]) [] [] 0 (wC wN) (lT lN) ?_
    exact ⟨rfl, rfl, rfl⟩
noncomputable def Kgg (a0 : Int) : Option (Int) :=
 (Option.bind (α := Bool) (bif (decide (a0 < (1 : Int))) then some true else some (decide ((20 : Int) < a0))) fun y2 => (bif y2 then some (-1 : Int) else ((idx ([(0 : Int), (0 : Int), (1 : Int), (0 : Int), (1 : Int), (1 : Int), (2 : Int), (2 : Int), (2 : Int), (2 : Int), (2 : Int), (2 : Int), (2 : Int), (2 : Int), (2 : Int), (2 : Int), (2 : Int), (0 : Int), (0 : Int), (1 : Int)] : List Int) (IntKind.i64.wrap (a0 - (1 : Int)))).bind fun x7 => some x7)))
theorem KhZ (a0 : Int) (r : Int) (h0 : Kgg a0 = some r) : CallsD Tryz.prog 183 [.v (.int .i64 a0)] [] [] (fun d h k => d = .v (.int .i64 r) ∧ h = [] ∧ k = []) := by
 have hm := Kw h0
 unfold Kgg at hm
 clear h0
 refine K0 htab Tryz.func183 rfl rfl rfl rfl rfl (fun C => ?_)
 refine Kd ?_
 refine pu ?_
 refine Kb ?_
 refine Kg ?_
 refine Kg ?_
 obtain ⟨y2, q2, ho2⟩ := Kc hm
 refine K5 (Y := Unit) (fun z2 => (⟨[(0, .v (.int .i64 a0)), (8, .v (.bool y2))], [], []⟩ : S)) ?_ ?_
 ·clear hm; have hm := Kw q2
  refine Kx ?_
  iterate 3 refine pu ?_
  refine Kaj (i := 5) rfl (fun hg3 => ?_) (fun hg3 => ?_)
  ·replace hm := yes_t hg3 hm
   refine pK ?_
   refine pK ?_
   refine K3 rfl rfl rfl rfl rfl rfl ?_
   refine Ky ?_
   have e2 := Ke hm; subst e2
   refine ⟨rfl, ?_⟩
   exact WkX.of () (WkS.perm (WkS.cons rfl (Wk.refl _) (WkS.cons rfl (Wk.refl _) (WkS.nil))) Pf Pf)
  ·replace hm := yes_f hg3 hm
   refine pu ?_
   refine pu ?_
   refine KO rfl rfl rfl rfl rfl rfl ?_
   refine Ky ?_
   have e2 := Ke hm; subst e2
   refine ⟨rfl, ?_⟩
   exact WkX.of () (WkS.perm (WkS.cons rfl (Wk.refl _) (WkS.cons rfl (Wk.refl _) (WkS.nil))) Pf Pf)
 ·intro s2 hw2; clear hm; have hm := ho2; clear q2 ho2
  refine Ka ?_
  refine KQ hw2 (fun z2 => ?_)
  refine Kk rfl (fun hc5 => ?_) (fun hc5 => ?_)
  ·replace hm := yes_t hc5 hm
   refine Kd ?_
   refine pu ?_
   refine Kb ?_
   refine Kr ?_
   refine Kt ?_
   have er6 := Ke hm; subst er6
   refine rP (t' := [(2, .v (.int .i64 (-1 : Int)))]) [] [] 0 (wC wN) (lT lN) ?_
   exact ⟨rfl, rfl, rfl⟩
  ·replace hm := yes_f hc5 hm
   refine Kp ?_
   refine Ka ?_
   refine Kd ?_
   refine p_lit htab rfl rfl rfl rfl rfl rfl rfl rfl rfl rfl rfl rfl rfl rfl ?_
   refine p_eq (i := 9) (d' := .lst 1 (([(0 : Int), (0 : Int), (1 : Int), (0 : Int), (1 : Int), (1 : Int), (2 : Int), (2 : Int), (2 : Int), (2 : Int), (2 : Int), (2 : Int), (2 : Int), (2 : Int), (2 : Int), (2 : Int), (2 : Int), (0 : Int), (0 : Int), (1 : Int)] : List Int).map eI64) .full) rfl (Wk.lst0 (.cons (WkC.refl _) (.cons (WkC.refl _) (.cons (WkC.refl _) (.cons (WkC.refl _) (.cons (WkC.refl _) (.cons (WkC.refl _) (.cons (WkC.refl _) (.cons (WkC.refl _) (.cons (WkC.refl _) (.cons (WkC.refl _) (.cons (WkC.refl _) (.cons (WkC.refl _) (.cons (WkC.refl _) (.cons (WkC.refl _) (.cons (WkC.refl _) (.cons (WkC.refl _) (.cons (WkC.refl _) (.cons (WkC.refl _) (.cons (WkC.refl _) (.cons (WkC.refl _) (.nil)))))))))))))))))))))) ?_
   refine pu ?_
   refine pu ?_
   obtain ⟨x7, q7, hm⟩ := Kc hm
   refine KaD htab rfl rfl rfl rfl rfl rfl rfl rfl rfl rfl (Kz q7) (KG q7) ?_
   refine Kat htab rfl rfl rfl rfl rfl rfl rfl rfl ?_
   refine pu ?_
   refine Kb ?_
   refine Kr ?_
   have er8 := Ke hm; subst er8
   refine rP (t' := [(2, .v (.int .i64 x7))]) [] [] 0 (wC wN) (lT lN) ?_
   exact ⟨rfl, rfl, rfl⟩
noncomputable def KeD (a0 : Km) (a1 : ByteArray) : Option (Int) :=
 ((app 24 ([] : List K8) a0.gParams).bind fun x2 => ((app 24 x2 a0.gLocals).bind fun x3 => (Option.bind (α := (Unit) ⊕ (Int)) (loopM (fun (s25 : Int) => (bif (decide (s25 < (x3.length : Int))) then ((idx x3 s25).bind fun x39 => (bif (decide (x39.gName = a1)) then ((idx x3 s25).bind fun x41 => (bif x41.gPtr then some (.done (.inr (2 : Int))) else some (.done (.inr (1 : Int))))) else some (.next (IntKind.i64.wrap (s25 + (1 : Int)))))) else some (.done (.inl ())))) (0 : Int)) (Sum.elim (fun y24 => some (0 : Int)) (fun r => some r)))))
theorem Khc (a0 : Km) (a1 : ByteArray) (r : Int) (h0 : KeD a0 a1 = some r) : CallsD Tryz.prog 184 [Ko a0, .v (.string a1)] [] [] (fun d h k => d = .v (.int .i64 r) ∧ h = [] ∧ k = []) := by
 have hm := Kw h0
 unfold KeD at hm
 clear h0
 refine K0 htab Tryz.func184 rfl rfl rfl rfl rfl (fun C => ?_)
 refine Kd ?_
 refine p_box rfl rfl rfl rfl rfl rfl rfl (fun b1 => ?_)
 refine pu ?_
 refine KK ?_
 refine pu ?_
 refine KK ?_
 refine pu ?_
 refine pu ?_
 refine pL 0 ?_
 obtain ⟨x2, q2, hm⟩ := Kc hm
 refine p_app0 htab rfl rfl rfl rfl rfl rfl rfl rfl rfl rfl rfl rfl rfl rfl rfl (by simpa using Kb5 (e := Kj) q2) (fun v2 => ?_)
 refine p_mapD0 (i := 10) q2 rfl ?_
 refine pu ?_
 refine KK ?_
 refine pu ?_
 refine pu ?_
 refine pL 0 ?_
 obtain ⟨x3, q3, hm⟩ := Kc hm
 refine Ke3 0 htab rfl rfl rfl rfl rfl rfl rfl rfl rfl rfl rfl rfl rfl rfl rfl rfl rfl (Kb5 q3) (fun v3 => ?_)
 refine Ke4 (i := 14) q3 rfl ?_
 refine pu ?_
 refine Kb ?_
 refine Kg ?_
 refine Kd ?_
 refine pu ?_
 refine Kb ?_
 obtain ⟨x24, q24, ho24⟩ := Kc hm
 refine Kaq (τ := Unit) (Y := Unit) (fun y24 z24 => (⟨[], [], []⟩ : S)) x24 ?_ ?_
 ·clear hm; have hm := Kw q24
  refine KA ?_
  obtain ⟨u25, hl25, hq25⟩ := yes_m hm
  refine Kav (Y := Unit) hl25 (fun s25 z25 => (⟨[(1, .v (.string a1)), (5, .lst 2 (x3.map Kj) (.cur v3)), (6, .v (.int .i64 s25))], [], [(2, v3)]⟩ : S)) ?_ ?_
  ·skip
   exact WkX.of () (WkS.perm (WkS.cons rfl (Wk.refl _) (WkS.cons rfl (Wk.refl _) (WkS.cons rfl (Wk.refl _) (WkS.nil)))) Pf Pf)
  ·intro G25 s25 z25 hm
   refine Kg ?_
   refine Kd ?_
   refine pu ?_
   refine pu ?_
   refine Kaa htab rfl rfl rfl rfl rfl rfl rfl (by first | exact KM | rfl) ?_
   refine pu ?_
   refine Kb ?_
   refine Kk rfl (fun hc38 => ?_) (fun hc38 => ?_)
   ·replace hm := yes_t hc38 hm
    refine Kp ?_
    refine Ka ?_
    refine Kg ?_
    refine KA ?_
    refine Kd ?_
    refine pu ?_
    refine pu ?_
    obtain ⟨x39, q39, hm⟩ := Kc hm
    refine KaD htab rfl rfl rfl rfl rfl rfl rfl rfl rfl rfl (Kz q39) (KG q39) ?_
    refine pu ?_
    refine Kat htab rfl rfl rfl rfl rfl rfl rfl rfl ?_
    refine pu ?_
    refine pu ?_
    refine Kb ?_
    refine Kk rfl (fun hc40 => ?_) (fun hc40 => ?_)
    ·replace hm := yes_t hc40 hm
     refine Kg ?_
     refine Kd ?_
     refine pu ?_
     refine pu ?_
     obtain ⟨x41, q41, hm⟩ := Kc hm
     refine KaD htab rfl rfl rfl rfl rfl rfl rfl rfl rfl rfl (Kz q41) (KG q41) ?_
     refine pu ?_
     refine Kat htab rfl rfl rfl rfl rfl rfl rfl rfl ?_
     refine Kb ?_
     refine Kk rfl (fun hc42 => ?_) (fun hc42 => ?_)
     ·replace hm := yes_t hc42 hm
      refine Kd ?_
      refine pu ?_
      refine Kb ?_
      refine Kr ?_
      refine Kt ?_
      refine KE ?_
      refine Kt ?_
      have e25 := KP hm; subst e25; clear hm; have hm := hq25
      refine Kt ?_
      refine KE ?_
      have e24 := Ke hm; subst e24; refine Kax ?_; clear hm; have hm := ho24; simp only [Sum.elim_inr] at hm
      refine Kt ?_
      have er43 := Ke hm; subst er43
      refine rP (t' := [(4, .v (.int .i64 (2 : Int)))]) [] [] 0 (wC wN) (lT lN) ?_
      exact ⟨rfl, rfl, rfl⟩
     ·replace hm := yes_f hc42 hm
      refine Kp ?_
      refine Ka ?_
      refine Kd ?_
      refine pu ?_
      refine Kb ?_
      refine Kr ?_
      refine KE ?_
      refine Kt ?_
      have e25 := KP hm; subst e25; clear hm; have hm := hq25
      refine Kt ?_
      refine KE ?_
      have e24 := Ke hm; subst e24; refine Kax ?_; clear hm; have hm := ho24; simp only [Sum.elim_inr] at hm
      refine Kt ?_
      have er44 := Ke hm; subst er44
      refine rP (t' := [(4, .v (.int .i64 (1 : Int)))]) [] [] 0 (wC wN) (lT lN) ?_
      exact ⟨rfl, rfl, rfl⟩
    ·replace hm := yes_f hc40 hm
     refine Kp ?_
     refine KF ?_
     refine Ka ?_
     refine Kx ?_
     iterate 3 refine pu ?_
     refine Ky ?_
     refine Ka ⟨_, Kam hm, ?_⟩
     exact WkX.of () (WkS.perm (WkS.cons rfl (Wk.refl _) (WkS.cons rfl (Wk.refl _) (WkS.cons rfl (Wk.refl _) (WkS.nil)))) Pf Pf)
   ·replace hm := yes_f hc38 hm
    refine Kad ?_
    refine KC ?_
    have e25 := KP hm; subst e25; clear hm; have hm := hq25
    refine KC ?_
    refine K7 ?_
    have e24 := Ke hm; subst e24
    refine Kaf ?_
    exact WkX.of () (WkS.perm (WkS.nil) Pf Pf)
 ·intro y24 s24 hx24 hw24; subst hx24; clear hm; have hm := ho24; simp only [Sum.elim_inl] at hm; clear q24 ho24
  refine Ka ?_
  refine KQ hw24 (fun z24 => ?_)
  refine Kd ?_
  refine pu ?_
  refine Kb ?_
  refine Kr ?_
  have er45 := Ke hm; subst er45
  refine rP (t' := [(4, .v (.int .i64 (0 : Int)))]) [] [] 0 (wC wN) (lT lN) ?_
  exact ⟨rfl, rfl, rfl⟩
noncomputable def Kfp (a0 : Kl) (a1 : Km) (a2 : ByteArray) : Option (Int) :=
 ((KeD a1 a2).bind fun x3 => (bif (x3 != (0 : Int)) then ((KeD a1 a2).bind fun x7 => some x7) else ((KeU a0 a2).bind fun x9 => some x9)))
theorem Kh0 (a0 : Kl) (a1 : Km) (a2 : ByteArray) (r : Int) (h0 : Kfp a0 a1 a2 = some r) : CallsD Tryz.prog 156 [KL a0, Ko a1, .v (.string a2)] [] [] (fun d h k => d = .v (.int .i64 r) ∧ h = [] ∧ k = []) := by
 have hm := Kw h0
 unfold Kfp at hm
 clear h0
 refine K0 htab Tryz.func156 rfl rfl rfl rfl rfl (fun C => ?_)
 refine Kd ?_
 refine p_box rfl rfl rfl rfl rfl rfl rfl (fun b1 => ?_)
 refine p_box rfl rfl rfl rfl rfl rfl rfl (fun b2 => ?_)
 refine pu ?_
 refine Kb ?_
 refine Kg ?_
 refine Kd ?_
 refine Kai (d := Ko a1) 1 htab rfl rfl rfl rfl rfl rfl rfl rfl ?_
 refine pu ?_
 obtain ⟨x3, q3, hm⟩ := Kc hm
 refine KN (Khc a1 a2 x3 q3) rfl rfl rfl rfl rfl Wl ?_
 rintro _ rfl
 refine pu ?_
 refine Kb ?_
 refine Kk rfl (fun hc6 => ?_) (fun hc6 => ?_)
 ·replace hm := yes_t hc6 hm
  refine Kd ?_
  refine Kai (d := Ko a1) 1 htab rfl rfl rfl rfl rfl rfl rfl rfl ?_
  refine pu ?_
  obtain ⟨x7, q7, hm⟩ := Kc hm
  refine KN (Khc a1 a2 x7 q7) rfl rfl rfl rfl rfl Wl ?_
  rintro _ rfl
  refine pu ?_
  refine Kb ?_
  refine Kr ?_
  refine Kt ?_
  have er8 := Ke hm; subst er8
  refine rP (t' := [(6, .v (.int .i64 x7))]) [] [] 0 (wC wN) (lT lN) ?_
  exact ⟨rfl, rfl, rfl⟩
 ·replace hm := yes_f hc6 hm
  refine Kp ?_
  refine Ka ?_
  refine Kd ?_
  refine Kai (d := KL a0) 0 htab rfl rfl rfl rfl rfl rfl rfl rfl ?_
  refine pu ?_
  obtain ⟨x9, q9, hm⟩ := Kc hm
  refine KN (Kjq a0 a2 x9 q9) rfl rfl rfl rfl rfl Wl ?_
  rintro _ rfl
  refine pu ?_
  refine Kb ?_
  refine Kr ?_
  have er10 := Ke hm; subst er10
  refine rP (t' := [(6, .v (.int .i64 x9))]) [] [] 0 (wC wN) (lT lN) ?_
  exact ⟨rfl, rfl, rfl⟩
noncomputable def Kdl (a0 : Int) (a1 : Int) (a2 : Int) : Option (Int) :=
 (bif (a0 == (0 : Int)) then some (7 : Int) else (bif (a0 == a1) then some (0 : Int) else (bif (a0 == a2) then some (0 : Int) else some (9 : Int))))
theorem KcY (a0 : Int) (a1 : Int) (a2 : Int) (r : Int) (h0 : Kdl a0 a1 a2 = some r) : CallsD Tryz.prog 157 [.v (.int .i64 a0), .v (.int .i64 a1), .v (.int .i64 a2)] [] [] (fun d h k => d = .v (.int .i64 r) ∧ h = [] ∧ k = []) := by
 have hm := Kw h0
 unfold Kdl at hm
 clear h0
 refine K0 htab Tryz.func157 rfl rfl rfl rfl rfl (fun C => ?_)
 refine Kd ?_
 refine pu ?_
 refine Kb ?_
 refine Kg ?_
 refine Kd ?_
 refine pu ?_
 refine pu ?_
 refine Kb ?_
 refine Kk rfl (fun hc2 => ?_) (fun hc2 => ?_)
 ·replace hm := yes_t hc2 hm
  refine Kd ?_
  refine pu ?_
  refine Kb ?_
  refine Kr ?_
  refine Kt ?_
  have er3 := Ke hm; subst er3
  refine rP (t' := [(6, .v (.int .i64 (7 : Int)))]) [] [] 0 (wC wN) (lT lN) ?_
  exact ⟨rfl, rfl, rfl⟩
 ·replace hm := yes_f hc2 hm
  refine Kp ?_
  refine Ka ?_
  refine Kg ?_
  refine Kd ?_
  iterate 4 refine pu ?_
  refine Kaj (i := 12) rfl (fun hg4 => ?_) (fun hg4 => ?_)
  ·replace hm := yes_t hg4 hm
   iterate 3 refine pK ?_
   refine K3 rfl rfl rfl rfl rfl rfl ?_
   refine Kb ?_
   refine Kfm rfl ?_
   refine Kd ?_
   refine pu ?_
   refine Kb ?_
   refine Kr ?_
   refine Kt ?_
   have er5 := Ke hm; subst er5
   refine rP (t' := [(6, .v (.int .i64 (0 : Int)))]) [] [] 0 (wC wN) (lT lN) ?_
   exact ⟨rfl, rfl, rfl⟩
  ·replace hm := yes_f hg4 hm
   iterate 3 refine pu ?_
   refine KO rfl rfl rfl rfl rfl rfl ?_
   refine Kb ?_
   refine Kk rfl (fun hc6 => ?_) (fun hc6 => ?_)
   ·replace hm := yes_t hc6 hm
    refine Kd ?_
    refine pu ?_
    refine Kb ?_
    refine Kr ?_
    refine Kt ?_
    have er7 := Ke hm; subst er7
    refine rP (t' := [(6, .v (.int .i64 (0 : Int)))]) [] [] 0 (wC wN) (lT lN) ?_
    exact ⟨rfl, rfl, rfl⟩
   ·replace hm := yes_f hc6 hm
    refine Kp ?_
    refine Ka ?_
    refine Kd ?_
    refine pu ?_
    refine Kb ?_
    refine Kr ?_
    have er8 := Ke hm; subst er8
    refine rP (t' := [(6, .v (.int .i64 (9 : Int)))]) [] [] 0 (wC wN) (lT lN) ?_
    exact ⟨rfl, rfl, rfl⟩
abbrev nlCk2_1 : List (List Nat) := nlD [] [(0,[]),(0,[0]),(2,[1]),(3,[2]),(4,[3]),(5,[4]),(6,[5]),(7,[6]),(6,[]),(6,[8]),(10,[9]),(8,[7,8,9,10]),(12,[11])]
abbrev nlCk2_2 : List (List Nat) := nlD [] [(0,[]),(0,[]),(0,[]),(0,[2]),(0,[]),(4,[3,4]),(6,[5]),(0,[0,1,2,3,4,5,6]),(8,[7]),(9,[8]),(9,[8]),(9,[8]),(10,[9]),(13,[10,12]),(13,[10,11,12,13])]
noncomputable def Kdm (g0 : (Kl) → (Km) → (Kh) → Option (Int × Int × Int)) (a0 : Kl) (a1 : Km) (a2 : Kh) : Option (Int × Int × Int) :=
 (Option.bind (α := Bool) ((Kgg a2.gOp).bind fun x8 => (bif (decide (x8 < (0 : Int))) then some true else ((Kgg a2.gOp).bind fun x10 => some (x10 != (a2.gKids.length : Int))))) fun y7 => (bif y7 then some ((0 : Int), a2.gAt, (2 : Int)) else (Option.bind (α := (List Int) ⊕ (Int × Int × Int)) (loopM (fun (s36 : List Int × Int) => (bif (decide (s36.2 < (a2.gKids.length : Int))) then ((idx a2.gKids s36.2).bind fun x51 => ((g0 a0 a1 x51).bind fun x52 => (bif (x52.2.2 != (0 : Int)) then some (.done (.inr ((0 : Int), x52.2.1, x52.2.2))) else ((app 8 s36.1 ([x52.1] : List Int)).bind fun x55 => some (.next (x55, (IntKind.i64.wrap (s36.2 + (1 : Int))))))))) else some (.done (.inl s36.1)))) (([] : List Int), (0 : Int))) (Sum.elim (fun y35 => (Option.bind (α := Bool) (bif (a2.gOp == (14 : Int)) then some true else some (a2.gOp == (15 : Int))) fun y57 => (bif y57 then ((idx y35 (0 : Int)).bind fun x65 => ((idx y35 (1 : Int)).bind fun x66 => (bif (x65 != x66) then ((idx a2.gKids (1 : Int)).bind fun x70 => some ((0 : Int), x70.gAt, (9 : Int))) else some ((1 : Int), (0 : Int), (0 : Int))))) else (Option.bind (α := (Unit) ⊕ (Int × Int × Int)) (loopM (fun (s90 : Int) => (bif (decide (s90 < (y35.length : Int))) then ((idx y35 s90).bind fun x102 => (bif (x102 != (1 : Int)) then ((idx a2.gKids s90).bind fun x104 => some (.done (.inr ((0 : Int), x104.gAt, (9 : Int))))) else some (.next (IntKind.i64.wrap (s90 + (1 : Int)))))) else some (.done (.inl ())))) (0 : Int)) (Sum.elim (fun y89 => ((Kfp a0 a1 a2.gName).bind fun x106 => (Option.bind (α := Int × Int) (Option.bind (α := Int × Int) (bif (a2.gOp == (2 : Int)) then ((Kdl x106 (1 : Int) (2 : Int)).bind fun x144 => some (x144, x106)) else (Option.bind (α := Int × Int) (bif (a2.gOp == (3 : Int)) then ((Kdl x106 (3 : Int) (3 : Int)).bind fun x162 => some (x162, (1 : Int))) else (Option.bind (α := Int × Int) (bif (a2.gOp == (4 : Int)) then ((Kdl x106 (2 : Int) (2 : Int)).bind fun x178 => some (x178, (1 : Int))) else (Option.bind (α := Int × Int) (bif (a2.gOp == (18 : Int)) then some ((0 : Int), (2 : Int)) else (Option.bind (α := Bool) (bif (a2.gOp == (19 : Int)) then some (a2.gOp == (19 : Int)) else some (a2.gOp == (20 : Int))) fun y193 => (Option.bind (α := Int × Int) (bif y193 then (Option.bind (α := Int) (bif (a2.gOp == (20 : Int)) then some (3 : Int) else some (1 : Int)) fun y205 => ((Kdl x106 y205 y205).bind fun x207 => ((KeD a1 a2.gName).bind fun x208 => (Option.bind (α := Int) (bif (x208 != (0 : Int)) then some (9 : Int) else some x207) fun y210 => some (y210, (2 : Int)))))) else some ((0 : Int), (1 : Int))) fun y202 => some (y202.1, y202.2)))) fun y190 => some (y190.1, y190.2))) fun y176 => some (y176.1, y176.2))) fun y160 => some (y160.1, y160.2))) fun y142 => some (y142.1, y142.2)) fun y124 => (bif (y124.1 != (0 : Int)) then some ((0 : Int), a2.gAt, y124.1) else some (y124.2, (0 : Int), (0 : Int)))))) (fun r => some r)))))) (fun r => some r)))))
theorem KlU (g0 : (Kl) → (Km) → (Kh) → Option (Int × Int × Int)) (hg0 : ∀ (a0 : Kl) (a1 : Km) (a2 : Kh) (r : Int × Int × Int) (h0 : g0 a0 a1 a2 = some r), CallsD Tryz.prog 155 [KL a0, Ko a1, Kn a2] [] [] (fun d h k => d = .tup [.v (.int .i64 r.1), .v (.int .i64 r.2.1), .v (.int .i64 r.2.2)] ∧ h = [] ∧ k = [])) (a0 : Kl) (a1 : Km) (a2 : Kh) (r : Int × Int × Int) (h0 : Kdm g0 a0 a1 a2 = some r) : CallsD Tryz.prog 155 [KL a0, Ko a1, Kn a2] [] [] (fun d h k => d = .tup [.v (.int .i64 r.1), .v (.int .i64 r.2.1), .v (.int .i64 r.2.2)] ∧ h = [] ∧ k = []) := by
 have hm := Kw h0
 unfold Kdm at hm
 clear h0
 refine K0 htab Tryz.func155 rfl rfl rfl rfl rfl (fun C => ?_)
 refine w_eq (i := 2) rfl (Wk.of_eq (KD a2)) ?_
 refine Kd ?_
 refine p_box rfl rfl rfl rfl rfl rfl rfl (fun b1 => ?_)
 refine p_box rfl rfl rfl rfl rfl rfl rfl (fun b2 => ?_)
 refine p_box rfl rfl rfl rfl rfl rfl rfl (fun b3 => ?_)
 iterate 3 refine pu ?_
 refine Kb ?_
 refine Kg ?_
 refine Kg ?_
 obtain ⟨y7, q7, ho7⟩ := Kc hm
 refine K5 (Y := Unit) (fun z7 => (⟨[(3, .ptr b1 0), (4, .ptr b2 0), (5, .ptr b3 0), (31, .v (.bool y7))], [(b1, Blk.cells [.lst 4 (a0.gGlobals.map Ks) .no, .lst 5 (a0.gFuncs.map Ko) .no] 28), (b2, Blk.cells [.v (.string a1.gName), .lst 2 (a1.gParams.map Kj) .no, .lst 2 (a1.gLocals.map Kj) .no, .lst 7 (a1.gBody.map Kf) .no, .v (.int .i64 a1.gAt)] 49), (b3, Blk.cells [.v (.int .i64 a2.gOp), .v (.int .i64 a2.gN), .v (.string a2.gName), .lst 5 (a2.gKids.map Kn) .no, .v (.int .i64 a2.gAt)] 166)], []⟩ : S)) ?_ ?_
 ·clear hm; have hm := Kw q7
  obtain ⟨x8, q8, hm⟩ := Kc hm
  refine bycB (decide (x8 < (0 : Int))) (fun hs9 => ?_) (fun hs9 => ?_)
  ·replace hm := yes_t hs9 hm
   refine KZ 11 [] [[],[0],[0],[0,2],[0,2],[0,2],[0,2],[0,2],[0,2],[0,2],[0,2]] [0,2] nlCk2_1 (by kernel_rfl) (by kernel_rfl) (by kernel_rfl) (by rfl) (by rfl) (by kernel_rfl) ?_
   apply Exists.intro
   apply Exists.intro
   intro bs
   refine zep ?_
   refine z_qM rfl rfl (KI 2 htab rfl rfl rfl rfl rfl) rfl rfl rfl rfl rfl rfl ?_
   refine Kbj rfl rfl (KhZ a2.gOp x8 q8) rfl rfl Wl rfl rfl rfl rfl rfl rfl ?_
   refine zqp ?_
   refine zqp ?_
   refine Kas (j := 23) (b' := true) rfl hs9 ?_
   iterate 6 refine zK ?_
   refine z_nil rfl rfl (fun e he => by simp [isAl] at he) ?_
   refine pK ?_
   refine K3 rfl rfl rfl rfl rfl rfl ?_
   refine Ky ?_
   have e7 := Ke hm; subst e7
   refine ⟨rfl, ?_⟩
   exact WkX.of () (WkS.perm (WkS.cons rfl (Wk.refl _) (WkS.cons rfl (Wk.refl _) (WkS.cons rfl (Wk.refl _) (WkS.cons rfl (Wk.refl _) (WkS.nil))))) Pf Pf)
  ·replace hm := yes_f hs9 hm
   obtain ⟨x10, q10, hm⟩ := Kc hm
   refine KZ 11 [] [[],[0],[0],[0,2],[0,2],[0,2],[0,2,5],[0,2,5],[0,2],[0,2,8],[0,2,8,9]] [0,2,5,7,8,9] nlCk2_1 (by kernel_rfl) (by kernel_rfl) (by kernel_rfl) (by rfl) (by rfl) (by kernel_rfl) ?_
   iterate 6 apply Exists.intro
   intro bs
   refine zep ?_
   refine z_qM rfl rfl (KI 2 htab rfl rfl rfl rfl rfl) rfl rfl rfl rfl rfl rfl ?_
   refine Kbj rfl rfl (KhZ a2.gOp x8 q8) rfl rfl Wl rfl rfl rfl rfl rfl rfl ?_
   refine zqp ?_
   refine zqp ?_
   refine Kas (j := 23) (b' := false) rfl hs9 ?_
   refine zep ?_
   refine z_qM rfl rfl (KI 2 htab rfl rfl rfl rfl rfl) rfl rfl rfl rfl rfl rfl ?_
   refine Kbj rfl rfl (KhZ a2.gOp x10 q10) rfl rfl Wl rfl rfl rfl rfl rfl rfl ?_
   refine zep ?_
   refine z_eM rfl rfl (KI 2 htab rfl rfl rfl rfl rfl) rfl rfl rfl rfl rfl rfl ?_
   refine z_q rfl rfl (KdF htab rfl rfl rfl rfl (by first | exact KM | rfl)) rfl rfl rfl rfl rfl rfl ?_
   refine z_nil rfl rfl (fun e he => by simp [isAl] at he) ?_
   refine pu ?_
   refine KO rfl rfl rfl rfl rfl rfl ?_
   refine Ky ?_
   have e7 := Ke hm; subst e7
   refine ⟨rfl, ?_⟩
   exact WkX.of () (WkS.perm (WkS.cons rfl (Wk.refl _) (WkS.cons rfl (Wk.refl _) (WkS.cons rfl (Wk.refl _) (WkS.cons rfl (Wk.refl _) (WkS.nil))))) Pf Pf)
 ·intro s7 hw7; clear hm; have hm := ho7; clear q7 ho7
  refine Ka ?_
  refine KQ hw7 (fun z7 => ?_)
  refine Kk rfl (fun hc12 => ?_) (fun hc12 => ?_)
  ·replace hm := yes_t hc12 hm
   refine Kg ?_
   refine KZ 3 [] [[],[0],[]] [0] [[],[0],[],[0,1,2],[0,1,2,3]] (by kernel_rfl) (by kernel_rfl) (by kernel_rfl) (by rfl) (by rfl) (by kernel_rfl) ?_
   apply Exists.intro
   intro bs
   refine zep ?_
   refine z_qM rfl rfl (KI 2 htab rfl rfl rfl rfl rfl) rfl rfl rfl rfl rfl rfl ?_
   refine zqp ?_
   refine z_nil rfl rfl (fun e he => by simp [isAl] at he) ?_
   refine pu ?_
   refine pu ?_
   refine Kb ?_
   refine Kr ?_
   refine Kt ?_
   have er13 := Ke hm; subst er13
   refine rP (t' := [(6, .v (.int .i64 (0 : Int))), (7, .v (.int .i64 a2.gAt)), (8, .v (.int .i64 (2 : Int)))]) [] [] 0 (wC (wC (wC wN))) (lT (lT (lT lN))) ?_
   exact ⟨rfl, rfl, rfl⟩
  ·replace hm := yes_f hc12 hm
   refine Kp ?_
   refine Ka ?_
   refine Kd ?_
   refine pu ?_
   refine Kb ?_
   refine Kg ?_
   refine Kd ?_
   refine pu ?_
   refine Kb ?_
   obtain ⟨x35, q35, ho35⟩ := Kc hm
   refine Kaq (τ := List Int) (Y := Value) (fun y35 z35 => (⟨[(3, .ptr b1 0), (4, .ptr b2 0), (5, .ptr b3 0), (9, .lst 1 (y35.map eI64) (.cur z35))], [(b1, Blk.cells [.lst 4 (a0.gGlobals.map Ks) .no, .lst 5 (a0.gFuncs.map Ko) .no] 28), (b2, Blk.cells [.v (.string a1.gName), .lst 2 (a1.gParams.map Kj) .no, .lst 2 (a1.gLocals.map Kj) .no, .lst 7 (a1.gBody.map Kf) .no, .v (.int .i64 a1.gAt)] 49), (b3, Blk.cells [.v (.int .i64 a2.gOp), .v (.int .i64 a2.gN), .v (.string a2.gName), .lst 5 (a2.gKids.map Kn) .no, .v (.int .i64 a2.gAt)] 166)], [(1, z35)]⟩ : S)) x35 ?_ ?_
   ·clear hm; have hm := Kw q35
    refine KA ?_
    obtain ⟨u36, hl36, hq36⟩ := yes_m hm
    refine Kav (Y := Value) hl36 (fun s36 z36 => (⟨[(3, .ptr b1 0), (4, .ptr b2 0), (5, .ptr b3 0), (9, .lst 1 (s36.1.map eI64) (.cur z36)), (10, .v (.int .i64 s36.2))], [(b1, Blk.cells [.lst 4 (a0.gGlobals.map Ks) .no, .lst 5 (a0.gFuncs.map Ko) .no] 28), (b2, Blk.cells [.v (.string a1.gName), .lst 2 (a1.gParams.map Kj) .no, .lst 2 (a1.gLocals.map Kj) .no, .lst 7 (a1.gBody.map Kf) .no, .v (.int .i64 a1.gAt)] 49), (b3, Blk.cells [.v (.int .i64 a2.gOp), .v (.int .i64 a2.gN), .v (.string a2.gName), .lst 5 (a2.gKids.map Kn) .no, .v (.int .i64 a2.gAt)] 166)], [(1, z36)]⟩ : S)) ?_ ?_
    ·skip
     refine WkX.tokN (i := 9) 1 rfl (fun w49 => ?_)
     exact WkX.of w49 (WkS.perm (WkS.cons rfl (Wk.refl _) (WkS.cons rfl (Wk.refl _) (WkS.cons rfl (Wk.refl _) (WkS.cons rfl (Wk.refl _) (WkS.cons rfl (Wk.refl _) (WkS.nil)))))) Pf Pf)
    ·intro G36 s36 z36 hm
     refine Kg ?_
     refine Kd ?_
     refine pu ?_
     refine pu ?_
     refine pL 2 ?_
     refine Kaa htab rfl rfl rfl rfl rfl rfl rfl (by first | exact KM | rfl) ?_
     refine pu ?_
     refine Kb ?_
     refine Kk rfl (fun hc50 => ?_) (fun hc50 => ?_)
     ·replace hm := yes_t hc50 hm
      refine Kp ?_
      refine Ka ?_
      refine Kg ?_
      refine KA ?_
      refine Kg ?_
      obtain ⟨x51, q51, hm⟩ := Kc hm
      obtain ⟨x52, q52, hm⟩ := Kc hm
      refine KZ 14 [] [[],[],[],[2],[],[2,3],[2,3,5],[0,1,2,3,5,6],[0,1,2,3,5,6,7],[0,1,2,3,5,6,7,8],[0,1,2,3,5,6,7,8],[0,1,2,3,5,6,7,8],[0,1,2,3,5,6,7,8],[0,1,2,3,5,6,7,8]] [0,1,2,3,5,6,7,8] nlCk2_2 (by kernel_rfl) (by kernel_rfl) (by kernel_rfl) (by rfl) (by rfl) (by kernel_rfl) ?_
      iterate 8 apply Exists.intro
      intro bs
      refine z_eM rfl rfl (KI (d := KL a0) 0 htab rfl rfl rfl rfl rfl) rfl rfl rfl rfl rfl rfl ?_
      refine z_eM rfl rfl (KI (d := Ko a1) 1 htab rfl rfl rfl rfl rfl) rfl rfl rfl rfl rfl rfl ?_
      refine zep ?_
      refine z_eM rfl rfl (KI 2 htab rfl rfl rfl rfl rfl) rfl rfl rfl rfl rfl rfl ?_
      refine zqp ?_
      refine z_e rfl rfl (Ex.wk (Kak htab rfl rfl rfl rfl rfl rfl rfl (Kz q51) (KG q51)) (Wk.of_eq (congrArg D.el (KD x51)))) rfl rfl rfl rfl rfl rfl ?_
      refine z_eM rfl rfl (KX (d := .agg [.v (.int .i64 x51.gOp), .v (.int .i64 x51.gN), .v (.string x51.gName), .lst 5 (x51.gKids.map Kn) .no, .v (.int .i64 x51.gAt)]) htab rfl rfl rfl rfl rfl) rfl rfl rfl rfl rfl rfl ?_
      refine Kbj rfl rfl (hg0 a0 a1 x51 x52 q52) rfl rfl (WkL.cons (Wk.refl _) (WkL.cons (Wk.refl _) (WkL.cons (Wk.trans (Wk.agg (WkR.refl _)) (Wk.of_eq (KD x51).symm)) Wl))) rfl rfl rfl rfl rfl rfl ?_
      refine zep ?_
      iterate 5 refine zqp ?_
      refine z_nil rfl rfl (fun e he => by simp [isAl] at he) ?_
      refine pu ?_
      refine Kb ?_
      refine Kg ?_
      refine Kd ?_
      refine pu ?_
      refine pu ?_
      refine Kb ?_
      refine Kk rfl (fun hc53 => ?_) (fun hc53 => ?_)
      ·replace hm := yes_t hc53 hm
       refine Kd ?_
       iterate 5 refine pu ?_
       refine Kb ?_
       refine Kr ?_
       refine Kt ?_
       refine KE ?_
       refine Kt ?_
       have e36 := KP hm; subst e36; clear hm; have hm := hq36
       refine Kt ?_
       refine KE ?_
       have e35 := Ke hm; subst e35; refine Kax ?_; clear hm; have hm := ho35; simp only [Sum.elim_inr] at hm
       refine Kt ?_
       have er54 := Ke hm; subst er54
       refine rP (t' := [(6, .v (.int .i64 (0 : Int))), (7, .v (.int .i64 x52.2.1)), (8, .v (.int .i64 x52.2.2))]) [] [] 0 (wC (wC (wC wN))) (lT (lT (lT lN))) ?_
       exact ⟨rfl, rfl, rfl⟩
      ·replace hm := yes_f hc53 hm
       refine Kp ?_
       refine Ka ?_
       refine Kx ?_
       refine pu ?_
       refine pu ?_
       refine p_lit htab rfl rfl rfl rfl rfl rfl rfl rfl rfl rfl rfl rfl rfl rfl ?_
       refine p_eq (i := 59) (d' := .lst 1 (([x52.1] : List Int).map eI64) .full) rfl (Wk.lst0 (.cons (WkC.refl _) (.nil))) ?_
       obtain ⟨x55, q55, hm⟩ := Kc hm
       refine Ke3 0 htab rfl rfl rfl rfl rfl rfl rfl rfl rfl rfl rfl rfl rfl rfl rfl rfl rfl (Kb5 q55) (fun v55 => ?_)
       refine Ke4 (i := 60) q55 rfl ?_
       refine pu ?_
       refine Ky ?_
       refine KF ?_
       refine Ka ?_
       refine Kx ?_
       iterate 3 refine pu ?_
       refine Ky ?_
       refine Ka ⟨_, Kam hm, ?_⟩
       exact WkX.of v55 (WkS.perm (WkS.cons rfl (Wk.refl _) (WkS.cons rfl (Wk.refl _) (WkS.cons rfl (Wk.refl _) (WkS.cons rfl (Wk.refl _) (WkS.cons rfl (Wk.refl _) (WkS.nil)))))) Pf Pf)
     ·replace hm := yes_f hc50 hm
      refine Kad ?_
      refine KC ?_
      have e36 := KP hm; subst e36; clear hm; have hm := hq36
      refine KC ?_
      refine K7 ?_
      have e35 := Ke hm; subst e35
      refine Kaf ?_
      exact WkX.of z36 (WkS.perm (WkS.cons rfl (Wk.refl _) (WkS.cons rfl (Wk.refl _) (WkS.cons rfl (Wk.refl _) (WkS.cons rfl (Wk.refl _) (WkS.nil))))) Pf Pf)
   ·intro y35 s35 hx35 hw35; subst hx35; clear hm; have hm := ho35; simp only [Sum.elim_inl] at hm; clear q35 ho35
    refine Ka ?_
    refine KQ hw35 (fun z35 => ?_)
    refine Kg ?_
    refine Kg ?_
    obtain ⟨y57, q57, ho57⟩ := Kc hm
    refine K5 (Y := Unit) (fun z57 => (⟨[(3, .ptr b1 0), (4, .ptr b2 0), (5, .ptr b3 0), (9, .lst 1 (y35.map eI64) (.cur z35)), (68, .v (.bool y57))], [(b1, Blk.cells [.lst 4 (a0.gGlobals.map Ks) .no, .lst 5 (a0.gFuncs.map Ko) .no] 28), (b2, Blk.cells [.v (.string a1.gName), .lst 2 (a1.gParams.map Kj) .no, .lst 2 (a1.gLocals.map Kj) .no, .lst 7 (a1.gBody.map Kf) .no, .v (.int .i64 a1.gAt)] 49), (b3, Blk.cells [.v (.int .i64 a2.gOp), .v (.int .i64 a2.gN), .v (.string a2.gName), .lst 5 (a2.gKids.map Kn) .no, .v (.int .i64 a2.gAt)] 166)], [(1, z35)]⟩ : S)) ?_ ?_
    ·clear hm; have hm := Kw q57
     refine Kx ?_
     refine pu ?_
     refine pL 2 ?_
     refine pu ?_
     refine pu ?_
     refine Kaj (i := 64) rfl (fun hg58 => ?_) (fun hg58 => ?_)
     ·replace hm := yes_t hg58 hm
      iterate 3 refine pK ?_
      refine K3 rfl rfl rfl rfl rfl rfl ?_
      refine Ky ?_
      have e57 := Ke hm; subst e57
      refine ⟨rfl, ?_⟩
      exact WkX.of () (WkS.perm (WkS.cons rfl (Wk.refl _) (WkS.cons rfl (Wk.refl _) (WkS.cons rfl (Wk.refl _) (WkS.cons rfl (Wk.refl _) (WkS.cons rfl (Wk.refl _) (WkS.nil)))))) Pf Pf)
     ·replace hm := yes_f hg58 hm
      refine pu ?_
      refine pL 2 ?_
      refine pu ?_
      refine KO rfl rfl rfl rfl rfl rfl ?_
      refine Ky ?_
      have e57 := Ke hm; subst e57
      refine ⟨rfl, ?_⟩
      exact WkX.of () (WkS.perm (WkS.cons rfl (Wk.refl _) (WkS.cons rfl (Wk.refl _) (WkS.cons rfl (Wk.refl _) (WkS.cons rfl (Wk.refl _) (WkS.cons rfl (Wk.refl _) (WkS.nil)))))) Pf Pf)
    ·intro s57 hw57; clear hm; have hm := ho57; clear q57 ho57
     refine Ka ?_
     refine KQ hw57 (fun z57 => ?_)
     refine Kk rfl (fun hc64 => ?_) (fun hc64 => ?_)
     ·replace hm := yes_t hc64 hm
      refine Kg ?_
      refine Kg ?_
      obtain ⟨x65, q65, hm⟩ := Kc hm
      obtain ⟨x66, q66, hm⟩ := Kc hm
      refine KZ 6 [] [[],[0],[0,1],[],[3],[3,4]] [0,1,3,4] [[],[0],[0,1],[],[3],[3,4],[0,1,2,3,4,5]] (by kernel_rfl) (by kernel_rfl) (by kernel_rfl) (by rfl) (by rfl) (by kernel_rfl) ?_
      iterate 4 apply Exists.intro
      intro bs
      refine zep ?_
      refine z_e rfl rfl (Kak htab rfl rfl rfl rfl rfl rfl rfl (Kz q65) (KG q65)) rfl rfl rfl rfl rfl rfl ?_
      refine z_qM rfl rfl (KX htab rfl rfl rfl rfl rfl) rfl rfl rfl rfl rfl rfl ?_
      refine zep ?_
      refine z_e rfl rfl (Kak htab rfl rfl rfl rfl rfl rfl rfl (Kz q66) (KG q66)) rfl rfl rfl rfl rfl rfl ?_
      refine z_qM rfl rfl (KX htab rfl rfl rfl rfl rfl) rfl rfl rfl rfl rfl rfl ?_
      refine z_nil rfl rfl (fun e he => by simp [isAl] at he) ?_
      refine pu ?_
      refine Kb ?_
      refine Kk rfl (fun hc69 => ?_) (fun hc69 => ?_)
      ·replace hm := yes_t hc69 hm
       refine Kg ?_
       obtain ⟨x70, q70, hm⟩ := Kc hm
       refine KZ 6 [] [[],[0],[0,1],[0,1,2],[0,1,2,3],[]] [0,1,2,3] [[],[0],[0,1],[0,1,2],[0,1,2,3],[],[0,1,2,3,4,5],[0,1,2,3,4,5,6]] (by kernel_rfl) (by kernel_rfl) (by kernel_rfl) (by rfl) (by rfl) (by kernel_rfl) ?_
       iterate 4 apply Exists.intro
       intro bs
       refine zep ?_
       refine z_eM rfl rfl (KI 2 htab rfl rfl rfl rfl rfl) rfl rfl rfl rfl rfl rfl ?_
       refine z_e rfl rfl (Ex.wk (Kak htab rfl rfl rfl rfl rfl rfl rfl (Kz q70) (KG q70)) (Wk.of_eq (congrArg D.el (KD x70)))) rfl rfl rfl rfl rfl rfl ?_
       refine zep ?_
       refine z_qM rfl rfl (KX htab rfl rfl rfl rfl rfl) rfl rfl rfl rfl rfl rfl ?_
       refine zqp ?_
       refine z_nil rfl rfl (fun e he => by simp [isAl] at he) ?_
       refine pu ?_
       refine pu ?_
       refine Kb ?_
       refine Kr ?_
       refine Kt ?_
       refine Kt ?_
       have er71 := Ke hm; subst er71
       refine rP (t' := [(6, .v (.int .i64 (0 : Int))), (7, .v (.int .i64 x70.gAt)), (8, .v (.int .i64 (9 : Int)))]) [] [] 0 (wC (wC (wC wN))) (lT (lT (lT lN))) ?_
       exact ⟨rfl, rfl, rfl⟩
      ·replace hm := yes_f hc69 hm
       refine Kp ?_
       refine Ka ?_
       refine Kd ?_
       iterate 3 refine pu ?_
       refine Kb ?_
       refine Kr ?_
       refine Kt ?_
       have er72 := Ke hm; subst er72
       refine rP (t' := [(6, .v (.int .i64 (1 : Int))), (7, .v (.int .i64 (0 : Int))), (8, .v (.int .i64 (0 : Int)))]) [] [] 0 (wC (wC (wC wN))) (lT (lT (lT lN))) ?_
       exact ⟨rfl, rfl, rfl⟩
     ·replace hm := yes_f hc64 hm
      refine Kp ?_
      refine Ka ?_
      refine Kg ?_
      refine Kd ?_
      refine pu ?_
      refine Kb ?_
      obtain ⟨x89, q89, ho89⟩ := Kc hm
      refine Kaq (τ := Unit) (Y := Unit) (fun y89 z89 => (⟨[(3, .ptr b1 0), (4, .ptr b2 0), (5, .ptr b3 0)], [(b1, Blk.cells [.lst 4 (a0.gGlobals.map Ks) .no, .lst 5 (a0.gFuncs.map Ko) .no] 28), (b2, Blk.cells [.v (.string a1.gName), .lst 2 (a1.gParams.map Kj) .no, .lst 2 (a1.gLocals.map Kj) .no, .lst 7 (a1.gBody.map Kf) .no, .v (.int .i64 a1.gAt)] 49), (b3, Blk.cells [.v (.int .i64 a2.gOp), .v (.int .i64 a2.gN), .v (.string a2.gName), .lst 5 (a2.gKids.map Kn) .no, .v (.int .i64 a2.gAt)] 166)], []⟩ : S)) x89 ?_ ?_
      ·clear hm; have hm := Kw q89
       refine KA ?_
       obtain ⟨u90, hl90, hq90⟩ := yes_m hm
       refine Kav (Y := Unit) hl90 (fun s90 z90 => (⟨[(3, .ptr b1 0), (4, .ptr b2 0), (5, .ptr b3 0), (9, .lst 1 (y35.map eI64) (.cur z35)), (14, .v (.int .i64 s90))], [(b1, Blk.cells [.lst 4 (a0.gGlobals.map Ks) .no, .lst 5 (a0.gFuncs.map Ko) .no] 28), (b2, Blk.cells [.v (.string a1.gName), .lst 2 (a1.gParams.map Kj) .no, .lst 2 (a1.gLocals.map Kj) .no, .lst 7 (a1.gBody.map Kf) .no, .v (.int .i64 a1.gAt)] 49), (b3, Blk.cells [.v (.int .i64 a2.gOp), .v (.int .i64 a2.gN), .v (.string a2.gName), .lst 5 (a2.gKids.map Kn) .no, .v (.int .i64 a2.gAt)] 166)], [(1, z35)]⟩ : S)) ?_ ?_
       ·skip
        exact WkX.of () (WkS.perm (WkS.cons rfl (Wk.refl _) (WkS.cons rfl (Wk.refl _) (WkS.cons rfl (Wk.refl _) (WkS.cons rfl (Wk.refl _) (WkS.cons rfl (Wk.refl _) (WkS.nil)))))) Pf Pf)
       ·intro G90 s90 z90 hm
        refine Kg ?_
        refine Kd ?_
        refine pu ?_
        refine pu ?_
        refine Kaa htab rfl rfl rfl rfl rfl rfl rfl (by first | exact KM | rfl) ?_
        refine pu ?_
        refine Kb ?_
        refine Kk rfl (fun hc101 => ?_) (fun hc101 => ?_)
        ·replace hm := yes_t hc101 hm
         refine Kp ?_
         refine Ka ?_
         refine Kg ?_
         refine KA ?_
         refine Kd ?_
         refine pu ?_
         refine pu ?_
         obtain ⟨x102, q102, hm⟩ := Kc hm
         refine KaD htab rfl rfl rfl rfl rfl rfl rfl rfl rfl rfl (Kz q102) (KG q102) ?_
         refine Kat htab rfl rfl rfl rfl rfl rfl rfl rfl ?_
         refine pu ?_
         refine Kb ?_
         refine Kk rfl (fun hc103 => ?_) (fun hc103 => ?_)
         ·replace hm := yes_t hc103 hm
          refine Kg ?_
          obtain ⟨x104, q104, hm⟩ := Kc hm
          refine KZ 7 [] [[],[0],[],[0,1],[0,1,3],[0,1,3,4],[]] [0,1,3,4] [[],[0],[],[0,1,2],[0,1,2,3],[0,1,2,3,4],[],[0,1,2,3,4,5,6],[0,1,2,3,4,5,6,7]] (by kernel_rfl) (by kernel_rfl) (by kernel_rfl) (by rfl) (by rfl) (by kernel_rfl) ?_
          iterate 4 apply Exists.intro
          intro bs
          refine zep ?_
          refine z_eM rfl rfl (KI 2 htab rfl rfl rfl rfl rfl) rfl rfl rfl rfl rfl rfl ?_
          refine zqp ?_
          refine z_e rfl rfl (Ex.wk (Kak htab rfl rfl rfl rfl rfl rfl rfl (Kz q104) (KG q104)) (Wk.of_eq (congrArg D.el (KD x104)))) rfl rfl rfl rfl rfl rfl ?_
          refine zep ?_
          refine z_qM rfl rfl (KX htab rfl rfl rfl rfl rfl) rfl rfl rfl rfl rfl rfl ?_
          refine zqp ?_
          refine z_nil rfl rfl (fun e he => by simp [isAl] at he) ?_
          refine pu ?_
          refine pu ?_
          refine Kb ?_
          refine Kr ?_
          refine KE ?_
          refine Kt ?_
          have e90 := KP hm; subst e90; clear hm; have hm := hq90
          refine Kt ?_
          refine KE ?_
          have e89 := Ke hm; subst e89; refine Kax ?_; clear hm; have hm := ho89; simp only [Sum.elim_inr] at hm
          refine Kt ?_
          have er105 := Ke hm; subst er105
          refine rP (t' := [(6, .v (.int .i64 (0 : Int))), (7, .v (.int .i64 x104.gAt)), (8, .v (.int .i64 (9 : Int)))]) [] [] 0 (wC (wC (wC wN))) (lT (lT (lT lN))) ?_
          exact ⟨rfl, rfl, rfl⟩
         ·replace hm := yes_f hc103 hm
          refine Kp ?_
          refine KF ?_
          refine Ka ?_
          refine Kx ?_
          iterate 3 refine pu ?_
          refine Ky ?_
          refine Ka ⟨_, Kam hm, ?_⟩
          exact WkX.of () (WkS.perm (WkS.cons rfl (Wk.refl _) (WkS.cons rfl (Wk.refl _) (WkS.cons rfl (Wk.refl _) (WkS.cons rfl (Wk.refl _) (WkS.cons rfl (Wk.refl _) (WkS.nil)))))) Pf Pf)
        ·replace hm := yes_f hc101 hm
         refine Kad ?_
         refine KC ?_
         have e90 := KP hm; subst e90; clear hm; have hm := hq90
         refine KC ?_
         refine K7 ?_
         have e89 := Ke hm; subst e89
         refine Kaf ?_
         exact WkX.of () (WkS.perm (WkS.cons rfl (Wk.refl _) (WkS.cons rfl (Wk.refl _) (WkS.cons rfl (Wk.refl _) (WkS.nil)))) Pf Pf)
      ·intro y89 s89 hx89 hw89; subst hx89; clear hm; have hm := ho89; simp only [Sum.elim_inl] at hm; clear q89 ho89
       refine Ka ?_
       refine KQ hw89 (fun z89 => ?_)
       refine Kd ?_
       refine Kai (d := KL a0) 0 htab rfl rfl rfl rfl rfl rfl rfl rfl ?_
       refine Kai (d := Ko a1) 1 htab rfl rfl rfl rfl rfl rfl rfl rfl ?_
       refine pu ?_
       refine pL 2 ?_
       obtain ⟨x106, q106, hm⟩ := Kc hm
       refine KN (Kh0 a0 a1 a2.gName x106 q106) rfl rfl rfl rfl rfl Wl ?_
       rintro _ rfl
       refine pu ?_
       refine KK ?_
       refine pu ?_
       refine KK ?_
       refine pu ?_
       refine Kb ?_
       refine Kg ?_
       refine Kd ?_
       refine pu ?_
       refine pL 2 ?_
       refine Kb ?_
       obtain ⟨y124, q124, ho124⟩ := Kc hm
       refine K5 (Y := Unit) (fun z124 => (⟨[(5, .ptr b3 0), (16, .v (.int .i64 y124.1)), (17, .v (.int .i64 y124.2))], [(b3, Blk.cells [.v (.int .i64 a2.gOp), .v (.int .i64 a2.gN), .v (.string a2.gName), .lst 5 (a2.gKids.map Kn) .no, .v (.int .i64 a2.gAt)] 166)], []⟩ : S)) ?_ ?_
       ·clear hm; have hm := Kw q124
        refine KA ?_
        refine Kd ?_
        refine pu ?_
        refine pu ?_
        refine Kb ?_
        obtain ⟨y142, q142, ho142⟩ := Kc hm
        refine K5 (Y := Unit) (fun z142 => (⟨[(5, .ptr b3 0), (16, .v (.int .i64 y142.1)), (17, .v (.int .i64 y142.2))], [(b3, Blk.cells [.v (.int .i64 a2.gOp), .v (.int .i64 a2.gN), .v (.string a2.gName), .lst 5 (a2.gKids.map Kn) .no, .v (.int .i64 a2.gAt)] 166)], []⟩ : S)) ?_ ?_
        ·clear hm; have hm := Kw q142
         refine Kk rfl (fun hc143 => ?_) (fun hc143 => ?_)
         ·replace hm := yes_t hc143 hm
          refine Kd ?_
          refine pu ?_
          obtain ⟨x144, q144, hm⟩ := Kc hm
          refine KN (KcY x106 (1 : Int) (2 : Int) x144 q144) rfl rfl rfl rfl rfl Wl ?_
          rintro _ rfl
          refine pu ?_
          refine Kb ?_
          refine Kx ?_
          refine pu ?_
          refine pu ?_
          refine Ky ?_
          have e142 := Ke hm; subst e142
          refine ⟨rfl, ?_⟩
          exact WkX.of () (WkS.perm (WkS.cons rfl (Wk.refl _) (WkS.cons rfl (Wk.refl _) (WkS.cons rfl (Wk.refl _) (WkS.nil)))) ((Kah (j := 2) rfl).trans (List.Perm.cons _ Pf)) Pf)
         ·replace hm := yes_f hc143 hm
          refine Kd ?_
          refine pu ?_
          refine pu ?_
          refine Kb ?_
          obtain ⟨y160, q160, ho160⟩ := Kc hm
          refine K5 (Y := Unit) (fun z160 => (⟨[(5, .ptr b3 0), (16, .v (.int .i64 y160.1)), (17, .v (.int .i64 y160.2))], [(b3, Blk.cells [.v (.int .i64 a2.gOp), .v (.int .i64 a2.gN), .v (.string a2.gName), .lst 5 (a2.gKids.map Kn) .no, .v (.int .i64 a2.gAt)] 166)], []⟩ : S)) ?_ ?_
          ·clear hm; have hm := Kw q160
           refine Kk rfl (fun hc161 => ?_) (fun hc161 => ?_)
           ·replace hm := yes_t hc161 hm
            refine Kx ?_
            refine pu ?_
            obtain ⟨x162, q162, hm⟩ := Kc hm
            refine KN (KcY x106 (3 : Int) (3 : Int) x162 q162) rfl rfl rfl rfl rfl Wl ?_
            rintro _ rfl
            refine pu ?_
            refine Ky ?_
            have e160 := Ke hm; subst e160
            refine ⟨rfl, ?_⟩
            exact WkX.of () (WkS.perm (WkS.cons rfl (Wk.refl _) (WkS.cons rfl (Wk.refl _) (WkS.cons rfl (Wk.refl _) (WkS.nil)))) ((Kah (j := 2) rfl).trans (List.Perm.cons _ Pf)) Pf)
           ·replace hm := yes_f hc161 hm
            refine Kd ?_
            refine pu ?_
            refine pu ?_
            refine Kb ?_
            obtain ⟨y176, q176, ho176⟩ := Kc hm
            refine K5 (Y := Unit) (fun z176 => (⟨[(5, .ptr b3 0), (16, .v (.int .i64 y176.1)), (17, .v (.int .i64 y176.2))], [(b3, Blk.cells [.v (.int .i64 a2.gOp), .v (.int .i64 a2.gN), .v (.string a2.gName), .lst 5 (a2.gKids.map Kn) .no, .v (.int .i64 a2.gAt)] 166)], []⟩ : S)) ?_ ?_
            ·clear hm; have hm := Kw q176
             refine Kk rfl (fun hc177 => ?_) (fun hc177 => ?_)
             ·replace hm := yes_t hc177 hm
              refine Kx ?_
              refine pu ?_
              obtain ⟨x178, q178, hm⟩ := Kc hm
              refine KN (KcY x106 (2 : Int) (2 : Int) x178 q178) rfl rfl rfl rfl rfl Wl ?_
              rintro _ rfl
              refine pu ?_
              refine Ky ?_
              have e176 := Ke hm; subst e176
              refine ⟨rfl, ?_⟩
              exact WkX.of () (WkS.perm (WkS.cons rfl (Wk.refl _) (WkS.cons rfl (Wk.refl _) (WkS.cons rfl (Wk.refl _) (WkS.nil)))) ((Kah (j := 2) rfl).trans (List.Perm.cons _ Pf)) Pf)
             ·replace hm := yes_f hc177 hm
              refine Kd ?_
              refine pu ?_
              refine pu ?_
              refine Kb ?_
              obtain ⟨y190, q190, ho190⟩ := Kc hm
              refine K5 (Y := Unit) (fun z190 => (⟨[(5, .ptr b3 0), (16, .v (.int .i64 y190.1)), (17, .v (.int .i64 y190.2))], [(b3, Blk.cells [.v (.int .i64 a2.gOp), .v (.int .i64 a2.gN), .v (.string a2.gName), .lst 5 (a2.gKids.map Kn) .no, .v (.int .i64 a2.gAt)] 166)], []⟩ : S)) ?_ ?_
              ·clear hm; have hm := Kw q190
               refine Kk rfl (fun hc191 => ?_) (fun hc191 => ?_)
               ·replace hm := yes_t hc191 hm
                refine Kx ?_
                refine pu ?_
                refine Ky ?_
                have e190 := Ke hm; subst e190
                refine ⟨rfl, ?_⟩
                exact WkX.of () (WkS.perm (WkS.cons rfl (Wk.refl _) (WkS.cons rfl (Wk.refl _) (WkS.cons rfl (Wk.refl _) (WkS.nil)))) ((Kah (j := 2) rfl).trans (List.Perm.cons _ Pf)) Pf)
               ·replace hm := yes_f hc191 hm
                refine Kg ?_
                refine Kd ?_
                refine pu ?_
                refine pu ?_
                refine Kb ?_
                obtain ⟨y193, q193, ho193⟩ := Kc hm
                refine K5 (Y := Unit) (fun z193 => (⟨[(4, .ptr b2 0), (5, .ptr b3 0), (15, .v (.int .i64 x106)), (16, .v (.int .i64 (0 : Int))), (17, .v (.int .i64 (1 : Int))), (120, .v (.bool y193))], [(b2, Blk.cells [.v (.string a1.gName), .lst 2 (a1.gParams.map Kj) .no, .lst 2 (a1.gLocals.map Kj) .no, .lst 7 (a1.gBody.map Kf) .no, .v (.int .i64 a1.gAt)] 49), (b3, Blk.cells [.v (.int .i64 a2.gOp), .v (.int .i64 a2.gN), .v (.string a2.gName), .lst 5 (a2.gKids.map Kn) .no, .v (.int .i64 a2.gAt)] 166)], []⟩ : S)) ?_ ?_
                ·clear hm; have hm := Kw q193
                 refine Kk rfl (fun hc194 => ?_) (fun hc194 => ?_)
                 ·replace hm := yes_t hc194 hm
                  refine Kp ?_
                  have e193 := Ke hm; subst e193
                  refine ⟨rfl, ?_⟩
                  exact WkX.of () (WkS.perm (WkS.cons rfl (Wk.refl _) (WkS.cons rfl (Wk.refl _) (WkS.cons rfl (Wk.refl _) (WkS.cons rfl (Wk.refl _) (WkS.cons rfl (Wk.refl _) (WkS.cons rfl (Wk.refl _) (WkS.nil))))))) ((Kah (j := 1) rfl).trans (List.Perm.cons _ ((Kah (j := 1) rfl).trans (List.Perm.cons _ Pf)))) Pf)
                 ·replace hm := yes_f hc194 hm
                  refine Kx ?_
                  refine pu ?_
                  refine pu ?_
                  refine Ky ?_
                  have e193 := Ke hm; subst e193
                  refine ⟨rfl, ?_⟩
                  exact WkX.of () (WkS.perm (WkS.cons rfl (Wk.refl _) (WkS.cons rfl (Wk.refl _) (WkS.cons rfl (Wk.refl _) (WkS.cons rfl (Wk.refl _) (WkS.cons rfl (Wk.refl _) (WkS.cons rfl (Wk.refl _) (WkS.nil))))))) ((Kah (j := 1) rfl).trans (List.Perm.cons _ ((Kah (j := 1) rfl).trans (List.Perm.cons _ Pf)))) Pf)
                ·intro s193 hw193; clear hm; have hm := ho193; clear q193 ho193
                 refine Ka ?_
                 refine KQ hw193 (fun z193 => ?_)
                 obtain ⟨y202, q202, ho202⟩ := Kc hm
                 refine K5 (Y := Unit) (fun z202 => (⟨[(5, .ptr b3 0), (16, .v (.int .i64 y202.1)), (17, .v (.int .i64 y202.2))], [(b3, Blk.cells [.v (.int .i64 a2.gOp), .v (.int .i64 a2.gN), .v (.string a2.gName), .lst 5 (a2.gKids.map Kn) .no, .v (.int .i64 a2.gAt)] 166)], []⟩ : S)) ?_ ?_
                 ·clear hm; have hm := Kw q202
                  refine Kk rfl (fun hc203 => ?_) (fun hc203 => ?_)
                  ·replace hm := yes_t hc203 hm
                   refine Kd ?_
                   refine pu ?_
                   refine KK ?_
                   refine pu ?_
                   refine Kb ?_
                   refine Kg ?_
                   refine Kd ?_
                   refine pu ?_
                   refine pL 1 ?_
                   refine pu ?_
                   refine Kb ?_
                   obtain ⟨y205, q205, ho205⟩ := Kc hm
                   refine K5 (Y := Unit) (fun z205 => (⟨[(4, .ptr b2 0), (5, .ptr b3 0), (15, .v (.int .i64 x106)), (17, .v (.int .i64 (2 : Int))), (18, .v (.int .i64 y205))], [(b2, Blk.cells [.v (.string a1.gName), .lst 2 (a1.gParams.map Kj) .no, .lst 2 (a1.gLocals.map Kj) .no, .lst 7 (a1.gBody.map Kf) .no, .v (.int .i64 a1.gAt)] 49), (b3, Blk.cells [.v (.int .i64 a2.gOp), .v (.int .i64 a2.gN), .v (.string a2.gName), .lst 5 (a2.gKids.map Kn) .no, .v (.int .i64 a2.gAt)] 166)], []⟩ : S)) ?_ ?_
                   ·clear hm; have hm := Kw q205
                    refine Kk rfl (fun hc206 => ?_) (fun hc206 => ?_)
                    ·replace hm := yes_t hc206 hm
                     refine Kx ?_
                     refine pu ?_
                     refine Ky ?_
                     have e205 := Ke hm; subst e205
                     refine ⟨rfl, ?_⟩
                     exact WkX.of () (WkS.perm (WkS.cons rfl (Wk.refl _) (WkS.cons rfl (Wk.refl _) (WkS.cons rfl (Wk.refl _) (WkS.cons rfl (Wk.refl _) (WkS.cons rfl (Wk.refl _) (WkS.nil)))))) Pf Pf)
                    ·replace hm := yes_f hc206 hm
                     refine Kp ?_
                     have e205 := Ke hm; subst e205
                     refine ⟨rfl, ?_⟩
                     exact WkX.of () (WkS.perm (WkS.cons rfl (Wk.refl _) (WkS.cons rfl (Wk.refl _) (WkS.cons rfl (Wk.refl _) (WkS.cons rfl (Wk.refl _) (WkS.cons rfl (Wk.refl _) (WkS.nil)))))) Pf Pf)
                   ·intro s205 hw205; clear hm; have hm := ho205; clear q205 ho205
                    refine Ka ?_
                    refine KQ hw205 (fun z205 => ?_)
                    refine Kd ?_
                    iterate 3 refine pu ?_
                    obtain ⟨x207, q207, hm⟩ := Kc hm
                    refine KN (KcY x106 y205 y205 x207 q207) rfl rfl rfl rfl rfl Wl ?_
                    rintro _ rfl
                    refine pu ?_
                    refine KK ?_
                    refine Kai (d := Ko a1) 0 htab rfl rfl rfl rfl rfl rfl rfl rfl ?_
                    refine pu ?_
                    refine pL 1 ?_
                    obtain ⟨x208, q208, hm⟩ := Kc hm
                    refine KN (Khc a1 a2.gName x208 q208) rfl rfl rfl rfl rfl Wl ?_
                    rintro _ rfl
                    refine pu ?_
                    refine Kb ?_
                    obtain ⟨y210, q210, ho210⟩ := Kc hm
                    refine K5 (Y := Unit) (fun z210 => (⟨[(5, .ptr b3 0), (16, .v (.int .i64 y210)), (17, .v (.int .i64 (2 : Int)))], [(b3, Blk.cells [.v (.int .i64 a2.gOp), .v (.int .i64 a2.gN), .v (.string a2.gName), .lst 5 (a2.gKids.map Kn) .no, .v (.int .i64 a2.gAt)] 166)], []⟩ : S)) ?_ ?_
                    ·clear hm; have hm := Kw q210
                     refine Kk rfl (fun hc211 => ?_) (fun hc211 => ?_)
                     ·replace hm := yes_t hc211 hm
                      refine Kx ?_
                      refine pu ?_
                      refine Ky ?_
                      have e210 := Ke hm; subst e210
                      refine ⟨rfl, ?_⟩
                      exact WkX.of () (WkS.perm (WkS.cons rfl (Wk.refl _) (WkS.cons rfl (Wk.refl _) (WkS.cons rfl (Wk.refl _) (WkS.nil)))) ((Kah (j := 1) rfl).trans (List.Perm.cons _ Pf)) Pf)
                     ·replace hm := yes_f hc211 hm
                      refine Kp ?_
                      have e210 := Ke hm; subst e210
                      refine ⟨rfl, ?_⟩
                      exact WkX.of () (WkS.perm (WkS.cons rfl (Wk.refl _) (WkS.cons rfl (Wk.refl _) (WkS.cons rfl (Wk.refl _) (WkS.nil)))) ((Kah (j := 1) rfl).trans (List.Perm.cons _ Pf)) Pf)
                    ·intro s210 hw210; clear hm; have hm := ho210; clear q210 ho210
                     have e202 := Ke hm; subst e202
                     refine ⟨rfl, ?_⟩
                     refine WkX.trans hw210 (fun z210 => ?_)
                     exact WkX.of () (WkS.perm (WkS.cons rfl (Wk.refl _) (WkS.cons rfl (Wk.refl _) (WkS.cons rfl (Wk.refl _) (WkS.nil)))) Pf Pf)
                  ·replace hm := yes_f hc203 hm
                   refine Kp ?_
                   have e202 := Ke hm; subst e202
                   refine ⟨rfl, ?_⟩
                   exact WkX.of () (WkS.perm (WkS.cons rfl (Wk.refl _) (WkS.cons rfl (Wk.refl _) (WkS.cons rfl (Wk.refl _) (WkS.nil)))) ((Kah (j := 1) rfl).trans (List.Perm.cons _ Pf)) Pf)
                 ·intro s202 hw202; clear hm; have hm := ho202; clear q202 ho202
                  have e190 := Ke hm; subst e190
                  refine ⟨rfl, ?_⟩
                  refine WkX.trans hw202 (fun z202 => ?_)
                  exact WkX.of () (WkS.perm (WkS.cons rfl (Wk.refl _) (WkS.cons rfl (Wk.refl _) (WkS.cons rfl (Wk.refl _) (WkS.nil)))) Pf Pf)
              ·intro s190 hw190; clear hm; have hm := ho190; clear q190 ho190
               have e176 := Ke hm; subst e176
               refine ⟨rfl, ?_⟩
               refine WkX.trans hw190 (fun z190 => ?_)
               exact WkX.of () (WkS.perm (WkS.cons rfl (Wk.refl _) (WkS.cons rfl (Wk.refl _) (WkS.cons rfl (Wk.refl _) (WkS.nil)))) Pf Pf)
            ·intro s176 hw176; clear hm; have hm := ho176; clear q176 ho176
             have e160 := Ke hm; subst e160
             refine ⟨rfl, ?_⟩
             refine WkX.trans hw176 (fun z176 => ?_)
             exact WkX.of () (WkS.perm (WkS.cons rfl (Wk.refl _) (WkS.cons rfl (Wk.refl _) (WkS.cons rfl (Wk.refl _) (WkS.nil)))) Pf Pf)
          ·intro s160 hw160; clear hm; have hm := ho160; clear q160 ho160
           have e142 := Ke hm; subst e142
           refine ⟨rfl, ?_⟩
           refine WkX.trans hw160 (fun z160 => ?_)
           exact WkX.of () (WkS.perm (WkS.cons rfl (Wk.refl _) (WkS.cons rfl (Wk.refl _) (WkS.cons rfl (Wk.refl _) (WkS.nil)))) Pf Pf)
        ·intro s142 hw142; clear hm; have hm := ho142; clear q142 ho142
         refine KF ?_
         have e124 := Ke hm; subst e124
         refine ⟨rfl, ?_⟩
         refine WkX.trans hw142 (fun z142 => ?_)
         exact WkX.of () (WkS.perm (WkS.cons rfl (Wk.refl _) (WkS.cons rfl (Wk.refl _) (WkS.cons rfl (Wk.refl _) (WkS.nil)))) Pf Pf)
       ·intro s124 hw124; clear hm; have hm := ho124; clear q124 ho124
        refine Ka ?_
        refine KQ hw124 (fun z124 => ?_)
        refine Kg ?_
        refine Kd ?_
        refine pu ?_
        refine pu ?_
        refine Kb ?_
        refine Kk rfl (fun hc213 => ?_) (fun hc213 => ?_)
        ·replace hm := yes_t hc213 hm
         refine Kg ?_
         refine KZ 5 [] [[],[0],[],[],[0]] [0] [[],[0],[],[],[0,1,3],[0,1,2,3,4]] (by kernel_rfl) (by kernel_rfl) (by kernel_rfl) (by rfl) (by rfl) (by kernel_rfl) ?_
         apply Exists.intro
         intro bs
         refine zep ?_
         refine z_qM rfl rfl (KI 0 htab rfl rfl rfl rfl rfl) rfl rfl rfl rfl rfl rfl ?_
         iterate 3 refine zqp ?_
         refine z_nil rfl rfl (fun e he => by simp [isAl] at he) ?_
         refine pu ?_
         refine Kb ?_
         refine Kr ?_
         refine Kt ?_
         have er214 := Ke hm; subst er214
         refine rP (t' := [(6, .v (.int .i64 (0 : Int))), (7, .v (.int .i64 a2.gAt)), (8, .v (.int .i64 y124.1))]) [] [] 0 (wC (wC (wC wN))) (lT (lT (lT lN))) ?_
         exact ⟨rfl, rfl, rfl⟩
        ·replace hm := yes_f hc213 hm
         refine Kp ?_
         refine Ka ?_
         refine Kd ?_
         iterate 4 refine pu ?_
         refine Kb ?_
         refine Kr ?_
         have er215 := Ke hm; subst er215
         refine rP (t' := [(6, .v (.int .i64 y124.2)), (7, .v (.int .i64 (0 : Int))), (8, .v (.int .i64 (0 : Int)))]) [] [] 0 (wC (wC (wC wN))) (lT (lT (lT lN))) ?_
         exact ⟨rfl, rfl, rfl⟩
noncomputable def Kcz : Nat → ((Kl) → (Km) → (Kh) → Option (Int × Int × Int))
 | 0 => (fun _ _ _ => none)
 | n + 1 => (Kdm ((Kcz n)))
theorem Kjr : ∀ n, (∀ (a0 : Kl) (a1 : Km) (a2 : Kh) (r : Int × Int × Int) (h0 : (Kcz n) a0 a1 a2 = some r), CallsD Tryz.prog 155 [KL a0, Ko a1, Kn a2] [] [] (fun d h k => d = .tup [.v (.int .i64 r.1), .v (.int .i64 r.2.1), .v (.int .i64 r.2.2)] ∧ h = [] ∧ k = []))
  | 0 => fun _ _ _ _ h0 => by cases h0
  | n + 1 => by
    have ih := Kjr n
    exact KlU (Kcz n) ih
theorem Kjs : ∀ n, (∀ (a0 : Kl) (a1 : Km) (a2 : Kh), Le ((Kcz n) a0 a1 a2) ((Kcz (n + 1)) a0 a1 a2))
  | 0 => fun _ _ _ => Le.none _
  | n + 1 => by
    have ih := Kjs n
    exact fun a0 a1 a2 => by show Le (Kdm ((Kcz n)) a0 a1 a2) (Kdm ((Kcz (n + 1))) a0 a1 a2); unfold Kdm; repeat (first | exact Le.refl _ | exact ih _ _ _ | assumption | (refine Le.bind ?_ (fun _ => ?_)) | (refine Le.cond ?_ ?_) | (refine Le.loop (fun _ => ?_)) | (refine Le.elim (fun _ => ?_) (fun _ => ?_)))
noncomputable def Khd (a0 : Kl) (a1 : Km) (a2 : Kh) : Option (Int × Int × Int) := anyN fun n => (Kcz n) a0 a1 a2
theorem Kml (a0 : Kl) (a1 : Km) (a2 : Kh) {r : Int × Int × Int} (n : Nat) (h : (Kcz n) a0 a1 a2 = some r) : Khd a0 a1 a2 = some r := Kej (fun m => (Kjs m) a0 a1 a2) h
theorem Kmm (a0 : Kl) (a1 : Km) (a2 : Kh) (r : Int × Int × Int) (h0 : Khd a0 a1 a2 = some r) : CallsD Tryz.prog 155 [KL a0, Ko a1, Kn a2] [] [] (fun d h k => d = .tup [.v (.int .i64 r.1), .v (.int .i64 r.2.1), .v (.int .i64 r.2.2)] ∧ h = [] ∧ k = []) :=
 let ⟨n, hn⟩ := Kdu h0; (Kjr n) a0 a1 a2  r hn
noncomputable def Khe (a0 : Kl) (a1 : Km) (a2 : Ki) (a3 : List Int) : Option (Int × Int) :=
 (Option.bind (α := (Unit) ⊕ (Int × Int)) (loopM (fun (s150 : Int) => (bif (decide (s150 < (a0.gFuncs.length : Int))) then ((idx a0.gFuncs s150).bind fun x244 => (bif (!decide (x244.gName = a2.gFunc)) then some (.next (IntKind.i64.wrap (s150 + (1 : Int)))) else ((idx a0.gFuncs s150).bind fun x246 => (bif ((x246.gParams.length : Int) != (a3.length : Int)) then some (.done (.inr (a2.gAt, (2 : Int)))) else (Option.bind (α := (Unit) ⊕ (Int × Int)) (loopM (fun (s268 : Int) => (bif (decide (s268 < (x246.gParams.length : Int))) then ((idx x246.gParams s268).bind fun x282 => ((idx a3 s268).bind fun x283 => (bif (!(x282.gPtr == (x283 == (2 : Int)))) then ((idx a2.gExps s268).bind fun x285 => some (.done (.inr (x285.gAt, (9 : Int))))) else some (.next (IntKind.i64.wrap (s268 + (1 : Int))))))) else some (.done (.inl ())))) (0 : Int)) (Sum.elim (fun y267 => (bif (!decide (a2.gName = (ByteArray.mk #[]))) then ((Kfp a0 a1 a2.gName).bind fun x288 => ((Kdl x288 (1 : Int) (1 : Int)).bind fun x289 => some (.done (.inr (a2.gAt, x289))))) else some (.done (.inr ((0 : Int), (0 : Int)))))) (fun r => some (.done (.inr r))))))))) else some (.done (.inl ())))) (0 : Int)) (Sum.elim (fun y149 => some (a2.gAt, (7 : Int))) (fun r => some r)))
theorem Kmn (a0 : Kl) (a1 : Km) (a2 : Ki) (a3 : List Int) (r : Int × Int) (h0 : Khe a0 a1 a2 a3 = some r) : CallsD Tryz.prog 158 [KL a0, Ko a1, Kf a2, .lst 1 (a3.map eI64) .no] [] [] (fun d h k => d = .tup [.v (.int .i64 r.1), .v (.int .i64 r.2)] ∧ h = [] ∧ k = []) := by
 have hm := Kw h0
 unfold Khe at hm
 clear h0
 refine K0 htab Tryz.func158 rfl rfl rfl rfl rfl (fun C => ?_)
 refine w_eq (i := 2) rfl (Wk.of_eq (KU a2)) ?_
 refine Kd ?_
 refine p_box rfl rfl rfl rfl rfl rfl rfl (fun b1 => ?_)
 refine p_box rfl rfl rfl rfl rfl rfl rfl (fun b2 => ?_)
 refine p_box rfl rfl rfl rfl rfl rfl rfl (fun b3 => ?_)
 refine pu ?_
 refine pu ?_
 refine Kb ?_
 refine Kg ?_
 refine Kd ?_
 refine pu ?_
 refine Kb ?_
 obtain ⟨x149, q149, ho149⟩ := Kc hm
 refine Kaq (τ := Unit) (Y := Unit) (fun y149 z149 => (⟨[(6, .ptr b3 0)], [(b3, Blk.cells [.v (.int .i64 a2.gOp), .v (.string a2.gName), .v (.string a2.gFunc), .lst 5 (a2.gExps.map Kn) .no, .lst 7 (a2.gKids.map Kf) .no, .lst 7 (a2.gElse.map Kf) .no, .v (.int .i64 a2.gAt)] 121)], []⟩ : S)) x149 ?_ ?_
 ·clear hm; have hm := Kw q149
  refine KA ?_
  obtain ⟨u150, hl150, hq150⟩ := yes_m hm
  refine Kav (Y := Unit) hl150 (fun s150 z150 => (⟨[(3, .lst 1 (a3.map eI64) .no), (4, .ptr b1 0), (5, .ptr b2 0), (6, .ptr b3 0), (10, .v (.int .i64 s150))], [(b1, Blk.cells [.lst 4 (a0.gGlobals.map Ks) .no, .lst 5 (a0.gFuncs.map Ko) .no] 28), (b2, Blk.cells [.v (.string a1.gName), .lst 2 (a1.gParams.map Kj) .no, .lst 2 (a1.gLocals.map Kj) .no, .lst 7 (a1.gBody.map Kf) .no, .v (.int .i64 a1.gAt)] 49), (b3, Blk.cells [.v (.int .i64 a2.gOp), .v (.string a2.gName), .v (.string a2.gFunc), .lst 5 (a2.gExps.map Kn) .no, .lst 7 (a2.gKids.map Kf) .no, .lst 7 (a2.gElse.map Kf) .no, .v (.int .i64 a2.gAt)] 121)], []⟩ : S)) ?_ ?_
  ·skip
   exact WkX.of () (WkS.perm (WkS.cons rfl (Wk.refl _) (WkS.cons rfl (Wk.refl _) (WkS.cons rfl (Wk.refl _) (WkS.cons rfl (Wk.refl _) (WkS.cons rfl (Wk.refl _) (WkS.nil)))))) Pf Pf)
  ·intro G150 s150 z150 hm
   refine Kg ?_
   refine Kd ?_
   refine pu ?_
   refine pu ?_
   refine pL 0 ?_
   refine Kaa htab rfl rfl rfl rfl rfl rfl rfl (by first | exact KM | rfl) ?_
   refine pu ?_
   refine Kb ?_
   refine Kk rfl (fun hc243 => ?_) (fun hc243 => ?_)
   ·replace hm := yes_t hc243 hm
    refine Kp ?_
    refine Ka ?_
    refine Kg ?_
    refine KA ?_
    refine Kg ?_
    refine Kg ?_
    obtain ⟨x244, q244, hm⟩ := Kc hm
    refine KZ 8 [] [[],[0],[],[0,1],[0,1,3],[0,1,3,4],[],[6]] [0,1,3,4,6] [[],[0],[],[0,1,2],[0,1,2,3],[0,1,2,3,4],[],[6],[0,1,2,3,4,5,6,7]] (by kernel_rfl) (by kernel_rfl) (by kernel_rfl) (by rfl) (by rfl) (by kernel_rfl) ?_
    iterate 5 apply Exists.intro
    intro bs
    refine zep ?_
    refine z_eM rfl rfl (KI 0 htab rfl rfl rfl rfl rfl) rfl rfl rfl rfl rfl rfl ?_
    refine zqp ?_
    refine z_e rfl rfl (Kak htab rfl rfl rfl rfl rfl rfl rfl (Kz q244) (KG q244)) rfl rfl rfl rfl rfl rfl ?_
    refine zep ?_
    refine z_qM rfl rfl (KX htab rfl rfl rfl rfl rfl) rfl rfl rfl rfl rfl rfl ?_
    refine zep ?_
    refine z_qM rfl rfl (KI 2 htab rfl rfl rfl rfl rfl) rfl rfl rfl rfl rfl rfl ?_
    refine z_nil rfl rfl (fun e he => by simp [isAl] at he) ?_
    refine pu ?_
    refine Kb ?_
    refine Kk rfl (fun hc245 => ?_) (fun hc245 => ?_)
    ·replace hm := yes_t hc245 hm
     refine Kad ?_
     refine KC ?_
     refine K7 ?_
     refine Ka ?_
     refine Kx ?_
     iterate 3 refine pu ?_
     refine Ky ?_
     refine Ka ⟨_, Kam hm, ?_⟩
     exact WkX.of () (WkS.perm (WkS.cons rfl (Wk.refl _) (WkS.cons rfl (Wk.refl _) (WkS.cons rfl (Wk.refl _) (WkS.cons rfl (Wk.refl _) (WkS.cons rfl (Wk.refl _) (WkS.nil)))))) Pf Pf)
    ·replace hm := yes_f hc245 hm
     refine Kp ?_
     refine Ka ?_
     refine Kd ?_
     refine pu ?_
     refine pL 0 ?_
     refine pu ?_
     obtain ⟨x246, q246, hm⟩ := Kc hm
     refine KaD htab rfl rfl rfl rfl rfl rfl rfl rfl rfl rfl (Kz q246) (KG q246) ?_
     refine pu ?_
     refine Kat htab rfl rfl rfl rfl rfl rfl rfl rfl ?_
     refine pu ?_
     refine Kb ?_
     refine Kg ?_
     refine Kd ?_
     refine pu ?_
     refine Kaa htab rfl rfl rfl rfl rfl rfl rfl (by first | exact KM | rfl) ?_
     refine pu ?_
     refine Kaa htab rfl rfl rfl rfl rfl rfl rfl (by first | exact KM | rfl) ?_
     refine pu ?_
     refine Kb ?_
     refine Kk rfl (fun hc247 => ?_) (fun hc247 => ?_)
     ·replace hm := yes_t hc247 hm
      refine Kd ?_
      refine pu ?_
      refine pL 2 ?_
      refine pu ?_
      refine pu ?_
      refine Kb ?_
      refine Kr ?_
      refine Kt ?_
      refine KE ?_
      refine Kt ?_
      have e150 := KP hm; subst e150; clear hm; have hm := hq150
      refine Kt ?_
      refine KE ?_
      have e149 := Ke hm; subst e149; refine Kax ?_; clear hm; have hm := ho149; simp only [Sum.elim_inr] at hm
      refine Kt ?_
      have er248 := Ke hm; subst er248
      refine rP (t' := [(8, .v (.int .i64 a2.gAt)), (9, .v (.int .i64 (2 : Int)))]) [] [] 0 (wC (wC wN)) (lT (lT lN)) ?_
      exact ⟨rfl, rfl, rfl⟩
     ·replace hm := yes_f hc247 hm
      refine Kp ?_
      refine Ka ?_
      refine Kg ?_
      refine Kd ?_
      refine pu ?_
      refine Kb ?_
      obtain ⟨x267, q267, ho267⟩ := Kc hm
      refine Kaq (τ := Unit) (Y := Unit) (fun y267 z267 => (⟨[(4, .ptr b1 0), (5, .ptr b2 0), (6, .ptr b3 0)], [(b1, Blk.cells [.lst 4 (a0.gGlobals.map Ks) .no, .lst 5 (a0.gFuncs.map Ko) .no] 28), (b2, Blk.cells [.v (.string a1.gName), .lst 2 (a1.gParams.map Kj) .no, .lst 2 (a1.gLocals.map Kj) .no, .lst 7 (a1.gBody.map Kf) .no, .v (.int .i64 a1.gAt)] 49), (b3, Blk.cells [.v (.int .i64 a2.gOp), .v (.string a2.gName), .v (.string a2.gFunc), .lst 5 (a2.gExps.map Kn) .no, .lst 7 (a2.gKids.map Kf) .no, .lst 7 (a2.gElse.map Kf) .no, .v (.int .i64 a2.gAt)] 121)], []⟩ : S)) x267 ?_ ?_
      ·clear hm; have hm := Kw q267
       refine KA ?_
       obtain ⟨u268, hl268, hq268⟩ := yes_m hm
       refine Kav (Y := Unit) hl268 (fun s268 z268 => (⟨[(3, .lst 1 (a3.map eI64) .no), (4, .ptr b1 0), (5, .ptr b2 0), (6, .ptr b3 0), (11, .lst 2 (x246.gParams.map Kj) .no), (12, .v (.int .i64 s268))], [(b1, Blk.cells [.lst 4 (a0.gGlobals.map Ks) .no, .lst 5 (a0.gFuncs.map Ko) .no] 28), (b2, Blk.cells [.v (.string a1.gName), .lst 2 (a1.gParams.map Kj) .no, .lst 2 (a1.gLocals.map Kj) .no, .lst 7 (a1.gBody.map Kf) .no, .v (.int .i64 a1.gAt)] 49), (b3, Blk.cells [.v (.int .i64 a2.gOp), .v (.string a2.gName), .v (.string a2.gFunc), .lst 5 (a2.gExps.map Kn) .no, .lst 7 (a2.gKids.map Kf) .no, .lst 7 (a2.gElse.map Kf) .no, .v (.int .i64 a2.gAt)] 121)], []⟩ : S)) ?_ ?_
       ·skip
        exact WkX.of () (WkS.perm (WkS.cons rfl (Wk.refl _) (WkS.cons rfl (Wk.refl _) (WkS.cons rfl (Wk.refl _) (WkS.cons rfl (Wk.refl _) (WkS.cons rfl (Wk.refl _) (WkS.cons rfl (Wk.refl _) (WkS.nil))))))) Pf Pf)
       ·intro G268 s268 z268 hm
        refine Kg ?_
        refine Kd ?_
        refine pu ?_
        refine pu ?_
        refine Kaa htab rfl rfl rfl rfl rfl rfl rfl (by first | exact KM | rfl) ?_
        refine pu ?_
        refine Kb ?_
        refine Kk rfl (fun hc281 => ?_) (fun hc281 => ?_)
        ·replace hm := yes_t hc281 hm
         refine Kp ?_
         refine Ka ?_
         refine Kg ?_
         refine KA ?_
         refine Kg ?_
         obtain ⟨x282, q282, hm⟩ := Kc hm
         obtain ⟨x283, q283, hm⟩ := Kc hm
         refine KZ 10 [] [[],[],[0],[0,2],[0,2,3],[],[],[5],[5,7],[5,7]] [0,2,3,5,7] [[],[],[0,1],[0,1,2],[0,1,2,3],[],[],[5,6],[5,6,7],[5,6,7,8],[0,1,2,3,4,5,6,7,8,9]] (by kernel_rfl) (by kernel_rfl) (by kernel_rfl) (by rfl) (by rfl) (by kernel_rfl) ?_
         iterate 5 apply Exists.intro
         intro bs
         refine zep ?_
         refine zqp ?_
         refine z_e rfl rfl (Kak htab rfl rfl rfl rfl rfl rfl rfl (Kz q282) (KG q282)) rfl rfl rfl rfl rfl rfl ?_
         refine zep ?_
         refine z_qM rfl rfl (KX htab rfl rfl rfl rfl rfl) rfl rfl rfl rfl rfl rfl ?_
         refine zep ?_
         refine zqp ?_
         refine z_e rfl rfl (Kak htab rfl rfl rfl rfl rfl rfl rfl (Kz q283) (KG q283)) rfl rfl rfl rfl rfl rfl ?_
         refine z_qM rfl rfl (KX htab rfl rfl rfl rfl rfl) rfl rfl rfl rfl rfl rfl ?_
         refine zqp ?_
         refine z_nil rfl rfl (fun e he => by simp [isAl] at he) ?_
         refine pu ?_
         refine Kb ?_
         refine Kk rfl (fun hc284 => ?_) (fun hc284 => ?_)
         ·replace hm := yes_t hc284 hm
          refine Kd ?_
          refine pu ?_
          refine pL 2 ?_
          refine pu ?_
          obtain ⟨x285, q285, hm⟩ := Kc hm
          refine KaD htab rfl rfl rfl rfl rfl rfl rfl rfl rfl rfl (Kz q285) (KG q285) ?_
          refine p_eq (i := 62) rfl (Wk.of_eq (congrArg D.el (KD x285))) ?_
          refine pu ?_
          refine Kat htab rfl rfl rfl rfl rfl rfl rfl rfl ?_
          refine pu ?_
          refine pu ?_
          refine Kb ?_
          refine Kr ?_
          refine KE ?_
          refine Kt ?_
          have e268 := KP hm; subst e268; clear hm; have hm := hq268
          refine Kt ?_
          refine KE ?_
          have e267 := Ke hm; subst e267; refine Kax ?_; clear hm; have hm := ho267; simp only [Sum.elim_inr] at hm
          refine Kt ?_
          refine KE ?_
          refine Kt ?_
          have e150 := KP hm; subst e150; clear hm; have hm := hq150
          refine Kt ?_
          refine KE ?_
          have e149 := Ke hm; subst e149; refine Kax ?_; clear hm; have hm := ho149; simp only [Sum.elim_inr] at hm
          refine Kt ?_
          have er286 := Ke hm; subst er286
          refine rP (t' := [(8, .v (.int .i64 x285.gAt)), (9, .v (.int .i64 (9 : Int)))]) [] [] 0 (wC (wC wN)) (lT (lT lN)) ?_
          exact ⟨rfl, rfl, rfl⟩
         ·replace hm := yes_f hc284 hm
          refine Kp ?_
          refine KF ?_
          refine Ka ?_
          refine Kx ?_
          iterate 3 refine pu ?_
          refine Ky ?_
          refine Ka ⟨_, Kam hm, ?_⟩
          exact WkX.of () (WkS.perm (WkS.cons rfl (Wk.refl _) (WkS.cons rfl (Wk.refl _) (WkS.cons rfl (Wk.refl _) (WkS.cons rfl (Wk.refl _) (WkS.cons rfl (Wk.refl _) (WkS.cons rfl (Wk.refl _) (WkS.nil))))))) Pf Pf)
        ·replace hm := yes_f hc281 hm
         refine Kad ?_
         refine KC ?_
         have e268 := KP hm; subst e268; clear hm; have hm := hq268
         refine KC ?_
         refine K7 ?_
         have e267 := Ke hm; subst e267
         refine Kaf ?_
         exact WkX.of () (WkS.perm (WkS.cons rfl (Wk.refl _) (WkS.cons rfl (Wk.refl _) (WkS.cons rfl (Wk.refl _) (WkS.nil)))) Pf Pf)
      ·intro y267 s267 hx267 hw267; subst hx267; clear hm; have hm := ho267; simp only [Sum.elim_inl] at hm; clear q267 ho267
       refine Ka ?_
       refine KQ hw267 (fun z267 => ?_)
       refine Kg ?_
       refine Kd ?_
       refine pu ?_
       refine pL 2 ?_
       refine pu ?_
       refine Kb ?_
       refine Kk rfl (fun hc287 => ?_) (fun hc287 => ?_)
       ·replace hm := yes_t hc287 hm
        refine Kg ?_
        obtain ⟨x288, q288, hm⟩ := Kc hm
        obtain ⟨x289, q289, hm⟩ := Kc hm
        refine KZ 8 [] [[],[0],[],[],[],[4],[2,3,4],[2,3,4,6]] [0,2,3,4,6,7] [[],[0],[],[],[],[4],[2,3,4,5],[2,3,4,5,6],[0,1,2,3,4,5,6,7],[0,1,2,3,4,5,6,7,8]] (by kernel_rfl) (by kernel_rfl) (by kernel_rfl) (by rfl) (by rfl) (by kernel_rfl) ?_
        iterate 6 apply Exists.intro
        intro bs
        refine zep ?_
        refine z_qM rfl rfl (KI 2 htab rfl rfl rfl rfl rfl) rfl rfl rfl rfl rfl rfl ?_
        refine z_eM rfl rfl (KI (d := KL a0) 0 htab rfl rfl rfl rfl rfl) rfl rfl rfl rfl rfl rfl ?_
        refine z_eM rfl rfl (KI (d := Ko a1) 1 htab rfl rfl rfl rfl rfl) rfl rfl rfl rfl rfl rfl ?_
        refine zep ?_
        refine z_qM rfl rfl (KI 2 htab rfl rfl rfl rfl rfl) rfl rfl rfl rfl rfl rfl ?_
        refine Kbj rfl rfl (Kh0 a0 a1 a2.gName x288 q288) rfl rfl Wl rfl rfl rfl rfl rfl rfl ?_
        refine Kbj rfl rfl (KcY x288 (1 : Int) (1 : Int) x289 q289) rfl rfl Wl rfl rfl rfl rfl rfl rfl ?_
        refine z_nil rfl rfl (fun e he => by simp [isAl] at he) ?_
        refine pu ?_
        refine pu ?_
        refine Kb ?_
        refine Kr ?_
        refine Kt ?_
        refine KE ?_
        refine Kt ?_
        have e150 := KP hm; subst e150; clear hm; have hm := hq150
        refine Kt ?_
        refine KE ?_
        have e149 := Ke hm; subst e149; refine Kax ?_; clear hm; have hm := ho149; simp only [Sum.elim_inr] at hm
        refine Kt ?_
        have er290 := Ke hm; subst er290
        refine rP (t' := [(8, .v (.int .i64 a2.gAt)), (9, .v (.int .i64 x289))]) [] [] 0 (wC (wC wN)) (lT (lT lN)) ?_
        exact ⟨rfl, rfl, rfl⟩
       ·replace hm := yes_f hc287 hm
        refine Kp ?_
        refine Ka ?_
        refine Kd ?_
        refine pu ?_
        refine pu ?_
        refine Kb ?_
        refine Kr ?_
        refine KE ?_
        refine Kt ?_
        have e150 := KP hm; subst e150; clear hm; have hm := hq150
        refine Kt ?_
        refine KE ?_
        have e149 := Ke hm; subst e149; refine Kax ?_; clear hm; have hm := ho149; simp only [Sum.elim_inr] at hm
        refine Kt ?_
        have er291 := Ke hm; subst er291
        refine rP (t' := [(8, .v (.int .i64 (0 : Int))), (9, .v (.int .i64 (0 : Int)))]) [] [] 0 (wC (wC wN)) (lT (lT lN)) ?_
        exact ⟨rfl, rfl, rfl⟩
   ·replace hm := yes_f hc243 hm
    refine Kad ?_
    refine KC ?_
    have e150 := KP hm; subst e150; clear hm; have hm := hq150
    refine KC ?_
    refine K7 ?_
    have e149 := Ke hm; subst e149
    refine Kaf ?_
    exact WkX.of () (WkS.perm (WkS.cons rfl (Wk.refl _) (WkS.nil)) ((Kah (j := 2) rfl).trans (List.Perm.cons _ Pf)) Pf)
 ·intro y149 s149 hx149 hw149; subst hx149; clear hm; have hm := ho149; simp only [Sum.elim_inl] at hm; clear q149 ho149
  refine Ka ?_
  refine KQ hw149 (fun z149 => ?_)
  refine Kd ?_
  refine pu ?_
  refine pL 0 ?_
  refine pu ?_
  refine pu ?_
  refine Kb ?_
  refine Kr ?_
  have er292 := Ke hm; subst er292
  refine rP (t' := [(8, .v (.int .i64 a2.gAt)), (9, .v (.int .i64 (7 : Int)))]) [] [] 0 (wC (wC wN)) (lT (lT lN)) ?_
  exact ⟨rfl, rfl, rfl⟩
abbrev nlCk2_3 : List (List Nat) := nlD [] [(0,[]),(0,[]),(0,[]),(0,[2]),(0,[]),(4,[3,4]),(6,[5]),(0,[0,1,2,3,4,5,6]),(8,[7]),(9,[8]),(9,[8]),(9,[8]),(10,[9]),(13,[10,12]),(13,[10,11,12,13])]
noncomputable def Kio (a0 : Kl) (a1 : Km) (a2 : Ki) : Option (Int × Int) :=
 (Option.bind (α := Bool) ((Kgf a2).bind fun x8 => (bif (decide (x8 < (0 : Int))) then some true else ((Kgf a2).bind fun x10 => some (x10 != (a2.gExps.length : Int))))) fun y7 => (bif y7 then some (a2.gAt, (2 : Int)) else (Option.bind (α := (List Int) ⊕ (Int × Int)) (loopM (fun (s36 : List Int × Int) => (bif (decide (s36.2 < (a2.gExps.length : Int))) then ((idx a2.gExps s36.2).bind fun x51 => ((Khd a0 a1 x51).bind fun x52 => (bif (x52.2.2 != (0 : Int)) then some (.done (.inr (x52.2.1, x52.2.2))) else ((app 8 s36.1 ([x52.1] : List Int)).bind fun x55 => some (.next (x55, (IntKind.i64.wrap (s36.2 + (1 : Int))))))))) else some (.done (.inl s36.1)))) (([] : List Int), (0 : Int))) (Sum.elim (fun y35 => ((Kfp a0 a1 a2.gName).bind fun x56 => (Option.bind (α := (Unit) ⊕ (Int × Int)) (loopM (fun (s89 : Int) => (Option.bind (α := Bool) (bif (decide (s89 < (y35.length : Int))) then (bif (a2.gOp != (1 : Int)) then some (a2.gOp != (4 : Int)) else some false) else some false) fun y112 => (bif y112 then ((idx y35 s89).bind fun x116 => (bif (x116 != (1 : Int)) then ((idx a2.gExps s89).bind fun x118 => some (.done (.inr (x118.gAt, (9 : Int))))) else some (.next (IntKind.i64.wrap (s89 + (1 : Int)))))) else some (.done (.inl ()))))) (0 : Int)) (Sum.elim (fun y88 => (bif (a2.gOp == (1 : Int)) then (Option.bind (α := Bool) (bif (x56 == (1 : Int)) then some true else some (x56 == (2 : Int))) fun y122 => (bif y122 then ((idx y35 (0 : Int)).bind fun x129 => ((idx y35 (0 : Int)).bind fun x130 => ((Kdl x56 x129 x130).bind fun x131 => some (a2.gAt, x131)))) else ((Kdl x56 (1 : Int) (2 : Int)).bind fun x133 => some (a2.gAt, x133)))) else (bif (a2.gOp == (2 : Int)) then ((Kdl x56 (3 : Int) (3 : Int)).bind fun x136 => some (a2.gAt, x136)) else (bif (a2.gOp == (3 : Int)) then ((Kdl x56 (2 : Int) (2 : Int)).bind fun x139 => some (a2.gAt, x139)) else (bif (a2.gOp == (4 : Int)) then ((Khe a0 a1 a2 y35).bind fun x142 => some (x142.1, x142.2)) else (bif (a2.gOp == (5 : Int)) then ((Kdl x56 (1 : Int) (1 : Int)).bind fun x145 => some (a2.gAt, x145)) else some ((0 : Int), (0 : Int)))))))) (fun r => some r))))) (fun r => some r)))))
theorem r15_own_ok (a0 : Kl) (a1 : Km) (a2 : Ki) (r : Int × Int) (h0 : Kio a0 a1 a2 = some r) : CallsD Tryz.prog 125 [KL a0, Ko a1, Kf a2] [] [] (fun d h k => d = .tup [.v (.int .i64 r.1), .v (.int .i64 r.2)] ∧ h = [] ∧ k = []) := by
 have hm := Kw h0
 unfold Kio at hm
 clear h0
 refine K0 htab Tryz.func125 rfl rfl rfl rfl rfl (fun C => ?_)
 refine w_eq (i := 2) rfl (Wk.of_eq (KU a2)) ?_
 refine Kd ?_
 refine p_box rfl rfl rfl rfl rfl rfl rfl (fun b1 => ?_)
 refine p_box rfl rfl rfl rfl rfl rfl rfl (fun b2 => ?_)
 refine p_box rfl rfl rfl rfl rfl rfl rfl (fun b3 => ?_)
 refine pu ?_
 refine pu ?_
 refine Kb ?_
 refine Kg ?_
 refine Kg ?_
 obtain ⟨y7, q7, ho7⟩ := Kc hm
 refine K5 (Y := Unit) (fun z7 => (⟨[(3, .ptr b1 0), (4, .ptr b2 0), (5, .ptr b3 0), (25, .v (.bool y7))], [(b1, Blk.cells [.lst 4 (a0.gGlobals.map Ks) .no, .lst 5 (a0.gFuncs.map Ko) .no] 28), (b2, Blk.cells [.v (.string a1.gName), .lst 2 (a1.gParams.map Kj) .no, .lst 2 (a1.gLocals.map Kj) .no, .lst 7 (a1.gBody.map Kf) .no, .v (.int .i64 a1.gAt)] 49), (b3, Blk.cells [.v (.int .i64 a2.gOp), .v (.string a2.gName), .v (.string a2.gFunc), .lst 5 (a2.gExps.map Kn) .no, .lst 7 (a2.gKids.map Kf) .no, .lst 7 (a2.gElse.map Kf) .no, .v (.int .i64 a2.gAt)] 121)], []⟩ : S)) ?_ ?_
 ·clear hm; have hm := Kw q7
  obtain ⟨x8, q8, hm⟩ := Kc hm
  refine bycB (decide (x8 < (0 : Int))) (fun hs9 => ?_) (fun hs9 => ?_)
  ·replace hm := yes_t hs9 hm
   refine KZ 9 [] [[],[0],[0,1],[0,1],[0,1],[0,1],[0,1],[0,1],[0,1]] [0,1] [[],[0],[0,1],[0,1,2],[0,1,2,3],[0,1,2,3,4],[0,1,2,3],[0,1,2,3,6],[0,1,2,3,6,7],[0,1,2,3,4,5,6,7,8],[0,1,2,3,4,5,6,7,8,9]] (by kernel_rfl) (by kernel_rfl) (by kernel_rfl) (by rfl) (by rfl) (by kernel_rfl) ?_
   apply Exists.intro
   apply Exists.intro
   intro bs
   refine z_eM rfl rfl (KI (d := .agg [.v (.int .i64 a2.gOp), .v (.string a2.gName), .v (.string a2.gFunc), .lst 5 (a2.gExps.map Kn) .no, .lst 7 (a2.gKids.map Kf) .no, .lst 7 (a2.gElse.map Kf) .no, .v (.int .i64 a2.gAt)]) 2 htab rfl rfl rfl rfl rfl) rfl rfl rfl rfl rfl rfl ?_
   refine Kbj rfl rfl (KhY a2 x8 q8) rfl rfl (WkL.cons (Wk.trans (Wk.agg (WkR.refl _)) (Wk.of_eq (KU a2).symm)) Wl) rfl rfl rfl rfl rfl rfl ?_
   refine zqp ?_
   refine zqp ?_
   refine Kas (j := 18) (b' := true) rfl hs9 ?_
   iterate 5 refine zK ?_
   refine z_nil rfl rfl (fun e he => by simp [isAl] at he) ?_
   refine pK ?_
   refine K3 rfl rfl rfl rfl rfl rfl ?_
   refine Ky ?_
   have e7 := Ke hm; subst e7
   refine ⟨rfl, ?_⟩
   exact WkX.of () (WkS.perm (WkS.cons rfl (Wk.refl _) (WkS.cons rfl (Wk.refl _) (WkS.cons rfl (Wk.refl _) (WkS.cons rfl (Wk.refl _) (WkS.nil))))) Pf Pf)
  ·replace hm := yes_f hs9 hm
   obtain ⟨x10, q10, hm⟩ := Kc hm
   refine KZ 9 [] [[],[0],[0,1],[0,1],[0,1],[0,1,4],[0,1],[0,1,6],[0,1,6,7]] [0,1,4,5,6,7] [[],[0],[0,1],[0,1,2],[0,1,2,3],[0,1,2,3,4],[0,1,2,3],[0,1,2,3,6],[0,1,2,3,6,7],[0,1,2,3,4,5,6,7,8],[0,1,2,3,4,5,6,7,8,9]] (by kernel_rfl) (by kernel_rfl) (by kernel_rfl) (by rfl) (by rfl) (by kernel_rfl) ?_
   iterate 6 apply Exists.intro
   intro bs
   refine z_eM rfl rfl (KI (d := .agg [.v (.int .i64 a2.gOp), .v (.string a2.gName), .v (.string a2.gFunc), .lst 5 (a2.gExps.map Kn) .no, .lst 7 (a2.gKids.map Kf) .no, .lst 7 (a2.gElse.map Kf) .no, .v (.int .i64 a2.gAt)]) 2 htab rfl rfl rfl rfl rfl) rfl rfl rfl rfl rfl rfl ?_
   refine Kbj rfl rfl (KhY a2 x8 q8) rfl rfl (WkL.cons (Wk.trans (Wk.agg (WkR.refl _)) (Wk.of_eq (KU a2).symm)) Wl) rfl rfl rfl rfl rfl rfl ?_
   refine zqp ?_
   refine zqp ?_
   refine Kas (j := 18) (b' := false) rfl hs9 ?_
   refine z_eM rfl rfl (KI (d := .agg [.v (.int .i64 a2.gOp), .v (.string a2.gName), .v (.string a2.gFunc), .lst 5 (a2.gExps.map Kn) .no, .lst 7 (a2.gKids.map Kf) .no, .lst 7 (a2.gElse.map Kf) .no, .v (.int .i64 a2.gAt)]) 2 htab rfl rfl rfl rfl rfl) rfl rfl rfl rfl rfl rfl ?_
   refine Kbj rfl rfl (KhY a2 x10 q10) rfl rfl (WkL.cons (Wk.trans (Wk.agg (WkR.refl _)) (Wk.of_eq (KU a2).symm)) Wl) rfl rfl rfl rfl rfl rfl ?_
   refine zep ?_
   refine z_eM rfl rfl (KI 2 htab rfl rfl rfl rfl rfl) rfl rfl rfl rfl rfl rfl ?_
   refine z_q rfl rfl (KdF htab rfl rfl rfl rfl (by first | exact KM | rfl)) rfl rfl rfl rfl rfl rfl ?_
   refine z_nil rfl rfl (fun e he => by simp [isAl] at he) ?_
   refine pu ?_
   refine KO rfl rfl rfl rfl rfl rfl ?_
   refine Ky ?_
   have e7 := Ke hm; subst e7
   refine ⟨rfl, ?_⟩
   exact WkX.of () (WkS.perm (WkS.cons rfl (Wk.refl _) (WkS.cons rfl (Wk.refl _) (WkS.cons rfl (Wk.refl _) (WkS.cons rfl (Wk.refl _) (WkS.nil))))) Pf Pf)
 ·intro s7 hw7; clear hm; have hm := ho7; clear q7 ho7
  refine Ka ?_
  refine KQ hw7 (fun z7 => ?_)
  refine Kk rfl (fun hc12 => ?_) (fun hc12 => ?_)
  ·replace hm := yes_t hc12 hm
   refine Kd ?_
   refine pu ?_
   refine pL 2 ?_
   refine pu ?_
   refine pu ?_
   refine Kb ?_
   refine Kr ?_
   refine Kt ?_
   have er13 := Ke hm; subst er13
   refine rP (t' := [(6, .v (.int .i64 a2.gAt)), (7, .v (.int .i64 (2 : Int)))]) [] [] 0 (wC (wC wN)) (lT (lT lN)) ?_
   exact ⟨rfl, rfl, rfl⟩
  ·replace hm := yes_f hc12 hm
   refine Kp ?_
   refine Ka ?_
   refine Kd ?_
   refine pu ?_
   refine Kb ?_
   refine Kg ?_
   refine Kd ?_
   refine pu ?_
   refine Kb ?_
   obtain ⟨x35, q35, ho35⟩ := Kc hm
   refine Kaq (τ := List Int) (Y := Value) (fun y35 z35 => (⟨[(3, .ptr b1 0), (4, .ptr b2 0), (5, .ptr b3 0), (8, .lst 1 (y35.map eI64) (.cur z35))], [(b1, Blk.cells [.lst 4 (a0.gGlobals.map Ks) .no, .lst 5 (a0.gFuncs.map Ko) .no] 28), (b2, Blk.cells [.v (.string a1.gName), .lst 2 (a1.gParams.map Kj) .no, .lst 2 (a1.gLocals.map Kj) .no, .lst 7 (a1.gBody.map Kf) .no, .v (.int .i64 a1.gAt)] 49), (b3, Blk.cells [.v (.int .i64 a2.gOp), .v (.string a2.gName), .v (.string a2.gFunc), .lst 5 (a2.gExps.map Kn) .no, .lst 7 (a2.gKids.map Kf) .no, .lst 7 (a2.gElse.map Kf) .no, .v (.int .i64 a2.gAt)] 121)], [(1, z35)]⟩ : S)) x35 ?_ ?_
   ·clear hm; have hm := Kw q35
    refine KA ?_
    obtain ⟨u36, hl36, hq36⟩ := yes_m hm
    refine Kav (Y := Value) hl36 (fun s36 z36 => (⟨[(3, .ptr b1 0), (4, .ptr b2 0), (5, .ptr b3 0), (8, .lst 1 (s36.1.map eI64) (.cur z36)), (9, .v (.int .i64 s36.2))], [(b1, Blk.cells [.lst 4 (a0.gGlobals.map Ks) .no, .lst 5 (a0.gFuncs.map Ko) .no] 28), (b2, Blk.cells [.v (.string a1.gName), .lst 2 (a1.gParams.map Kj) .no, .lst 2 (a1.gLocals.map Kj) .no, .lst 7 (a1.gBody.map Kf) .no, .v (.int .i64 a1.gAt)] 49), (b3, Blk.cells [.v (.int .i64 a2.gOp), .v (.string a2.gName), .v (.string a2.gFunc), .lst 5 (a2.gExps.map Kn) .no, .lst 7 (a2.gKids.map Kf) .no, .lst 7 (a2.gElse.map Kf) .no, .v (.int .i64 a2.gAt)] 121)], [(1, z36)]⟩ : S)) ?_ ?_
    ·skip
     refine WkX.tokN (i := 8) 1 rfl (fun w49 => ?_)
     exact WkX.of w49 (WkS.perm (WkS.cons rfl (Wk.refl _) (WkS.cons rfl (Wk.refl _) (WkS.cons rfl (Wk.refl _) (WkS.cons rfl (Wk.refl _) (WkS.cons rfl (Wk.refl _) (WkS.nil)))))) Pf Pf)
    ·intro G36 s36 z36 hm
     refine Kg ?_
     refine Kd ?_
     refine pu ?_
     refine pu ?_
     refine pL 2 ?_
     refine Kaa htab rfl rfl rfl rfl rfl rfl rfl (by first | exact KM | rfl) ?_
     refine pu ?_
     refine Kb ?_
     refine Kk rfl (fun hc50 => ?_) (fun hc50 => ?_)
     ·replace hm := yes_t hc50 hm
      refine Kp ?_
      refine Ka ?_
      refine Kg ?_
      refine KA ?_
      refine Kg ?_
      obtain ⟨x51, q51, hm⟩ := Kc hm
      obtain ⟨x52, q52, hm⟩ := Kc hm
      refine KZ 14 [] [[],[],[],[2],[],[2,3],[2,3,5],[0,1,2,3,5,6],[0,1,2,3,5,6,7],[0,1,2,3,5,6,7,8],[0,1,2,3,5,6,7,8],[0,1,2,3,5,6,7,8],[0,1,2,3,5,6,7,8],[0,1,2,3,5,6,7,8]] [0,1,2,3,5,6,7,8] nlCk2_3 (by kernel_rfl) (by kernel_rfl) (by kernel_rfl) (by rfl) (by rfl) (by kernel_rfl) ?_
      iterate 8 apply Exists.intro
      intro bs
      refine z_eM rfl rfl (KI (d := KL a0) 0 htab rfl rfl rfl rfl rfl) rfl rfl rfl rfl rfl rfl ?_
      refine z_eM rfl rfl (KI (d := Ko a1) 1 htab rfl rfl rfl rfl rfl) rfl rfl rfl rfl rfl rfl ?_
      refine zep ?_
      refine z_eM rfl rfl (KI 2 htab rfl rfl rfl rfl rfl) rfl rfl rfl rfl rfl rfl ?_
      refine zqp ?_
      refine z_e rfl rfl (Ex.wk (Kak htab rfl rfl rfl rfl rfl rfl rfl (Kz q51) (KG q51)) (Wk.of_eq (congrArg D.el (KD x51)))) rfl rfl rfl rfl rfl rfl ?_
      refine z_eM rfl rfl (KX (d := .agg [.v (.int .i64 x51.gOp), .v (.int .i64 x51.gN), .v (.string x51.gName), .lst 5 (x51.gKids.map Kn) .no, .v (.int .i64 x51.gAt)]) htab rfl rfl rfl rfl rfl) rfl rfl rfl rfl rfl rfl ?_
      refine Kbj rfl rfl (Kmm a0 a1 x51 x52 q52) rfl rfl (WkL.cons (Wk.refl _) (WkL.cons (Wk.refl _) (WkL.cons (Wk.trans (Wk.agg (WkR.refl _)) (Wk.of_eq (KD x51).symm)) Wl))) rfl rfl rfl rfl rfl rfl ?_
      refine zep ?_
      iterate 5 refine zqp ?_
      refine z_nil rfl rfl (fun e he => by simp [isAl] at he) ?_
      refine pu ?_
      refine Kb ?_
      refine Kg ?_
      refine Kd ?_
      refine pu ?_
      refine pu ?_
      refine Kb ?_
      refine Kk rfl (fun hc53 => ?_) (fun hc53 => ?_)
      ·replace hm := yes_t hc53 hm
       refine Kd ?_
       iterate 4 refine pu ?_
       refine Kb ?_
       refine Kr ?_
       refine Kt ?_
       refine KE ?_
       refine Kt ?_
       have e36 := KP hm; subst e36; clear hm; have hm := hq36
       refine Kt ?_
       refine KE ?_
       have e35 := Ke hm; subst e35; refine Kax ?_; clear hm; have hm := ho35; simp only [Sum.elim_inr] at hm
       refine Kt ?_
       have er54 := Ke hm; subst er54
       refine rP (t' := [(6, .v (.int .i64 x52.2.1)), (7, .v (.int .i64 x52.2.2))]) [] [] 0 (wC (wC wN)) (lT (lT lN)) ?_
       exact ⟨rfl, rfl, rfl⟩
      ·replace hm := yes_f hc53 hm
       refine Kp ?_
       refine Ka ?_
       refine Kx ?_
       refine pu ?_
       refine pu ?_
       refine p_lit htab rfl rfl rfl rfl rfl rfl rfl rfl rfl rfl rfl rfl rfl rfl ?_
       refine p_eq (i := 53) (d' := .lst 1 (([x52.1] : List Int).map eI64) .full) rfl (Wk.lst0 (.cons (WkC.refl _) (.nil))) ?_
       obtain ⟨x55, q55, hm⟩ := Kc hm
       refine Ke3 0 htab rfl rfl rfl rfl rfl rfl rfl rfl rfl rfl rfl rfl rfl rfl rfl rfl rfl (Kb5 q55) (fun v55 => ?_)
       refine Ke4 (i := 54) q55 rfl ?_
       refine pu ?_
       refine Ky ?_
       refine KF ?_
       refine Ka ?_
       refine Kx ?_
       iterate 3 refine pu ?_
       refine Ky ?_
       refine Ka ⟨_, Kam hm, ?_⟩
       exact WkX.of v55 (WkS.perm (WkS.cons rfl (Wk.refl _) (WkS.cons rfl (Wk.refl _) (WkS.cons rfl (Wk.refl _) (WkS.cons rfl (Wk.refl _) (WkS.cons rfl (Wk.refl _) (WkS.nil)))))) Pf Pf)
     ·replace hm := yes_f hc50 hm
      refine Kad ?_
      refine KC ?_
      have e36 := KP hm; subst e36; clear hm; have hm := hq36
      refine KC ?_
      refine K7 ?_
      have e35 := Ke hm; subst e35
      refine Kaf ?_
      exact WkX.of z36 (WkS.perm (WkS.cons rfl (Wk.refl _) (WkS.cons rfl (Wk.refl _) (WkS.cons rfl (Wk.refl _) (WkS.cons rfl (Wk.refl _) (WkS.nil))))) Pf Pf)
   ·intro y35 s35 hx35 hw35; subst hx35; clear hm; have hm := ho35; simp only [Sum.elim_inl] at hm; clear q35 ho35
    refine Ka ?_
    refine KQ hw35 (fun z35 => ?_)
    refine Kd ?_
    refine Kai (d := KL a0) 0 htab rfl rfl rfl rfl rfl rfl rfl rfl ?_
    refine Kai (d := Ko a1) 1 htab rfl rfl rfl rfl rfl rfl rfl rfl ?_
    refine pu ?_
    refine pL 2 ?_
    obtain ⟨x56, q56, hm⟩ := Kc hm
    refine KN (Kh0 a0 a1 a2.gName x56 q56) rfl rfl rfl rfl rfl Wl ?_
    rintro _ rfl
    refine pu ?_
    refine Kb ?_
    refine Kg ?_
    refine Kd ?_
    refine pu ?_
    refine Kb ?_
    obtain ⟨x88, q88, ho88⟩ := Kc hm
    refine Kaq (τ := Unit) (Y := Unit) (fun y88 z88 => (⟨[(3, .ptr b1 0), (4, .ptr b2 0), (5, .ptr b3 0), (8, .lst 1 (y35.map eI64) (.cur z35)), (13, .v (.int .i64 x56))], [(b1, Blk.cells [.lst 4 (a0.gGlobals.map Ks) .no, .lst 5 (a0.gFuncs.map Ko) .no] 28), (b2, Blk.cells [.v (.string a1.gName), .lst 2 (a1.gParams.map Kj) .no, .lst 2 (a1.gLocals.map Kj) .no, .lst 7 (a1.gBody.map Kf) .no, .v (.int .i64 a1.gAt)] 49), (b3, Blk.cells [.v (.int .i64 a2.gOp), .v (.string a2.gName), .v (.string a2.gFunc), .lst 5 (a2.gExps.map Kn) .no, .lst 7 (a2.gKids.map Kf) .no, .lst 7 (a2.gElse.map Kf) .no, .v (.int .i64 a2.gAt)] 121)], [(1, z35)]⟩ : S)) x88 ?_ ?_
    ·clear hm; have hm := Kw q88
     refine KA ?_
     obtain ⟨u89, hl89, hq89⟩ := yes_m hm
     refine Kav (Y := Unit) hl89 (fun s89 z89 => (⟨[(3, .ptr b1 0), (4, .ptr b2 0), (5, .ptr b3 0), (8, .lst 1 (y35.map eI64) (.cur z35)), (13, .v (.int .i64 x56)), (14, .v (.int .i64 s89))], [(b1, Blk.cells [.lst 4 (a0.gGlobals.map Ks) .no, .lst 5 (a0.gFuncs.map Ko) .no] 28), (b2, Blk.cells [.v (.string a1.gName), .lst 2 (a1.gParams.map Kj) .no, .lst 2 (a1.gLocals.map Kj) .no, .lst 7 (a1.gBody.map Kf) .no, .v (.int .i64 a1.gAt)] 49), (b3, Blk.cells [.v (.int .i64 a2.gOp), .v (.string a2.gName), .v (.string a2.gFunc), .lst 5 (a2.gExps.map Kn) .no, .lst 7 (a2.gKids.map Kf) .no, .lst 7 (a2.gElse.map Kf) .no, .v (.int .i64 a2.gAt)] 121)], [(1, z35)]⟩ : S)) ?_ ?_
     ·skip
      exact WkX.of () (WkS.perm (WkS.cons rfl (Wk.refl _) (WkS.cons rfl (Wk.refl _) (WkS.cons rfl (Wk.refl _) (WkS.cons rfl (Wk.refl _) (WkS.cons rfl (Wk.refl _) (WkS.cons rfl (Wk.refl _) (WkS.nil))))))) Pf Pf)
     ·intro G89 s89 z89 hm
      refine Kg ?_
      refine Kg ?_
      obtain ⟨y112, q112, ho112⟩ := Kc hm
      refine K5 (Y := Unit) (fun z112 => (⟨[(3, .ptr b1 0), (4, .ptr b2 0), (5, .ptr b3 0), (8, .lst 1 (y35.map eI64) (.cur z35)), (13, .v (.int .i64 x56)), (14, .v (.int .i64 s89)), (73, .v (.bool y112))], [(b1, Blk.cells [.lst 4 (a0.gGlobals.map Ks) .no, .lst 5 (a0.gFuncs.map Ko) .no] 28), (b2, Blk.cells [.v (.string a1.gName), .lst 2 (a1.gParams.map Kj) .no, .lst 2 (a1.gLocals.map Kj) .no, .lst 7 (a1.gBody.map Kf) .no, .v (.int .i64 a1.gAt)] 49), (b3, Blk.cells [.v (.int .i64 a2.gOp), .v (.string a2.gName), .v (.string a2.gFunc), .lst 5 (a2.gExps.map Kn) .no, .lst 7 (a2.gKids.map Kf) .no, .lst 7 (a2.gElse.map Kf) .no, .v (.int .i64 a2.gAt)] 121)], [(1, z35)]⟩ : S)) ?_ ?_
      ·clear hm; have hm := Kw q112
       refine Kx ?_
       refine pu ?_
       refine pu ?_
       refine Kaa htab rfl rfl rfl rfl rfl rfl rfl (by first | exact KM | rfl) ?_
       refine pu ?_
       refine pu ?_
       refine Kaj (i := 64) rfl (fun hg113 => ?_) (fun hg113 => ?_)
       ·replace hm := yes_t hg113 hm
        refine pu ?_
        refine pL 2 ?_
        refine pu ?_
        refine K3 rfl rfl rfl rfl rfl rfl ?_
        refine pu ?_
        refine Kaj (i := 69) rfl (fun hg114 => ?_) (fun hg114 => ?_)
        ·replace hm := yes_t hg114 hm
         refine pu ?_
         refine pL 2 ?_
         refine pu ?_
         refine K3 rfl rfl rfl rfl rfl rfl ?_
         refine Ky ?_
         have e112 := Ke hm; subst e112
         refine ⟨rfl, ?_⟩
         exact WkX.of () (WkS.perm (WkS.cons rfl (Wk.refl _) (WkS.cons rfl (Wk.refl _) (WkS.cons rfl (Wk.refl _) (WkS.cons rfl (Wk.refl _) (WkS.cons rfl (Wk.refl _) (WkS.cons rfl (Wk.refl _) (WkS.cons rfl (Wk.refl _) (WkS.nil)))))))) Pf Pf)
        ·replace hm := yes_f hg114 hm
         iterate 3 refine pK ?_
         refine KO rfl rfl rfl rfl rfl rfl ?_
         refine Ky ?_
         have e112 := Ke hm; subst e112
         refine ⟨rfl, ?_⟩
         exact WkX.of () (WkS.perm (WkS.cons rfl (Wk.refl _) (WkS.cons rfl (Wk.refl _) (WkS.cons rfl (Wk.refl _) (WkS.cons rfl (Wk.refl _) (WkS.cons rfl (Wk.refl _) (WkS.cons rfl (Wk.refl _) (WkS.cons rfl (Wk.refl _) (WkS.nil)))))))) Pf Pf)
       ·replace hm := yes_f hg113 hm
        iterate 3 refine pK ?_
        refine KO rfl rfl rfl rfl rfl rfl ?_
        refine pu ?_
        iterate 3 refine pK ?_
        refine KO rfl rfl rfl rfl rfl rfl ?_
        refine Ky ?_
        have e112 := Ke hm; subst e112
        refine ⟨rfl, ?_⟩
        exact WkX.of () (WkS.perm (WkS.cons rfl (Wk.refl _) (WkS.cons rfl (Wk.refl _) (WkS.cons rfl (Wk.refl _) (WkS.cons rfl (Wk.refl _) (WkS.cons rfl (Wk.refl _) (WkS.cons rfl (Wk.refl _) (WkS.cons rfl (Wk.refl _) (WkS.nil)))))))) Pf Pf)
      ·intro s112 hw112; clear hm; have hm := ho112; clear q112 ho112
       refine Ka ?_
       refine KQ hw112 (fun z112 => ?_)
       refine Kk rfl (fun hc115 => ?_) (fun hc115 => ?_)
       ·replace hm := yes_t hc115 hm
        refine Kp ?_
        refine Ka ?_
        refine Kg ?_
        refine KA ?_
        refine Kd ?_
        refine pu ?_
        refine pu ?_
        obtain ⟨x116, q116, hm⟩ := Kc hm
        refine KaD htab rfl rfl rfl rfl rfl rfl rfl rfl rfl rfl (Kz q116) (KG q116) ?_
        refine Kat htab rfl rfl rfl rfl rfl rfl rfl rfl ?_
        refine pu ?_
        refine Kb ?_
        refine Kk rfl (fun hc117 => ?_) (fun hc117 => ?_)
        ·replace hm := yes_t hc117 hm
         refine Kd ?_
         refine pu ?_
         refine pL 2 ?_
         refine pu ?_
         obtain ⟨x118, q118, hm⟩ := Kc hm
         refine KaD htab rfl rfl rfl rfl rfl rfl rfl rfl rfl rfl (Kz q118) (KG q118) ?_
         refine p_eq (i := 84) rfl (Wk.of_eq (congrArg D.el (KD x118))) ?_
         refine pu ?_
         refine Kat htab rfl rfl rfl rfl rfl rfl rfl rfl ?_
         refine pu ?_
         refine pu ?_
         refine Kb ?_
         refine Kr ?_
         refine KE ?_
         refine Kt ?_
         have e89 := KP hm; subst e89; clear hm; have hm := hq89
         refine Kt ?_
         refine KE ?_
         have e88 := Ke hm; subst e88; refine Kax ?_; clear hm; have hm := ho88; simp only [Sum.elim_inr] at hm
         refine Kt ?_
         have er119 := Ke hm; subst er119
         refine rP (t' := [(6, .v (.int .i64 x118.gAt)), (7, .v (.int .i64 (9 : Int)))]) [] [] 0 (wC (wC wN)) (lT (lT lN)) ?_
         exact ⟨rfl, rfl, rfl⟩
        ·replace hm := yes_f hc117 hm
         refine Kp ?_
         refine KF ?_
         refine Ka ?_
         refine Kx ?_
         iterate 3 refine pu ?_
         refine Ky ?_
         refine Ka ⟨_, Kam hm, ?_⟩
         exact WkX.of () (WkS.perm (WkS.cons rfl (Wk.refl _) (WkS.cons rfl (Wk.refl _) (WkS.cons rfl (Wk.refl _) (WkS.cons rfl (Wk.refl _) (WkS.cons rfl (Wk.refl _) (WkS.cons rfl (Wk.refl _) (WkS.nil))))))) Pf Pf)
       ·replace hm := yes_f hc115 hm
        refine Kad ?_
        refine KC ?_
        have e89 := KP hm; subst e89; clear hm; have hm := hq89
        refine KC ?_
        refine K7 ?_
        have e88 := Ke hm; subst e88
        refine Kaf ?_
        exact WkX.of () (WkS.perm (WkS.cons rfl (Wk.refl _) (WkS.cons rfl (Wk.refl _) (WkS.cons rfl (Wk.refl _) (WkS.cons rfl (Wk.refl _) (WkS.cons rfl (Wk.refl _) (WkS.nil)))))) Pf Pf)
    ·intro y88 s88 hx88 hw88; subst hx88; clear hm; have hm := ho88; simp only [Sum.elim_inl] at hm; clear q88 ho88
     refine Ka ?_
     refine KQ hw88 (fun z88 => ?_)
     refine Kg ?_
     refine Kd ?_
     refine pu ?_
     refine pL 2 ?_
     refine Kb ?_
     refine KA ?_
     refine Kd ?_
     refine pu ?_
     refine pu ?_
     refine Kb ?_
     refine Kk rfl (fun hc120 => ?_) (fun hc120 => ?_)
     ·replace hm := yes_t hc120 hm
      refine Kg ?_
      refine Kg ?_
      obtain ⟨y122, q122, ho122⟩ := Kc hm
      refine K5 (Y := Unit) (fun z122 => (⟨[(5, .ptr b3 0), (8, .lst 1 (y35.map eI64) (.cur z35)), (13, .v (.int .i64 x56)), (96, .v (.bool y122))], [(b3, Blk.cells [.v (.int .i64 a2.gOp), .v (.string a2.gName), .v (.string a2.gFunc), .lst 5 (a2.gExps.map Kn) .no, .lst 7 (a2.gKids.map Kf) .no, .lst 7 (a2.gElse.map Kf) .no, .v (.int .i64 a2.gAt)] 121)], [(1, z35)]⟩ : S)) ?_ ?_
      ·clear hm; have hm := Kw q122
       refine Kx ?_
       iterate 3 refine pu ?_
       refine Kaj (i := 93) rfl (fun hg123 => ?_) (fun hg123 => ?_)
       ·replace hm := yes_t hg123 hm
        refine pK ?_
        refine pK ?_
        refine K3 rfl rfl rfl rfl rfl rfl ?_
        refine Ky ?_
        have e122 := Ke hm; subst e122
        refine ⟨rfl, ?_⟩
        exact WkX.of () (WkS.perm (WkS.cons rfl (Wk.refl _) (WkS.cons rfl (Wk.refl _) (WkS.cons rfl (Wk.refl _) (WkS.cons rfl (Wk.refl _) (WkS.nil))))) ((Kah (j := 2) rfl).trans (List.Perm.cons _ Pf)) Pf)
       ·replace hm := yes_f hg123 hm
        refine pu ?_
        refine pu ?_
        refine KO rfl rfl rfl rfl rfl rfl ?_
        refine Ky ?_
        have e122 := Ke hm; subst e122
        refine ⟨rfl, ?_⟩
        exact WkX.of () (WkS.perm (WkS.cons rfl (Wk.refl _) (WkS.cons rfl (Wk.refl _) (WkS.cons rfl (Wk.refl _) (WkS.cons rfl (Wk.refl _) (WkS.nil))))) ((Kah (j := 2) rfl).trans (List.Perm.cons _ Pf)) Pf)
      ·intro s122 hw122; clear hm; have hm := ho122; clear q122 ho122
       refine Ka ?_
       refine KQ hw122 (fun z122 => ?_)
       refine Kk rfl (fun hc128 => ?_) (fun hc128 => ?_)
       ·replace hm := yes_t hc128 hm
        refine Kg ?_
        obtain ⟨x129, q129, hm⟩ := Kc hm
        obtain ⟨x130, q130, hm⟩ := Kc hm
        obtain ⟨x131, q131, hm⟩ := Kc hm
        refine KZ 10 [] [[],[0],[],[],[3],[3,4],[],[6],[6,7],[3,4,6,7]] [0,3,4,6,7,9] [[],[0],[],[],[3],[3,4],[],[6],[6,7],[2,3,4,5,6,7,8],[0,1,2,3,4,5,6,7,8,9],[0,1,2,3,4,5,6,7,8,9,10]] (by kernel_rfl) (by kernel_rfl) (by kernel_rfl) (by rfl) (by rfl) (by kernel_rfl) ?_
        iterate 6 apply Exists.intro
        intro bs
        refine zep ?_
        refine z_qM rfl rfl (KI 0 htab rfl rfl rfl rfl rfl) rfl rfl rfl rfl rfl rfl ?_
        refine zqp ?_
        refine zep ?_
        refine z_e rfl rfl (Kak htab rfl rfl rfl rfl rfl rfl rfl (Kz q129) (KG q129)) rfl rfl rfl rfl rfl rfl ?_
        refine z_qM rfl rfl (KX htab rfl rfl rfl rfl rfl) rfl rfl rfl rfl rfl rfl ?_
        refine zep ?_
        refine z_e rfl rfl (Kak htab rfl rfl rfl rfl rfl rfl rfl (Kz q130) (KG q130)) rfl rfl rfl rfl rfl rfl ?_
        refine z_qM rfl rfl (KX htab rfl rfl rfl rfl rfl) rfl rfl rfl rfl rfl rfl ?_
        refine Kbj rfl rfl (KcY x56 x129 x130 x131 q131) rfl rfl Wl rfl rfl rfl rfl rfl rfl ?_
        refine z_nil rfl rfl (fun e he => by simp [isAl] at he) ?_
        refine pu ?_
        refine pu ?_
        refine Kb ?_
        refine Kr ?_
        refine Kt ?_
        refine KE ?_
        refine Kt ?_
        have er132 := Ke hm; subst er132
        refine rP (t' := [(6, .v (.int .i64 a2.gAt)), (7, .v (.int .i64 x131))]) [] [] 0 (wC (wC wN)) (lT (lT lN)) ?_
        exact ⟨rfl, rfl, rfl⟩
       ·replace hm := yes_f hc128 hm
        refine Kp ?_
        refine Ka ?_
        refine Kg ?_
        obtain ⟨x133, q133, hm⟩ := Kc hm
        refine KZ 4 [] [[],[0],[],[]] [0,3] [[],[0],[],[2],[0,1,2,3],[0,1,2,3,4]] (by kernel_rfl) (by kernel_rfl) (by kernel_rfl) (by rfl) (by rfl) (by kernel_rfl) ?_
        apply Exists.intro
        apply Exists.intro
        intro bs
        refine zep ?_
        refine z_qM rfl rfl (KI 0 htab rfl rfl rfl rfl rfl) rfl rfl rfl rfl rfl rfl ?_
        refine zqp ?_
        refine Kbj rfl rfl (KcY x56 (1 : Int) (2 : Int) x133 q133) rfl rfl Wl rfl rfl rfl rfl rfl rfl ?_
        refine z_nil rfl rfl (fun e he => by simp [isAl] at he) ?_
        refine pu ?_
        refine pu ?_
        refine Kb ?_
        refine Kr ?_
        refine KE ?_
        refine Kt ?_
        have er134 := Ke hm; subst er134
        refine rP (t' := [(6, .v (.int .i64 a2.gAt)), (7, .v (.int .i64 x133))]) [] [] 0 (wC (wC wN)) (lT (lT lN)) ?_
        exact ⟨rfl, rfl, rfl⟩
     ·replace hm := yes_f hc120 hm
      refine Kd ?_
      refine pu ?_
      refine pu ?_
      refine Kb ?_
      refine Kk rfl (fun hc135 => ?_) (fun hc135 => ?_)
      ·replace hm := yes_t hc135 hm
       refine Kg ?_
       obtain ⟨x136, q136, hm⟩ := Kc hm
       refine KZ 4 [] [[],[0],[],[]] [0,3] [[],[0],[],[2],[0,1,2,3],[0,1,2,3,4]] (by kernel_rfl) (by kernel_rfl) (by kernel_rfl) (by rfl) (by rfl) (by kernel_rfl) ?_
       apply Exists.intro
       apply Exists.intro
       intro bs
       refine zep ?_
       refine z_qM rfl rfl (KI 2 htab rfl rfl rfl rfl rfl) rfl rfl rfl rfl rfl rfl ?_
       refine zqp ?_
       refine Kbj rfl rfl (KcY x56 (3 : Int) (3 : Int) x136 q136) rfl rfl Wl rfl rfl rfl rfl rfl rfl ?_
       refine z_nil rfl rfl (fun e he => by simp [isAl] at he) ?_
       refine pu ?_
       refine pu ?_
       refine Kb ?_
       refine Kr ?_
       refine KE ?_
       refine Kt ?_
       have er137 := Ke hm; subst er137
       refine rP (t' := [(6, .v (.int .i64 a2.gAt)), (7, .v (.int .i64 x136))]) [] [] 0 (wC (wC wN)) (lT (lT lN)) ?_
       exact ⟨rfl, rfl, rfl⟩
      ·replace hm := yes_f hc135 hm
       refine Kd ?_
       refine pu ?_
       refine pu ?_
       refine Kb ?_
       refine Kk rfl (fun hc138 => ?_) (fun hc138 => ?_)
       ·replace hm := yes_t hc138 hm
        refine Kg ?_
        obtain ⟨x139, q139, hm⟩ := Kc hm
        refine KZ 4 [] [[],[0],[],[]] [0,3] [[],[0],[],[2],[0,1,2,3],[0,1,2,3,4]] (by kernel_rfl) (by kernel_rfl) (by kernel_rfl) (by rfl) (by rfl) (by kernel_rfl) ?_
        apply Exists.intro
        apply Exists.intro
        intro bs
        refine zep ?_
        refine z_qM rfl rfl (KI 2 htab rfl rfl rfl rfl rfl) rfl rfl rfl rfl rfl rfl ?_
        refine zqp ?_
        refine Kbj rfl rfl (KcY x56 (2 : Int) (2 : Int) x139 q139) rfl rfl Wl rfl rfl rfl rfl rfl rfl ?_
        refine z_nil rfl rfl (fun e he => by simp [isAl] at he) ?_
        refine pu ?_
        refine pu ?_
        refine Kb ?_
        refine Kr ?_
        refine KE ?_
        refine Kt ?_
        have er140 := Ke hm; subst er140
        refine rP (t' := [(6, .v (.int .i64 a2.gAt)), (7, .v (.int .i64 x139))]) [] [] 0 (wC (wC wN)) (lT (lT lN)) ?_
        exact ⟨rfl, rfl, rfl⟩
       ·replace hm := yes_f hc138 hm
        refine Kd ?_
        refine pu ?_
        refine pu ?_
        refine Kb ?_
        refine Kk rfl (fun hc141 => ?_) (fun hc141 => ?_)
        ·replace hm := yes_t hc141 hm
         refine Kd ?_
         refine Kai (d := KL a0) 0 htab rfl rfl rfl rfl rfl rfl rfl rfl ?_
         refine Kai (d := Ko a1) 1 htab rfl rfl rfl rfl rfl rfl rfl rfl ?_
         refine Kai (d := .agg [.v (.int .i64 a2.gOp), .v (.string a2.gName), .v (.string a2.gFunc), .lst 5 (a2.gExps.map Kn) .no, .lst 7 (a2.gKids.map Kf) .no, .lst 7 (a2.gElse.map Kf) .no, .v (.int .i64 a2.gAt)]) 2 htab rfl rfl rfl rfl rfl rfl rfl rfl ?_
         refine pu ?_
         obtain ⟨x142, q142, hm⟩ := Kc hm
         refine KN (Kmn a0 a1 a2 y35 x142 q142) rfl rfl rfl rfl rfl (WkL.cons (Wk.refl _) (WkL.cons (Wk.refl _) (WkL.cons (Wk.trans (Wk.agg (WkR.refl _)) (Wk.of_eq (KU a2).symm)) (WkL.cons (Wk.no) Wl)))) ?_
         rintro _ rfl
         iterate 4 refine pu ?_
         refine Kb ?_
         refine Kr ?_
         refine KE ?_
         refine Kt ?_
         have er143 := Ke hm; subst er143
         refine rP (t' := [(6, .v (.int .i64 x142.1)), (7, .v (.int .i64 x142.2))]) [] [] 0 (wC (wC wN)) (lT (lT lN)) ?_
         exact ⟨rfl, rfl, rfl⟩
        ·replace hm := yes_f hc141 hm
         refine Kd ?_
         refine pu ?_
         refine pu ?_
         refine Kb ?_
         refine Kk rfl (fun hc144 => ?_) (fun hc144 => ?_)
         ·replace hm := yes_t hc144 hm
          refine Kg ?_
          obtain ⟨x145, q145, hm⟩ := Kc hm
          refine KZ 4 [] [[],[0],[],[]] [0,3] [[],[0],[],[2],[0,1,2,3],[0,1,2,3,4]] (by kernel_rfl) (by kernel_rfl) (by kernel_rfl) (by rfl) (by rfl) (by kernel_rfl) ?_
          apply Exists.intro
          apply Exists.intro
          intro bs
          refine zep ?_
          refine z_qM rfl rfl (KI 2 htab rfl rfl rfl rfl rfl) rfl rfl rfl rfl rfl rfl ?_
          refine zqp ?_
          refine Kbj rfl rfl (KcY x56 (1 : Int) (1 : Int) x145 q145) rfl rfl Wl rfl rfl rfl rfl rfl rfl ?_
          refine z_nil rfl rfl (fun e he => by simp [isAl] at he) ?_
          refine pu ?_
          refine pu ?_
          refine Kb ?_
          refine Kr ?_
          refine KE ?_
          refine Kt ?_
          have er146 := Ke hm; subst er146
          refine rP (t' := [(6, .v (.int .i64 a2.gAt)), (7, .v (.int .i64 x145))]) [] [] 0 (wC (wC wN)) (lT (lT lN)) ?_
          exact ⟨rfl, rfl, rfl⟩
         ·replace hm := yes_f hc144 hm
          refine Kp ?_
          refine KF ?_
          refine Ka ?_
          refine Kd ?_
          refine pu ?_
          refine pu ?_
          refine Kb ?_
          refine Kr ?_
          have er147 := Ke hm; subst er147
          refine rP (t' := [(6, .v (.int .i64 (0 : Int))), (7, .v (.int .i64 (0 : Int)))]) [] [] 0 (wC (wC wN)) (lT (lT lN)) ?_
          exact ⟨rfl, rfl, rfl⟩
abbrev nlCk2_4 : List (List Nat) := nlD [] [(0,[]),(0,[]),(0,[]),(0,[]),(0,[2,3]),(5,[4]),(6,[5]),(0,[0,1,2,3,4,5,6]),(8,[7]),(9,[8]),(9,[8]),(10,[9]),(12,[10,11])]
noncomputable def KcZ (g0 : (Kl) → (Km) → (List Ki) → Option (Int × Int)) (a0 : Kl) (a1 : Km) (a2 : List Ki) : Option (Int × Int) :=
 (Option.bind (α := (Unit) ⊕ (Int × Int)) (loopM (fun (s62 : Int) => (bif (decide (s62 < (a2.length : Int))) then ((idx a2 s62).bind fun x102 => ((Kio a0 a1 x102).bind fun x103 => (Option.bind (α := Int × Int) (bif (x103.2 == (0 : Int)) then ((idx a2 s62).bind fun x109 => ((g0 a0 a1 x109.gKids).bind fun x110 => some (x110.1, x110.2))) else some (x103.1, x103.2)) fun y107 => (Option.bind (α := Int × Int) (bif (y107.2 == (0 : Int)) then ((idx a2 s62).bind fun x116 => ((g0 a0 a1 x116.gElse).bind fun x117 => some (x117.1, x117.2))) else some (y107.1, y107.2)) fun y114 => (bif (y114.2 != (0 : Int)) then some (.done (.inr (y114.1, y114.2))) else some (.next (IntKind.i64.wrap (s62 + (1 : Int))))))))) else some (.done (.inl ())))) (0 : Int)) (Sum.elim (fun y61 => some ((0 : Int), (0 : Int))) (fun r => some r)))
theorem Klc (g0 : (Kl) → (Km) → (List Ki) → Option (Int × Int)) (hg0 : ∀ (a0 : Kl) (a1 : Km) (a2 : List Ki) (r : Int × Int) (h0 : g0 a0 a1 a2 = some r), CallsD Tryz.prog 81 [KL a0, Ko a1, .lst 7 (a2.map Kf) .no] [] [] (fun d h k => d = .tup [.v (.int .i64 r.1), .v (.int .i64 r.2)] ∧ h = [] ∧ k = [])) (a0 : Kl) (a1 : Km) (a2 : List Ki) (r : Int × Int) (h0 : KcZ g0 a0 a1 a2 = some r) : CallsD Tryz.prog 81 [KL a0, Ko a1, .lst 7 (a2.map Kf) .no] [] [] (fun d h k => d = .tup [.v (.int .i64 r.1), .v (.int .i64 r.2)] ∧ h = [] ∧ k = []) := by
 have hm := Kw h0
 unfold KcZ at hm
 clear h0
 refine K0 htab Tryz.func81 rfl rfl rfl rfl rfl (fun C => ?_)
 refine Kd ?_
 refine p_box rfl rfl rfl rfl rfl rfl rfl (fun b1 => ?_)
 refine p_box rfl rfl rfl rfl rfl rfl rfl (fun b2 => ?_)
 refine pu ?_
 refine pu ?_
 refine Kb ?_
 refine Kg ?_
 refine Kd ?_
 refine pu ?_
 refine Kb ?_
 obtain ⟨x61, q61, ho61⟩ := Kc hm
 refine Kaq (τ := Unit) (Y := Unit) (fun y61 z61 => (⟨[], [], []⟩ : S)) x61 ?_ ?_
 ·clear hm; have hm := Kw q61
  refine KA ?_
  obtain ⟨u62, hl62, hq62⟩ := yes_m hm
  refine Kav (Y := Unit) hl62 (fun s62 z62 => (⟨[(2, .lst 7 (a2.map Kf) .no), (3, .ptr b1 0), (4, .ptr b2 0), (8, .v (.int .i64 s62))], [(b1, Blk.cells [.lst 4 (a0.gGlobals.map Ks) .no, .lst 5 (a0.gFuncs.map Ko) .no] 28), (b2, Blk.cells [.v (.string a1.gName), .lst 2 (a1.gParams.map Kj) .no, .lst 2 (a1.gLocals.map Kj) .no, .lst 7 (a1.gBody.map Kf) .no, .v (.int .i64 a1.gAt)] 49)], []⟩ : S)) ?_ ?_
  ·skip
   exact WkX.of () (WkS.perm (WkS.cons rfl (Wk.refl _) (WkS.cons rfl (Wk.refl _) (WkS.cons rfl (Wk.refl _) (WkS.cons rfl (Wk.refl _) (WkS.nil))))) Pf Pf)
  ·intro G62 s62 z62 hm
   refine Kg ?_
   refine Kd ?_
   refine pu ?_
   refine pu ?_
   refine Kaa htab rfl rfl rfl rfl rfl rfl rfl (by first | exact KM | rfl) ?_
   refine pu ?_
   refine Kb ?_
   refine Kk rfl (fun hc101 => ?_) (fun hc101 => ?_)
   ·replace hm := yes_t hc101 hm
    refine Kp ?_
    refine Ka ?_
    refine Kg ?_
    refine KA ?_
    refine Kg ?_
    obtain ⟨x102, q102, hm⟩ := Kc hm
    obtain ⟨x103, q103, hm⟩ := Kc hm
    refine KZ 11 [] [[],[],[],[],[2],[2,4],[0,1,2,4,5],[0,1,2,4,5,6],[0,1,2,4,5,6,7],[0,1,2,4,5,6,7],[0,1,2,4,5,6,7]] [0,1,2,4,5,6,7] [[],[],[],[],[2,3],[2,3,4],[0,1,2,3,4,5],[0,1,2,3,4,5,6],[0,1,2,3,4,5,6,7],[0,1,2,3,4,5,6,7],[0,1,2,3,4,5,6,7,8],[0,1,2,3,4,5,6,7,8,9,10]] (by kernel_rfl) (by kernel_rfl) (by kernel_rfl) (by rfl) (by rfl) (by kernel_rfl) ?_
    iterate 7 apply Exists.intro
    intro bs
    refine z_eM rfl rfl (KI (d := KL a0) 0 htab rfl rfl rfl rfl rfl) rfl rfl rfl rfl rfl rfl ?_
    refine z_eM rfl rfl (KI (d := Ko a1) 1 htab rfl rfl rfl rfl rfl) rfl rfl rfl rfl rfl rfl ?_
    refine zep ?_
    refine zqp ?_
    refine z_e rfl rfl (Ex.wk (Kak htab rfl rfl rfl rfl rfl rfl rfl (Kz q102) (KG q102)) (Wk.of_eq (congrArg D.el (KU x102)))) rfl rfl rfl rfl rfl rfl ?_
    refine z_eM rfl rfl (KX (d := .agg [.v (.int .i64 x102.gOp), .v (.string x102.gName), .v (.string x102.gFunc), .lst 5 (x102.gExps.map Kn) .no, .lst 7 (x102.gKids.map Kf) .no, .lst 7 (x102.gElse.map Kf) .no, .v (.int .i64 x102.gAt)]) htab rfl rfl rfl rfl rfl) rfl rfl rfl rfl rfl rfl ?_
    refine Kbj rfl rfl (r15_own_ok a0 a1 x102 x103 q103) rfl rfl (WkL.cons (Wk.refl _) (WkL.cons (Wk.refl _) (WkL.cons (Wk.trans (Wk.agg (WkR.refl _)) (Wk.of_eq (KU x102).symm)) Wl))) rfl rfl rfl rfl rfl rfl ?_
    refine zep ?_
    iterate 3 refine zqp ?_
    refine z_nil rfl rfl (fun e he => by simp [isAl] at he) ?_
    refine pu ?_
    refine Kb ?_
    refine Kg ?_
    refine Kd ?_
    refine pu ?_
    refine pu ?_
    refine Kb ?_
    obtain ⟨y107, q107, ho107⟩ := Kc hm
    refine K5 (Y := Unit) (fun z107 => (⟨[(2, .lst 7 (a2.map Kf) .no), (3, .ptr b1 0), (4, .ptr b2 0), (8, .v (.int .i64 s62)), (9, .v (.int .i64 y107.1)), (10, .v (.int .i64 y107.2))], [(b1, Blk.cells [.lst 4 (a0.gGlobals.map Ks) .no, .lst 5 (a0.gFuncs.map Ko) .no] 28), (b2, Blk.cells [.v (.string a1.gName), .lst 2 (a1.gParams.map Kj) .no, .lst 2 (a1.gLocals.map Kj) .no, .lst 7 (a1.gBody.map Kf) .no, .v (.int .i64 a1.gAt)] 49)], []⟩ : S)) ?_ ?_
    ·clear hm; have hm := Kw q107
     refine Kk rfl (fun hc108 => ?_) (fun hc108 => ?_)
     ·replace hm := yes_t hc108 hm
      obtain ⟨x109, q109, hm⟩ := Kc hm
      obtain ⟨x110, q110, hm⟩ := Kc hm
      refine KZ 12 [] [[],[],[],[],[2],[2,4],[2,4,5],[0,1,2,4,5,6],[0,1,2,4,5,6,7],[0,1,2,4,5,6,7,8],[0,1,2,4,5,6,7,8],[0,1,2,4,5,6,7,8]] [0,1,2,4,5,6,7,8] nlCk2_4 (by kernel_rfl) (by kernel_rfl) (by kernel_rfl) (by rfl) (by rfl) (by kernel_rfl) ?_
      iterate 8 apply Exists.intro
      intro bs
      refine z_eM rfl rfl (KI (d := KL a0) 0 htab rfl rfl rfl rfl rfl) rfl rfl rfl rfl rfl rfl ?_
      refine z_eM rfl rfl (KI (d := Ko a1) 1 htab rfl rfl rfl rfl rfl) rfl rfl rfl rfl rfl rfl ?_
      refine zep ?_
      refine zqp ?_
      refine z_e rfl rfl (Ex.wk (Kak htab rfl rfl rfl rfl rfl rfl rfl (Kz q109) (KG q109)) (Wk.of_eq (congrArg D.el (KU x109)))) rfl rfl rfl rfl rfl rfl ?_
      refine zep ?_
      refine z_eM rfl rfl (KX htab rfl rfl rfl rfl rfl) rfl rfl rfl rfl rfl rfl ?_
      refine Kbj rfl rfl (hg0 a0 a1 x109.gKids x110 q110) rfl rfl Wl rfl rfl rfl rfl rfl rfl ?_
      refine zep ?_
      iterate 3 refine zqp ?_
      refine z_nil rfl rfl (fun e he => by simp [isAl] at he) ?_
      refine pu ?_
      refine Ky ?_
      have e107 := Ke hm; subst e107
      refine ⟨rfl, ?_⟩
      exact WkX.of () (WkS.perm (WkS.cons rfl (Wk.refl _) (WkS.cons rfl (Wk.refl _) (WkS.cons rfl (Wk.refl _) (WkS.cons rfl (Wk.refl _) (WkS.cons rfl (Wk.refl _) (WkS.cons rfl (Wk.refl _) (WkS.nil))))))) Pf Pf)
     ·replace hm := yes_f hc108 hm
      refine Kp ?_
      have e107 := Ke hm; subst e107
      refine ⟨rfl, ?_⟩
      exact WkX.of () (WkS.perm (WkS.cons rfl (Wk.refl _) (WkS.cons rfl (Wk.refl _) (WkS.cons rfl (Wk.refl _) (WkS.cons rfl (Wk.refl _) (WkS.cons rfl (Wk.refl _) (WkS.cons rfl (Wk.refl _) (WkS.nil))))))) Pf Pf)
    ·intro s107 hw107; clear hm; have hm := ho107; clear q107 ho107
     refine Ka ?_
     refine KQ hw107 (fun z107 => ?_)
     refine Kg ?_
     refine Kd ?_
     refine pu ?_
     refine pu ?_
     refine Kb ?_
     obtain ⟨y114, q114, ho114⟩ := Kc hm
     refine K5 (Y := Unit) (fun z114 => (⟨[(2, .lst 7 (a2.map Kf) .no), (3, .ptr b1 0), (4, .ptr b2 0), (8, .v (.int .i64 s62)), (9, .v (.int .i64 y114.1)), (10, .v (.int .i64 y114.2))], [(b1, Blk.cells [.lst 4 (a0.gGlobals.map Ks) .no, .lst 5 (a0.gFuncs.map Ko) .no] 28), (b2, Blk.cells [.v (.string a1.gName), .lst 2 (a1.gParams.map Kj) .no, .lst 2 (a1.gLocals.map Kj) .no, .lst 7 (a1.gBody.map Kf) .no, .v (.int .i64 a1.gAt)] 49)], []⟩ : S)) ?_ ?_
     ·clear hm; have hm := Kw q114
      refine Kk rfl (fun hc115 => ?_) (fun hc115 => ?_)
      ·replace hm := yes_t hc115 hm
       obtain ⟨x116, q116, hm⟩ := Kc hm
       obtain ⟨x117, q117, hm⟩ := Kc hm
       refine KZ 12 [] [[],[],[],[],[2],[2,4],[2,4,5],[0,1,2,4,5,6],[0,1,2,4,5,6,7],[0,1,2,4,5,6,7,8],[0,1,2,4,5,6,7,8],[0,1,2,4,5,6,7,8]] [0,1,2,4,5,6,7,8] nlCk2_4 (by kernel_rfl) (by kernel_rfl) (by kernel_rfl) (by rfl) (by rfl) (by kernel_rfl) ?_
       iterate 8 apply Exists.intro
       intro bs
       refine z_eM rfl rfl (KI (d := KL a0) 0 htab rfl rfl rfl rfl rfl) rfl rfl rfl rfl rfl rfl ?_
       refine z_eM rfl rfl (KI (d := Ko a1) 1 htab rfl rfl rfl rfl rfl) rfl rfl rfl rfl rfl rfl ?_
       refine zep ?_
       refine zqp ?_
       refine z_e rfl rfl (Ex.wk (Kak htab rfl rfl rfl rfl rfl rfl rfl (Kz q116) (KG q116)) (Wk.of_eq (congrArg D.el (KU x116)))) rfl rfl rfl rfl rfl rfl ?_
       refine zep ?_
       refine z_eM rfl rfl (KX htab rfl rfl rfl rfl rfl) rfl rfl rfl rfl rfl rfl ?_
       refine Kbj rfl rfl (hg0 a0 a1 x116.gElse x117 q117) rfl rfl Wl rfl rfl rfl rfl rfl rfl ?_
       refine zep ?_
       iterate 3 refine zqp ?_
       refine z_nil rfl rfl (fun e he => by simp [isAl] at he) ?_
       refine pu ?_
       refine Ky ?_
       have e114 := Ke hm; subst e114
       refine ⟨rfl, ?_⟩
       exact WkX.of () (WkS.perm (WkS.cons rfl (Wk.refl _) (WkS.cons rfl (Wk.refl _) (WkS.cons rfl (Wk.refl _) (WkS.cons rfl (Wk.refl _) (WkS.cons rfl (Wk.refl _) (WkS.cons rfl (Wk.refl _) (WkS.nil))))))) Pf Pf)
      ·replace hm := yes_f hc115 hm
       refine Kp ?_
       have e114 := Ke hm; subst e114
       refine ⟨rfl, ?_⟩
       exact WkX.of () (WkS.perm (WkS.cons rfl (Wk.refl _) (WkS.cons rfl (Wk.refl _) (WkS.cons rfl (Wk.refl _) (WkS.cons rfl (Wk.refl _) (WkS.cons rfl (Wk.refl _) (WkS.cons rfl (Wk.refl _) (WkS.nil))))))) Pf Pf)
     ·intro s114 hw114; clear hm; have hm := ho114; clear q114 ho114
      refine Ka ?_
      refine KQ hw114 (fun z114 => ?_)
      refine Kd ?_
      refine pu ?_
      refine pu ?_
      refine Kb ?_
      refine Kk rfl (fun hc118 => ?_) (fun hc118 => ?_)
      ·replace hm := yes_t hc118 hm
       refine Kd ?_
       iterate 4 refine pu ?_
       refine Kb ?_
       refine Kr ?_
       refine KE ?_
       refine Kt ?_
       have e62 := KP hm; subst e62; clear hm; have hm := hq62
       refine Kt ?_
       refine KE ?_
       have e61 := Ke hm; subst e61; refine Kax ?_; clear hm; have hm := ho61; simp only [Sum.elim_inr] at hm
       refine Kt ?_
       have er119 := Ke hm; subst er119
       refine rP (t' := [(6, .v (.int .i64 y114.1)), (7, .v (.int .i64 y114.2))]) [] [] 0 (wC (wC wN)) (lT (lT lN)) ?_
       exact ⟨rfl, rfl, rfl⟩
      ·replace hm := yes_f hc118 hm
       refine Kp ?_
       refine KF ?_
       refine Ka ?_
       refine Kx ?_
       iterate 3 refine pu ?_
       refine Ky ?_
       refine Ka ⟨_, Kam hm, ?_⟩
       exact WkX.of () (WkS.perm (WkS.cons rfl (Wk.refl _) (WkS.cons rfl (Wk.refl _) (WkS.cons rfl (Wk.refl _) (WkS.cons rfl (Wk.refl _) (WkS.nil))))) Pf Pf)
   ·replace hm := yes_f hc101 hm
    refine Kad ?_
    refine KC ?_
    have e62 := KP hm; subst e62; clear hm; have hm := hq62
    refine KC ?_
    refine K7 ?_
    have e61 := Ke hm; subst e61
    refine Kaf ?_
    exact WkX.of () (WkS.perm (WkS.nil) Pf Pf)
 ·intro y61 s61 hx61 hw61; subst hx61; clear hm; have hm := ho61; simp only [Sum.elim_inl] at hm; clear q61 ho61
  refine Ka ?_
  refine KQ hw61 (fun z61 => ?_)
  refine Kd ?_
  refine pu ?_
  refine pu ?_
  refine Kb ?_
  refine Kr ?_
  have er120 := Ke hm; subst er120
  refine rP (t' := [(6, .v (.int .i64 (0 : Int))), (7, .v (.int .i64 (0 : Int)))]) [] [] 0 (wC (wC wN)) (lT (lT lN)) ?_
  exact ⟨rfl, rfl, rfl⟩
noncomputable def KbT : Nat → ((Kl) → (Km) → (List Ki) → Option (Int × Int))
 | 0 => (fun _ _ _ => none)
 | n + 1 => (KcZ ((KbT n)))
theorem Kip : ∀ n, (∀ (a0 : Kl) (a1 : Km) (a2 : List Ki) (r : Int × Int) (h0 : (KbT n) a0 a1 a2 = some r), CallsD Tryz.prog 81 [KL a0, Ko a1, .lst 7 (a2.map Kf) .no] [] [] (fun d h k => d = .tup [.v (.int .i64 r.1), .v (.int .i64 r.2)] ∧ h = [] ∧ k = []))
  | 0 => fun _ _ _ _ h0 => by cases h0
  | n + 1 => by
    have ih := Kip n
    exact Klc (KbT n) ih
theorem Kiq : ∀ n, (∀ (a0 : Kl) (a1 : Km) (a2 : List Ki), Le ((KbT n) a0 a1 a2) ((KbT (n + 1)) a0 a1 a2))
  | 0 => fun _ _ _ => Le.none _
  | n + 1 => by
    have ih := Kiq n
    exact fun a0 a1 a2 => by show Le (KcZ ((KbT n)) a0 a1 a2) (KcZ ((KbT (n + 1))) a0 a1 a2); unfold KcZ; repeat (first | exact Le.refl _ | exact ih _ _ _ | assumption | (refine Le.bind ?_ (fun _ => ?_)) | (refine Le.cond ?_ ?_) | (refine Le.loop (fun _ => ?_)) | (refine Le.elim (fun _ => ?_) (fun _ => ?_)))
noncomputable def KhR (a0 : Kl) (a1 : Km) (a2 : List Ki) : Option (Int × Int) := anyN fun n => (KbT n) a0 a1 a2
theorem Kl8 (a0 : Kl) (a1 : Km) (a2 : List Ki) {r : Int × Int} (n : Nat) (h : (KbT n) a0 a1 a2 = some r) : KhR a0 a1 a2 = some r := Kej (fun m => (Kiq m) a0 a1 a2) h
theorem Kl9 (a0 : Kl) (a1 : Km) (a2 : List Ki) (r : Int × Int) (h0 : KhR a0 a1 a2 = some r) : CallsD Tryz.prog 81 [KL a0, Ko a1, .lst 7 (a2.map Kf) .no] [] [] (fun d h k => d = .tup [.v (.int .i64 r.1), .v (.int .i64 r.2)] ∧ h = [] ∧ k = []) :=
 let ⟨n, hn⟩ := Kdu h0; (Kip n) a0 a1 a2  r hn
end Go.Proofs.YtipfljkjjddapaaGreatDoor.Ab
namespace Go.Proofs.YtipfljkjjddapaaGreatDoor.Ab
open Go
set_option linter.all false
noncomputable def Kfq (a0 : Kl) (a1 : Km) : Option (Int × Int) :=
 ((app 24 ([] : List K8) a1.gParams).bind fun x3 => ((app 24 x3 a1.gLocals).bind fun x4 => (Option.bind (α := (Unit) ⊕ (Int × Int)) (loopM (fun (s117 : Int) => (bif (decide (s117 < (x4.length : Int))) then ((idx x4 s117).bind fun x191 => ((KeU a0 x191.gName).bind fun x192 => (bif (x192 != (0 : Int)) then some (.done (.inr (a1.gAt, (8 : Int)))) else (Option.bind (α := (Unit) ⊕ (Int × Int)) (loopM (fun (s211 : Int) => (bif (decide (s211 < s117)) then ((idx x4 s211).bind fun x223 => ((idx x4 s117).bind fun x224 => (bif (decide (x223.gName = x224.gName)) then some (.done (.inr (a1.gAt, (8 : Int)))) else some (.next (IntKind.i64.wrap (s211 + (1 : Int))))))) else some (.done (.inl ())))) (0 : Int)) (Sum.elim (fun y210 => some (.next (IntKind.i64.wrap (s117 + (1 : Int))))) (fun r => some (.done (.inr r)))))))) else some (.done (.inl ())))) (0 : Int)) (Sum.elim (fun y116 => ((KhR a0 a1 a1.gBody).bind fun x227 => some (x227.1, x227.2))) (fun r => some r)))))
theorem Kmo (a0 : Kl) (a1 : Km) (r : Int × Int) (h0 : Kfq a0 a1 = some r) : CallsD Tryz.prog 44 [KL a0, Ko a1] [] [] (fun d h k => d = .tup [.v (.int .i64 r.1), .v (.int .i64 r.2)] ∧ h = [] ∧ k = []) := by
 have hm := Kw h0
 unfold Kfq at hm
 clear h0
 refine K0 htab Tryz.func44 rfl rfl rfl rfl rfl (fun C => ?_)
 refine Kd ?_
 refine p_box rfl rfl rfl rfl rfl rfl rfl (fun b1 => ?_)
 refine p_box rfl rfl rfl rfl rfl rfl rfl (fun b2 => ?_)
 refine pu ?_
 refine pu ?_
 refine KK ?_
 refine pu ?_
 refine KK ?_
 refine pu ?_
 refine pu ?_
 refine pL 1 ?_
 obtain ⟨x3, q3, hm⟩ := Kc hm
 refine p_app0 htab rfl rfl rfl rfl rfl rfl rfl rfl rfl rfl rfl rfl rfl rfl rfl (by simpa using Kb5 (e := Kj) q3) (fun v3 => ?_)
 refine p_mapD0 (i := 12) q3 rfl ?_
 refine pu ?_
 refine KK ?_
 refine pu ?_
 refine pu ?_
 refine pL 1 ?_
 obtain ⟨x4, q4, hm⟩ := Kc hm
 refine Ke3 0 htab rfl rfl rfl rfl rfl rfl rfl rfl rfl rfl rfl rfl rfl rfl rfl rfl rfl (Kb5 q4) (fun v4 => ?_)
 refine Ke4 (i := 16) q4 rfl ?_
 refine pu ?_
 refine Kb ?_
 refine Kg ?_
 refine Kd ?_
 refine pu ?_
 refine Kb ?_
 obtain ⟨x116, q116, ho116⟩ := Kc hm
 refine Kaq (τ := Unit) (Y := Unit) (fun y116 z116 => (⟨[(2, .ptr b1 0), (3, .ptr b2 0)], [(b1, Blk.cells [.lst 4 (a0.gGlobals.map Ks) .no, .lst 5 (a0.gFuncs.map Ko) .no] 28), (b2, Blk.cells [.v (.string a1.gName), .lst 2 (a1.gParams.map Kj) .no, .lst 2 (a1.gLocals.map Kj) .no, .lst 7 (a1.gBody.map Kf) .no, .v (.int .i64 a1.gAt)] 49)], []⟩ : S)) x116 ?_ ?_
 ·clear hm; have hm := Kw q116
  refine KA ?_
  obtain ⟨u117, hl117, hq117⟩ := yes_m hm
  refine Kav (Y := Unit) hl117 (fun s117 z117 => (⟨[(2, .ptr b1 0), (3, .ptr b2 0), (6, .lst 2 (x4.map Kj) (.cur v4)), (7, .v (.int .i64 s117))], [(b1, Blk.cells [.lst 4 (a0.gGlobals.map Ks) .no, .lst 5 (a0.gFuncs.map Ko) .no] 28), (b2, Blk.cells [.v (.string a1.gName), .lst 2 (a1.gParams.map Kj) .no, .lst 2 (a1.gLocals.map Kj) .no, .lst 7 (a1.gBody.map Kf) .no, .v (.int .i64 a1.gAt)] 49)], [(2, v4)]⟩ : S)) ?_ ?_
  ·skip
   exact WkX.of () (WkS.perm (WkS.cons rfl (Wk.refl _) (WkS.cons rfl (Wk.refl _) (WkS.cons rfl (Wk.refl _) (WkS.cons rfl (Wk.refl _) (WkS.nil))))) Pf Pf)
  ·intro G117 s117 z117 hm
   refine Kg ?_
   refine Kd ?_
   refine pu ?_
   refine pu ?_
   refine Kaa htab rfl rfl rfl rfl rfl rfl rfl (by first | exact KM | rfl) ?_
   refine pu ?_
   refine Kb ?_
   refine Kk rfl (fun hc190 => ?_) (fun hc190 => ?_)
   ·replace hm := yes_t hc190 hm
    refine Kp ?_
    refine Ka ?_
    refine Kg ?_
    refine KA ?_
    refine Kg ?_
    refine Kg ?_
    obtain ⟨x191, q191, hm⟩ := Kc hm
    refine KZ 6 [] [[],[],[],[1],[1,3],[1,3,4]] [0,1,3,4] [[],[],[],[1,2],[1,2,3],[1,2,3,4],[0,1,2,3,4,5],[0,1,2,3,4,5,6]] (by kernel_rfl) (by kernel_rfl) (by kernel_rfl) (by rfl) (by rfl) (by kernel_rfl) ?_
    iterate 4 apply Exists.intro
    intro bs
    refine z_eM rfl rfl (KI (d := KL a0) 0 htab rfl rfl rfl rfl rfl) rfl rfl rfl rfl rfl rfl ?_
    refine zep ?_
    refine zqp ?_
    refine z_e rfl rfl (Kak htab rfl rfl rfl rfl rfl rfl rfl (Kz q191) (KG q191)) rfl rfl rfl rfl rfl rfl ?_
    refine zep ?_
    refine z_qM rfl rfl (KX htab rfl rfl rfl rfl rfl) rfl rfl rfl rfl rfl rfl ?_
    refine z_nil rfl rfl (fun e he => by simp [isAl] at he) ?_
    obtain ⟨x192, q192, hm⟩ := Kc hm
    refine KN (Kjq a0 x191.gName x192 q192) rfl rfl rfl rfl rfl Wl ?_
    rintro _ rfl
    refine pu ?_
    refine Kb ?_
    refine Kk rfl (fun hc193 => ?_) (fun hc193 => ?_)
    ·replace hm := yes_t hc193 hm
     refine Kd ?_
     refine pu ?_
     refine pL 1 ?_
     refine pu ?_
     refine pu ?_
     refine Kb ?_
     refine Kr ?_
     refine Kt ?_
     refine KE ?_
     refine Kt ?_
     have e117 := KP hm; subst e117; clear hm; have hm := hq117
     refine Kt ?_
     refine KE ?_
     have e116 := Ke hm; subst e116; refine Kax ?_; clear hm; have hm := ho116; simp only [Sum.elim_inr] at hm
     refine Kt ?_
     have er194 := Ke hm; subst er194
     refine rP (t' := [(4, .v (.int .i64 a1.gAt)), (5, .v (.int .i64 (8 : Int)))]) [] [] 0 (wC (wC wN)) (lT (lT lN)) ?_
     exact ⟨rfl, rfl, rfl⟩
    ·replace hm := yes_f hc193 hm
     refine Kp ?_
     refine Ka ?_
     refine Kd ?_
     refine pu ?_
     refine Kb ?_
     obtain ⟨x210, q210, ho210⟩ := Kc hm
     refine Kaq (τ := Unit) (Y := Unit) (fun y210 z210 => (⟨[(2, .ptr b1 0), (3, .ptr b2 0), (6, .lst 2 (x4.map Kj) (.cur v4)), (7, .v (.int .i64 s117))], [(b1, Blk.cells [.lst 4 (a0.gGlobals.map Ks) .no, .lst 5 (a0.gFuncs.map Ko) .no] 28), (b2, Blk.cells [.v (.string a1.gName), .lst 2 (a1.gParams.map Kj) .no, .lst 2 (a1.gLocals.map Kj) .no, .lst 7 (a1.gBody.map Kf) .no, .v (.int .i64 a1.gAt)] 49)], [(2, v4)]⟩ : S)) x210 ?_ ?_
     ·clear hm; have hm := Kw q210
      refine KA ?_
      obtain ⟨u211, hl211, hq211⟩ := yes_m hm
      refine Kav (Y := Unit) hl211 (fun s211 z211 => (⟨[(2, .ptr b1 0), (3, .ptr b2 0), (6, .lst 2 (x4.map Kj) (.cur v4)), (7, .v (.int .i64 s117)), (8, .v (.int .i64 s211))], [(b1, Blk.cells [.lst 4 (a0.gGlobals.map Ks) .no, .lst 5 (a0.gFuncs.map Ko) .no] 28), (b2, Blk.cells [.v (.string a1.gName), .lst 2 (a1.gParams.map Kj) .no, .lst 2 (a1.gLocals.map Kj) .no, .lst 7 (a1.gBody.map Kf) .no, .v (.int .i64 a1.gAt)] 49)], [(2, v4)]⟩ : S)) ?_ ?_
      ·skip
       exact WkX.of () (WkS.perm (WkS.cons rfl (Wk.refl _) (WkS.cons rfl (Wk.refl _) (WkS.cons rfl (Wk.refl _) (WkS.cons rfl (Wk.refl _) (WkS.cons rfl (Wk.refl _) (WkS.nil)))))) Pf Pf)
      ·intro G211 s211 z211 hm
       refine Kg ?_
       refine Kd ?_
       iterate 3 refine pu ?_
       refine Kb ?_
       refine Kk rfl (fun hc222 => ?_) (fun hc222 => ?_)
       ·replace hm := yes_t hc222 hm
        refine Kp ?_
        refine Ka ?_
        refine Kg ?_
        refine KA ?_
        refine Kg ?_
        obtain ⟨x223, q223, hm⟩ := Kc hm
        obtain ⟨x224, q224, hm⟩ := Kc hm
        refine KZ 10 [] [[],[],[0],[0,2],[0,2,3],[],[],[5],[5,7],[5,7,8]] [0,2,3,5,7,8] [[],[],[0,1],[0,1,2],[0,1,2,3],[],[],[5,6],[5,6,7],[5,6,7,8],[0,1,2,3,4,5,6,7,8,9]] (by kernel_rfl) (by kernel_rfl) (by kernel_rfl) (by rfl) (by rfl) (by kernel_rfl) ?_
        iterate 6 apply Exists.intro
        intro bs
        refine zep ?_
        refine zqp ?_
        refine z_e rfl rfl (Kak htab rfl rfl rfl rfl rfl rfl rfl (Kz q223) (KG q223)) rfl rfl rfl rfl rfl rfl ?_
        refine zep ?_
        refine z_qM rfl rfl (KX htab rfl rfl rfl rfl rfl) rfl rfl rfl rfl rfl rfl ?_
        refine zep ?_
        refine zqp ?_
        refine z_e rfl rfl (Kak htab rfl rfl rfl rfl rfl rfl rfl (Kz q224) (KG q224)) rfl rfl rfl rfl rfl rfl ?_
        refine zep ?_
        refine z_qM rfl rfl (KX htab rfl rfl rfl rfl rfl) rfl rfl rfl rfl rfl rfl ?_
        refine z_nil rfl rfl (fun e he => by simp [isAl] at he) ?_
        refine pu ?_
        refine Kb ?_
        refine Kk rfl (fun hc225 => ?_) (fun hc225 => ?_)
        ·replace hm := yes_t hc225 hm
         refine Kd ?_
         refine pu ?_
         refine pL 1 ?_
         refine pu ?_
         refine pu ?_
         refine Kb ?_
         refine Kr ?_
         refine KE ?_
         refine Kt ?_
         have e211 := KP hm; subst e211; clear hm; have hm := hq211
         refine Kt ?_
         refine KE ?_
         have e210 := Ke hm; subst e210; refine Kax ?_; clear hm; have hm := ho210; simp only [Sum.elim_inr] at hm
         refine KE ?_
         refine Kt ?_
         have e117 := KP hm; subst e117; clear hm; have hm := hq117
         refine Kt ?_
         refine KE ?_
         have e116 := Ke hm; subst e116; refine Kax ?_; clear hm; have hm := ho116; simp only [Sum.elim_inr] at hm
         refine Kt ?_
         have er226 := Ke hm; subst er226
         refine rP (t' := [(4, .v (.int .i64 a1.gAt)), (5, .v (.int .i64 (8 : Int)))]) [] [] 0 (wC (wC wN)) (lT (lT lN)) ?_
         exact ⟨rfl, rfl, rfl⟩
        ·replace hm := yes_f hc225 hm
         refine Kp ?_
         refine KF ?_
         refine Ka ?_
         refine Kx ?_
         iterate 3 refine pu ?_
         refine Ky ?_
         refine Ka ⟨_, Kam hm, ?_⟩
         exact WkX.of () (WkS.perm (WkS.cons rfl (Wk.refl _) (WkS.cons rfl (Wk.refl _) (WkS.cons rfl (Wk.refl _) (WkS.cons rfl (Wk.refl _) (WkS.cons rfl (Wk.refl _) (WkS.nil)))))) Pf Pf)
       ·replace hm := yes_f hc222 hm
        refine Kad ?_
        refine KC ?_
        have e211 := KP hm; subst e211; clear hm; have hm := hq211
        refine KC ?_
        refine K7 ?_
        have e210 := Ke hm; subst e210
        refine Kaf ?_
        exact WkX.of () (WkS.perm (WkS.cons rfl (Wk.refl _) (WkS.cons rfl (Wk.refl _) (WkS.cons rfl (Wk.refl _) (WkS.cons rfl (Wk.refl _) (WkS.nil))))) Pf Pf)
     ·intro y210 s210 hx210 hw210; subst hx210; clear hm; have hm := ho210; simp only [Sum.elim_inl] at hm; clear q210 ho210
      refine KF ?_
      refine Ka ?_
      refine KQ hw210 (fun z210 => ?_)
      refine Kx ?_
      iterate 3 refine pu ?_
      refine Ky ?_
      refine Ka ⟨_, Kam hm, ?_⟩
      exact WkX.of () (WkS.perm (WkS.cons rfl (Wk.refl _) (WkS.cons rfl (Wk.refl _) (WkS.cons rfl (Wk.refl _) (WkS.cons rfl (Wk.refl _) (WkS.nil))))) Pf Pf)
   ·replace hm := yes_f hc190 hm
    refine Kad ?_
    refine KC ?_
    have e117 := KP hm; subst e117; clear hm; have hm := hq117
    refine KC ?_
    refine K7 ?_
    have e116 := Ke hm; subst e116
    refine Kaf ?_
    exact WkX.of () (WkS.perm (WkS.cons rfl (Wk.refl _) (WkS.cons rfl (Wk.refl _) (WkS.nil))) Pf Pf)
 ·intro y116 s116 hx116 hw116; subst hx116; clear hm; have hm := ho116; simp only [Sum.elim_inl] at hm; clear q116 ho116
  refine Ka ?_
  refine KQ hw116 (fun z116 => ?_)
  refine Kd ?_
  refine Kai (d := KL a0) 0 htab rfl rfl rfl rfl rfl rfl rfl rfl ?_
  refine Kai (d := Ko a1) 1 htab rfl rfl rfl rfl rfl rfl rfl rfl ?_
  refine pu ?_
  refine pL 1 ?_
  obtain ⟨x227, q227, hm⟩ := Kc hm
  refine KN (Kl9 a0 a1 a1.gBody x227 q227) rfl rfl rfl rfl rfl Wl ?_
  rintro _ rfl
  iterate 4 refine pu ?_
  refine Kb ?_
  refine Kr ?_
  have er228 := Ke hm; subst er228
  refine rP (t' := [(4, .v (.int .i64 x227.1)), (5, .v (.int .i64 x227.2))]) [] [] 0 (wC (wC wN)) (lT (lT lN)) ?_
  exact ⟨rfl, rfl, rfl⟩
noncomputable def Kel (a0 : Kl) : Option (Int × Int × Int) :=
 (Option.bind (α := Bool) (bif (decide ((24 : Int) < (a0.gGlobals.length : Int))) then some true else some (decide ((24 : Int) < (a0.gFuncs.length : Int)))) fun y3 => (bif y3 then some ((0 : Int), (0 : Int), (6 : Int)) else (Option.bind (α := List ByteArray) (loopM (fun (s23 : List ByteArray × Int) => (bif (decide (s23.2 < (a0.gGlobals.length : Int))) then ((idx a0.gGlobals s23.2).bind fun x34 => ((app 16 s23.1 ([x34.gName] : List ByteArray)).bind fun x35 => some (.next (x35, (IntKind.i64.wrap (s23.2 + (1 : Int))))))) else some (.done s23.1))) (([] : List ByteArray), (0 : Int))) fun y22 => (Option.bind (α := List ByteArray) (loopM (fun (s50 : List ByteArray × Int) => (bif (decide (s50.2 < (a0.gFuncs.length : Int))) then ((idx a0.gFuncs s50.2).bind fun x60 => ((app 16 s50.1 ([x60.gName] : List ByteArray)).bind fun x61 => some (.next (x61, (IntKind.i64.wrap (s50.2 + (1 : Int))))))) else some (.done s50.1))) (y22, (0 : Int))) fun y49 => (Option.bind (α := (Unit) ⊕ (Int × Int × Int)) (loopM (fun (s164 : Int) => (bif (decide (s164 < (y49.length : Int))) then (Option.bind (α := (Unit) ⊕ (Int × Int × Int)) (loopM (fun (s248 : Int) => (bif (decide (s248 < s164)) then ((idx y49 s248).bind fun x260 => ((idx y49 s164).bind fun x261 => (bif (decide (x260 = x261)) then some (.done (.inr (s164, (0 : Int), (8 : Int)))) else some (.next (IntKind.i64.wrap (s248 + (1 : Int))))))) else some (.done (.inl ())))) (0 : Int)) (Sum.elim (fun y247 => some (.next (IntKind.i64.wrap (s164 + (1 : Int))))) (fun r => some (.done (.inr r))))) else some (.done (.inl ())))) (0 : Int)) (Sum.elim (fun y163 => (Option.bind (α := (Unit) ⊕ (Int × Int × Int)) (loopM (fun (s281 : Int) => (bif (decide (s281 < (a0.gFuncs.length : Int))) then ((idx a0.gFuncs s281).bind fun x293 => ((Kfq a0 x293).bind fun x294 => (bif (x294.2 != (0 : Int)) then some (.done (.inr ((IntKind.i64.wrap ((a0.gGlobals.length : Int) + s281)), x294.1, x294.2))) else some (.next (IntKind.i64.wrap (s281 + (1 : Int))))))) else some (.done (.inl ())))) (0 : Int)) (Sum.elim (fun y280 => some ((0 : Int), (0 : Int), (0 : Int))) (fun r => some r)))) (fun r => some r)))))))
theorem Kir (a0 : Kl) (r : Int × Int × Int) (h0 : Kel a0 = some r) : CallsD Tryz.prog 20 [KL a0] [] [] (fun d h k => d = .tup [.v (.int .i64 r.1), .v (.int .i64 r.2.1), .v (.int .i64 r.2.2)] ∧ h = [] ∧ k = []) := by
 have hm := Kw h0
 unfold Kel at hm
 clear h0
 refine K0 htab Tryz.func20 rfl rfl rfl rfl rfl (fun C => ?_)
 refine Kd ?_
 refine p_box rfl rfl rfl rfl rfl rfl rfl (fun b1 => ?_)
 iterate 3 refine pu ?_
 refine Kb ?_
 refine Kg ?_
 refine Kg ?_
 obtain ⟨y3, q3, ho3⟩ := Kc hm
 refine K5 (Y := Unit) (fun z3 => (⟨[(1, .ptr b1 0), (22, .v (.bool y3))], [(b1, Blk.cells [.lst 4 (a0.gGlobals.map Ks) .no, .lst 5 (a0.gFuncs.map Ko) .no] 28)], []⟩ : S)) ?_ ?_
 ·clear hm; have hm := Kw q3
  refine Kx ?_
  refine pu ?_
  refine pL 0 ?_
  refine Kaa htab rfl rfl rfl rfl rfl rfl rfl (by first | exact KM | rfl) ?_
  refine pu ?_
  refine pu ?_
  refine Kaj (i := 17) rfl (fun hg4 => ?_) (fun hg4 => ?_)
  ·replace hm := yes_t hg4 hm
   iterate 4 refine pK ?_
   refine K3 rfl rfl rfl rfl rfl rfl ?_
   refine Ky ?_
   have e3 := Ke hm; subst e3
   refine ⟨rfl, ?_⟩
   exact WkX.of () (WkS.perm (WkS.cons rfl (Wk.refl _) (WkS.cons rfl (Wk.refl _) (WkS.nil))) Pf Pf)
  ·replace hm := yes_f hg4 hm
   refine pu ?_
   refine pL 0 ?_
   refine Kaa htab rfl rfl rfl rfl rfl rfl rfl (by first | exact KM | rfl) ?_
   refine pu ?_
   refine KO rfl rfl rfl rfl rfl rfl ?_
   refine Ky ?_
   have e3 := Ke hm; subst e3
   refine ⟨rfl, ?_⟩
   exact WkX.of () (WkS.perm (WkS.cons rfl (Wk.refl _) (WkS.cons rfl (Wk.refl _) (WkS.nil))) Pf Pf)
 ·intro s3 hw3; clear hm; have hm := ho3; clear q3 ho3
  refine Ka ?_
  refine KQ hw3 (fun z3 => ?_)
  refine Kk rfl (fun hc6 => ?_) (fun hc6 => ?_)
  ·replace hm := yes_t hc6 hm
   refine Kd ?_
   iterate 3 refine pu ?_
   refine Kb ?_
   refine Kr ?_
   refine Kt ?_
   have er7 := Ke hm; subst er7
   refine rP (t' := [(2, .v (.int .i64 (0 : Int))), (3, .v (.int .i64 (0 : Int))), (4, .v (.int .i64 (6 : Int)))]) [] [] 0 (wC (wC (wC wN))) (lT (lT (lT lN))) ?_
   exact ⟨rfl, rfl, rfl⟩
  ·replace hm := yes_f hc6 hm
   refine Kp ?_
   refine Ka ?_
   refine Kd ?_
   refine pu ?_
   refine Kb ?_
   refine Kg ?_
   refine Kd ?_
   refine pu ?_
   refine Kb ?_
   obtain ⟨y22, q22, ho22⟩ := Kc hm
   refine K5 (Y := Value) (fun z22 => (⟨[(1, .ptr b1 0), (5, .lst 1 (y22.map eStr) (.cur z22))], [(b1, Blk.cells [.lst 4 (a0.gGlobals.map Ks) .no, .lst 5 (a0.gFuncs.map Ko) .no] 28)], [(1, z22)]⟩ : S)) ?_ ?_
   ·clear hm; have hm := Kw q22
    refine KA ?_
    obtain ⟨u23, hl23, hq23⟩ := yes_m hm
    refine Kav (Y := Value) hl23 (fun s23 z23 => (⟨[(1, .ptr b1 0), (5, .lst 1 (s23.1.map eStr) (.cur z23)), (6, .v (.int .i64 s23.2))], [(b1, Blk.cells [.lst 4 (a0.gGlobals.map Ks) .no, .lst 5 (a0.gFuncs.map Ko) .no] 28)], [(1, z23)]⟩ : S)) ?_ ?_
    ·skip
     refine WkX.tokN (i := 5) 1 rfl (fun w32 => ?_)
     exact WkX.of w32 (WkS.perm (WkS.cons rfl (Wk.refl _) (WkS.cons rfl (Wk.refl _) (WkS.cons rfl (Wk.refl _) (WkS.nil)))) Pf Pf)
    ·intro G23 s23 z23 hm
     refine Kg ?_
     refine Kd ?_
     refine pu ?_
     refine pu ?_
     refine pL 0 ?_
     refine Kaa htab rfl rfl rfl rfl rfl rfl rfl (by first | exact KM | rfl) ?_
     refine pu ?_
     refine Kb ?_
     refine Kk rfl (fun hc33 => ?_) (fun hc33 => ?_)
     ·replace hm := yes_t hc33 hm
      refine Kp ?_
      refine Ka ?_
      refine Kg ?_
      refine KA ?_
      refine Kx ?_
      refine pu ?_
      refine pu ?_
      refine pL 0 ?_
      refine pu ?_
      obtain ⟨x34, q34, hm⟩ := Kc hm
      refine KaD htab rfl rfl rfl rfl rfl rfl rfl rfl rfl rfl (Kz q34) (KG q34) ?_
      refine pu ?_
      refine Kat htab rfl rfl rfl rfl rfl rfl rfl rfl ?_
      refine p_lit htab rfl rfl rfl rfl rfl rfl rfl rfl rfl rfl rfl rfl rfl rfl ?_
      refine p_eq (i := 37) (d' := .lst 1 (([x34.gName] : List ByteArray).map eStr) .full) rfl (Wk.lst0 (.cons (WkC.refl _) (.nil))) ?_
      obtain ⟨x35, q35, hm⟩ := Kc hm
      refine Ke3 0 htab rfl rfl rfl rfl rfl rfl rfl rfl rfl rfl rfl rfl rfl rfl rfl rfl rfl (Kb5 q35) (fun v35 => ?_)
      refine Ke4 (i := 38) q35 rfl ?_
      refine pu ?_
      refine Ky ?_
      refine KF ?_
      refine Ka ?_
      refine Kx ?_
      iterate 3 refine pu ?_
      refine Ky ?_
      refine Ka ⟨_, Kam hm, ?_⟩
      exact WkX.of v35 (WkS.perm (WkS.cons rfl (Wk.refl _) (WkS.cons rfl (Wk.refl _) (WkS.cons rfl (Wk.refl _) (WkS.nil)))) Pf Pf)
     ·replace hm := yes_f hc33 hm
      refine Kad ?_
      refine KC ?_
      have e23 := KP hm; subst e23; clear hm; have hm := hq23
      refine KC ?_
      refine K7 ?_
      have e22 := Ke hm; subst e22
      refine ⟨rfl, ?_⟩
      exact WkX.of z23 (WkS.perm (WkS.cons rfl (Wk.refl _) (WkS.cons rfl (Wk.refl _) (WkS.nil))) Pf Pf)
   ·intro s22 hw22; clear hm; have hm := ho22; clear q22 ho22
    refine Ka ?_
    refine KQ hw22 (fun z22 => ?_)
    refine Kg ?_
    refine Kd ?_
    refine pu ?_
    refine Kb ?_
    obtain ⟨y49, q49, ho49⟩ := Kc hm
    refine K5 (Y := Value) (fun z49 => (⟨[(1, .ptr b1 0), (5, .lst 1 (y49.map eStr) (.cur z49))], [(b1, Blk.cells [.lst 4 (a0.gGlobals.map Ks) .no, .lst 5 (a0.gFuncs.map Ko) .no] 28)], [(1, z49)]⟩ : S)) ?_ ?_
    ·clear hm; have hm := Kw q49
     refine KA ?_
     obtain ⟨u50, hl50, hq50⟩ := yes_m hm
     refine Kav (Y := Value) hl50 (fun s50 z50 => (⟨[(1, .ptr b1 0), (5, .lst 1 (s50.1.map eStr) (.cur z50)), (7, .v (.int .i64 s50.2))], [(b1, Blk.cells [.lst 4 (a0.gGlobals.map Ks) .no, .lst 5 (a0.gFuncs.map Ko) .no] 28)], [(1, z50)]⟩ : S)) ?_ ?_
     ·skip
      exact WkX.of z22 (WkS.perm (WkS.cons rfl (Wk.refl _) (WkS.cons rfl (Wk.refl _) (WkS.cons rfl (Wk.refl _) (WkS.nil)))) Pf Pf)
     ·intro G50 s50 z50 hm
      refine Kg ?_
      refine Kd ?_
      refine pu ?_
      refine pu ?_
      refine pL 0 ?_
      refine Kaa htab rfl rfl rfl rfl rfl rfl rfl (by first | exact KM | rfl) ?_
      refine pu ?_
      refine Kb ?_
      refine Kk rfl (fun hc59 => ?_) (fun hc59 => ?_)
      ·replace hm := yes_t hc59 hm
       refine Kp ?_
       refine Ka ?_
       refine Kg ?_
       refine KA ?_
       refine Kx ?_
       refine pu ?_
       refine pu ?_
       refine pL 0 ?_
       refine pu ?_
       obtain ⟨x60, q60, hm⟩ := Kc hm
       refine KaD htab rfl rfl rfl rfl rfl rfl rfl rfl rfl rfl (Kz q60) (KG q60) ?_
       refine pu ?_
       refine Kat htab rfl rfl rfl rfl rfl rfl rfl rfl ?_
       refine p_lit htab rfl rfl rfl rfl rfl rfl rfl rfl rfl rfl rfl rfl rfl rfl ?_
       refine p_eq (i := 53) (d' := .lst 1 (([x60.gName] : List ByteArray).map eStr) .full) rfl (Wk.lst0 (.cons (WkC.refl _) (.nil))) ?_
       obtain ⟨x61, q61, hm⟩ := Kc hm
       refine Ke3 0 htab rfl rfl rfl rfl rfl rfl rfl rfl rfl rfl rfl rfl rfl rfl rfl rfl rfl (Kb5 q61) (fun v61 => ?_)
       refine Ke4 (i := 54) q61 rfl ?_
       refine pu ?_
       refine Ky ?_
       refine KF ?_
       refine Ka ?_
       refine Kx ?_
       iterate 3 refine pu ?_
       refine Ky ?_
       refine Ka ⟨_, Kam hm, ?_⟩
       exact WkX.of v61 (WkS.perm (WkS.cons rfl (Wk.refl _) (WkS.cons rfl (Wk.refl _) (WkS.cons rfl (Wk.refl _) (WkS.nil)))) Pf Pf)
      ·replace hm := yes_f hc59 hm
       refine Kad ?_
       refine KC ?_
       have e50 := KP hm; subst e50; clear hm; have hm := hq50
       refine KC ?_
       refine K7 ?_
       have e49 := Ke hm; subst e49
       refine ⟨rfl, ?_⟩
       exact WkX.of z50 (WkS.perm (WkS.cons rfl (Wk.refl _) (WkS.cons rfl (Wk.refl _) (WkS.nil))) Pf Pf)
    ·intro s49 hw49; clear hm; have hm := ho49; clear q49 ho49
     refine Ka ?_
     refine KQ hw49 (fun z49 => ?_)
     refine Kg ?_
     refine Kd ?_
     refine pu ?_
     refine Kb ?_
     obtain ⟨x163, q163, ho163⟩ := Kc hm
     refine Kaq (τ := Unit) (Y := Unit) (fun y163 z163 => (⟨[(1, .ptr b1 0)], [(b1, Blk.cells [.lst 4 (a0.gGlobals.map Ks) .no, .lst 5 (a0.gFuncs.map Ko) .no] 28)], []⟩ : S)) x163 ?_ ?_
     ·clear hm; have hm := Kw q163
      refine KA ?_
      obtain ⟨u164, hl164, hq164⟩ := yes_m hm
      refine Kav (Y := Unit) hl164 (fun s164 z164 => (⟨[(1, .ptr b1 0), (5, .lst 1 (y49.map eStr) (.cur z49)), (8, .v (.int .i64 s164))], [(b1, Blk.cells [.lst 4 (a0.gGlobals.map Ks) .no, .lst 5 (a0.gFuncs.map Ko) .no] 28)], [(1, z49)]⟩ : S)) ?_ ?_
      ·skip
       exact WkX.of () (WkS.perm (WkS.cons rfl (Wk.refl _) (WkS.cons rfl (Wk.refl _) (WkS.cons rfl (Wk.refl _) (WkS.nil)))) Pf Pf)
      ·intro G164 s164 z164 hm
       refine Kg ?_
       refine Kd ?_
       refine pu ?_
       refine pu ?_
       refine Kaa htab rfl rfl rfl rfl rfl rfl rfl (by first | exact KM | rfl) ?_
       refine pu ?_
       refine Kb ?_
       refine Kk rfl (fun hc231 => ?_) (fun hc231 => ?_)
       ·replace hm := yes_t hc231 hm
        refine Kp ?_
        refine Ka ?_
        refine Kg ?_
        refine KA ?_
        refine Kd ?_
        refine pu ?_
        refine Kb ?_
        obtain ⟨x247, q247, ho247⟩ := Kc hm
        refine Kaq (τ := Unit) (Y := Unit) (fun y247 z247 => (⟨[(1, .ptr b1 0), (5, .lst 1 (y49.map eStr) (.cur z49)), (8, .v (.int .i64 s164))], [(b1, Blk.cells [.lst 4 (a0.gGlobals.map Ks) .no, .lst 5 (a0.gFuncs.map Ko) .no] 28)], [(1, z49)]⟩ : S)) x247 ?_ ?_
        ·clear hm; have hm := Kw q247
         refine KA ?_
         obtain ⟨u248, hl248, hq248⟩ := yes_m hm
         refine Kav (Y := Unit) hl248 (fun s248 z248 => (⟨[(1, .ptr b1 0), (5, .lst 1 (y49.map eStr) (.cur z49)), (8, .v (.int .i64 s164)), (9, .v (.int .i64 s248))], [(b1, Blk.cells [.lst 4 (a0.gGlobals.map Ks) .no, .lst 5 (a0.gFuncs.map Ko) .no] 28)], [(1, z49)]⟩ : S)) ?_ ?_
         ·skip
          exact WkX.of () (WkS.perm (WkS.cons rfl (Wk.refl _) (WkS.cons rfl (Wk.refl _) (WkS.cons rfl (Wk.refl _) (WkS.cons rfl (Wk.refl _) (WkS.nil))))) Pf Pf)
         ·intro G248 s248 z248 hm
          refine Kg ?_
          refine Kd ?_
          iterate 3 refine pu ?_
          refine Kb ?_
          refine Kk rfl (fun hc259 => ?_) (fun hc259 => ?_)
          ·replace hm := yes_t hc259 hm
           refine Kp ?_
           refine Ka ?_
           refine Kg ?_
           refine KA ?_
           refine Kg ?_
           obtain ⟨x260, q260, hm⟩ := Kc hm
           obtain ⟨x261, q261, hm⟩ := Kc hm
           refine KZ 8 [] [[],[],[0],[0,2],[],[],[4],[4,6]] [0,2,4,6] [[],[],[0,1],[0,1,2],[],[],[4,5],[4,5,6],[0,1,2,3,4,5,6,7]] (by kernel_rfl) (by kernel_rfl) (by kernel_rfl) (by rfl) (by rfl) (by kernel_rfl) ?_
           iterate 4 apply Exists.intro
           intro bs
           refine zep ?_
           refine zqp ?_
           refine z_e rfl rfl (Kak htab rfl rfl rfl rfl rfl rfl rfl (Kz q260) (KG q260)) rfl rfl rfl rfl rfl rfl ?_
           refine z_qM rfl rfl (KX htab rfl rfl rfl rfl rfl) rfl rfl rfl rfl rfl rfl ?_
           refine zep ?_
           refine zqp ?_
           refine z_e rfl rfl (Kak htab rfl rfl rfl rfl rfl rfl rfl (Kz q261) (KG q261)) rfl rfl rfl rfl rfl rfl ?_
           refine z_qM rfl rfl (KX htab rfl rfl rfl rfl rfl) rfl rfl rfl rfl rfl rfl ?_
           refine z_nil rfl rfl (fun e he => by simp [isAl] at he) ?_
           refine pu ?_
           refine Kb ?_
           refine Kk rfl (fun hc262 => ?_) (fun hc262 => ?_)
           ·replace hm := yes_t hc262 hm
            refine Kd ?_
            iterate 4 refine pu ?_
            refine Kb ?_
            refine Kr ?_
            refine KE ?_
            refine Kt ?_
            have e248 := KP hm; subst e248; clear hm; have hm := hq248
            refine Kt ?_
            refine KE ?_
            have e247 := Ke hm; subst e247; refine Kax ?_; clear hm; have hm := ho247; simp only [Sum.elim_inr] at hm
            refine KE ?_
            refine Kt ?_
            have e164 := KP hm; subst e164; clear hm; have hm := hq164
            refine Kt ?_
            refine KE ?_
            have e163 := Ke hm; subst e163; refine Kax ?_; clear hm; have hm := ho163; simp only [Sum.elim_inr] at hm
            refine Kt ?_
            have er263 := Ke hm; subst er263
            refine rP (t' := [(2, .v (.int .i64 s164)), (3, .v (.int .i64 (0 : Int))), (4, .v (.int .i64 (8 : Int)))]) [] [] 0 (wC (wC (wC wN))) (lT (lT (lT lN))) ?_
            exact ⟨rfl, rfl, rfl⟩
           ·replace hm := yes_f hc262 hm
            refine Kp ?_
            refine KF ?_
            refine Ka ?_
            refine Kx ?_
            iterate 3 refine pu ?_
            refine Ky ?_
            refine Ka ⟨_, Kam hm, ?_⟩
            exact WkX.of () (WkS.perm (WkS.cons rfl (Wk.refl _) (WkS.cons rfl (Wk.refl _) (WkS.cons rfl (Wk.refl _) (WkS.cons rfl (Wk.refl _) (WkS.nil))))) Pf Pf)
          ·replace hm := yes_f hc259 hm
           refine Kad ?_
           refine KC ?_
           have e248 := KP hm; subst e248; clear hm; have hm := hq248
           refine KC ?_
           refine K7 ?_
           have e247 := Ke hm; subst e247
           refine Kaf ?_
           exact WkX.of () (WkS.perm (WkS.cons rfl (Wk.refl _) (WkS.cons rfl (Wk.refl _) (WkS.cons rfl (Wk.refl _) (WkS.nil)))) Pf Pf)
        ·intro y247 s247 hx247 hw247; subst hx247; clear hm; have hm := ho247; simp only [Sum.elim_inl] at hm; clear q247 ho247
         refine KF ?_
         refine Ka ?_
         refine KQ hw247 (fun z247 => ?_)
         refine Kx ?_
         iterate 3 refine pu ?_
         refine Ky ?_
         refine Ka ⟨_, Kam hm, ?_⟩
         exact WkX.of () (WkS.perm (WkS.cons rfl (Wk.refl _) (WkS.cons rfl (Wk.refl _) (WkS.cons rfl (Wk.refl _) (WkS.nil)))) Pf Pf)
       ·replace hm := yes_f hc231 hm
        refine Kad ?_
        refine KC ?_
        have e164 := KP hm; subst e164; clear hm; have hm := hq164
        refine KC ?_
        refine K7 ?_
        have e163 := Ke hm; subst e163
        refine Kaf ?_
        exact WkX.of () (WkS.perm (WkS.cons rfl (Wk.refl _) (WkS.nil)) Pf Pf)
     ·intro y163 s163 hx163 hw163; subst hx163; clear hm; have hm := ho163; simp only [Sum.elim_inl] at hm; clear q163 ho163
      refine Ka ?_
      refine KQ hw163 (fun z163 => ?_)
      refine Kg ?_
      refine Kd ?_
      refine pu ?_
      refine Kb ?_
      obtain ⟨x280, q280, ho280⟩ := Kc hm
      refine Kaq (τ := Unit) (Y := Unit) (fun y280 z280 => (⟨[], [], []⟩ : S)) x280 ?_ ?_
      ·clear hm; have hm := Kw q280
       refine KA ?_
       obtain ⟨u281, hl281, hq281⟩ := yes_m hm
       refine Kav (Y := Unit) hl281 (fun s281 z281 => (⟨[(1, .ptr b1 0), (10, .v (.int .i64 s281))], [(b1, Blk.cells [.lst 4 (a0.gGlobals.map Ks) .no, .lst 5 (a0.gFuncs.map Ko) .no] 28)], []⟩ : S)) ?_ ?_
       ·skip
        exact WkX.of () (WkS.perm (WkS.cons rfl (Wk.refl _) (WkS.cons rfl (Wk.refl _) (WkS.nil))) Pf Pf)
       ·intro G281 s281 z281 hm
        refine Kg ?_
        refine Kd ?_
        refine pu ?_
        refine pu ?_
        refine pL 0 ?_
        refine Kaa htab rfl rfl rfl rfl rfl rfl rfl (by first | exact KM | rfl) ?_
        refine pu ?_
        refine Kb ?_
        refine Kk rfl (fun hc292 => ?_) (fun hc292 => ?_)
        ·replace hm := yes_t hc292 hm
         refine Kp ?_
         refine Ka ?_
         refine Kg ?_
         refine KA ?_
         refine Kg ?_
         obtain ⟨x293, q293, hm⟩ := Kc hm
         obtain ⟨x294, q294, hm⟩ := Kc hm
         refine KZ 11 [] [[],[],[1],[],[1,2],[1,2,4],[0,1,2,4,5],[0,1,2,4,5,6],[0,1,2,4,5,6,7],[0,1,2,4,5,6,7],[0,1,2,4,5,6,7]] [0,1,2,4,5,6,7] [[],[],[1],[],[1,2,3],[1,2,3,4],[0,1,2,3,4,5],[0,1,2,3,4,5,6],[0,1,2,3,4,5,6,7],[0,1,2,3,4,5,6,7],[0,1,2,3,4,5,6,7,8],[0,1,2,3,4,5,6,7,8,9,10]] (by kernel_rfl) (by kernel_rfl) (by kernel_rfl) (by rfl) (by rfl) (by kernel_rfl) ?_
         iterate 7 apply Exists.intro
         intro bs
         refine z_eM rfl rfl (KI (d := KL a0) 0 htab rfl rfl rfl rfl rfl) rfl rfl rfl rfl rfl rfl ?_
         refine zep ?_
         refine z_eM rfl rfl (KI 0 htab rfl rfl rfl rfl rfl) rfl rfl rfl rfl rfl rfl ?_
         refine zqp ?_
         refine z_e rfl rfl (Kak htab rfl rfl rfl rfl rfl rfl rfl (Kz q293) (KG q293)) rfl rfl rfl rfl rfl rfl ?_
         refine z_eM rfl rfl (KX (d := Ko x293) htab rfl rfl rfl rfl rfl) rfl rfl rfl rfl rfl rfl ?_
         refine Kbj rfl rfl (Kmo a0 x293 x294 q294) rfl rfl Wl rfl rfl rfl rfl rfl rfl ?_
         refine zep ?_
         iterate 3 refine zqp ?_
         refine z_nil rfl rfl (fun e he => by simp [isAl] at he) ?_
         refine pu ?_
         refine KK ?_
         refine pu ?_
         refine pu ?_
         refine Kb ?_
         refine Kk rfl (fun hc295 => ?_) (fun hc295 => ?_)
         ·replace hm := yes_t hc295 hm
          refine Kd ?_
          refine pu ?_
          refine pL 0 ?_
          refine Kaa htab rfl rfl rfl rfl rfl rfl rfl (by first | exact KM | rfl) ?_
          iterate 7 refine pu ?_
          refine Kb ?_
          refine Kr ?_
          refine KE ?_
          refine Kt ?_
          have e281 := KP hm; subst e281; clear hm; have hm := hq281
          refine Kt ?_
          refine KE ?_
          have e280 := Ke hm; subst e280; refine Kax ?_; clear hm; have hm := ho280; simp only [Sum.elim_inr] at hm
          refine Kt ?_
          have er296 := Ke hm; subst er296
          refine rP (t' := [(2, .v (.int .i64 (IntKind.i64.wrap ((a0.gGlobals.length : Int) + s281)))), (3, .v (.int .i64 x294.1)), (4, .v (.int .i64 x294.2))]) [] [] 0 (wC (wC (wC wN))) (lT (lT (lT lN))) ?_
          exact ⟨rfl, rfl, rfl⟩
         ·replace hm := yes_f hc295 hm
          refine Kp ?_
          refine KF ?_
          refine Ka ?_
          refine Kx ?_
          iterate 3 refine pu ?_
          refine Ky ?_
          refine Ka ⟨_, Kam hm, ?_⟩
          exact WkX.of () (WkS.perm (WkS.cons rfl (Wk.refl _) (WkS.cons rfl (Wk.refl _) (WkS.nil))) Pf Pf)
        ·replace hm := yes_f hc292 hm
         refine Kad ?_
         refine KC ?_
         have e281 := KP hm; subst e281; clear hm; have hm := hq281
         refine KC ?_
         refine K7 ?_
         have e280 := Ke hm; subst e280
         refine Kaf ?_
         exact WkX.of () (WkS.perm (WkS.nil) Pf Pf)
      ·intro y280 s280 hx280 hw280; subst hx280; clear hm; have hm := ho280; simp only [Sum.elim_inl] at hm; clear q280 ho280
       refine Ka ?_
       refine KQ hw280 (fun z280 => ?_)
       refine Kd ?_
       iterate 3 refine pu ?_
       refine Kb ?_
       refine Kr ?_
       have er297 := Ke hm; subst er297
       refine rP (t' := [(2, .v (.int .i64 (0 : Int))), (3, .v (.int .i64 (0 : Int))), (4, .v (.int .i64 (0 : Int)))]) [] [] 0 (wC (wC (wC wN))) (lT (lT (lT lN))) ?_
       exact ⟨rfl, rfl, rfl⟩
end Go.Proofs.YtipfljkjjddapaaGreatDoor.Ab
namespace Go.Proofs.YtipfljkjjddapaaGreatDoor.Ab
open Go
set_option linter.all false
noncomputable def Kgh (a0 : List K8) (a1 : List K8) : Option (Bool) :=
 (bif ((a0.length : Int) != (a1.length : Int)) then none else (Option.bind (α := Unit) (loopM (fun (s20 : Int) => (bif (decide (s20 < (a0.length : Int))) then ((idx a0 s20).bind fun x32 => ((idx a1 s20).bind fun x33 => (bif (!(decide (x32.gName = x33.gName) && (x32.gPtr == x33.gPtr && true))) then none else some (.next (IntKind.i64.wrap (s20 + (1 : Int))))))) else some (.done ()))) (0 : Int)) fun y19 => some true))
theorem Kkd (a0 : List K8) (a1 : List K8) (r : Bool) (h0 : Kgh a0 a1 = some r) : CallsD Tryz.prog 41 [.lst 2 (a0.map Kj) .no, .lst 2 (a1.map Kj) .no] [] [] (fun d h k => d = .v (.bool r) ∧ h = [] ∧ k = []) := by
 have hm := Kw h0
 unfold Kgh at hm
 clear h0
 refine K0 htab Tryz.func41 rfl rfl rfl rfl rfl (fun C => ?_)
 refine Kd ?_
 refine pu ?_
 refine Kb ?_
 refine Kg ?_
 refine Kd ?_
 refine pu ?_
 refine Kaa htab rfl rfl rfl rfl rfl rfl rfl (by first | exact KM | rfl) ?_
 refine pu ?_
 refine Kaa htab rfl rfl rfl rfl rfl rfl rfl (by first | exact KM | rfl) ?_
 refine pu ?_
 refine Kb ?_
 refine Kk rfl (fun hc2 => ?_) (fun hc2 => ?_)
 ·replace hm := yes_t hc2 hm
  exact (KR hm).elim
 ·replace hm := yes_f hc2 hm
  refine Kp ?_
  refine Ka ?_
  refine Kg ?_
  refine Kd ?_
  refine pu ?_
  refine Kb ?_
  obtain ⟨y19, q19, ho19⟩ := Kc hm
  refine K5 (Y := Unit) (fun z19 => (⟨[], [], []⟩ : S)) ?_ ?_
  ·clear hm; have hm := Kw q19
   refine KA ?_
   obtain ⟨u20, hl20, hq20⟩ := yes_m hm
   refine Kav (Y := Unit) hl20 (fun s20 z20 => (⟨[(0, .lst 2 (a0.map Kj) .no), (1, .lst 2 (a1.map Kj) .no), (5, .v (.int .i64 s20))], [], []⟩ : S)) ?_ ?_
   ·skip
    exact WkX.of () (WkS.perm (WkS.cons rfl (Wk.refl _) (WkS.cons rfl (Wk.refl _) (WkS.cons rfl (Wk.refl _) (WkS.nil)))) Pf Pf)
   ·intro G20 s20 z20 hm
    refine Kg ?_
    refine Kd ?_
    refine pu ?_
    refine pu ?_
    refine Kaa htab rfl rfl rfl rfl rfl rfl rfl (by first | exact KM | rfl) ?_
    refine pu ?_
    refine Kb ?_
    refine Kk rfl (fun hc31 => ?_) (fun hc31 => ?_)
    ·replace hm := yes_t hc31 hm
     refine Kp ?_
     refine Ka ?_
     refine Kg ?_
     refine KA ?_
     refine Kg ?_
     obtain ⟨x32, q32, hm⟩ := Kc hm
     obtain ⟨x33, q33, hm⟩ := Kc hm
     refine KZ 8 [] [[],[],[0],[0,2],[],[],[4],[4,6]] [0,2,3,4,6,7] [[],[],[0,1],[0,1,2],[],[],[4,5],[4,5,6],[0,1,2,3,4,5,6,7]] (by kernel_rfl) (by kernel_rfl) (by kernel_rfl) (by rfl) (by rfl) (by kernel_rfl) ?_
     iterate 6 apply Exists.intro
     intro bs
     refine zep ?_
     refine zqp ?_
     refine z_e rfl rfl (Kak htab rfl rfl rfl rfl rfl rfl rfl (Kz q32) (KG q32)) rfl rfl rfl rfl rfl rfl ?_
     refine z_eM rfl rfl (KX (d := Kj x32) htab rfl rfl rfl rfl rfl) rfl rfl rfl rfl rfl rfl ?_
     refine zep ?_
     refine zqp ?_
     refine z_e rfl rfl (Kak htab rfl rfl rfl rfl rfl rfl rfl (Kz q33) (KG q33)) rfl rfl rfl rfl rfl rfl ?_
     refine z_eM rfl rfl (KX (d := Kj x33) htab rfl rfl rfl rfl rfl) rfl rfl rfl rfl rfl rfl ?_
     refine z_nil rfl rfl (fun e he => by simp [isAl] at he) ?_
     refine p_eqS htab rfl rfl rfl rfl rfl eqt85 rfl rfl rfl rfl rfl ?_
     refine Kb ?_
     refine Kk rfl (fun hc34 => ?_) (fun hc34 => ?_)
     ·replace hm := yes_t hc34 hm
      exact (KR hm).elim
     ·replace hm := yes_f hc34 hm
      refine Kp ?_
      refine KF ?_
      refine Ka ?_
      refine Kx ?_
      iterate 3 refine pu ?_
      refine Ky ?_
      refine Ka ⟨_, Kam hm, ?_⟩
      exact WkX.of () (WkS.perm (WkS.cons rfl (Wk.refl _) (WkS.cons rfl (Wk.refl _) (WkS.cons rfl (Wk.refl _) (WkS.nil)))) Pf Pf)
    ·replace hm := yes_f hc31 hm
     refine Kad ?_
     refine KC ?_
     have e20 := KP hm; subst e20; clear hm; have hm := hq20
     refine KC ?_
     refine K7 ?_
     have e19 := Ke hm; subst e19
     refine ⟨rfl, ?_⟩
     exact WkX.of () (WkS.perm (WkS.nil) Pf Pf)
  ·intro s19 hw19; clear hm; have hm := ho19; clear q19 ho19
   refine Ka ?_
   refine KQ hw19 (fun z19 => ?_)
   refine Kd ?_
   refine pu ?_
   refine Kb ?_
   refine Kr ?_
   have er35 := Ke hm; subst er35
   refine rP (t' := [(4, .v (.bool true))]) [] [] 0 (wC wN) (lT lN) ?_
   exact ⟨rfl, rfl, rfl⟩
abbrev nlCk4_1 : List (List Nat) := nlD [] [(0,[]),(0,[]),(0,[0]),(3,[2]),(4,[3]),(0,[]),(0,[]),(0,[5]),(8,[7]),(9,[8]),(5,[5,7,8]),(11,[]),(11,[]),(11,[]),(11,[12]),(15,[14]),(16,[15]),(11,[]),(11,[]),(11,[17]),(20,[19]),(21,[20]),(17,[17,19,20]),(23,[]),(23,[]),(23,[]),(23,[]),(23,[25]),(28,[27]),(29,[28]),(23,[]),(23,[]),(23,[30]),(33,[32]),(34,[33]),(30,[30,32,33]),(36,[]),(36,[]),(36,[]),(36,[]),(36,[]),(36,[]),(36,[40]),(43,[42]),(44,[43]),(36,[]),(36,[]),(36,[45]),(48,[47]),(49,[48]),(45,[45,47,48]),(51,[]),(51,[]),(51,[]),(51,[]),(51,[]),(51,[54]),(57,[56]),(58,[57]),(51,[]),(51,[]),(51,[59]),(62,[61]),(63,[62]),(51,[])]
abbrev nlCk4_2 : List (List Nat) := nlD [] [(0,[]),(0,[]),(0,[0,1]),(3,[2]),(4,[3]),(0,[]),(0,[]),(0,[5,6]),(8,[7]),(9,[8]),(5,[4,5,6,7,8,9]),(11,[10]),(12,[11]),(13,[]),(13,[12,13]),(15,[14]),(16,[15]),(13,[]),(13,[]),(13,[17,18]),(20,[19]),(21,[20]),(17,[16,17,18,19,20,21]),(23,[22]),(24,[23]),(25,[24]),(26,[]),(26,[25,26]),(28,[27]),(29,[28]),(26,[]),(26,[]),(26,[30,31]),(33,[32]),(34,[33]),(30,[29,30,31,32,33,34]),(36,[35]),(37,[36]),(38,[37]),(39,[38]),(40,[39]),(41,[]),(41,[40,41]),(43,[42]),(44,[43]),(41,[]),(41,[]),(41,[45,46]),(48,[47]),(49,[48]),(45,[44,45,46,47,48,49]),(51,[50]),(52,[51]),(53,[52]),(54,[53]),(55,[]),(55,[54,55]),(57,[56]),(58,[57]),(55,[]),(55,[]),(55,[59,60]),(62,[61]),(63,[62]),(55,[]),(59,[58,59,60,61,62,63,64]),(66,[65]),(67,[66])]
noncomputable def Kdn (g0 : (List Kh) → (List Kh) → (Bool) → Option (Bool)) (a0 : List Kh) (a1 : List Kh) (a2 : Bool) : Option (Bool) :=
 (bif ((a0.length : Int) != (a1.length : Int)) then none else (Option.bind (α := Unit) (loopM (fun (s78 : Int) => (bif (decide (s78 < (a0.length : Int))) then ((idx a0 s78).bind fun x118 => ((idx a1 s78).bind fun x119 => (bif (x118.gOp != x119.gOp) then none else ((idx a0 s78).bind fun x121 => ((idx a1 s78).bind fun x122 => (bif (x121.gN != x122.gN) then none else ((idx a0 s78).bind fun x124 => ((idx a1 s78).bind fun x125 => (bif (!decide (x124.gName = x125.gName)) then none else (bif a2 then ((idx a0 s78).bind fun x128 => ((idx a1 s78).bind fun x129 => (bif (x128.gAt != x129.gAt) then none else ((idx a0 s78).bind fun x131 => ((idx a1 s78).bind fun x132 => ((g0 x131.gKids x132.gKids a2).bind fun x133 => (bif (!x133) then none else some (.next (IntKind.i64.wrap (s78 + (1 : Int))))))))))) else none)))))))))) else some (.done ()))) (0 : Int)) fun y77 => some true))
theorem KlV (g0 : (List Kh) → (List Kh) → (Bool) → Option (Bool)) (hg0 : ∀ (a0 : List Kh) (a1 : List Kh) (a2 : Bool) (r : Bool) (h0 : g0 a0 a1 a2 = some r), CallsD Tryz.prog 77 [.lst 5 (a0.map Kn) .no, .lst 5 (a1.map Kn) .no, .v (.bool a2)] [] [] (fun d h k => d = .v (.bool r) ∧ h = [] ∧ k = [])) (a0 : List Kh) (a1 : List Kh) (a2 : Bool) (r : Bool) (h0 : Kdn g0 a0 a1 a2 = some r) : CallsD Tryz.prog 77 [.lst 5 (a0.map Kn) .no, .lst 5 (a1.map Kn) .no, .v (.bool a2)] [] [] (fun d h k => d = .v (.bool r) ∧ h = [] ∧ k = []) := by
 have hm := Kw h0
 unfold Kdn at hm
 clear h0
 refine K0 htab Tryz.func77 rfl rfl rfl rfl rfl (fun C => ?_)
 refine Kd ?_
 refine pu ?_
 refine Kb ?_
 refine Kg ?_
 refine Kd ?_
 refine pu ?_
 refine Kaa htab rfl rfl rfl rfl rfl rfl rfl (by first | exact KM | rfl) ?_
 refine pu ?_
 refine Kaa htab rfl rfl rfl rfl rfl rfl rfl (by first | exact KM | rfl) ?_
 refine pu ?_
 refine Kb ?_
 refine Kk rfl (fun hc2 => ?_) (fun hc2 => ?_)
 ·replace hm := yes_t hc2 hm
  exact (KR hm).elim
 ·replace hm := yes_f hc2 hm
  refine Kp ?_
  refine Ka ?_
  refine Kg ?_
  refine Kd ?_
  refine pu ?_
  refine Kb ?_
  obtain ⟨y77, q77, ho77⟩ := Kc hm
  refine K5 (Y := Unit) (fun z77 => (⟨[], [], []⟩ : S)) ?_ ?_
  ·clear hm; have hm := Kw q77
   refine KA ?_
   obtain ⟨u78, hl78, hq78⟩ := yes_m hm
   refine Kav (Y := Unit) hl78 (fun s78 z78 => (⟨[(0, .lst 5 (a0.map Kn) .no), (1, .lst 5 (a1.map Kn) .no), (2, .v (.bool a2)), (7, .v (.int .i64 s78))], [], []⟩ : S)) ?_ ?_
   ·skip
    exact WkX.of () (WkS.perm (WkS.cons rfl (Wk.refl _) (WkS.cons rfl (Wk.refl _) (WkS.cons rfl (Wk.refl _) (WkS.cons rfl (Wk.refl _) (WkS.nil))))) Pf Pf)
   ·intro G78 s78 z78 hm
    refine Kg ?_
    refine Kd ?_
    refine pu ?_
    refine pu ?_
    refine Kaa htab rfl rfl rfl rfl rfl rfl rfl (by first | exact KM | rfl) ?_
    refine pu ?_
    refine Kb ?_
    refine Kk rfl (fun hc117 => ?_) (fun hc117 => ?_)
    ·replace hm := yes_t hc117 hm
     refine Kp ?_
     refine Ka ?_
     refine Kg ?_
     refine KA ?_
     refine Kg ?_
     obtain ⟨x118, q118, hm⟩ := Kc hm
     obtain ⟨x119, q119, hm⟩ := Kc hm
     refine bycB (x118.gOp != x119.gOp) (fun hs120 => ?_) (fun hs120 => ?_)
     ·replace hm := yes_t hs120 hm
      exact (KR hm).elim
     ·replace hm := yes_f hs120 hm
      obtain ⟨x121, q121, hm⟩ := Kc hm
      obtain ⟨x122, q122, hm⟩ := Kc hm
      refine bycB (x121.gN != x122.gN) (fun hs123 => ?_) (fun hs123 => ?_)
      ·replace hm := yes_t hs123 hm
       exact (KR hm).elim
      ·replace hm := yes_f hs123 hm
       obtain ⟨x124, q124, hm⟩ := Kc hm
       obtain ⟨x125, q125, hm⟩ := Kc hm
       refine bycB (!decide (x124.gName = x125.gName)) (fun hs126 => ?_) (fun hs126 => ?_)
       ·replace hm := yes_t hs126 hm
        exact (KR hm).elim
       ·replace hm := yes_f hs126 hm
        refine bycB a2 (fun hs127 => ?_) (fun hs127 => ?_)
        ·replace hm := yes_t hs127 hm
         obtain ⟨x128, q128, hm⟩ := Kc hm
         obtain ⟨x129, q129, hm⟩ := Kc hm
         refine bycB (x128.gAt != x129.gAt) (fun hs130 => ?_) (fun hs130 => ?_)
         ·replace hm := yes_t hs130 hm
          exact (KR hm).elim
         ·replace hm := yes_f hs130 hm
          obtain ⟨x131, q131, hm⟩ := Kc hm
          obtain ⟨x132, q132, hm⟩ := Kc hm
          refine KZ 65 [] nlCk4_1 [0,2,3,5,7,8,12,14,15,17,19,20,25,27,28,30,32,33,40,42,43,45,47,48,54,56,57,58,59,61,62,63] nlCk4_2 (by kernel_rfl) (by kernel_rfl) (by kernel_rfl) (by rfl) (by rfl) (by kernel_rfl) ?_
          iterate 32 apply Exists.intro
          intro bs
          refine zep ?_
          refine zqp ?_
          refine z_e rfl rfl (Ex.wk (Kak htab rfl rfl rfl rfl rfl rfl rfl (Kz q118) (KG q118)) (Wk.of_eq (congrArg D.el (KD x118)))) rfl rfl rfl rfl rfl rfl ?_
          refine zep ?_
          refine z_qM rfl rfl (KX htab rfl rfl rfl rfl rfl) rfl rfl rfl rfl rfl rfl ?_
          refine zep ?_
          refine zqp ?_
          refine z_e rfl rfl (Ex.wk (Kak htab rfl rfl rfl rfl rfl rfl rfl (Kz q119) (KG q119)) (Wk.of_eq (congrArg D.el (KD x119)))) rfl rfl rfl rfl rfl rfl ?_
          refine zep ?_
          refine z_qM rfl rfl (KX htab rfl rfl rfl rfl rfl) rfl rfl rfl rfl rfl rfl ?_
          refine zqp ?_
          refine zqp ?_
          refine Kas (j := 30) (b' := false) rfl hs120 ?_
          refine zep ?_
          refine zqp ?_
          refine z_e rfl rfl (Ex.wk (Kak htab rfl rfl rfl rfl rfl rfl rfl (Kz q121) (KG q121)) (Wk.of_eq (congrArg D.el (KD x121)))) rfl rfl rfl rfl rfl rfl ?_
          refine zep ?_
          refine z_qM rfl rfl (KX htab rfl rfl rfl rfl rfl) rfl rfl rfl rfl rfl rfl ?_
          refine zep ?_
          refine zqp ?_
          refine z_e rfl rfl (Ex.wk (Kak htab rfl rfl rfl rfl rfl rfl rfl (Kz q122) (KG q122)) (Wk.of_eq (congrArg D.el (KD x122)))) rfl rfl rfl rfl rfl rfl ?_
          refine zep ?_
          refine z_qM rfl rfl (KX htab rfl rfl rfl rfl rfl) rfl rfl rfl rfl rfl rfl ?_
          refine zqp ?_
          refine z_q rfl rfl (Ka6 rfl rfl rfl) rfl rfl rfl rfl rfl rfl ?_
          refine zqp ?_
          refine Kas (j := 43) (b' := false) rfl hs123 ?_
          refine zep ?_
          refine zqp ?_
          refine z_e rfl rfl (Ex.wk (Kak htab rfl rfl rfl rfl rfl rfl rfl (Kz q124) (KG q124)) (Wk.of_eq (congrArg D.el (KD x124)))) rfl rfl rfl rfl rfl rfl ?_
          refine zep ?_
          refine z_qM rfl rfl (KX htab rfl rfl rfl rfl rfl) rfl rfl rfl rfl rfl rfl ?_
          refine zep ?_
          refine zqp ?_
          refine z_e rfl rfl (Ex.wk (Kak htab rfl rfl rfl rfl rfl rfl rfl (Kz q125) (KG q125)) (Wk.of_eq (congrArg D.el (KD x125)))) rfl rfl rfl rfl rfl rfl ?_
          refine zep ?_
          refine z_qM rfl rfl (KX htab rfl rfl rfl rfl rfl) rfl rfl rfl rfl rfl rfl ?_
          refine zqp ?_
          refine z_q rfl rfl (Ka6 rfl rfl rfl) rfl rfl rfl rfl rfl rfl ?_
          refine zqp ?_
          refine Kas (j := 56) (b' := false) rfl hs126 ?_
          refine zqp ?_
          refine zqp ?_
          refine Kas (j := 58) (b' := true) rfl hs127 ?_
          refine zep ?_
          refine zqp ?_
          refine z_e rfl rfl (Ex.wk (Kak htab rfl rfl rfl rfl rfl rfl rfl (Kz q128) (KG q128)) (Wk.of_eq (congrArg D.el (KD x128)))) rfl rfl rfl rfl rfl rfl ?_
          refine zep ?_
          refine z_qM rfl rfl (KX htab rfl rfl rfl rfl rfl) rfl rfl rfl rfl rfl rfl ?_
          refine zep ?_
          refine zqp ?_
          refine z_e rfl rfl (Ex.wk (Kak htab rfl rfl rfl rfl rfl rfl rfl (Kz q129) (KG q129)) (Wk.of_eq (congrArg D.el (KD x129)))) rfl rfl rfl rfl rfl rfl ?_
          refine zep ?_
          refine z_qM rfl rfl (KX htab rfl rfl rfl rfl rfl) rfl rfl rfl rfl rfl rfl ?_
          refine zqp ?_
          refine z_q rfl rfl (KcI rfl rfl rfl) rfl rfl rfl rfl rfl rfl ?_
          refine z_q rfl rfl (Ka6 rfl rfl rfl) rfl rfl rfl rfl rfl rfl ?_
          refine zqp ?_
          refine Kas (j := 72) (b' := false) rfl hs130 ?_
          refine zep ?_
          refine zqp ?_
          refine z_e rfl rfl (Ex.wk (Kak htab rfl rfl rfl rfl rfl rfl rfl (Kz q131) (KG q131)) (Wk.of_eq (congrArg D.el (KD x131)))) rfl rfl rfl rfl rfl rfl ?_
          refine zep ?_
          refine z_eM rfl rfl (KX htab rfl rfl rfl rfl rfl) rfl rfl rfl rfl rfl rfl ?_
          refine zep ?_
          refine zqp ?_
          refine z_e rfl rfl (Ex.wk (Kak htab rfl rfl rfl rfl rfl rfl rfl (Kz q132) (KG q132)) (Wk.of_eq (congrArg D.el (KD x132)))) rfl rfl rfl rfl rfl rfl ?_
          refine zep ?_
          refine z_eM rfl rfl (KX htab rfl rfl rfl rfl rfl) rfl rfl rfl rfl rfl rfl ?_
          refine zqp ?_
          refine z_nil rfl rfl (fun e he => by simp [isAl] at he) ?_
          obtain ⟨x133, q133, hm⟩ := Kc hm
          refine KN (hg0 x131.gKids x132.gKids a2 x133 q133) rfl rfl rfl rfl rfl Wl ?_
          rintro _ rfl
          refine pu ?_
          refine KO rfl rfl rfl rfl rfl rfl ?_
          refine Kb ?_
          refine Kk rfl (fun hc134 => ?_) (fun hc134 => ?_)
          ·replace hm := yes_t hc134 hm
           exact (KR hm).elim
          ·replace hm := yes_f hc134 hm
           refine Kp ?_
           refine KF ?_
           refine Ka ?_
           refine Kx ?_
           iterate 3 refine pu ?_
           refine Ky ?_
           refine Ka ⟨_, Kam hm, ?_⟩
           exact WkX.of () (WkS.perm (WkS.cons rfl (Wk.refl _) (WkS.cons rfl (Wk.refl _) (WkS.cons rfl (Wk.refl _) (WkS.cons rfl (Wk.refl _) (WkS.nil))))) Pf Pf)
        ·replace hm := yes_f hs127 hm
         exact (KR hm).elim
    ·replace hm := yes_f hc117 hm
     refine Kad ?_
     refine KC ?_
     have e78 := KP hm; subst e78; clear hm; have hm := hq78
     refine KC ?_
     refine K7 ?_
     have e77 := Ke hm; subst e77
     refine ⟨rfl, ?_⟩
     exact WkX.of () (WkS.perm (WkS.nil) Pf Pf)
  ·intro s77 hw77; clear hm; have hm := ho77; clear q77 ho77
   refine Ka ?_
   refine KQ hw77 (fun z77 => ?_)
   refine Kd ?_
   refine pu ?_
   refine Kb ?_
   refine Kr ?_
   have er135 := Ke hm; subst er135
   refine rP (t' := [(6, .v (.bool true))]) [] [] 0 (wC wN) (lT lN) ?_
   exact ⟨rfl, rfl, rfl⟩
noncomputable def Kcb : Nat → ((List Kh) → (List Kh) → (Bool) → Option (Bool))
 | 0 => (fun _ _ _ => none)
 | n + 1 => (Kdn ((Kcb n)))
theorem Kjt : ∀ n, (∀ (a0 : List Kh) (a1 : List Kh) (a2 : Bool) (r : Bool) (h0 : (Kcb n) a0 a1 a2 = some r), CallsD Tryz.prog 77 [.lst 5 (a0.map Kn) .no, .lst 5 (a1.map Kn) .no, .v (.bool a2)] [] [] (fun d h k => d = .v (.bool r) ∧ h = [] ∧ k = []))
  | 0 => fun _ _ _ _ h0 => by cases h0
  | n + 1 => by
    have ih := Kjt n
    exact KlV (Kcb n) ih
theorem Kju : ∀ n, (∀ (a0 : List Kh) (a1 : List Kh) (a2 : Bool), Le ((Kcb n) a0 a1 a2) ((Kcb (n + 1)) a0 a1 a2))
  | 0 => fun _ _ _ => Le.none _
  | n + 1 => by
    have ih := Kju n
    exact fun a0 a1 a2 => by show Le (Kdn ((Kcb n)) a0 a1 a2) (Kdn ((Kcb (n + 1))) a0 a1 a2); unfold Kdn; repeat (first | exact Le.refl _ | exact ih _ _ _ | assumption | (refine Le.bind ?_ (fun _ => ?_)) | (refine Le.cond ?_ ?_) | (refine Le.loop (fun _ => ?_)) | (refine Le.elim (fun _ => ?_) (fun _ => ?_)))
noncomputable def Ki7 (a0 : List Kh) (a1 : List Kh) (a2 : Bool) : Option (Bool) := anyN fun n => (Kcb n) a0 a1 a2
theorem Kmp (a0 : List Kh) (a1 : List Kh) (a2 : Bool) {r : Bool} (n : Nat) (h : (Kcb n) a0 a1 a2 = some r) : Ki7 a0 a1 a2 = some r := Kej (fun m => (Kju m) a0 a1 a2) h
theorem Kmq (a0 : List Kh) (a1 : List Kh) (a2 : Bool) (r : Bool) (h0 : Ki7 a0 a1 a2 = some r) : CallsD Tryz.prog 77 [.lst 5 (a0.map Kn) .no, .lst 5 (a1.map Kn) .no, .v (.bool a2)] [] [] (fun d h k => d = .v (.bool r) ∧ h = [] ∧ k = []) :=
 let ⟨n, hn⟩ := Kdu h0; (Kjt n) a0 a1 a2  r hn
abbrev nlCk4_3 : List (List Nat) := nlD [] [(0,[]),(0,[]),(0,[0]),(3,[2]),(4,[3]),(0,[]),(0,[]),(0,[5]),(8,[7]),(9,[8]),(5,[5,7,8]),(11,[]),(11,[]),(11,[]),(11,[12]),(15,[14]),(16,[15]),(11,[]),(11,[]),(11,[17]),(20,[19]),(21,[20]),(17,[17,19,20]),(23,[]),(23,[]),(23,[]),(23,[]),(23,[25]),(28,[27]),(29,[28]),(23,[]),(23,[]),(23,[30]),(33,[32]),(34,[33]),(30,[30,32,33]),(36,[]),(36,[]),(36,[]),(36,[]),(36,[]),(36,[]),(36,[40]),(43,[42]),(44,[43]),(36,[]),(36,[]),(36,[45]),(48,[47]),(49,[48]),(45,[45,47,48]),(51,[]),(51,[]),(51,[]),(51,[]),(51,[]),(51,[54]),(57,[56]),(58,[57]),(51,[]),(51,[]),(51,[59]),(62,[61]),(63,[62]),(51,[]),(59,[58,59,61,62,63]),(66,[65]),(67,[]),(67,[]),(67,[]),(67,[]),(67,[69]),(72,[71]),(73,[72]),(67,[]),(67,[]),(67,[74]),(77,[76]),(78,[77]),(67,[]),(74,[73,74,76,77,78]),(81,[80]),(82,[]),(82,[]),(82,[]),(82,[]),(82,[84]),(87,[86]),(88,[87]),(82,[]),(82,[]),(82,[89]),(92,[91]),(93,[92]),(82,[])]
abbrev nlCk4_4 : List (List Nat) := nlD [] [(0,[]),(0,[]),(0,[0,1]),(3,[2]),(4,[3]),(0,[]),(0,[]),(0,[5,6]),(8,[7]),(9,[8]),(5,[4,5,6,7,8,9]),(11,[10]),(12,[11]),(13,[]),(13,[12,13]),(15,[14]),(16,[15]),(13,[]),(13,[]),(13,[17,18]),(20,[19]),(21,[20]),(17,[16,17,18,19,20,21]),(23,[22]),(24,[23]),(25,[24]),(26,[]),(26,[25,26]),(28,[27]),(29,[28]),(26,[]),(26,[]),(26,[30,31]),(33,[32]),(34,[33]),(30,[29,30,31,32,33,34]),(36,[35]),(37,[36]),(38,[37]),(39,[38]),(40,[39]),(41,[]),(41,[40,41]),(43,[42]),(44,[43]),(41,[]),(41,[]),(41,[45,46]),(48,[47]),(49,[48]),(45,[44,45,46,47,48,49]),(51,[50]),(52,[51]),(53,[52]),(54,[53]),(55,[]),(55,[54,55]),(57,[56]),(58,[57]),(55,[]),(55,[]),(55,[59,60]),(62,[61]),(63,[62]),(55,[]),(59,[58,59,60,61,62,63,64]),(66,[65]),(67,[66]),(68,[67]),(69,[68]),(70,[]),(70,[69,70]),(72,[71]),(73,[72]),(70,[]),(70,[]),(70,[74,75]),(77,[76]),(78,[77]),(70,[]),(74,[73,74,75,76,77,78,79]),(81,[80]),(82,[81]),(83,[82]),(84,[83]),(85,[]),(85,[84,85]),(87,[86]),(88,[87]),(85,[]),(85,[]),(85,[89,90]),(92,[91]),(93,[92]),(85,[]),(89,[88,89,90,91,92,93,94]),(96,[95]),(97,[96])]
noncomputable def Kci (g0 : (List Ki) → (List Ki) → (Bool) → Option (Bool)) (a0 : List Ki) (a1 : List Ki) (a2 : Bool) : Option (Bool) :=
 (bif ((a0.length : Int) != (a1.length : Int)) then none else (Option.bind (α := Unit) (loopM (fun (s110 : Int) => (bif (decide (s110 < (a0.length : Int))) then ((idx a0 s110).bind fun x166 => ((idx a1 s110).bind fun x167 => (bif (x166.gOp != x167.gOp) then none else ((idx a0 s110).bind fun x169 => ((idx a1 s110).bind fun x170 => (bif (!decide (x169.gName = x170.gName)) then none else ((idx a0 s110).bind fun x172 => ((idx a1 s110).bind fun x173 => (bif (!decide (x172.gFunc = x173.gFunc)) then none else (bif a2 then ((idx a0 s110).bind fun x176 => ((idx a1 s110).bind fun x177 => (bif (x176.gAt != x177.gAt) then none else ((idx a0 s110).bind fun x179 => ((idx a1 s110).bind fun x180 => ((Ki7 x179.gExps x180.gExps a2).bind fun x181 => (bif (!x181) then none else ((idx a0 s110).bind fun x183 => ((idx a1 s110).bind fun x184 => ((g0 x183.gKids x184.gKids a2).bind fun x185 => (bif (!x185) then none else ((idx a0 s110).bind fun x187 => ((idx a1 s110).bind fun x188 => ((g0 x187.gElse x188.gElse a2).bind fun x189 => (bif (!x189) then none else some (.next (IntKind.i64.wrap (s110 + (1 : Int))))))))))))))))))) else none)))))))))) else some (.done ()))) (0 : Int)) fun y109 => some true))
theorem Kkv (g0 : (List Ki) → (List Ki) → (Bool) → Option (Bool)) (hg0 : ∀ (a0 : List Ki) (a1 : List Ki) (a2 : Bool) (r : Bool) (h0 : g0 a0 a1 a2 = some r), CallsD Tryz.prog 42 [.lst 7 (a0.map Kf) .no, .lst 7 (a1.map Kf) .no, .v (.bool a2)] [] [] (fun d h k => d = .v (.bool r) ∧ h = [] ∧ k = [])) (a0 : List Ki) (a1 : List Ki) (a2 : Bool) (r : Bool) (h0 : Kci g0 a0 a1 a2 = some r) : CallsD Tryz.prog 42 [.lst 7 (a0.map Kf) .no, .lst 7 (a1.map Kf) .no, .v (.bool a2)] [] [] (fun d h k => d = .v (.bool r) ∧ h = [] ∧ k = []) := by
 have hm := Kw h0
 unfold Kci at hm
 clear h0
 refine K0 htab Tryz.func42 rfl rfl rfl rfl rfl (fun C => ?_)
 refine Kd ?_
 refine pu ?_
 refine Kb ?_
 refine Kg ?_
 refine Kd ?_
 refine pu ?_
 refine Kaa htab rfl rfl rfl rfl rfl rfl rfl (by first | exact KM | rfl) ?_
 refine pu ?_
 refine Kaa htab rfl rfl rfl rfl rfl rfl rfl (by first | exact KM | rfl) ?_
 refine pu ?_
 refine Kb ?_
 refine Kk rfl (fun hc2 => ?_) (fun hc2 => ?_)
 ·replace hm := yes_t hc2 hm
  exact (KR hm).elim
 ·replace hm := yes_f hc2 hm
  refine Kp ?_
  refine Ka ?_
  refine Kg ?_
  refine Kd ?_
  refine pu ?_
  refine Kb ?_
  obtain ⟨y109, q109, ho109⟩ := Kc hm
  refine K5 (Y := Unit) (fun z109 => (⟨[], [], []⟩ : S)) ?_ ?_
  ·clear hm; have hm := Kw q109
   refine KA ?_
   obtain ⟨u110, hl110, hq110⟩ := yes_m hm
   refine Kav (Y := Unit) hl110 (fun s110 z110 => (⟨[(0, .lst 7 (a0.map Kf) .no), (1, .lst 7 (a1.map Kf) .no), (2, .v (.bool a2)), (7, .v (.int .i64 s110))], [], []⟩ : S)) ?_ ?_
   ·skip
    exact WkX.of () (WkS.perm (WkS.cons rfl (Wk.refl _) (WkS.cons rfl (Wk.refl _) (WkS.cons rfl (Wk.refl _) (WkS.cons rfl (Wk.refl _) (WkS.nil))))) Pf Pf)
   ·intro G110 s110 z110 hm
    refine Kg ?_
    refine Kd ?_
    refine pu ?_
    refine pu ?_
    refine Kaa htab rfl rfl rfl rfl rfl rfl rfl (by first | exact KM | rfl) ?_
    refine pu ?_
    refine Kb ?_
    refine Kk rfl (fun hc165 => ?_) (fun hc165 => ?_)
    ·replace hm := yes_t hc165 hm
     refine Kp ?_
     refine Ka ?_
     refine Kg ?_
     refine KA ?_
     refine Kg ?_
     obtain ⟨x166, q166, hm⟩ := Kc hm
     obtain ⟨x167, q167, hm⟩ := Kc hm
     refine bycB (x166.gOp != x167.gOp) (fun hs168 => ?_) (fun hs168 => ?_)
     ·replace hm := yes_t hs168 hm
      exact (KR hm).elim
     ·replace hm := yes_f hs168 hm
      obtain ⟨x169, q169, hm⟩ := Kc hm
      obtain ⟨x170, q170, hm⟩ := Kc hm
      refine bycB (!decide (x169.gName = x170.gName)) (fun hs171 => ?_) (fun hs171 => ?_)
      ·replace hm := yes_t hs171 hm
       exact (KR hm).elim
      ·replace hm := yes_f hs171 hm
       obtain ⟨x172, q172, hm⟩ := Kc hm
       obtain ⟨x173, q173, hm⟩ := Kc hm
       refine bycB (!decide (x172.gFunc = x173.gFunc)) (fun hs174 => ?_) (fun hs174 => ?_)
       ·replace hm := yes_t hs174 hm
        exact (KR hm).elim
       ·replace hm := yes_f hs174 hm
        refine bycB a2 (fun hs175 => ?_) (fun hs175 => ?_)
        ·replace hm := yes_t hs175 hm
         obtain ⟨x176, q176, hm⟩ := Kc hm
         obtain ⟨x177, q177, hm⟩ := Kc hm
         refine bycB (x176.gAt != x177.gAt) (fun hs178 => ?_) (fun hs178 => ?_)
         ·replace hm := yes_t hs178 hm
          exact (KR hm).elim
         ·replace hm := yes_f hs178 hm
          obtain ⟨x179, q179, hm⟩ := Kc hm
          obtain ⟨x180, q180, hm⟩ := Kc hm
          obtain ⟨x181, q181, hm⟩ := Kc hm
          refine bycB (!x181) (fun hs182 => ?_) (fun hs182 => ?_)
          ·replace hm := yes_t hs182 hm
           exact (KR hm).elim
          ·replace hm := yes_f hs182 hm
           obtain ⟨x183, q183, hm⟩ := Kc hm
           obtain ⟨x184, q184, hm⟩ := Kc hm
           obtain ⟨x185, q185, hm⟩ := Kc hm
           refine bycB (!x185) (fun hs186 => ?_) (fun hs186 => ?_)
           ·replace hm := yes_t hs186 hm
            exact (KR hm).elim
           ·replace hm := yes_f hs186 hm
            obtain ⟨x187, q187, hm⟩ := Kc hm
            obtain ⟨x188, q188, hm⟩ := Kc hm
            refine KZ 95 [] nlCk4_3 [0,2,3,5,7,8,12,14,15,17,19,20,25,27,28,30,32,33,40,42,43,45,47,48,54,56,57,58,59,61,62,63,65,69,71,72,73,74,76,77,78,80,84,86,87,88,89,91,92,93] nlCk4_4 (by kernel_rfl) (by kernel_rfl) (by kernel_rfl) (by rfl) (by rfl) (by kernel_rfl) ?_
            iterate 50 apply Exists.intro
            intro bs
            refine zep ?_
            refine zqp ?_
            refine z_e rfl rfl (Ex.wk (Kak htab rfl rfl rfl rfl rfl rfl rfl (Kz q166) (KG q166)) (Wk.of_eq (congrArg D.el (KU x166)))) rfl rfl rfl rfl rfl rfl ?_
            refine zep ?_
            refine z_qM rfl rfl (KX htab rfl rfl rfl rfl rfl) rfl rfl rfl rfl rfl rfl ?_
            refine zep ?_
            refine zqp ?_
            refine z_e rfl rfl (Ex.wk (Kak htab rfl rfl rfl rfl rfl rfl rfl (Kz q167) (KG q167)) (Wk.of_eq (congrArg D.el (KU x167)))) rfl rfl rfl rfl rfl rfl ?_
            refine zep ?_
            refine z_qM rfl rfl (KX htab rfl rfl rfl rfl rfl) rfl rfl rfl rfl rfl rfl ?_
            refine zqp ?_
            refine zqp ?_
            refine Kas (j := 30) (b' := false) rfl hs168 ?_
            refine zep ?_
            refine zqp ?_
            refine z_e rfl rfl (Ex.wk (Kak htab rfl rfl rfl rfl rfl rfl rfl (Kz q169) (KG q169)) (Wk.of_eq (congrArg D.el (KU x169)))) rfl rfl rfl rfl rfl rfl ?_
            refine zep ?_
            refine z_qM rfl rfl (KX htab rfl rfl rfl rfl rfl) rfl rfl rfl rfl rfl rfl ?_
            refine zep ?_
            refine zqp ?_
            refine z_e rfl rfl (Ex.wk (Kak htab rfl rfl rfl rfl rfl rfl rfl (Kz q170) (KG q170)) (Wk.of_eq (congrArg D.el (KU x170)))) rfl rfl rfl rfl rfl rfl ?_
            refine zep ?_
            refine z_qM rfl rfl (KX htab rfl rfl rfl rfl rfl) rfl rfl rfl rfl rfl rfl ?_
            refine zqp ?_
            refine z_q rfl rfl (Ka6 rfl rfl rfl) rfl rfl rfl rfl rfl rfl ?_
            refine zqp ?_
            refine Kas (j := 43) (b' := false) rfl hs171 ?_
            refine zep ?_
            refine zqp ?_
            refine z_e rfl rfl (Ex.wk (Kak htab rfl rfl rfl rfl rfl rfl rfl (Kz q172) (KG q172)) (Wk.of_eq (congrArg D.el (KU x172)))) rfl rfl rfl rfl rfl rfl ?_
            refine zep ?_
            refine z_qM rfl rfl (KX htab rfl rfl rfl rfl rfl) rfl rfl rfl rfl rfl rfl ?_
            refine zep ?_
            refine zqp ?_
            refine z_e rfl rfl (Ex.wk (Kak htab rfl rfl rfl rfl rfl rfl rfl (Kz q173) (KG q173)) (Wk.of_eq (congrArg D.el (KU x173)))) rfl rfl rfl rfl rfl rfl ?_
            refine zep ?_
            refine z_qM rfl rfl (KX htab rfl rfl rfl rfl rfl) rfl rfl rfl rfl rfl rfl ?_
            refine zqp ?_
            refine z_q rfl rfl (Ka6 rfl rfl rfl) rfl rfl rfl rfl rfl rfl ?_
            refine zqp ?_
            refine Kas (j := 56) (b' := false) rfl hs174 ?_
            refine zqp ?_
            refine zqp ?_
            refine Kas (j := 58) (b' := true) rfl hs175 ?_
            refine zep ?_
            refine zqp ?_
            refine z_e rfl rfl (Ex.wk (Kak htab rfl rfl rfl rfl rfl rfl rfl (Kz q176) (KG q176)) (Wk.of_eq (congrArg D.el (KU x176)))) rfl rfl rfl rfl rfl rfl ?_
            refine zep ?_
            refine z_qM rfl rfl (KX htab rfl rfl rfl rfl rfl) rfl rfl rfl rfl rfl rfl ?_
            refine zep ?_
            refine zqp ?_
            refine z_e rfl rfl (Ex.wk (Kak htab rfl rfl rfl rfl rfl rfl rfl (Kz q177) (KG q177)) (Wk.of_eq (congrArg D.el (KU x177)))) rfl rfl rfl rfl rfl rfl ?_
            refine zep ?_
            refine z_qM rfl rfl (KX htab rfl rfl rfl rfl rfl) rfl rfl rfl rfl rfl rfl ?_
            refine zqp ?_
            refine z_q rfl rfl (KcI rfl rfl rfl) rfl rfl rfl rfl rfl rfl ?_
            refine z_q rfl rfl (Ka6 rfl rfl rfl) rfl rfl rfl rfl rfl rfl ?_
            refine zqp ?_
            refine Kas (j := 72) (b' := false) rfl hs178 ?_
            refine zep ?_
            refine zqp ?_
            refine z_e rfl rfl (Ex.wk (Kak htab rfl rfl rfl rfl rfl rfl rfl (Kz q179) (KG q179)) (Wk.of_eq (congrArg D.el (KU x179)))) rfl rfl rfl rfl rfl rfl ?_
            refine zep ?_
            refine z_eM rfl rfl (KX htab rfl rfl rfl rfl rfl) rfl rfl rfl rfl rfl rfl ?_
            refine zep ?_
            refine zqp ?_
            refine z_e rfl rfl (Ex.wk (Kak htab rfl rfl rfl rfl rfl rfl rfl (Kz q180) (KG q180)) (Wk.of_eq (congrArg D.el (KU x180)))) rfl rfl rfl rfl rfl rfl ?_
            refine zep ?_
            refine z_eM rfl rfl (KX htab rfl rfl rfl rfl rfl) rfl rfl rfl rfl rfl rfl ?_
            refine zqp ?_
            refine Kbj rfl rfl (Kmq x179.gExps x180.gExps a2 x181 q181) rfl rfl Wl rfl rfl rfl rfl rfl rfl ?_
            refine zqp ?_
            refine z_q rfl rfl (Ka6 rfl rfl rfl) rfl rfl rfl rfl rfl rfl ?_
            refine zqp ?_
            refine Kas (j := 87) (b' := false) rfl hs182 ?_
            refine zep ?_
            refine zqp ?_
            refine z_e rfl rfl (Ex.wk (Kak htab rfl rfl rfl rfl rfl rfl rfl (Kz q183) (KG q183)) (Wk.of_eq (congrArg D.el (KU x183)))) rfl rfl rfl rfl rfl rfl ?_
            refine zep ?_
            refine z_eM rfl rfl (KX htab rfl rfl rfl rfl rfl) rfl rfl rfl rfl rfl rfl ?_
            refine zep ?_
            refine zqp ?_
            refine z_e rfl rfl (Ex.wk (Kak htab rfl rfl rfl rfl rfl rfl rfl (Kz q184) (KG q184)) (Wk.of_eq (congrArg D.el (KU x184)))) rfl rfl rfl rfl rfl rfl ?_
            refine zep ?_
            refine z_eM rfl rfl (KX htab rfl rfl rfl rfl rfl) rfl rfl rfl rfl rfl rfl ?_
            refine zqp ?_
            refine Kbj rfl rfl (hg0 x183.gKids x184.gKids a2 x185 q185) rfl rfl Wl rfl rfl rfl rfl rfl rfl ?_
            refine zqp ?_
            refine z_q rfl rfl (Ka6 rfl rfl rfl) rfl rfl rfl rfl rfl rfl ?_
            refine zqp ?_
            refine Kas (j := 102) (b' := false) rfl hs186 ?_
            refine zep ?_
            refine zqp ?_
            refine z_e rfl rfl (Ex.wk (Kak htab rfl rfl rfl rfl rfl rfl rfl (Kz q187) (KG q187)) (Wk.of_eq (congrArg D.el (KU x187)))) rfl rfl rfl rfl rfl rfl ?_
            refine zep ?_
            refine z_eM rfl rfl (KX htab rfl rfl rfl rfl rfl) rfl rfl rfl rfl rfl rfl ?_
            refine zep ?_
            refine zqp ?_
            refine z_e rfl rfl (Ex.wk (Kak htab rfl rfl rfl rfl rfl rfl rfl (Kz q188) (KG q188)) (Wk.of_eq (congrArg D.el (KU x188)))) rfl rfl rfl rfl rfl rfl ?_
            refine zep ?_
            refine z_eM rfl rfl (KX htab rfl rfl rfl rfl rfl) rfl rfl rfl rfl rfl rfl ?_
            refine zqp ?_
            refine z_nil rfl rfl (fun e he => by simp [isAl] at he) ?_
            obtain ⟨x189, q189, hm⟩ := Kc hm
            refine KN (hg0 x187.gElse x188.gElse a2 x189 q189) rfl rfl rfl rfl rfl Wl ?_
            rintro _ rfl
            refine pu ?_
            refine KO rfl rfl rfl rfl rfl rfl ?_
            refine Kb ?_
            refine Kk rfl (fun hc190 => ?_) (fun hc190 => ?_)
            ·replace hm := yes_t hc190 hm
             exact (KR hm).elim
            ·replace hm := yes_f hc190 hm
             refine Kp ?_
             refine KF ?_
             refine Ka ?_
             refine Kx ?_
             iterate 3 refine pu ?_
             refine Ky ?_
             refine Ka ⟨_, Kam hm, ?_⟩
             exact WkX.of () (WkS.perm (WkS.cons rfl (Wk.refl _) (WkS.cons rfl (Wk.refl _) (WkS.cons rfl (Wk.refl _) (WkS.cons rfl (Wk.refl _) (WkS.nil))))) Pf Pf)
        ·replace hm := yes_f hs175 hm
         exact (KR hm).elim
    ·replace hm := yes_f hc165 hm
     refine Kad ?_
     refine KC ?_
     have e110 := KP hm; subst e110; clear hm; have hm := hq110
     refine KC ?_
     refine K7 ?_
     have e109 := Ke hm; subst e109
     refine ⟨rfl, ?_⟩
     exact WkX.of () (WkS.perm (WkS.nil) Pf Pf)
  ·intro s109 hw109; clear hm; have hm := ho109; clear q109 ho109
   refine Ka ?_
   refine KQ hw109 (fun z109 => ?_)
   refine Kd ?_
   refine pu ?_
   refine Kb ?_
   refine Kr ?_
   have er191 := Ke hm; subst er191
   refine rP (t' := [(6, .v (.bool true))]) [] [] 0 (wC wN) (lT lN) ?_
   exact ⟨rfl, rfl, rfl⟩
noncomputable def Kbv : Nat → ((List Ki) → (List Ki) → (Bool) → Option (Bool))
 | 0 => (fun _ _ _ => none)
 | n + 1 => (Kci ((Kbv n)))
theorem Khf : ∀ n, (∀ (a0 : List Ki) (a1 : List Ki) (a2 : Bool) (r : Bool) (h0 : (Kbv n) a0 a1 a2 = some r), CallsD Tryz.prog 42 [.lst 7 (a0.map Kf) .no, .lst 7 (a1.map Kf) .no, .v (.bool a2)] [] [] (fun d h k => d = .v (.bool r) ∧ h = [] ∧ k = []))
  | 0 => fun _ _ _ _ h0 => by cases h0
  | n + 1 => by
    have ih := Khf n
    exact Kkv (Kbv n) ih
theorem Khg : ∀ n, (∀ (a0 : List Ki) (a1 : List Ki) (a2 : Bool), Le ((Kbv n) a0 a1 a2) ((Kbv (n + 1)) a0 a1 a2))
  | 0 => fun _ _ _ => Le.none _
  | n + 1 => by
    have ih := Khg n
    exact fun a0 a1 a2 => by show Le (Kci ((Kbv n)) a0 a1 a2) (Kci ((Kbv (n + 1))) a0 a1 a2); unfold Kci; repeat (first | exact Le.refl _ | exact ih _ _ _ | assumption | (refine Le.bind ?_ (fun _ => ?_)) | (refine Le.cond ?_ ?_) | (refine Le.loop (fun _ => ?_)) | (refine Le.elim (fun _ => ?_) (fun _ => ?_)))
noncomputable def Kgs (a0 : List Ki) (a1 : List Ki) (a2 : Bool) : Option (Bool) := anyN fun n => (Kbv n) a0 a1 a2
theorem Kld (a0 : List Ki) (a1 : List Ki) (a2 : Bool) {r : Bool} (n : Nat) (h : (Kbv n) a0 a1 a2 = some r) : Kgs a0 a1 a2 = some r := Kej (fun m => (Khg m) a0 a1 a2) h
theorem Kle (a0 : List Ki) (a1 : List Ki) (a2 : Bool) (r : Bool) (h0 : Kgs a0 a1 a2 = some r) : CallsD Tryz.prog 42 [.lst 7 (a0.map Kf) .no, .lst 7 (a1.map Kf) .no, .v (.bool a2)] [] [] (fun d h k => d = .v (.bool r) ∧ h = [] ∧ k = []) :=
 let ⟨n, hn⟩ := Kdu h0; (Khf n) a0 a1 a2  r hn
noncomputable def KeE (a0 : Km) (a1 : Km) (a2 : Bool) : Option (Bool) :=
 (bif (decide (a0.gName = a1.gName)) then ((Kgh a0.gParams a1.gParams).bind fun x4 => (bif x4 then ((Kgh a0.gLocals a1.gLocals).bind fun x6 => (bif x6 then ((Kgs a0.gBody a1.gBody a2).bind fun x8 => (bif x8 then (bif (!a2) then some true else some (a0.gAt == a1.gAt)) else some false)) else some false)) else some false)) else some false)
theorem KkY (a0 : Km) (a1 : Km) (a2 : Bool) (r : Bool) (h0 : KeE a0 a1 a2 = some r) : CallsD Tryz.prog 18 [Ko a0, Ko a1, .v (.bool a2)] [] [] (fun d h k => d = .v (.bool r) ∧ h = [] ∧ k = []) := by
 have hm := Kw h0
 unfold KeE at hm
 clear h0
 refine K0 htab Tryz.func18 rfl rfl rfl rfl rfl (fun C => ?_)
 refine Kd ?_
 refine p_box rfl rfl rfl rfl rfl rfl rfl (fun b1 => ?_)
 refine p_box rfl rfl rfl rfl rfl rfl rfl (fun b2 => ?_)
 refine pu ?_
 refine KK ?_
 refine pu ?_
 refine pL 0 ?_
 refine pu ?_
 refine pL 1 ?_
 refine pu ?_
 refine pu ?_
 refine Kaj (i := 12) rfl (fun hg3 => ?_) (fun hg3 => ?_)
 ·replace hm := yes_t hg3 hm
  refine pu ?_
  refine pL 0 ?_
  refine pu ?_
  refine pL 1 ?_
  obtain ⟨x4, q4, hm⟩ := Kc hm
  refine KN (Kkd a0.gParams a1.gParams x4 q4) rfl rfl rfl rfl rfl Wl ?_
  rintro _ rfl
  refine K3 rfl rfl rfl rfl rfl rfl ?_
  refine pu ?_
  refine Kaj (i := 19) rfl (fun hg5 => ?_) (fun hg5 => ?_)
  ·replace hm := yes_t hg5 hm
   refine pu ?_
   refine pL 0 ?_
   refine pu ?_
   refine pL 1 ?_
   obtain ⟨x6, q6, hm⟩ := Kc hm
   refine KN (Kkd a0.gLocals a1.gLocals x6 q6) rfl rfl rfl rfl rfl Wl ?_
   rintro _ rfl
   refine K3 rfl rfl rfl rfl rfl rfl ?_
   refine pu ?_
   refine Kaj (i := 26) rfl (fun hg7 => ?_) (fun hg7 => ?_)
   ·replace hm := yes_t hg7 hm
    refine pu ?_
    refine pL 0 ?_
    refine pu ?_
    refine pL 1 ?_
    refine pu ?_
    obtain ⟨x8, q8, hm⟩ := Kc hm
    refine KN (Kle a0.gBody a1.gBody a2 x8 q8) rfl rfl rfl rfl rfl Wl ?_
    rintro _ rfl
    refine K3 rfl rfl rfl rfl rfl rfl ?_
    refine pu ?_
    refine Kaj (i := 34) rfl (fun hg9 => ?_) (fun hg9 => ?_)
    ·replace hm := yes_t hg9 hm
     iterate 3 refine pu ?_
     refine Kaj (i := 37) rfl (fun hg10 => ?_) (fun hg10 => ?_)
     ·replace hm := yes_t hg10 hm
      iterate 5 refine pK ?_
      refine K3 rfl rfl rfl rfl rfl rfl ?_
      refine K3 rfl rfl rfl rfl rfl rfl ?_
      refine pu ?_
      refine Kb ?_
      refine Kr ?_
      have er11 := Ke hm; subst er11
      refine rP (t' := [(6, .v (.bool true))]) [] [] 0 (wC wN) (lT lN) ?_
      exact ⟨rfl, rfl, rfl⟩
     ·replace hm := yes_f hg10 hm
      refine pu ?_
      refine pL 0 ?_
      refine pu ?_
      refine pL 1 ?_
      refine pu ?_
      refine KO rfl rfl rfl rfl rfl rfl ?_
      refine K3 rfl rfl rfl rfl rfl rfl ?_
      refine pu ?_
      refine Kb ?_
      refine Kr ?_
      have er12 := Ke hm; subst er12
      refine rP (t' := [(6, .v (.bool (a0.gAt == a1.gAt)))]) [] [] 0 (wC wN) (lT lN) ?_
      exact ⟨rfl, rfl, rfl⟩
    ·replace hm := yes_f hg9 hm
     iterate 9 refine pK ?_
     refine KO rfl rfl rfl rfl rfl rfl ?_
     refine pu ?_
     refine Kb ?_
     refine Kr ?_
     have er13 := Ke hm; subst er13
     refine rP (t' := [(6, .v (.bool false))]) [] [] 0 (wC wN) (lT lN) ?_
     exact ⟨rfl, rfl, rfl⟩
   ·replace hm := yes_f hg7 hm
    iterate 6 refine pK ?_
    refine KO rfl rfl rfl rfl rfl rfl ?_
    refine pu ?_
    iterate 9 refine pK ?_
    refine KO rfl rfl rfl rfl rfl rfl ?_
    refine pu ?_
    refine Kb ?_
    refine Kr ?_
    have er14 := Ke hm; subst er14
    refine rP (t' := [(6, .v (.bool false))]) [] [] 0 (wC wN) (lT lN) ?_
    exact ⟨rfl, rfl, rfl⟩
  ·replace hm := yes_f hg5 hm
   iterate 5 refine pK ?_
   refine KO rfl rfl rfl rfl rfl rfl ?_
   refine pu ?_
   iterate 6 refine pK ?_
   refine KO rfl rfl rfl rfl rfl rfl ?_
   refine pu ?_
   iterate 9 refine pK ?_
   refine KO rfl rfl rfl rfl rfl rfl ?_
   refine pu ?_
   refine Kb ?_
   refine Kr ?_
   have er15 := Ke hm; subst er15
   refine rP (t' := [(6, .v (.bool false))]) [] [] 0 (wC wN) (lT lN) ?_
   exact ⟨rfl, rfl, rfl⟩
 ·replace hm := yes_f hg3 hm
  iterate 5 refine pK ?_
  refine KO rfl rfl rfl rfl rfl rfl ?_
  refine pu ?_
  iterate 5 refine pK ?_
  refine KO rfl rfl rfl rfl rfl rfl ?_
  refine pu ?_
  iterate 6 refine pK ?_
  refine KO rfl rfl rfl rfl rfl rfl ?_
  refine pu ?_
  iterate 9 refine pK ?_
  refine KO rfl rfl rfl rfl rfl rfl ?_
  refine pu ?_
  refine Kb ?_
  refine Kr ?_
  have er16 := Ke hm; subst er16
  refine rP (t' := [(6, .v (.bool false))]) [] [] 0 (wC wN) (lT lN) ?_
  exact ⟨rfl, rfl, rfl⟩
noncomputable def Khh (a0 : Kl) (a1 : Kl) (a2 : Bool) : Option (Bool) :=
 (Option.bind (α := Bool) (bif ((a0.gGlobals.length : Int) != (a1.gGlobals.length : Int)) then some true else some ((a0.gFuncs.length : Int) != (a1.gFuncs.length : Int))) fun y4 => (bif y4 then none else (Option.bind (α := Unit) (loopM (fun (s58 : Int) => (bif (decide (s58 < (a0.gGlobals.length : Int))) then ((idx a0.gGlobals s58).bind fun x92 => ((idx a1.gGlobals s58).bind fun x93 => (Option.bind (α := Bool) (bif (!decide (x92.gName = x93.gName)) then some true else (bif (!(x92.gPtr == x93.gPtr)) then some true else (bif (x92.gSize != x93.gSize) then some true else (bif a2 then some (x92.gAt != x93.gAt) else some false)))) fun y100 => (bif y100 then none else some (.next (IntKind.i64.wrap (s58 + (1 : Int)))))))) else some (.done ()))) (0 : Int)) fun y57 => (Option.bind (α := Unit) (loopM (fun (s126 : Int) => (bif (decide (s126 < (a0.gFuncs.length : Int))) then ((idx a0.gFuncs s126).bind fun x140 => ((idx a1.gFuncs s126).bind fun x141 => ((KeE x140 x141 a2).bind fun x142 => (bif (!x142) then none else some (.next (IntKind.i64.wrap (s126 + (1 : Int)))))))) else some (.done ()))) (0 : Int)) fun y125 => some true))))
theorem Kmr (a0 : Kl) (a1 : Kl) (a2 : Bool) (r : Bool) (h0 : Khh a0 a1 a2 = some r) : CallsD Tryz.prog 11 [KL a0, KL a1, .v (.bool a2)] [] [] (fun d h k => d = .v (.bool r) ∧ h = [] ∧ k = []) := by
 have hm := Kw h0
 unfold Khh at hm
 clear h0
 refine K0 htab Tryz.func11 rfl rfl rfl rfl rfl (fun C => ?_)
 refine Kd ?_
 refine p_box rfl rfl rfl rfl rfl rfl rfl (fun b1 => ?_)
 refine p_box rfl rfl rfl rfl rfl rfl rfl (fun b2 => ?_)
 refine pu ?_
 refine Kb ?_
 refine Kg ?_
 refine Kg ?_
 obtain ⟨y4, q4, ho4⟩ := Kc hm
 refine K5 (Y := Unit) (fun z4 => (⟨[(2, .v (.bool a2)), (3, .ptr b1 0), (4, .ptr b2 0), (26, .v (.bool y4))], [(b1, Blk.cells [.lst 4 (a0.gGlobals.map Ks) .no, .lst 5 (a0.gFuncs.map Ko) .no] 28), (b2, Blk.cells [.lst 4 (a1.gGlobals.map Ks) .no, .lst 5 (a1.gFuncs.map Ko) .no] 28)], []⟩ : S)) ?_ ?_
 ·clear hm; have hm := Kw q4
  refine Kx ?_
  refine pu ?_
  refine pL 0 ?_
  refine Kaa htab rfl rfl rfl rfl rfl rfl rfl (by first | exact KM | rfl) ?_
  refine pu ?_
  refine pL 1 ?_
  refine Kaa htab rfl rfl rfl rfl rfl rfl rfl (by first | exact KM | rfl) ?_
  refine pu ?_
  refine pu ?_
  refine Kaj (i := 18) rfl (fun hg5 => ?_) (fun hg5 => ?_)
  ·replace hm := yes_t hg5 hm
   iterate 7 refine pK ?_
   refine K3 rfl rfl rfl rfl rfl rfl ?_
   refine Ky ?_
   have e4 := Ke hm; subst e4
   refine ⟨rfl, ?_⟩
   exact WkX.of () (WkS.perm (WkS.cons rfl (Wk.refl _) (WkS.cons rfl (Wk.refl _) (WkS.cons rfl (Wk.refl _) (WkS.cons rfl (Wk.refl _) (WkS.nil))))) Pf Pf)
  ·replace hm := yes_f hg5 hm
   refine pu ?_
   refine pL 0 ?_
   refine Kaa htab rfl rfl rfl rfl rfl rfl rfl (by first | exact KM | rfl) ?_
   refine pu ?_
   refine pL 1 ?_
   refine Kaa htab rfl rfl rfl rfl rfl rfl rfl (by first | exact KM | rfl) ?_
   refine pu ?_
   refine KO rfl rfl rfl rfl rfl rfl ?_
   refine Ky ?_
   have e4 := Ke hm; subst e4
   refine ⟨rfl, ?_⟩
   exact WkX.of () (WkS.perm (WkS.cons rfl (Wk.refl _) (WkS.cons rfl (Wk.refl _) (WkS.cons rfl (Wk.refl _) (WkS.cons rfl (Wk.refl _) (WkS.nil))))) Pf Pf)
 ·intro s4 hw4; clear hm; have hm := ho4; clear q4 ho4
  refine Ka ?_
  refine KQ hw4 (fun z4 => ?_)
  refine Kk rfl (fun hc7 => ?_) (fun hc7 => ?_)
  ·replace hm := yes_t hc7 hm
   exact (KR hm).elim
  ·replace hm := yes_f hc7 hm
   refine Kp ?_
   refine Ka ?_
   refine Kg ?_
   refine Kd ?_
   refine pu ?_
   refine Kb ?_
   obtain ⟨y57, q57, ho57⟩ := Kc hm
   refine K5 (Y := Unit) (fun z57 => (⟨[(2, .v (.bool a2)), (3, .ptr b1 0), (4, .ptr b2 0)], [(b1, Blk.cells [.lst 4 (a0.gGlobals.map Ks) .no, .lst 5 (a0.gFuncs.map Ko) .no] 28), (b2, Blk.cells [.lst 4 (a1.gGlobals.map Ks) .no, .lst 5 (a1.gFuncs.map Ko) .no] 28)], []⟩ : S)) ?_ ?_
   ·clear hm; have hm := Kw q57
    refine KA ?_
    obtain ⟨u58, hl58, hq58⟩ := yes_m hm
    refine Kav (Y := Unit) hl58 (fun s58 z58 => (⟨[(2, .v (.bool a2)), (3, .ptr b1 0), (4, .ptr b2 0), (7, .v (.int .i64 s58))], [(b1, Blk.cells [.lst 4 (a0.gGlobals.map Ks) .no, .lst 5 (a0.gFuncs.map Ko) .no] 28), (b2, Blk.cells [.lst 4 (a1.gGlobals.map Ks) .no, .lst 5 (a1.gFuncs.map Ko) .no] 28)], []⟩ : S)) ?_ ?_
    ·skip
     exact WkX.of () (WkS.perm (WkS.cons rfl (Wk.refl _) (WkS.cons rfl (Wk.refl _) (WkS.cons rfl (Wk.refl _) (WkS.cons rfl (Wk.refl _) (WkS.nil))))) Pf Pf)
    ·intro G58 s58 z58 hm
     refine Kg ?_
     refine Kd ?_
     refine pu ?_
     refine pu ?_
     refine pL 0 ?_
     refine Kaa htab rfl rfl rfl rfl rfl rfl rfl (by first | exact KM | rfl) ?_
     refine pu ?_
     refine Kb ?_
     refine Kk rfl (fun hc91 => ?_) (fun hc91 => ?_)
     ·replace hm := yes_t hc91 hm
      refine Kp ?_
      refine Ka ?_
      refine Kg ?_
      refine KA ?_
      refine Kg ?_
      obtain ⟨x92, q92, hm⟩ := Kc hm
      obtain ⟨x93, q93, hm⟩ := Kc hm
      refine KhO 13 [(10, [.v (.string ByteArray.empty), .v (.bool false), .v (.int .i64 (0 : Int)), .v (.int .i64 (0 : Int))], 67), (11, [.v (.string ByteArray.empty), .v (.bool false), .v (.int .i64 (0 : Int)), .v (.int .i64 (0 : Int))], 67)] [(10, 12, [.v (.string x92.gName), .v (.bool x92.gPtr), .v (.int .i64 x92.gSize), .v (.int .i64 x92.gAt)])] [[],[0],[],[0,1],[0,1,3],[],[5],[],[5,6],[5,6,8],[],[],[0,1,3,4,10,11]] [0,1,3,4,5,6,8,9,10,11,12] [[],[0],[],[0,1,2],[0,1,2,3],[],[5],[],[5,6,7],[5,6,7,8],[],[],[0,1,2,3,4,10,11],[0,1,2,3,4,5,6,7,8,9,10,11,12]] (by kernel_rfl) (by kernel_rfl) (by kernel_rfl) (by rfl) (by rfl) (by kernel_rfl) ?_
      iterate 8 apply Exists.intro
      iterate 3 refine ⟨.any, ?_⟩
      intro bs
      refine zf_e rfl rfl (Kay htab rfl) rfl rfl rfl rfl rfl rfl rfl ?_
      refine zf_eM rfl rfl (KI 0 htab rfl rfl rfl rfl rfl) rfl rfl rfl rfl rfl rfl rfl ?_
      refine zf_q rfl rfl (Kay htab rfl) rfl rfl rfl rfl rfl rfl ?_
      refine zf_e rfl rfl (Kak htab rfl rfl rfl rfl rfl rfl rfl (Kz q92) (KG q92)) rfl rfl rfl rfl rfl rfl rfl ?_
      refine zf_eM rfl rfl (KX (d := Ks x92) htab rfl rfl rfl rfl rfl) rfl rfl rfl rfl rfl rfl rfl ?_
      refine zf_e rfl rfl (Kay htab rfl) rfl rfl rfl rfl rfl rfl rfl ?_
      refine zf_eM rfl rfl (KI 1 htab rfl rfl rfl rfl rfl) rfl rfl rfl rfl rfl rfl rfl ?_
      refine zf_q rfl rfl (Kay htab rfl) rfl rfl rfl rfl rfl rfl ?_
      refine zf_e rfl rfl (Kak htab rfl rfl rfl rfl rfl rfl rfl (Kz q93) (KG q93)) rfl rfl rfl rfl rfl rfl rfl ?_
      refine zf_eM rfl rfl (KX (d := Ks x93) htab rfl rfl rfl rfl rfl) rfl rfl rfl rfl rfl rfl rfl ?_
      refine Kg6 rfl htab rfl rfl rfl rfl rfl rfl rfl rfl rfl rfl (by simp [dOf, eI64]) (by simp) ?_
      refine Kg6 rfl htab rfl rfl rfl rfl rfl rfl rfl rfl rfl rfl (by simp [dOf, eI64]) (by simp) ?_
      refine KjY (e := 10) (zs := [.v (.string ByteArray.empty), .v (.bool false), .v (.int .i64 (0 : Int)), .v (.int .i64 (0 : Int))]) (T' := 67) (ds' := [.v (.string x92.gName), .v (.bool x92.gPtr), .v (.int .i64 x92.gSize), .v (.int .i64 x92.gAt)]) htab rfl rfl rfl rfl rfl rfl rfl rfl rfl (by simp) (by simp) rfl rfl rfl rfl rfl rfl rfl rfl rfl ?_
      refine zf_nil (h' := [(b1, Blk.cells [.lst 4 (a0.gGlobals.map Ks) .no, .lst 5 (a0.gFuncs.map Ko) .no] 28), (b2, Blk.cells [.lst 4 (a1.gGlobals.map Ks) .no, .lst 5 (a1.gFuncs.map Ko) .no] 28), (bs 10, Blk.cells [.v (.string x92.gName), .v (.bool x92.gPtr), .v (.int .i64 x92.gSize), .v (.int .i64 x92.gAt)] 67), (bs 11, Blk.cells [.v (.string ByteArray.empty), .v (.bool false), .v (.int .i64 (0 : Int)), .v (.int .i64 (0 : Int))] 67)]) rfl rfl rfl (fun e he => by simp [isAl] at he; rcases he with rfl | rfl <;> rfl) ?_
      obtain ⟨b94, hb94⟩ : ∃ b, bs 10 = b := ⟨_, rfl⟩
      obtain ⟨b95, hb95⟩ : ∃ b, bs 11 = b := ⟨_, rfl⟩
      simp only [hb94, hb95]
      clear hb94 hb95
      refine pS3 (ds' := [.v (.string x93.gName), .v (.bool x93.gPtr), .v (.int .i64 x93.gSize), .v (.int .i64 x93.gAt)]) ?_
      refine Kb ?_
      refine Kg ?_
      obtain ⟨y100, q100, ho100⟩ := Kc hm
      refine K5 (Y := Unit) (fun z100 => (⟨[(2, .v (.bool a2)), (3, .ptr b1 0), (4, .ptr b2 0), (7, .v (.int .i64 s58)), (72, .v (.bool y100))], [(b1, Blk.cells [.lst 4 (a0.gGlobals.map Ks) .no, .lst 5 (a0.gFuncs.map Ko) .no] 28), (b2, Blk.cells [.lst 4 (a1.gGlobals.map Ks) .no, .lst 5 (a1.gFuncs.map Ko) .no] 28)], []⟩ : S)) ?_ ?_
      ·clear hm; have hm := Kw q100
       refine Kx ?_
       refine pu ?_
       refine pL 2 ?_
       refine pu ?_
       refine pL 3 ?_
       refine pu ?_
       refine pu ?_
       refine Kaj (i := 49) rfl (fun hg101 => ?_) (fun hg101 => ?_)
       ·replace hm := yes_t hg101 hm
        iterate 5 refine pK ?_
        refine K3 rfl rfl rfl rfl rfl rfl ?_
        refine pu ?_
        iterate 5 refine pK ?_
        refine K3 rfl rfl rfl rfl rfl rfl ?_
        refine pu ?_
        iterate 8 refine pK ?_
        refine K3 rfl rfl rfl rfl rfl rfl ?_
        refine Ky ?_
        have e100 := Ke hm; subst e100
        refine ⟨rfl, ?_⟩
        exact WkX.of () (WkS.perm (WkS.cons rfl (Wk.refl _) (WkS.cons rfl (Wk.refl _) (WkS.cons rfl (Wk.refl _) (WkS.cons rfl (Wk.refl _) (WkS.cons rfl (Wk.refl _) (WkS.nil)))))) Pf Pf)
       ·replace hm := yes_f hg101 hm
        refine pu ?_
        refine pL 2 ?_
        refine pu ?_
        refine pL 3 ?_
        refine pu ?_
        refine KO rfl rfl rfl rfl rfl rfl ?_
        refine pu ?_
        refine Kaj (i := 56) rfl (fun hg102 => ?_) (fun hg102 => ?_)
        ·replace hm := yes_t hg102 hm
         iterate 5 refine pK ?_
         refine K3 rfl rfl rfl rfl rfl rfl ?_
         refine pu ?_
         iterate 8 refine pK ?_
         refine K3 rfl rfl rfl rfl rfl rfl ?_
         refine Ky ?_
         have e100 := Ke hm; subst e100
         refine ⟨rfl, ?_⟩
         exact WkX.of () (WkS.perm (WkS.cons rfl (Wk.refl _) (WkS.cons rfl (Wk.refl _) (WkS.cons rfl (Wk.refl _) (WkS.cons rfl (Wk.refl _) (WkS.cons rfl (Wk.refl _) (WkS.nil)))))) Pf Pf)
        ·replace hm := yes_f hg102 hm
         refine pu ?_
         refine pL 2 ?_
         refine pu ?_
         refine pL 3 ?_
         refine pu ?_
         refine KO rfl rfl rfl rfl rfl rfl ?_
         refine pu ?_
         refine Kaj (i := 63) rfl (fun hg103 => ?_) (fun hg103 => ?_)
         ·replace hm := yes_t hg103 hm
          iterate 8 refine pK ?_
          refine K3 rfl rfl rfl rfl rfl rfl ?_
          refine Ky ?_
          have e100 := Ke hm; subst e100
          refine ⟨rfl, ?_⟩
          exact WkX.of () (WkS.perm (WkS.cons rfl (Wk.refl _) (WkS.cons rfl (Wk.refl _) (WkS.cons rfl (Wk.refl _) (WkS.cons rfl (Wk.refl _) (WkS.cons rfl (Wk.refl _) (WkS.nil)))))) Pf Pf)
         ·replace hm := yes_f hg103 hm
          refine pu ?_
          refine pu ?_
          refine Kaj (i := 65) rfl (fun hg104 => ?_) (fun hg104 => ?_)
          ·replace hm := yes_t hg104 hm
           refine pu ?_
           refine pL 2 ?_
           refine pu ?_
           refine pL 3 ?_
           refine pu ?_
           refine K3 rfl rfl rfl rfl rfl rfl ?_
           refine KO rfl rfl rfl rfl rfl rfl ?_
           refine Ky ?_
           have e100 := Ke hm; subst e100
           refine ⟨rfl, ?_⟩
           exact WkX.of () (WkS.perm (WkS.cons rfl (Wk.refl _) (WkS.cons rfl (Wk.refl _) (WkS.cons rfl (Wk.refl _) (WkS.cons rfl (Wk.refl _) (WkS.cons rfl (Wk.refl _) (WkS.nil)))))) Pf Pf)
          ·replace hm := yes_f hg104 hm
           iterate 5 refine pK ?_
           refine KO rfl rfl rfl rfl rfl rfl ?_
           refine KO rfl rfl rfl rfl rfl rfl ?_
           refine Ky ?_
           have e100 := Ke hm; subst e100
           refine ⟨rfl, ?_⟩
           exact WkX.of () (WkS.perm (WkS.cons rfl (Wk.refl _) (WkS.cons rfl (Wk.refl _) (WkS.cons rfl (Wk.refl _) (WkS.cons rfl (Wk.refl _) (WkS.cons rfl (Wk.refl _) (WkS.nil)))))) Pf Pf)
      ·intro s100 hw100; clear hm; have hm := ho100; clear q100 ho100
       refine Ka ?_
       refine KQ hw100 (fun z100 => ?_)
       refine Kk rfl (fun hc105 => ?_) (fun hc105 => ?_)
       ·replace hm := yes_t hc105 hm
        exact (KR hm).elim
       ·replace hm := yes_f hc105 hm
        refine Kp ?_
        refine KF ?_
        refine Ka ?_
        refine Kx ?_
        iterate 3 refine pu ?_
        refine Ky ?_
        refine Ka ⟨_, Kam hm, ?_⟩
        exact WkX.of () (WkS.perm (WkS.cons rfl (Wk.refl _) (WkS.cons rfl (Wk.refl _) (WkS.cons rfl (Wk.refl _) (WkS.cons rfl (Wk.refl _) (WkS.nil))))) Pf Pf)
     ·replace hm := yes_f hc91 hm
      refine Kad ?_
      refine KC ?_
      have e58 := KP hm; subst e58; clear hm; have hm := hq58
      refine KC ?_
      refine K7 ?_
      have e57 := Ke hm; subst e57
      refine ⟨rfl, ?_⟩
      exact WkX.of () (WkS.perm (WkS.cons rfl (Wk.refl _) (WkS.cons rfl (Wk.refl _) (WkS.cons rfl (Wk.refl _) (WkS.nil)))) Pf Pf)
   ·intro s57 hw57; clear hm; have hm := ho57; clear q57 ho57
    refine Ka ?_
    refine KQ hw57 (fun z57 => ?_)
    refine Kg ?_
    refine Kd ?_
    refine pu ?_
    refine Kb ?_
    obtain ⟨y125, q125, ho125⟩ := Kc hm
    refine K5 (Y := Unit) (fun z125 => (⟨[], [], []⟩ : S)) ?_ ?_
    ·clear hm; have hm := Kw q125
     refine KA ?_
     obtain ⟨u126, hl126, hq126⟩ := yes_m hm
     refine Kav (Y := Unit) hl126 (fun s126 z126 => (⟨[(2, .v (.bool a2)), (3, .ptr b1 0), (4, .ptr b2 0), (10, .v (.int .i64 s126))], [(b1, Blk.cells [.lst 4 (a0.gGlobals.map Ks) .no, .lst 5 (a0.gFuncs.map Ko) .no] 28), (b2, Blk.cells [.lst 4 (a1.gGlobals.map Ks) .no, .lst 5 (a1.gFuncs.map Ko) .no] 28)], []⟩ : S)) ?_ ?_
     ·skip
      exact WkX.of () (WkS.perm (WkS.cons rfl (Wk.refl _) (WkS.cons rfl (Wk.refl _) (WkS.cons rfl (Wk.refl _) (WkS.cons rfl (Wk.refl _) (WkS.nil))))) Pf Pf)
     ·intro G126 s126 z126 hm
      refine Kg ?_
      refine Kd ?_
      refine pu ?_
      refine pu ?_
      refine pL 0 ?_
      refine Kaa htab rfl rfl rfl rfl rfl rfl rfl (by first | exact KM | rfl) ?_
      refine pu ?_
      refine Kb ?_
      refine Kk rfl (fun hc139 => ?_) (fun hc139 => ?_)
      ·replace hm := yes_t hc139 hm
       refine Kp ?_
       refine Ka ?_
       refine Kg ?_
       refine KA ?_
       refine Kg ?_
       obtain ⟨x140, q140, hm⟩ := Kc hm
       obtain ⟨x141, q141, hm⟩ := Kc hm
       refine KZ 11 [] [[],[0],[],[0,1],[0,1,3],[],[5],[],[5,6],[5,6,8],[]] [0,1,3,4,5,6,8,9] [[],[0],[],[0,1,2],[0,1,2,3],[],[5],[],[5,6,7],[5,6,7,8],[],[0,1,2,3,4,5,6,7,8,9,10],[0,1,2,3,4,5,6,7,8,9,10,11]] (by kernel_rfl) (by kernel_rfl) (by kernel_rfl) (by rfl) (by rfl) (by kernel_rfl) ?_
       iterate 8 apply Exists.intro
       intro bs
       refine zep ?_
       refine z_eM rfl rfl (KI 0 htab rfl rfl rfl rfl rfl) rfl rfl rfl rfl rfl rfl ?_
       refine zqp ?_
       refine z_e rfl rfl (Kak htab rfl rfl rfl rfl rfl rfl rfl (Kz q140) (KG q140)) rfl rfl rfl rfl rfl rfl ?_
       refine z_eM rfl rfl (KX (d := Ko x140) htab rfl rfl rfl rfl rfl) rfl rfl rfl rfl rfl rfl ?_
       refine zep ?_
       refine z_eM rfl rfl (KI 1 htab rfl rfl rfl rfl rfl) rfl rfl rfl rfl rfl rfl ?_
       refine zqp ?_
       refine z_e rfl rfl (Kak htab rfl rfl rfl rfl rfl rfl rfl (Kz q141) (KG q141)) rfl rfl rfl rfl rfl rfl ?_
       refine z_eM rfl rfl (KX (d := Ko x141) htab rfl rfl rfl rfl rfl) rfl rfl rfl rfl rfl rfl ?_
       refine zqp ?_
       refine z_nil rfl rfl (fun e he => by simp [isAl] at he) ?_
       obtain ⟨x142, q142, hm⟩ := Kc hm
       refine KN (KkY x140 x141 a2 x142 q142) rfl rfl rfl rfl rfl Wl ?_
       rintro _ rfl
       refine pu ?_
       refine Kb ?_
       refine Kk rfl (fun hc143 => ?_) (fun hc143 => ?_)
       ·replace hm := yes_t hc143 hm
        exact (KR hm).elim
       ·replace hm := yes_f hc143 hm
        refine Kp ?_
        refine KF ?_
        refine Ka ?_
        refine Kx ?_
        iterate 3 refine pu ?_
        refine Ky ?_
        refine Ka ⟨_, Kam hm, ?_⟩
        exact WkX.of () (WkS.perm (WkS.cons rfl (Wk.refl _) (WkS.cons rfl (Wk.refl _) (WkS.cons rfl (Wk.refl _) (WkS.cons rfl (Wk.refl _) (WkS.nil))))) Pf Pf)
      ·replace hm := yes_f hc139 hm
       refine Kad ?_
       refine KC ?_
       have e126 := KP hm; subst e126; clear hm; have hm := hq126
       refine KC ?_
       refine K7 ?_
       have e125 := Ke hm; subst e125
       refine ⟨rfl, ?_⟩
       exact WkX.of () (WkS.perm (WkS.nil) Pf Pf)
    ·intro s125 hw125; clear hm; have hm := ho125; clear q125 ho125
     refine Ka ?_
     refine KQ hw125 (fun z125 => ?_)
     refine Kd ?_
     refine pu ?_
     refine Kb ?_
     refine Kr ?_
     have er144 := Ke hm; subst er144
     refine rP (t' := [(6, .v (.bool true))]) [] [] 0 (wC wN) (lT lN) ?_
     exact ⟨rfl, rfl, rfl⟩
end Go.Proofs.YtipfljkjjddapaaGreatDoor.Ab
namespace Go.Proofs.YtipfljkjjddapaaGreatDoor.Ab
open Go
set_option linter.all false
theorem rz_nil {H : Hp} : Reps H [] [] := by simp only [Reps]
theorem Kb6 {H : Hp} {d : D} {u : Value} {l : List D} {us : List Value} (h : RepC H d [u]) (o : one u = true) (f : d.flat = true) (r : Reps H l us) : Reps H (d :: l) (u :: us) := by
 simp only [Reps]
 exact ⟨u, us, rfl, ⟨h, o, f⟩, r⟩
theorem rz_v {H : Hp} {x : Value} : RepC H (.v x) [x] := by simp only [RepC]
theorem rz_l {H : Hp} {k : Nat} : RepC H (.lst k [] .no) [.slice none 0 0] := by
 simp only [RepC]
 exact ⟨_, rfl, trivial, .inl ⟨(by first | exact trivial | rfl), none, 0, rfl, fun _ => rfl⟩⟩
theorem rz_agg {H : Hp} {l : List D} {us : List Value} (h : Reps H l us) : RepC H (.agg l) us := by simpa only [RepC] using h
theorem copy_runR {P : Program} {tab : List (Option TI)} (hT : TabOK P tab) {H : Hp} {w : World} {r kk : Nat} {T T' e : TypeId} {ty : TypeId} {i0 ie : TI} {xs ys : List D} {z : Z3} {v2 : Value} {us2 : List Value}
  (hA : Ag H w) (hrow : BlkOK H w (r, .row kk xs (SL z))) (hl2 : (Builtin.lenOf v2).run P w = .ok ys.length w) (g1 : us2.length = ys.length * kk) (g2 : FlatR H kk ys us2) (g3 : (Builtin.firstCells kk ys.length v2).run P w = .ok us2.toArray w)
  (hi0 : ti tab T = some i0) (hd0 : i0.d = .slice e) (hie : ti tab e = some ie) (hks : ie.size = kk) (hlen : ys.length = xs.length) :
  ∃ w' : World, (Builtin.copy_ #[T, T'] ty #[SL z, v2]).run P w = .ok (goInt ys.length) w' ∧ Core ⟨H, w, KY [(r, .row kk xs (SL z))] []⟩ H [(0, .row kk ys (SL z))] [] w' := by
 subst hks
 have hTe := ti_ok hT hie
 obtain ⟨d0, u0, u1⟩ := Kag (w := w) (ti_ok hT hi0)
 have e0 := Kb2 (u1.trans hd0); subst e0
 obtain ⟨z1, z2, z3⟩ := z
 have start : ∀ (n : Nat), z2 = n → n = ys.length → (Builtin.copy_ #[T, T'] ty #[SL (z1, z2, z3), v2]).run P w = (do
   if let some a := z1 then storeCells a us2
   pure (goInt ys.length) : Sem Value).run P w := by
  intro n hz hn
  subst hz; subst hn
  unfold Builtin.copy_ SL
  simp only [List.getElem?_toArray, List.getElem?_cons_zero, List.getElem?_cons_succ]
  rw [Kq u0]
  simp only []
  rw [Kq hl2]
  rw [Kq (Ka5 hTe)]
  simp only [Nat.min_self]
  rw [Kq g3]
  cases z1 <;> rfl
 rcases hrow with ⟨a, e1, e2⟩ | ⟨b, m, us, rest, TT, e1, h0, hm, h1, h2, h3, h4⟩
 ·simp only [SL, Value.slice.injEq] at e1
  obtain ⟨rfl, rfl, rfl⟩ := e1
  have hy : ys = [] := List.eq_nil_of_length_eq_zero (by rw [hlen, e2]; rfl)
  subst hy; subst e2
  have hu2 : us2 = [] := List.eq_nil_of_length_eq_zero (by simpa using g1)
  subst hu2
  refine ⟨w, ?_, hA, Hp.le_refl H, fun _ _ x => .inl x, fun _ _ _ => rfl, Nat.le_refl _, ?_, by simp, ?_, ?_, Env.refl w⟩
  ·rw [start 0 rfl rfl]
   cases z1 with
   | none => rfl
   | some a => simp only [storeCells]; rfl
  ·intro p hp
   simp only [List.mem_singleton] at hp; subst hp
   exact .inl ⟨z1, rfl, rfl⟩
  ·cases z1 <;> simp [KY, Kae, Kbq, SL]
  ·cases z1 <;> simp [KY, Kae, Kbq, SL]
 ·simp only [SL, Value.slice.injEq] at e1
  obtain ⟨rfl, rfl, rfl⟩ := e1
  have hul := Ki1 h2
  have hclaim : KY [(r, Blk.row ie.size xs (SL (some ⟨b, 0, none⟩, xs.length, z3)))] [] = [b] := by simp [KY, Kae, Kbq, SL, hm]
  have hl2' : us2.length = us.length := by rw [g1, hul, hlen]
  obtain ⟨w', s1, s2, s3, s4, s5⟩ := Kct (P := P) (b := b) (off := 0) (T := TT) us2 0 w (us ++ rest) h1 (by simp only [List.length_append]; omega) (flat_one g2)
  simp only [Nat.add_zero] at s5
  have ecells : (us ++ rest).take 0 ++ (us2 ++ (us ++ rest).drop (0 + us2.length)) = us2 ++ rest := by
   rw [List.take_zero, List.nil_append, Nat.zero_add, hl2', List.drop_left]
  rw [ecells] at s5
  refine ⟨w', ?_, ?_⟩
  ·rw [start xs.length rfl hlen.symm]
   simp only []
   rw [Kq s1]; rfl
  ·rw [hclaim]
   refine ⟨fun a v0 ea => ?_, Hp.le_refl H, fun _ _ x => .inl x, fun i _ hm => s4 i (by simpa using hm), by show w.heap.size ≤ w'.heap.size; omega, ?_, by simp, ?_, ?_, s2⟩
   ·have hcell := hA a v0 ea
    by_cases qb : a.block = b
    ·obtain ⟨ab, ao, aq⟩ := a
     simp only at qb; subst qb
     cases aq with
     | some sp => simp [World.cell?, h1] at hcell
     | none => rw [h4 ao] at ea; cases ea
    ·simp only [World.cell?] at hcell ⊢
     rw [s4 _ qb]; exact hcell
   ·intro p hp
    simp only [List.mem_singleton] at hp; subst hp
    refine .inr ⟨b, z3, us2, rest, TT, by simp [SL, hlen], by omega, hm, by simpa using s5, g2, ?_, h4⟩
    simp only [List.length_append] at h3 ⊢
    omega
   ·simp [KY, Kae, Kbq, SL, hm]
   ·intro b' hb'
    simp [KY, Kae, Kbq, SL, hm] at hb' ⊢
    first | exact .inl hb' | simpa using hb'
section
variable {P : Program} {C : Ctx} {N : Nat} {ops rest : List Oper} {o : Oper} {t : List (Nat × D)} {h : List (Nat × Blk)} {k : List (Nat × Value)} {Q : Exit → S → Prop} {tab : List (Option TI)}
theorem p_copyR {i r kk : Nat} {T T' e : TypeId} {x y : Operand} {xs ys zs : List D} {c' : Cap} {z : Z3} {i0 ie : TI} (j : Nat) (hT : TabOK P tab) (ho : o.op = .call ⟨.builtin .copy, [x, y].toArray, #[T, T']⟩) (hw : wantD ops t o = some true) (hd : o.dst = some i) (hi : Nat.blt i N = true)
  (hx : opD t x = some (.v (SL z))) (hj : h[j]? = some (r, .row kk xs (SL z))) (hy : opD t y = some (.lst kk ys c'))
  (hi0 : ti tab T = some i0) (hd0 : i0.d = .slice e) (hie : ti tab e = some ie) (hks : ie.size = kk) (hlen : ys.length = xs.length) (em : ys = zs)
  (g : opsD P C N ops rest ⟨(i, .v (goInt ys.length)) :: t, h.set j (0, .row kk zs (SL z)), k⟩ Q) : opsD P C N ops (o :: rest) ⟨t, h, k⟩ Q := by
 subst em
 refine Kb4 (s := ⟨t, h, k⟩) hw hd hi fun H a w core kt => ?_
 have hry := K9 kt hy
 obtain ⟨a2, m2, ey⟩ := Kff hry
 have c1 : Core C H ([(r, .row kk xs (SL z))] ++ h.eraseIdx j) ([] ++ k) w := core.perm (Kah hj) (List.Perm.refl _)
 have hbl := core.blks _ (List.mem_of_getElem? hj)
 obtain ⟨us2, g1, g2, g3⟩ := first_told core.ag hry
 obtain ⟨w', h1, h2⟩ := copy_runR (P := P) (ty := o.type) (T' := T') (v2 := a.eval y) hT core.ag hbl (by rw [ey]; rfl) g1 g2 g3 hi0 hd0 hie hks hlen
 have c2 := Core.call c1 h2
 refine ⟨goInt ys.length, w', H, .v (goInt ys.length), h.set j (0, .row kk ys (SL z)), k, KdE (s := Builtin.copy_) ho (fun _ _ => rfl) ?_, Hp.le_refl H, c2.perm (Ki0 hj) (List.Perm.refl _), rep_v rfl, g⟩
 have e := K1 (K9 kt hx)
 simpa [e] using h1
end
end Go.Proofs.YtipfljkjjddapaaGreatDoor.Ab
