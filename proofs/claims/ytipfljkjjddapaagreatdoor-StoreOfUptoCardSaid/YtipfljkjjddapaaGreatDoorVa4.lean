/- The texts that storeOfUptoCard_holds leans on, part 4. -/
import Derived.Test.YtipfljkjjddapaaGreatDoorVa3
set_option maxRecDepth 100000
set_option maxHeartbeats 80000000
namespace Go.Proofs.YtipfljkjjddapaaGreatDoor.Ab
open Go
set_option linter.all false
structure K8 where
 gName : ByteArray
 gPtr : Bool
def Kj (x : K8) : D := .agg [.v (.string x.gName), .v (.bool x.gPtr)]
structure Kh where
 gOp : Int
 gN : Int
 gName : ByteArray
 gKids : List Kh
 gAt : Int
mutual
def Kn : Kh → D
 | ⟨f0, f1, f2, f3, f4⟩ => .agg [.v (.int .i64 f0), .v (.int .i64 f1), .v (.string f2), .lst 5 (Ke6 f3) .no, .v (.int .i64 f4)]
def Ke6 : List Kh → List D
 | [] => []
 | x :: l => Kn x :: Ke6 l
end
theorem Kjo : ∀ l, Ke6 l = l.map Kn
 | [] => by simp [Ke6]
 | x :: l => by simp only [Ke6, List.map_cons, Kjo l]
theorem KD (x : Kh) : Kn x = .agg [.v (.int .i64 x.gOp), .v (.int .i64 x.gN), .v (.string x.gName), .lst 5 (x.gKids.map Kn) .no, .v (.int .i64 x.gAt)] := by
 cases x
 simp only [Kn, Kjo]
theorem mk187 : KeyOK Tryz.prog 9 (fun s : ByteArray => Value.string s) := str_key (by kernel_rfl)
theorem mz187 : (Tryz.prog.info? 3).bind (·.zero) = some (.int .i64 (0 : Int)) := by kernel_rfl
theorem mr187 (H : Hp) : Rep H (eI64 (0 : Int)) (.int .i64 (0 : Int)) := rep_v rfl
noncomputable def Kbu (a0 : Kh) (a1 : Int) : Option ((Int × Int) ⊕ (Unit)) :=
 (bif (a1 != (1 : Int)) then ((Kaz a0.gAt (9 : Int)).bind fun x3 => Sum.elim (fun pe3 => some (.inl pe3)) (fun z3 => some (.inr ())) x3) else some (.inr ()))
theorem Kbe (a0 : Kh) (a1 : Int) (r : (Int × Int) ⊕ (Unit)) (h0 : Kbu a0 a1 = some r) : Kba zc Tryz.prog 181 [Kn a0, .v (.int .i64 a1)] [] [] r (fun r d h k => d = .tup [] ∧ h = [] ∧ k = []) := by
 have hm := Kw h0
 unfold Kbu at hm
 clear h0
 refine Ke5 htab Tryz.func181 rfl rfl rfl rfl rfl (fun C => ?_)
 refine w_eq (i := 0) rfl (Wk.of_eq (KD a0)) ?_
 refine Kd ?_
 refine p_box rfl rfl rfl rfl rfl rfl rfl (fun b1 => ?_)
 refine KK ?_
 refine pu ?_
 refine pu ?_
 refine Kb ?_
 refine Kk rfl (fun hc2 => ?_) (fun hc2 => ?_)
 ·replace hm := yes_t hc2 hm
  refine Kx ?_
  refine pu ?_
  refine pL 0 ?_
  obtain ⟨x3, q3, hm⟩ := Kc hm
  rcases x3 with pe3 | z3
  ·simp only [Sum.elim_inl] at hm
   refine KaE (KaK a0.gAt (9 : Int) (.inl pe3) q3) rfl rfl rfl Wl Pf Pf ?_
   have er4 := Ke hm; subst er4; exact Kao
  simp only [Sum.elim_inr] at hm
  refine KN (KaK a0.gAt (9 : Int) (.inr z3) q3) rfl rfl rfl rfl rfl Wl ?_
  rintro _ rfl
  refine Ky ?_
  have er5 := Ke hm; subst er5; refine KbA ?_
  refine rP (t' := []) [] [] 0 wN lN ?_
  exact ⟨rfl, rfl, rfl⟩
 ·replace hm := yes_f hc2 hm
  refine Kp ?_
  have er6 := Ke hm; subst er6; refine KbA ?_
  refine rP (t' := []) [] [] 0 wN lN ?_
  exact ⟨rfl, rfl, rfl⟩
noncomputable def Kdk (a0 : Int) (a1 : Int) (a2 : List Int) : Option ((Int × Int) ⊕ (Int)) :=
 (Option.bind (α := (Unit) ⊕ ((Int × Int) ⊕ (Int))) (bif (a0 == (0 : Int)) then ((Kaz a1 (7 : Int)).bind fun x5 => Sum.elim (fun pe5 => some (.inr (.inl pe5))) (fun z5 => some (.inl ())) x5) else some (.inl ())) (Sum.elim (fun y3 => (Option.bind (α := (Unit) ⊕ ((Int × Int) ⊕ (Int))) (loopM (fun (s21 : Int) => (bif (decide (s21 < (a2.length : Int))) then ((idx a2 s21).bind fun x31 => (bif (x31 == a0) then some (.done (.inr (.inr a0))) else some (.next (IntKind.i64.wrap (s21 + (1 : Int)))))) else some (.done (.inl ())))) (0 : Int)) (Sum.elim (fun y20 => ((Kaz a1 (9 : Int)).bind fun x34 => Sum.elim (fun pe34 => some (.inl pe34)) (fun z34 => some (.inr (0 : Int))) x34)) (fun r => some r)))) (fun r => some r)))
theorem Kfg (a0 : Int) (a1 : Int) (a2 : List Int) (r : (Int × Int) ⊕ (Int)) (h0 : Kdk a0 a1 a2 = some r) : Kba zc Tryz.prog 200 [.v (.int .i64 a0), .v (.int .i64 a1), .lst 1 (a2.map eI64) .no] [] [] r (fun r d h k => d = .v (.int .i64 r) ∧ h = [] ∧ k = []) := by
 have hm := Kw h0
 unfold Kdk at hm
 clear h0
 refine Ke5 htab Tryz.func200 rfl rfl rfl rfl rfl (fun C => ?_)
 refine Kd ?_
 refine pu ?_
 refine Kb ?_
 refine Kg ?_
 refine Kd ?_
 refine pu ?_
 refine pu ?_
 refine Kb ?_
 obtain ⟨x3, q3, ho3⟩ := Kc hm
 refine Kaq (τ := Unit) (Y := Unit) (fun y3 z3 => (⟨[(0, .v (.int .i64 a0)), (1, .v (.int .i64 a1)), (2, .lst 1 (a2.map eI64) .no)], [], []⟩ : S)) x3 ?_ ?_
 ·clear hm; have hm := Kw q3
  refine Kk rfl (fun hc4 => ?_) (fun hc4 => ?_)
  ·replace hm := yes_t hc4 hm
   refine Kx ?_
   refine pu ?_
   obtain ⟨x5, q5, hm⟩ := Kc hm
   rcases x5 with pe5 | z5
   ·simp only [Sum.elim_inl] at hm
    refine KaE (KaK a1 (7 : Int) (.inl pe5) q5) rfl rfl rfl Wl Pf Pf ?_
    have e3 := Ke hm; subst e3; refine Kab ?_; clear hm; have hm := ho3; simp only [Sum.elim_inr] at hm
    refine KT ?_
    have er6 := Ke hm; subst er6; exact Kao
   simp only [Sum.elim_inr] at hm
   refine KN (KaK a1 (7 : Int) (.inr z5) q5) rfl rfl rfl rfl rfl Wl ?_
   rintro _ rfl
   refine Ky ?_
   have e3 := Ke hm; subst e3
   refine Kaf ?_
   exact WkX.of () (WkS.perm (WkS.cons rfl (Wk.refl _) (WkS.cons rfl (Wk.refl _) (WkS.cons rfl (Wk.refl _) (WkS.nil)))) Pf Pf)
  ·replace hm := yes_f hc4 hm
   refine Kp ?_
   have e3 := Ke hm; subst e3
   refine Kaf ?_
   exact WkX.of () (WkS.perm (WkS.cons rfl (Wk.refl _) (WkS.cons rfl (Wk.refl _) (WkS.cons rfl (Wk.refl _) (WkS.nil)))) Pf Pf)
 ·intro y3 s3 hx3 hw3; subst hx3; clear hm; have hm := ho3; simp only [Sum.elim_inl] at hm; clear q3 ho3
  refine Ka ?_
  refine KQ hw3 (fun z3 => ?_)
  refine Kg ?_
  refine Kd ?_
  refine pu ?_
  refine Kaa htab rfl rfl rfl rfl rfl rfl rfl (by first | exact KM | rfl) ?_
  refine pu ?_
  refine Kb ?_
  obtain ⟨x20, q20, ho20⟩ := Kc hm
  refine Kaq (τ := Unit) (Y := Unit) (fun y20 z20 => (⟨[(1, .v (.int .i64 a1))], [], []⟩ : S)) x20 ?_ ?_
  ·clear hm; have hm := Kw q20
   refine KA ?_
   obtain ⟨u21, hl21, hq21⟩ := yes_m hm
   refine Kav (Y := Unit) hl21 (fun s21 z21 => (⟨[(0, .v (.int .i64 a0)), (1, .v (.int .i64 a1)), (13, .lst 1 (a2.map eI64) .no), (14, .v (.int .i64 (a2.length : Int))), (15, .v (.int .i64 s21))], [], []⟩ : S)) ?_ ?_
   ·skip
    exact WkX.of () (WkS.perm (WkS.cons rfl (Wk.refl _) (WkS.cons rfl (Wk.refl _) (WkS.cons rfl (Wk.refl _) (WkS.cons rfl (Wk.refl _) (WkS.cons rfl (Wk.refl _) (WkS.nil)))))) Pf Pf)
   ·intro G21 s21 z21 hm
    refine Kd ?_
    refine pu ?_
    refine Kb ?_
    refine Kg ?_
    refine Kk rfl (fun hc30 => ?_) (fun hc30 => ?_)
    ·replace hm := yes_t hc30 hm
     refine Kp ?_
     refine Ka ?_
     refine Kg ?_
     refine KA ?_
     refine Kd ?_
     obtain ⟨x31, q31, hm⟩ := Kc hm
     refine KaD htab rfl rfl rfl rfl rfl rfl rfl rfl rfl rfl (Kz q31) (KG q31) ?_
     refine Kat htab rfl rfl rfl rfl rfl rfl rfl rfl ?_
     refine pu ?_
     refine KK ?_
     iterate 3 refine pu ?_
     refine Kb ?_
     refine Kk rfl (fun hc32 => ?_) (fun hc32 => ?_)
     ·replace hm := yes_t hc32 hm
      refine Kd ?_
      refine pu ?_
      refine pu ?_
      refine Kb ?_
      refine Kr ?_
      refine KE ?_
      refine Kt ?_
      have e21 := KP hm; subst e21; clear hm; have hm := hq21
      refine Kt ?_
      refine KE ?_
      have e20 := Ke hm; subst e20; refine Kax ?_; clear hm; have hm := ho20; simp only [Sum.elim_inr] at hm
      refine Kt ?_
      have er33 := Ke hm; subst er33; refine KbA ?_
      refine rP (t' := [(6, .v (.int .i64 a0))]) [] [] 0 (wC wN) (lT lN) ?_
      exact ⟨rfl, rfl, rfl⟩
     ·replace hm := yes_f hc32 hm
      refine Kp ?_
      refine KF ?_
      refine Ka ?_
      refine Kx ?_
      refine pu ?_
      refine pu ?_
      refine Ky ?_
      refine Ka ⟨_, Kam hm, ?_⟩
      exact WkX.of () (WkS.perm (WkS.cons rfl (Wk.refl _) (WkS.cons rfl (Wk.refl _) (WkS.cons rfl (Wk.refl _) (WkS.cons rfl (Wk.refl _) (WkS.cons rfl (Wk.refl _) (WkS.nil)))))) Pf Pf)
    ·replace hm := yes_f hc30 hm
     refine Kad ?_
     refine KC ?_
     have e21 := KP hm; subst e21; clear hm; have hm := hq21
     refine KC ?_
     refine K7 ?_
     have e20 := Ke hm; subst e20
     refine Kaf ?_
     exact WkX.of () (WkS.perm (WkS.cons rfl (Wk.refl _) (WkS.nil)) Pf Pf)
  ·intro y20 s20 hx20 hw20; subst hx20; clear hm; have hm := ho20; simp only [Sum.elim_inl] at hm; clear q20 ho20
   refine Ka ?_
   refine KQ hw20 (fun z20 => ?_)
   refine Kd ?_
   refine pu ?_
   obtain ⟨x34, q34, hm⟩ := Kc hm
   rcases x34 with pe34 | z34
   ·simp only [Sum.elim_inl] at hm
    refine KaE (KaK a1 (9 : Int) (.inl pe34) q34) rfl rfl rfl Wl Pf Pf ?_
    refine KT ?_
    have er35 := Ke hm; subst er35; exact Kao
   simp only [Sum.elim_inr] at hm
   refine KN (KaK a1 (9 : Int) (.inr z34) q34) rfl rfl rfl rfl rfl Wl ?_
   rintro _ rfl
   refine KK ?_
   refine pu ?_
   refine Kb ?_
   refine Kr ?_
   have er36 := Ke hm; subst er36; refine KbA ?_
   refine rP (t' := [(6, .v (.int .i64 (0 : Int)))]) [] [] 0 (wC wN) (lT lN) ?_
   exact ⟨rfl, rfl, rfl⟩
noncomputable def KbS (a0 : Bool) : Option (Int) :=
 (bif a0 then some (2 : Int) else some (1 : Int))
theorem KfO (a0 : Bool) (r : Int) (h0 : KbS a0 = some r) : CallsD Tryz.prog 177 [.v (.bool a0)] [] [] (fun d h k => d = .v (.int .i64 r) ∧ h = [] ∧ k = []) := by
 have hm := Kw h0
 unfold KbS at hm
 clear h0
 refine K0 htab Tryz.func177 rfl rfl rfl rfl rfl (fun C => ?_)
 refine Kd ?_
 refine pu ?_
 refine Kb ?_
 refine Kg ?_
 refine Kd ?_
 refine pu ?_
 refine Kb ?_
 refine Kk rfl (fun hc1 => ?_) (fun hc1 => ?_)
 ·replace hm := yes_t hc1 hm
  refine Kd ?_
  refine pu ?_
  refine Kb ?_
  refine Kr ?_
  refine Kt ?_
  have er2 := Ke hm; subst er2
  refine rP (t' := [(2, .v (.int .i64 (2 : Int)))]) [] [] 0 (wC wN) (lT lN) ?_
  exact ⟨rfl, rfl, rfl⟩
 ·replace hm := yes_f hc1 hm
  refine Kp ?_
  refine Ka ?_
  refine Kd ?_
  refine pu ?_
  refine Kb ?_
  refine Kr ?_
  have er3 := Ke hm; subst er3
  refine rP (t' := [(2, .v (.int .i64 (1 : Int)))]) [] [] 0 (wC wN) (lT lN) ?_
  exact ⟨rfl, rfl, rfl⟩
structure KeP where
 g0 : List K8
 g1 : List K8
def KeC (x : KeP) : D := .agg [.lst 2 (x.g0.map Kj) .no, .lst 2 (x.g1.map Kj) .no]
structure Kaw where
 gName : ByteArray
 gPtr : Bool
 gSize : Int
 gAt : Int
def Ks (x : Kaw) : D := .agg [.v (.string x.gName), .v (.bool x.gPtr), .v (.int .i64 x.gSize), .v (.int .i64 x.gAt)]
structure Ki where
 gOp : Int
 gName : ByteArray
 gFunc : ByteArray
 gExps : List Kh
 gKids : List Ki
 gElse : List Ki
 gAt : Int
mutual
def Kf : Ki → D
 | ⟨f0, f1, f2, f3, f4, f5, f6⟩ => .agg [.v (.int .i64 f0), .v (.string f1), .v (.string f2), .lst 5 (f3.map Kn) .no, .lst 7 (Kek f4) .no, .lst 7 (Kek f5) .no, .v (.int .i64 f6)]
def Kek : List Ki → List D
 | [] => []
 | x :: l => Kf x :: Kek l
end
theorem Kjp : ∀ l, Kek l = l.map Kf
 | [] => by simp [Kek]
 | x :: l => by simp only [Kek, List.map_cons, Kjp l]
theorem KU (x : Ki) : Kf x = .agg [.v (.int .i64 x.gOp), .v (.string x.gName), .v (.string x.gFunc), .lst 5 (x.gExps.map Kn) .no, .lst 7 (x.gKids.map Kf) .no, .lst 7 (x.gElse.map Kf) .no, .v (.int .i64 x.gAt)] := by
 cases x
 simp only [Kf, Kjp]
structure Km where
 gName : ByteArray
 gParams : List K8
 gLocals : List K8
 gBody : List Ki
 gAt : Int
def Ko (x : Km) : D := .agg [.v (.string x.gName), .lst 2 (x.gParams.map Kj) .no, .lst 2 (x.gLocals.map Kj) .no, .lst 7 (x.gBody.map Kf) .no, .v (.int .i64 x.gAt)]
structure Kl where
 gGlobals : List Kaw
 gFuncs : List Km
def KL (x : Kl) : D := .agg [.lst 4 (x.gGlobals.map Ks) .no, .lst 5 (x.gFuncs.map Ko) .no]
structure Kv where
 gP : Kl
 gF : Km
def KW (x : Kv) : D := .agg [.lst 4 (x.gP.gGlobals.map Ks) .no, .lst 5 (x.gP.gFuncs.map Ko) .no, .v (.string x.gF.gName), .lst 2 (x.gF.gParams.map Kj) .no, .lst 2 (x.gF.gLocals.map Kj) .no, .lst 7 (x.gF.gBody.map Kf) .no, .v (.int .i64 x.gF.gAt)]
noncomputable def KbB (a0 : Kv) (a1 : ByteArray) : Option (Int) :=
 (Option.bind (α := (Unit) ⊕ (Int)) (loopM (fun (s125 : Int) => (bif (decide (s125 < (2 : Int))) then ((idx ([a0.gF.gParams, a0.gF.gLocals] : List (List K8)) s125).bind fun x207 => (Option.bind (α := (Unit) ⊕ (Int)) (loopM (fun (s227 : Int) => (bif (decide (s227 < (x207.length : Int))) then ((idx x207 s227).bind fun x241 => (bif (decide (x241.gName = a1)) then ((KbS x241.gPtr).bind fun x244 => some (.done (.inr x244))) else some (.next (IntKind.i64.wrap (s227 + (1 : Int)))))) else some (.done (.inl ())))) (0 : Int)) (Sum.elim (fun y226 => some (.next (IntKind.i64.wrap (s125 + (1 : Int))))) (fun r => some (.done (.inr r)))))) else some (.done (.inl ())))) (0 : Int)) (Sum.elim (fun y124 => some (0 : Int)) (fun r => some r)))
theorem KfP (a0 : Kv) (a1 : ByteArray) (r : Int) (h0 : KbB a0 a1 = some r) : CallsD Tryz.prog 199 [KW a0, .v (.string a1)] [] [] (fun d h k => d = .v (.int .i64 r) ∧ h = [] ∧ k = []) := by
 have hm := Kw h0
 unfold KbB at hm
 clear h0
 refine K0 htab Tryz.func199 rfl rfl rfl rfl rfl (fun C => ?_)
 refine Kd ?_
 refine p_box rfl rfl rfl rfl rfl rfl rfl (fun b1 => ?_)
 refine pu ?_
 refine Kb ?_
 refine Kg ?_
 refine Kd ?_
 refine pu ?_
 refine pu ?_
 refine pL 0 ?_
 refine pu ?_
 refine pu ?_
 refine pL 0 ?_
 refine p_buildA (r := [.lst 2 (a0.gF.gParams.map Kj) .no, .lst 2 (a0.gF.gLocals.map Kj) .no]) htab rfl rfl rfl rfl rfl rfl rfl rfl rfl ?_
 refine pu ?_
 refine Kb ?_
 obtain ⟨x124, q124, ho124⟩ := Kc hm
 refine Kaq (τ := Unit) (Y := Unit) (fun y124 z124 => (⟨[], [], []⟩ : S)) x124 ?_ ?_
 ·clear hm; have hm := Kw q124
  refine KA ?_
  obtain ⟨u125, hl125, hq125⟩ := yes_m hm
  refine Kav (Y := Unit) hl125 (fun s125 z125 => (⟨[(1, .v (.string a1)), (15, KeC (⟨a0.gF.gParams, a0.gF.gLocals⟩ : KeP)), (16, .v (.int .i64 s125))], [], []⟩ : S)) ?_ ?_
  ·skip
   exact WkX.of () (WkS.perm (WkS.cons rfl (Wk.refl _) (WkS.cons rfl (Wk.refl _) (WkS.cons rfl (Wk.refl _) (WkS.nil)))) Pf Pf)
  ·intro G125 s125 z125 hm
   refine Kd ?_
   refine pu ?_
   refine Kb ?_
   refine Kg ?_
   refine Kk rfl (fun hc206 => ?_) (fun hc206 => ?_)
   ·replace hm := yes_t hc206 hm
    refine Kp ?_
    refine Ka ?_
    refine Kg ?_
    refine KA ?_
    refine Kd ?_
    obtain ⟨x207, q207, hm⟩ := Kc hm
    refine p_idxA (d := .lst 2 (x207.map Kj) .no) htab rfl rfl rfl rfl rfl rfl rfl rfl rfl (Kz q207) (idx_lt' q207 rfl) (part_at0 (e := (eList 2 Kj)) (xs := ([a0.gF.gParams, a0.gF.gLocals] : List (List K8))) rfl q207) ?_
    refine pu ?_
    refine KK ?_
    refine pu ?_
    refine Kaa htab rfl rfl rfl rfl rfl rfl rfl (by first | exact KM | rfl) ?_
    refine pu ?_
    refine Kb ?_
    obtain ⟨x226, q226, ho226⟩ := Kc hm
    refine Kaq (τ := Unit) (Y := Unit) (fun y226 z226 => (⟨[(1, .v (.string a1)), (15, KeC (⟨a0.gF.gParams, a0.gF.gLocals⟩ : KeP)), (16, .v (.int .i64 s125))], [], []⟩ : S)) x226 ?_ ?_
    ·clear hm; have hm := Kw q226
     refine KA ?_
     obtain ⟨u227, hl227, hq227⟩ := yes_m hm
     refine Kav (Y := Unit) hl227 (fun s227 z227 => (⟨[(1, .v (.string a1)), (15, KeC (⟨a0.gF.gParams, a0.gF.gLocals⟩ : KeP)), (16, .v (.int .i64 s125)), (19, .lst 2 (x207.map Kj) .no), (20, .v (.int .i64 (x207.length : Int))), (21, .v (.int .i64 s227))], [], []⟩ : S)) ?_ ?_
     ·skip
      exact WkX.of () (WkS.perm (WkS.cons rfl (Wk.refl _) (WkS.cons rfl (Wk.refl _) (WkS.cons rfl (Wk.refl _) (WkS.cons rfl (Wk.refl _) (WkS.cons rfl (Wk.refl _) (WkS.cons rfl (Wk.refl _) (WkS.nil))))))) Pf Pf)
     ·intro G227 s227 z227 hm
      refine Kd ?_
      refine pu ?_
      refine Kb ?_
      refine Kg ?_
      refine Kk rfl (fun hc240 => ?_) (fun hc240 => ?_)
      ·replace hm := yes_t hc240 hm
       refine Kp ?_
       refine Ka ?_
       refine Kg ?_
       refine KA ?_
       refine Kd ?_
       obtain ⟨x241, q241, hm⟩ := Kc hm
       refine KaD htab rfl rfl rfl rfl rfl rfl rfl rfl rfl rfl (Kz q241) (KG q241) ?_
       refine Kat (d := Kj x241) htab rfl rfl rfl rfl rfl rfl rfl rfl ?_
       refine Kar htab rfl rfl rfl rfl rfl rfl rfl (fun b242 => ?_)
       refine pS0 (ds' := [.v (.string x241.gName), .v (.bool x241.gPtr)]) ?_
       refine KK ?_
       refine pu ?_
       refine pL 0 ?_
       refine pu ?_
       refine pu ?_
       refine Kb ?_
       refine Kk rfl (fun hc243 => ?_) (fun hc243 => ?_)
       ·replace hm := yes_t hc243 hm
        refine Kd ?_
        refine pu ?_
        refine pL 0 ?_
        obtain ⟨x244, q244, hm⟩ := Kc hm
        refine KN (KfO x241.gPtr x244 q244) rfl rfl rfl rfl rfl Wl ?_
        rintro _ rfl
        refine pu ?_
        refine Kb ?_
        refine Kr ?_
        refine KE ?_
        refine Kt ?_
        have e227 := KP hm; subst e227; clear hm; have hm := hq227
        refine Kt ?_
        refine KE ?_
        have e226 := Ke hm; subst e226; refine Kax ?_; clear hm; have hm := ho226; simp only [Sum.elim_inr] at hm
        refine KE ?_
        refine Kt ?_
        have e125 := KP hm; subst e125; clear hm; have hm := hq125
        refine Kt ?_
        refine KE ?_
        have e124 := Ke hm; subst e124; refine Kax ?_; clear hm; have hm := ho124; simp only [Sum.elim_inr] at hm
        refine Kt ?_
        have er245 := Ke hm; subst er245
        refine rP (t' := [(4, .v (.int .i64 x244))]) [] [] 0 (wC wN) (lT lN) ?_
        exact ⟨rfl, rfl, rfl⟩
       ·replace hm := yes_f hc243 hm
        refine Kp ?_
        refine KF ?_
        refine Ka ?_
        refine Kx ?_
        refine pu ?_
        refine pu ?_
        refine Ky ?_
        refine Ka ⟨_, Kam hm, ?_⟩
        exact WkX.of () (WkS.perm (WkS.cons rfl (Wk.refl _) (WkS.cons rfl (Wk.refl _) (WkS.cons rfl (Wk.refl _) (WkS.cons rfl (Wk.refl _) (WkS.cons rfl (Wk.refl _) (WkS.cons rfl (Wk.refl _) (WkS.nil))))))) Pf Pf)
      ·replace hm := yes_f hc240 hm
       refine Kad ?_
       refine KC ?_
       have e227 := KP hm; subst e227; clear hm; have hm := hq227
       refine KC ?_
       refine K7 ?_
       have e226 := Ke hm; subst e226
       refine Kaf ?_
       exact WkX.of () (WkS.perm (WkS.cons rfl (Wk.refl _) (WkS.cons rfl (Wk.refl _) (WkS.cons rfl (Wk.refl _) (WkS.nil)))) Pf Pf)
    ·intro y226 s226 hx226 hw226; subst hx226; clear hm; have hm := ho226; simp only [Sum.elim_inl] at hm; clear q226 ho226
     refine KF ?_
     refine Ka ?_
     refine KQ hw226 (fun z226 => ?_)
     refine Kx ?_
     refine pu ?_
     refine pu ?_
     refine Ky ?_
     refine Ka ⟨_, Kam hm, ?_⟩
     exact WkX.of () (WkS.perm (WkS.cons rfl (Wk.refl _) (WkS.cons rfl (Wk.refl _) (WkS.cons rfl (Wk.refl _) (WkS.nil)))) Pf Pf)
   ·replace hm := yes_f hc206 hm
    refine Kad ?_
    refine KC ?_
    have e125 := KP hm; subst e125; clear hm; have hm := hq125
    refine KC ?_
    refine K7 ?_
    have e124 := Ke hm; subst e124
    refine Kaf ?_
    exact WkX.of () (WkS.perm (WkS.nil) Pf Pf)
 ·intro y124 s124 hx124 hw124; subst hx124; clear hm; have hm := ho124; simp only [Sum.elim_inl] at hm; clear q124 ho124
  refine Ka ?_
  refine KQ hw124 (fun z124 => ?_)
  refine Kd ?_
  refine pu ?_
  refine Kb ?_
  refine Kr ?_
  have er246 := Ke hm; subst er246
  refine rP (t' := [(4, .v (.int .i64 (0 : Int)))]) [] [] 0 (wC wN) (lT lN) ?_
  exact ⟨rfl, rfl, rfl⟩
noncomputable def KaO (a0 : Kv) (a1 : ByteArray) : Option (Int) :=
 (Option.bind (α := (Unit) ⊕ (Int)) (loopM (fun (s35 : Int) => (bif (decide (s35 < (a0.gP.gGlobals.length : Int))) then ((idx a0.gP.gGlobals s35).bind fun x57 => (bif (decide (x57.gName = a1)) then (Option.bind (α := Bool) (bif (decide ((0 : Int) < x57.gSize)) then some (!x57.gPtr) else some false) fun y61 => (bif y61 then some (.done (.inr (3 : Int))) else ((KbS x57.gPtr).bind fun x65 => some (.done (.inr x65))))) else some (.next (IntKind.i64.wrap (s35 + (1 : Int)))))) else some (.done (.inl ())))) (0 : Int)) (Sum.elim (fun y34 => some (0 : Int)) (fun r => some r)))
theorem KdG (a0 : Kv) (a1 : ByteArray) (r : Int) (h0 : KaO a0 a1 = some r) : CallsD Tryz.prog 151 [KW a0, .v (.string a1)] [] [] (fun d h k => d = .v (.int .i64 r) ∧ h = [] ∧ k = []) := by
 have hm := Kw h0
 unfold KaO at hm
 clear h0
 refine K0 htab Tryz.func151 rfl rfl rfl rfl rfl (fun C => ?_)
 refine Kd ?_
 refine p_box rfl rfl rfl rfl rfl rfl rfl (fun b1 => ?_)
 refine pu ?_
 refine Kb ?_
 refine Kg ?_
 refine Kd ?_
 refine pu ?_
 refine pu ?_
 refine pL 0 ?_
 refine Kaa htab rfl rfl rfl rfl rfl rfl rfl (by first | exact KM | rfl) ?_
 refine pu ?_
 refine Kb ?_
 obtain ⟨x34, q34, ho34⟩ := Kc hm
 refine Kaq (τ := Unit) (Y := Unit) (fun y34 z34 => (⟨[], [], []⟩ : S)) x34 ?_ ?_
 ·clear hm; have hm := Kw q34
  refine KA ?_
  obtain ⟨u35, hl35, hq35⟩ := yes_m hm
  refine Kav (Y := Unit) hl35 (fun s35 z35 => (⟨[(1, .v (.string a1)), (9, .lst 4 (a0.gP.gGlobals.map Ks) .no), (10, .v (.int .i64 (a0.gP.gGlobals.length : Int))), (11, .v (.int .i64 s35))], [], []⟩ : S)) ?_ ?_
  ·skip
   exact WkX.of () (WkS.perm (WkS.cons rfl (Wk.refl _) (WkS.cons rfl (Wk.refl _) (WkS.cons rfl (Wk.refl _) (WkS.cons rfl (Wk.refl _) (WkS.nil))))) Pf Pf)
  ·intro G35 s35 z35 hm
   refine Kd ?_
   refine pu ?_
   refine Kb ?_
   refine Kg ?_
   refine Kk rfl (fun hc56 => ?_) (fun hc56 => ?_)
   ·replace hm := yes_t hc56 hm
    refine Kp ?_
    refine Ka ?_
    refine Kg ?_
    refine KA ?_
    refine Kd ?_
    obtain ⟨x57, q57, hm⟩ := Kc hm
    refine KaD htab rfl rfl rfl rfl rfl rfl rfl rfl rfl rfl (Kz q57) (KG q57) ?_
    refine Kat (d := Ks x57) htab rfl rfl rfl rfl rfl rfl rfl rfl ?_
    refine Kar htab rfl rfl rfl rfl rfl rfl rfl (fun b58 => ?_)
    refine pS0 (ds' := [.v (.string x57.gName), .v (.bool x57.gPtr), .v (.int .i64 x57.gSize), .v (.int .i64 x57.gAt)]) ?_
    refine KK ?_
    refine pu ?_
    refine pL 0 ?_
    refine pu ?_
    refine pu ?_
    refine Kb ?_
    refine Kk rfl (fun hc59 => ?_) (fun hc59 => ?_)
    ·replace hm := yes_t hc59 hm
     refine Kg ?_
     refine Kg ?_
     obtain ⟨y61, q61, ho61⟩ := Kc hm
     refine K5 (Y := Unit) (fun z61 => (⟨[(6, .ptr b58 0), (26, .v (.bool y61))], [(b58, Blk.cells [.v (.string x57.gName), .v (.bool x57.gPtr), .v (.int .i64 x57.gSize), .v (.int .i64 x57.gAt)] 67)], []⟩ : S)) ?_ ?_
     ·clear hm; have hm := Kw q61
      refine Kx ?_
      refine pu ?_
      refine pL 0 ?_
      refine pu ?_
      refine pu ?_
      refine Kaj (i := 22) rfl (fun hg62 => ?_) (fun hg62 => ?_)
      ·replace hm := yes_t hg62 hm
       refine pu ?_
       refine pL 0 ?_
       refine pu ?_
       refine K3 rfl rfl rfl rfl rfl rfl ?_
       refine Ky ?_
       have e61 := Ke hm; subst e61
       refine ⟨rfl, ?_⟩
       exact WkX.of () (WkS.perm (WkS.cons rfl (Wk.refl _) (WkS.cons rfl (Wk.refl _) (WkS.nil))) Pf Pf)
      ·replace hm := yes_f hg62 hm
       iterate 3 refine pK ?_
       refine KO rfl rfl rfl rfl rfl rfl ?_
       refine Ky ?_
       have e61 := Ke hm; subst e61
       refine ⟨rfl, ?_⟩
       exact WkX.of () (WkS.perm (WkS.cons rfl (Wk.refl _) (WkS.cons rfl (Wk.refl _) (WkS.nil))) Pf Pf)
     ·intro s61 hw61; clear hm; have hm := ho61; clear q61 ho61
      refine Ka ?_
      refine KQ hw61 (fun z61 => ?_)
      refine Kk rfl (fun hc63 => ?_) (fun hc63 => ?_)
      ·replace hm := yes_t hc63 hm
       refine Kd ?_
       refine pu ?_
       refine Kb ?_
       refine Kr ?_
       refine Kt ?_
       refine KE ?_
       refine Kt ?_
       have e35 := KP hm; subst e35; clear hm; have hm := hq35
       refine Kt ?_
       refine KE ?_
       have e34 := Ke hm; subst e34; refine Kax ?_; clear hm; have hm := ho34; simp only [Sum.elim_inr] at hm
       refine Kt ?_
       have er64 := Ke hm; subst er64
       refine rP (t' := [(4, .v (.int .i64 (3 : Int)))]) [] [] 0 (wC wN) (lT lN) ?_
       exact ⟨rfl, rfl, rfl⟩
      ·replace hm := yes_f hc63 hm
       refine Kp ?_
       refine Ka ?_
       refine Kd ?_
       refine pu ?_
       refine pL 0 ?_
       obtain ⟨x65, q65, hm⟩ := Kc hm
       refine KN (KfO x57.gPtr x65 q65) rfl rfl rfl rfl rfl Wl ?_
       rintro _ rfl
       refine pu ?_
       refine Kb ?_
       refine Kr ?_
       refine KE ?_
       refine Kt ?_
       have e35 := KP hm; subst e35; clear hm; have hm := hq35
       refine Kt ?_
       refine KE ?_
       have e34 := Ke hm; subst e34; refine Kax ?_; clear hm; have hm := ho34; simp only [Sum.elim_inr] at hm
       refine Kt ?_
       have er66 := Ke hm; subst er66
       refine rP (t' := [(4, .v (.int .i64 x65))]) [] [] 0 (wC wN) (lT lN) ?_
       exact ⟨rfl, rfl, rfl⟩
    ·replace hm := yes_f hc59 hm
     refine Kp ?_
     refine KF ?_
     refine Ka ?_
     refine Kx ?_
     refine pu ?_
     refine pu ?_
     refine Ky ?_
     refine Ka ⟨_, Kam hm, ?_⟩
     exact WkX.of () (WkS.perm (WkS.cons rfl (Wk.refl _) (WkS.cons rfl (Wk.refl _) (WkS.cons rfl (Wk.refl _) (WkS.cons rfl (Wk.refl _) (WkS.nil))))) Pf Pf)
   ·replace hm := yes_f hc56 hm
    refine Kad ?_
    refine KC ?_
    have e35 := KP hm; subst e35; clear hm; have hm := hq35
    refine KC ?_
    refine K7 ?_
    have e34 := Ke hm; subst e34
    refine Kaf ?_
    exact WkX.of () (WkS.perm (WkS.nil) Pf Pf)
 ·intro y34 s34 hx34 hw34; subst hx34; clear hm; have hm := ho34; simp only [Sum.elim_inl] at hm; clear q34 ho34
  refine Ka ?_
  refine KQ hw34 (fun z34 => ?_)
  refine Kd ?_
  refine pu ?_
  refine Kb ?_
  refine Kr ?_
  have er67 := Ke hm; subst er67
  refine rP (t' := [(4, .v (.int .i64 (0 : Int)))]) [] [] 0 (wC wN) (lT lN) ?_
  exact ⟨rfl, rfl, rfl⟩
noncomputable def KaG (a0 : Kv) (a1 : ByteArray) (a2 : Int) (a3 : List Int) : Option ((Int × Int) ⊕ (Int)) :=
 ((KbB a0 a1).bind fun x2 => (Option.bind (α := Int) (bif (x2 == (0 : Int)) then ((KaO a0 a1).bind fun x7 => some x7) else some x2) fun y5 => ((Kdk y5 a2 a3).bind fun x8 => Sum.elim (fun pe8 => some (.inl pe8)) (fun z8 => some (.inr z8)) x8)))
theorem Kau (a0 : Kv) (a1 : ByteArray) (a2 : Int) (a3 : List Int) (r : (Int × Int) ⊕ (Int)) (h0 : KaG a0 a1 a2 a3 = some r) : Kba zc Tryz.prog 180 [KW a0, .v (.string a1), .v (.int .i64 a2), .lst 1 (a3.map eI64) .no] [] [] r (fun r d h k => d = .v (.int .i64 r) ∧ h = [] ∧ k = []) := by
 have hm := Kw h0
 unfold KaG at hm
 clear h0
 refine Ke5 htab Tryz.func180 rfl rfl rfl rfl rfl (fun C => ?_)
 refine Kd ?_
 refine p_box rfl rfl rfl rfl rfl rfl rfl (fun b1 => ?_)
 refine pu ?_
 refine KK ?_
 refine Kai (d := KW a0) 0 htab rfl rfl rfl rfl rfl rfl rfl rfl ?_
 refine pu ?_
 obtain ⟨x2, q2, hm⟩ := Kc hm
 refine KN (KfP a0 a1 x2 q2) rfl rfl rfl rfl rfl Wl ?_
 rintro _ rfl
 refine pu ?_
 refine Kb ?_
 refine Kg ?_
 refine Kd ?_
 refine pu ?_
 refine pu ?_
 refine Kb ?_
 obtain ⟨y5, q5, ho5⟩ := Kc hm
 refine K5 (Y := Unit) (fun z5 => (⟨[(2, .v (.int .i64 a2)), (3, .lst 1 (a3.map eI64) .no), (9, .v (.int .i64 y5))], [], []⟩ : S)) ?_ ?_
 ·clear hm; have hm := Kw q5
  refine Kk rfl (fun hc6 => ?_) (fun hc6 => ?_)
  ·replace hm := yes_t hc6 hm
   refine Kx ?_
   refine Kai (d := KW a0) 0 htab rfl rfl rfl rfl rfl rfl rfl rfl ?_
   refine pu ?_
   obtain ⟨x7, q7, hm⟩ := Kc hm
   refine KN (KdG a0 a1 x7 q7) rfl rfl rfl rfl rfl Wl ?_
   rintro _ rfl
   refine pu ?_
   refine Ky ?_
   have e5 := Ke hm; subst e5
   refine ⟨rfl, ?_⟩
   exact WkX.of () (WkS.perm (WkS.cons rfl (Wk.refl _) (WkS.cons rfl (Wk.refl _) (WkS.cons rfl (Wk.refl _) (WkS.nil)))) Pf Pf)
  ·replace hm := yes_f hc6 hm
   refine Kp ?_
   have e5 := Ke hm; subst e5
   refine ⟨rfl, ?_⟩
   exact WkX.of () (WkS.perm (WkS.cons rfl (Wk.refl _) (WkS.cons rfl (Wk.refl _) (WkS.cons rfl (Wk.refl _) (WkS.nil)))) Pf Pf)
 ·intro s5 hw5; clear hm; have hm := ho5; clear q5 ho5
  refine Ka ?_
  refine KQ hw5 (fun z5 => ?_)
  refine Kd ?_
  iterate 3 refine pu ?_
  obtain ⟨x8, q8, hm⟩ := Kc hm
  rcases x8 with pe8 | z8
  ·simp only [Sum.elim_inl] at hm
   refine KaE (Kfg y5 a2 a3 (.inl pe8) q8) rfl rfl rfl Wl Pf Pf ?_
   refine KT ?_
   have er9 := Ke hm; subst er9; exact Kao
  simp only [Sum.elim_inr] at hm
  refine KN (Kfg y5 a2 a3 (.inr z8) q8) rfl rfl rfl rfl rfl Wl ?_
  rintro _ rfl
  refine pu ?_
  refine Kb ?_
  refine Kr ?_
  have er10 := Ke hm; subst er10; refine KbA ?_
  refine rP (t' := [(8, .v (.int .i64 z8))]) [] [] 0 (wC wN) (lT lN) ?_
  exact ⟨rfl, rfl, rfl⟩
noncomputable def Kbg (a0 : Kv) (a1 : Kh) (a2 : Int) : Option ((Int × Int) ⊕ (Int)) :=
 ((KaO a0 a1.gName).bind fun x3 => ((KbB a0 a1.gName).bind fun x4 => (Option.bind (α := Int) (bif (x4 != (0 : Int)) then some (2 : Int) else some x3) fun y6 => ((Kdk y6 a1.gAt ([a2] : List Int)).bind fun x8 => Sum.elim (fun pe8 => some (.inl pe8)) (fun z8 => some (.inr (2 : Int))) x8))))
theorem Kcy (a0 : Kv) (a1 : Kh) (a2 : Int) (r : (Int × Int) ⊕ (Int)) (h0 : Kbg a0 a1 a2 = some r) : Kba zc Tryz.prog 211 [KW a0, Kn a1, .v (.int .i64 a2)] [] [] r (fun r d h k => d = .v (.int .i64 r) ∧ h = [] ∧ k = []) := by
 have hm := Kw h0
 unfold Kbg at hm
 clear h0
 refine Ke5 htab Tryz.func211 rfl rfl rfl rfl rfl (fun C => ?_)
 refine w_eq (i := 1) rfl (Wk.of_eq (KD a1)) ?_
 refine Kd ?_
 refine p_box rfl rfl rfl rfl rfl rfl rfl (fun b1 => ?_)
 refine p_box rfl rfl rfl rfl rfl rfl rfl (fun b2 => ?_)
 refine pu ?_
 refine KK ?_
 refine Kai (d := KW a0) 0 htab rfl rfl rfl rfl rfl rfl rfl rfl ?_
 refine pu ?_
 refine pL 1 ?_
 obtain ⟨x3, q3, hm⟩ := Kc hm
 refine KN (KdG a0 a1.gName x3 q3) rfl rfl rfl rfl rfl Wl ?_
 rintro _ rfl
 refine pu ?_
 refine Kb ?_
 refine Kg ?_
 refine Kd ?_
 refine Kai (d := KW a0) 0 htab rfl rfl rfl rfl rfl rfl rfl rfl ?_
 refine pu ?_
 refine pL 1 ?_
 obtain ⟨x4, q4, hm⟩ := Kc hm
 refine KN (KfP a0 a1.gName x4 q4) rfl rfl rfl rfl rfl Wl ?_
 rintro _ rfl
 refine pu ?_
 refine Kb ?_
 obtain ⟨y6, q6, ho6⟩ := Kc hm
 refine K5 (Y := Unit) (fun z6 => (⟨[(2, .v (.int .i64 a2)), (4, .ptr b2 0), (7, .v (.int .i64 y6))], [(b2, Blk.cells [.v (.int .i64 a1.gOp), .v (.int .i64 a1.gN), .v (.string a1.gName), .lst 5 (a1.gKids.map Kn) .no, .v (.int .i64 a1.gAt)] 166)], []⟩ : S)) ?_ ?_
 ·clear hm; have hm := Kw q6
  refine Kk rfl (fun hc7 => ?_) (fun hc7 => ?_)
  ·replace hm := yes_t hc7 hm
   refine Kx ?_
   refine pu ?_
   refine Ky ?_
   have e6 := Ke hm; subst e6
   refine ⟨rfl, ?_⟩
   exact WkX.of () (WkS.perm (WkS.cons rfl (Wk.refl _) (WkS.cons rfl (Wk.refl _) (WkS.cons rfl (Wk.refl _) (WkS.nil)))) ((Kah (j := 1) rfl).trans (List.Perm.cons _ Pf)) Pf)
  ·replace hm := yes_f hc7 hm
   refine Kp ?_
   have e6 := Ke hm; subst e6
   refine ⟨rfl, ?_⟩
   exact WkX.of () (WkS.perm (WkS.cons rfl (Wk.refl _) (WkS.cons rfl (Wk.refl _) (WkS.cons rfl (Wk.refl _) (WkS.nil)))) ((Kah (j := 1) rfl).trans (List.Perm.cons _ Pf)) Pf)
 ·intro s6 hw6; clear hm; have hm := ho6; clear q6 ho6
  refine Ka ?_
  refine KQ hw6 (fun z6 => ?_)
  refine Kd ?_
  refine pu ?_
  refine pu ?_
  refine pL 0 ?_
  refine pu ?_
  refine p_lit htab rfl rfl rfl rfl rfl rfl rfl rfl rfl rfl rfl rfl rfl rfl ?_
  refine p_eq (i := 21) (d' := .lst 1 (([a2] : List Int).map eI64) .full) rfl (Wk.lst0 (.cons (WkC.refl _) (.nil))) ?_
  obtain ⟨x8, q8, hm⟩ := Kc hm
  rcases x8 with pe8 | z8
  ·simp only [Sum.elim_inl] at hm
   refine KaE (Kfg y6 a1.gAt ([a2] : List Int) (.inl pe8) q8) rfl rfl rfl (WkL.cons (Wk.refl _) (WkL.cons (Wk.refl _) (WkL.cons (Wk.no) Wl))) Pf Pf ?_
   refine KT ?_
   have er9 := Ke hm; subst er9; exact Kao
  simp only [Sum.elim_inr] at hm
  refine KN (Kfg y6 a1.gAt ([a2] : List Int) (.inr z8) q8) rfl rfl rfl rfl rfl (WkL.cons (Wk.refl _) (WkL.cons (Wk.refl _) (WkL.cons (Wk.no) Wl))) ?_
  rintro _ rfl
  refine KK ?_
  refine pu ?_
  refine Kb ?_
  refine Kr ?_
  have er10 := Ke hm; subst er10; refine KbA ?_
  refine rP (t' := [(6, .v (.int .i64 (2 : Int)))]) [] [] 0 (wC wN) (lT lN) ?_
  exact ⟨rfl, rfl, rfl⟩
noncomputable def Kbi (a0 : Kv) : Option ((Int × Int) ⊕ (Unit)) :=
 (Option.bind (α := (List (ByteArray × Int)) ⊕ ((Int × Int) ⊕ (Unit))) (loopM (fun (s374 : Int × List (ByteArray × Int)) => (bif (decide (s374.1 < (2 : Int))) then ((idx ([a0.gF.gParams, a0.gF.gLocals] : List (List K8)) s374.1).bind fun x652 => (Option.bind (α := (List (ByteArray × Int)) ⊕ ((Int × Int) ⊕ (Unit))) (loopM (fun (s698 : Int × List (ByteArray × Int)) => (bif (decide (s698.1 < (x652.length : Int))) then ((idx x652 s698.1).bind fun x733 => (Option.bind (α := Bool) (bif (decide ((1 : Int) < (mgetD (mput s698.2 x733.gName (IntKind.i64.wrap ((mgetD s698.2 x733.gName (0 : Int)) + (1 : Int)))) x733.gName (0 : Int)))) then some true else ((KaO a0 x733.gName).bind fun x739 => some (x739 != (0 : Int)))) fun y737 => (bif y737 then ((Kaz a0.gF.gAt (8 : Int)).bind fun x741 => Sum.elim (fun pe741 => some (.done (.inr (.inl pe741)))) (fun z741 => some (.next ((IntKind.i64.wrap (s698.1 + (1 : Int))), (mput s698.2 x733.gName (IntKind.i64.wrap ((mgetD s698.2 x733.gName (0 : Int)) + (1 : Int))))))) x741) else some (.next ((IntKind.i64.wrap (s698.1 + (1 : Int))), (mput s698.2 x733.gName (IntKind.i64.wrap ((mgetD s698.2 x733.gName (0 : Int)) + (1 : Int))))))))) else some (.done (.inl s698.2)))) ((0 : Int), s374.2)) (Sum.elim (fun y697 => some (.next ((IntKind.i64.wrap (s374.1 + (1 : Int))), y697))) (fun r => some (.done (.inr r)))))) else some (.done (.inl s374.2)))) ((0 : Int), ([] : List (ByteArray × Int)))) (Sum.elim (fun y373 => some (.inr ())) (fun r => some r)))
theorem Ki5 (a0 : Kv) (r : (Int × Int) ⊕ (Unit)) (h0 : Kbi a0 = some r) : Kba zc Tryz.prog 123 [KW a0] [] [] r (fun r d h k => d = .tup [] ∧ h = [] ∧ k = []) := by
 have hm := Kw h0
 unfold Kbi at hm
 clear h0
 refine Ke5 htab Tryz.func123 rfl rfl rfl rfl rfl (fun C => ?_)
 refine Kd ?_
 refine p_box rfl rfl rfl rfl rfl rfl rfl (fun b1 => ?_)
 refine KK ?_
 refine KlK rfl rfl rfl rfl (fun b2 => ?_)
 refine pu ?_
 refine KK ?_
 refine pu ?_
 refine pu ?_
 refine pL 1 ?_
 refine pu ?_
 refine pu ?_
 refine pL 1 ?_
 refine p_buildA (r := [.lst 2 (a0.gF.gParams.map Kj) .no, .lst 2 (a0.gF.gLocals.map Kj) .no]) htab rfl rfl rfl rfl rfl rfl rfl rfl rfl ?_
 refine pu ?_
 refine Kb ?_
 obtain ⟨x373, q373, ho373⟩ := Kc hm
 refine Kaq (τ := List (ByteArray × Int)) (Y := Unit) (fun y373 z373 => (⟨[], [], []⟩ : S)) x373 ?_ ?_
 ·clear hm; have hm := Kw q373
  refine KA ?_
  obtain ⟨u374, hl374, hq374⟩ := yes_m hm
  refine Kav (Y := Unit) hl374 (fun s374 z374 => (⟨[(1, .ptr b1 0), (2, .v (.map (some b2))), (14, KeC (⟨a0.gF.gParams, a0.gF.gLocals⟩ : KeP)), (15, .v (.int .i64 s374.1))], [(b2, Blk.mp (s374.2.map fun p => ((fun s : ByteArray => Value.string s) p.1, eI64 p.2))), (b1, Blk.cells [.lst 4 (a0.gP.gGlobals.map Ks) .no, .lst 5 (a0.gP.gFuncs.map Ko) .no, .v (.string a0.gF.gName), .lst 2 (a0.gF.gParams.map Kj) .no, .lst 2 (a0.gF.gLocals.map Kj) .no, .lst 7 (a0.gF.gBody.map Kf) .no, .v (.int .i64 a0.gF.gAt)] 192)], []⟩ : S)) ?_ ?_
  ·skip
   exact WkX.of () (WkS.perm (WkS.cons rfl (Wk.refl _) (WkS.cons rfl (Wk.refl _) (WkS.cons rfl (Wk.refl _) (WkS.cons rfl (Wk.refl _) (WkS.nil))))) Pf Pf)
  ·intro G374 s374 z374 hm
   refine Kd ?_
   refine pu ?_
   refine Kb ?_
   refine Kg ?_
   refine Kk rfl (fun hc651 => ?_) (fun hc651 => ?_)
   ·replace hm := yes_t hc651 hm
    refine Kp ?_
    refine Ka ?_
    refine Kg ?_
    refine KA ?_
    refine Kd ?_
    obtain ⟨x652, q652, hm⟩ := Kc hm
    refine p_idxA (d := .lst 2 (x652.map Kj) .no) htab rfl rfl rfl rfl rfl rfl rfl rfl rfl (Kz q652) (idx_lt' q652 rfl) (part_at0 (e := (eList 2 Kj)) (xs := ([a0.gF.gParams, a0.gF.gLocals] : List (List K8))) rfl q652) ?_
    refine pu ?_
    refine KK ?_
    refine pu ?_
    refine Kaa htab rfl rfl rfl rfl rfl rfl rfl (by first | exact KM | rfl) ?_
    refine pu ?_
    refine Kb ?_
    obtain ⟨x697, q697, ho697⟩ := Kc hm
    refine Kaq (τ := List (ByteArray × Int)) (Y := Unit) (fun y697 z697 => (⟨[(1, .ptr b1 0), (2, .v (.map (some b2))), (14, KeC (⟨a0.gF.gParams, a0.gF.gLocals⟩ : KeP)), (15, .v (.int .i64 s374.1))], [(b2, Blk.mp (y697.map fun p => ((fun s : ByteArray => Value.string s) p.1, eI64 p.2))), (b1, Blk.cells [.lst 4 (a0.gP.gGlobals.map Ks) .no, .lst 5 (a0.gP.gFuncs.map Ko) .no, .v (.string a0.gF.gName), .lst 2 (a0.gF.gParams.map Kj) .no, .lst 2 (a0.gF.gLocals.map Kj) .no, .lst 7 (a0.gF.gBody.map Kf) .no, .v (.int .i64 a0.gF.gAt)] 192)], []⟩ : S)) x697 ?_ ?_
    ·clear hm; have hm := Kw q697
     refine KA ?_
     obtain ⟨u698, hl698, hq698⟩ := yes_m hm
     refine Kav (Y := Unit) hl698 (fun s698 z698 => (⟨[(1, .ptr b1 0), (2, .v (.map (some b2))), (14, KeC (⟨a0.gF.gParams, a0.gF.gLocals⟩ : KeP)), (15, .v (.int .i64 s374.1)), (18, .lst 2 (x652.map Kj) .no), (19, .v (.int .i64 (x652.length : Int))), (20, .v (.int .i64 s698.1))], [(b2, Blk.mp (s698.2.map fun p => ((fun s : ByteArray => Value.string s) p.1, eI64 p.2))), (b1, Blk.cells [.lst 4 (a0.gP.gGlobals.map Ks) .no, .lst 5 (a0.gP.gFuncs.map Ko) .no, .v (.string a0.gF.gName), .lst 2 (a0.gF.gParams.map Kj) .no, .lst 2 (a0.gF.gLocals.map Kj) .no, .lst 7 (a0.gF.gBody.map Kf) .no, .v (.int .i64 a0.gF.gAt)] 192)], []⟩ : S)) ?_ ?_
     ·skip
      exact WkX.of () (WkS.perm (WkS.cons rfl (Wk.refl _) (WkS.cons rfl (Wk.refl _) (WkS.cons rfl (Wk.refl _) (WkS.cons rfl (Wk.refl _) (WkS.cons rfl (Wk.refl _) (WkS.cons rfl (Wk.refl _) (WkS.cons rfl (Wk.refl _) (WkS.nil)))))))) Pf Pf)
     ·intro G698 s698 z698 hm
      refine Kd ?_
      refine pu ?_
      refine Kb ?_
      refine Kg ?_
      refine Kk rfl (fun hc732 => ?_) (fun hc732 => ?_)
      ·replace hm := yes_t hc732 hm
       refine Kp ?_
       refine Ka ?_
       refine Kg ?_
       refine KA ?_
       refine Kd ?_
       obtain ⟨x733, q733, hm⟩ := Kc hm
       refine KaD htab rfl rfl rfl rfl rfl rfl rfl rfl rfl rfl (Kz q733) (KG q733) ?_
       refine Kat (d := Kj x733) htab rfl rfl rfl rfl rfl rfl rfl rfl ?_
       refine Kar htab rfl rfl rfl rfl rfl rfl rfl (fun b734 => ?_)
       refine pS2 (ds' := [.v (.string x733.gName), .v (.bool x733.gPtr)]) ?_
       refine KK ?_
       refine pu ?_
       refine pu ?_
       refine pL 2 ?_
       refine Kge (l := s698.2) (f := (fun s : ByteArray => Value.string s)) (e := eI64) (kk := x733.gName) (z := (0 : Int)) (dr := .v (.int .i64 (mgetD s698.2 x733.gName (0 : Int)))) 0 htab rfl rfl rfl rfl rfl rfl rfl rfl rfl rfl mk187 (fun H v h => K1 h) mz187 mr187 rfl ?_
       refine pu ?_
       refine KhW (l := s698.2) (f := (fun s : ByteArray => Value.string s)) (e := eI64) (kk := x733.gName) (vv := (IntKind.i64.wrap ((mgetD s698.2 x733.gName (0 : Int)) + (1 : Int)))) (h' := [(b2, Blk.mp ((mput s698.2 x733.gName (IntKind.i64.wrap ((mgetD s698.2 x733.gName (0 : Int)) + (1 : Int)))).map fun p => ((fun s : ByteArray => Value.string s) p.1, eI64 p.2))), (b1, Blk.cells [.lst 4 (a0.gP.gGlobals.map Ks) .no, .lst 5 (a0.gP.gFuncs.map Ko) .no, .v (.string a0.gF.gName), .lst 2 (a0.gF.gParams.map Kj) .no, .lst 2 (a0.gF.gLocals.map Kj) .no, .lst 7 (a0.gF.gBody.map Kf) .no, .v (.int .i64 a0.gF.gAt)] 192), (b734, Blk.cells [.v (.string x733.gName), .v (.bool x733.gPtr)] 85)]) 0 htab rfl rfl rfl rfl rfl rfl rfl rfl rfl rfl mk187 (fun H v h => K1 h) (Wk.refl _) rfl ?_
       refine Kb ?_
       refine Kg ?_
       obtain ⟨y737, q737, ho737⟩ := Kc hm
       refine K5 (Y := Unit) (fun z737 => (⟨[(1, .ptr b1 0), (2, .v (.map (some b2))), (14, KeC (⟨a0.gF.gParams, a0.gF.gLocals⟩ : KeP)), (15, .v (.int .i64 s374.1)), (18, .lst 2 (x652.map Kj) .no), (19, .v (.int .i64 (x652.length : Int))), (20, .v (.int .i64 s698.1)), (40, .v (.bool y737))], [(b2, Blk.mp ((mput s698.2 x733.gName (IntKind.i64.wrap ((mgetD s698.2 x733.gName (0 : Int)) + (1 : Int)))).map fun p => ((fun s : ByteArray => Value.string s) p.1, eI64 p.2))), (b1, Blk.cells [.lst 4 (a0.gP.gGlobals.map Ks) .no, .lst 5 (a0.gP.gFuncs.map Ko) .no, .v (.string a0.gF.gName), .lst 2 (a0.gF.gParams.map Kj) .no, .lst 2 (a0.gF.gLocals.map Kj) .no, .lst 7 (a0.gF.gBody.map Kf) .no, .v (.int .i64 a0.gF.gAt)] 192)], []⟩ : S)) ?_ ?_
       ·clear hm; have hm := Kw q737
        refine Kx ?_
        refine pu ?_
        refine pu ?_
        refine pL 2 ?_
        refine Kge (l := (mput s698.2 x733.gName (IntKind.i64.wrap ((mgetD s698.2 x733.gName (0 : Int)) + (1 : Int))))) (f := (fun s : ByteArray => Value.string s)) (e := eI64) (kk := x733.gName) (z := (0 : Int)) (dr := .v (.int .i64 (mgetD (mput s698.2 x733.gName (IntKind.i64.wrap ((mgetD s698.2 x733.gName (0 : Int)) + (1 : Int)))) x733.gName (0 : Int)))) 0 htab rfl rfl rfl rfl rfl rfl rfl rfl rfl rfl mk187 (fun H v h => K1 h) mz187 mr187 rfl ?_
        refine pu ?_
        refine pu ?_
        refine Kaj (i := 34) rfl (fun hg738 => ?_) (fun hg738 => ?_)
        ·replace hm := yes_t hg738 hm
         iterate 5 refine pK ?_
         refine K3 rfl rfl rfl rfl rfl rfl ?_
         refine Ky ?_
         have e737 := Ke hm; subst e737
         refine ⟨rfl, ?_⟩
         exact WkX.of () (WkS.perm (WkS.cons rfl (Wk.refl _) (WkS.cons rfl (Wk.refl _) (WkS.cons rfl (Wk.refl _) (WkS.cons rfl (Wk.refl _) (WkS.cons rfl (Wk.refl _) (WkS.cons rfl (Wk.refl _) (WkS.cons rfl (Wk.refl _) (WkS.cons rfl (Wk.refl _) (WkS.nil))))))))) Pf Pf)
        ·replace hm := yes_f hg738 hm
         refine Kai (d := KW a0) 1 htab rfl rfl rfl rfl rfl rfl rfl rfl ?_
         refine pu ?_
         refine pL 2 ?_
         obtain ⟨x739, q739, hm⟩ := Kc hm
         refine KN (KdG a0 x733.gName x739 q739) rfl rfl rfl rfl rfl Wl ?_
         rintro _ rfl
         refine pu ?_
         refine KO rfl rfl rfl rfl rfl rfl ?_
         refine Ky ?_
         have e737 := Ke hm; subst e737
         refine ⟨rfl, ?_⟩
         exact WkX.of () (WkS.perm (WkS.cons rfl (Wk.refl _) (WkS.cons rfl (Wk.refl _) (WkS.cons rfl (Wk.refl _) (WkS.cons rfl (Wk.refl _) (WkS.cons rfl (Wk.refl _) (WkS.cons rfl (Wk.refl _) (WkS.cons rfl (Wk.refl _) (WkS.cons rfl (Wk.refl _) (WkS.nil))))))))) Pf Pf)
       ·intro s737 hw737; clear hm; have hm := ho737; clear q737 ho737
        refine Ka ?_
        refine KQ hw737 (fun z737 => ?_)
        refine Kk rfl (fun hc740 => ?_) (fun hc740 => ?_)
        ·replace hm := yes_t hc740 hm
         refine Kx ?_
         refine pu ?_
         refine pu ?_
         refine pL 1 ?_
         obtain ⟨x741, q741, hm⟩ := Kc hm
         rcases x741 with pe741 | z741
         ·simp only [Sum.elim_inl] at hm
          refine KaE (KaK a0.gF.gAt (8 : Int) (.inl pe741) q741) rfl rfl rfl Wl Pf Pf ?_
          refine Kal ?_
          refine KT ?_
          have e698 := KP hm; subst e698; clear hm; have hm := hq698
          refine KT ?_
          refine Kal ?_
          have e697 := Ke hm; subst e697; refine Kab ?_; clear hm; have hm := ho697; simp only [Sum.elim_inr] at hm
          refine Kal ?_
          refine KT ?_
          have e374 := KP hm; subst e374; clear hm; have hm := hq374
          refine KT ?_
          refine Kal ?_
          have e373 := Ke hm; subst e373; refine Kab ?_; clear hm; have hm := ho373; simp only [Sum.elim_inr] at hm
          have er742 := Ke hm; subst er742; exact Kao
         simp only [Sum.elim_inr] at hm
         refine KN (KaK a0.gF.gAt (8 : Int) (.inr z741) q741) rfl rfl rfl rfl rfl Wl ?_
         rintro _ rfl
         refine Ky ?_
         refine KF ?_
         refine Ka ?_
         refine Kx ?_
         refine pu ?_
         refine pu ?_
         refine Ky ?_
         refine Ka ⟨_, Kam hm, ?_⟩
         exact WkX.of () (WkS.perm (WkS.cons rfl (Wk.refl _) (WkS.cons rfl (Wk.refl _) (WkS.cons rfl (Wk.refl _) (WkS.cons rfl (Wk.refl _) (WkS.cons rfl (Wk.refl _) (WkS.cons rfl (Wk.refl _) (WkS.cons rfl (Wk.refl _) (WkS.nil)))))))) Pf Pf)
        ·replace hm := yes_f hc740 hm
         refine Kp ?_
         refine KF ?_
         refine Ka ?_
         refine Kx ?_
         refine pu ?_
         refine pu ?_
         refine Ky ?_
         refine Ka ⟨_, Kam hm, ?_⟩
         exact WkX.of () (WkS.perm (WkS.cons rfl (Wk.refl _) (WkS.cons rfl (Wk.refl _) (WkS.cons rfl (Wk.refl _) (WkS.cons rfl (Wk.refl _) (WkS.cons rfl (Wk.refl _) (WkS.cons rfl (Wk.refl _) (WkS.cons rfl (Wk.refl _) (WkS.nil)))))))) Pf Pf)
      ·replace hm := yes_f hc732 hm
       refine Kad ?_
       refine KC ?_
       have e698 := KP hm; subst e698; clear hm; have hm := hq698
       refine KC ?_
       refine K7 ?_
       have e697 := Ke hm; subst e697
       refine Kaf ?_
       exact WkX.of () (WkS.perm (WkS.cons rfl (Wk.refl _) (WkS.cons rfl (Wk.refl _) (WkS.cons rfl (Wk.refl _) (WkS.cons rfl (Wk.refl _) (WkS.nil))))) Pf Pf)
    ·intro y697 s697 hx697 hw697; subst hx697; clear hm; have hm := ho697; simp only [Sum.elim_inl] at hm; clear q697 ho697
     refine KF ?_
     refine Ka ?_
     refine KQ hw697 (fun z697 => ?_)
     refine Kx ?_
     refine pu ?_
     refine pu ?_
     refine Ky ?_
     refine Ka ⟨_, Kam hm, ?_⟩
     exact WkX.of () (WkS.perm (WkS.cons rfl (Wk.refl _) (WkS.cons rfl (Wk.refl _) (WkS.cons rfl (Wk.refl _) (WkS.cons rfl (Wk.refl _) (WkS.nil))))) Pf Pf)
   ·replace hm := yes_f hc651 hm
    refine Kad ?_
    refine KC ?_
    have e374 := KP hm; subst e374; clear hm; have hm := hq374
    refine KC ?_
    refine K7 ?_
    have e373 := Ke hm; subst e373
    refine Kaf ?_
    exact WkX.of () (WkS.perm (WkS.nil) Pf Pf)
 ·intro y373 s373 hx373 hw373; subst hx373; clear hm; have hm := ho373; simp only [Sum.elim_inl] at hm; clear q373 ho373
  have er743 := Ke hm; subst er743; refine KbA ?_
  refine retX.wkX hw373 (fun z373 => ?_)
  refine rP (t' := []) [] [] 0 wN lN ?_
  exact ⟨rfl, rfl, rfl⟩
noncomputable def KdZ (a0 : Ki) : Option (Int) :=
 (Option.bind (α := Bool) (bif (a0.gOp == (1 : Int)) then some (a0.gOp == (1 : Int)) else (Option.bind (α := Bool) (bif (a0.gOp == (3 : Int)) then some (a0.gOp == (3 : Int)) else (Option.bind (α := Bool) (bif (a0.gOp == (6 : Int)) then some (a0.gOp == (6 : Int)) else (Option.bind (α := Bool) (bif (a0.gOp == (7 : Int)) then some (a0.gOp == (7 : Int)) else (Option.bind (α := Bool) (bif (a0.gOp == (8 : Int)) then some (a0.gOp == (8 : Int)) else some (a0.gOp == (9 : Int))) fun y25 => some y25)) fun y22 => some y22)) fun y18 => some y18)) fun y13 => some y13)) fun y7 => (bif y7 then some (1 : Int) else (bif (a0.gOp == (2 : Int)) then some (2 : Int) else (bif (a0.gOp == (4 : Int)) then some (a0.gExps.length : Int) else (bif (a0.gOp == (5 : Int)) then some (0 : Int) else some (-1 : Int))))))
theorem KlS (a0 : Ki) (r : Int) (h0 : KdZ a0 = some r) : CallsD Tryz.prog 178 [Kf a0] [] [] (fun d h k => d = .v (.int .i64 r) ∧ h = [] ∧ k = []) := by
 have hm := Kw h0
 unfold KdZ at hm
 clear h0
 refine K0 htab Tryz.func178 rfl rfl rfl rfl rfl (fun C => ?_)
 refine w_eq (i := 0) rfl (Wk.of_eq (KU a0)) ?_
 refine Kd ?_
 refine p_box rfl rfl rfl rfl rfl rfl rfl (fun b1 => ?_)
 refine pu ?_
 refine Kb ?_
 refine Kg ?_
 refine Kd ?_
 refine pu ?_
 refine pL 0 ?_
 refine Kb ?_
 refine KA ?_
 refine Kg ?_
 refine Kd ?_
 refine pu ?_
 refine pu ?_
 refine Kb ?_
 obtain ⟨y7, q7, ho7⟩ := Kc hm
 refine K5 (Y := Unit) (fun z7 => (⟨[(1, .ptr b1 0), (4, .v (.int .i64 a0.gOp)), (5, .v (.bool y7))], [(b1, Blk.cells [.v (.int .i64 a0.gOp), .v (.string a0.gName), .v (.string a0.gFunc), .lst 5 (a0.gExps.map Kn) .no, .lst 7 (a0.gKids.map Kf) .no, .lst 7 (a0.gElse.map Kf) .no, .v (.int .i64 a0.gAt)] 121)], []⟩ : S)) ?_ ?_
 ·clear hm; have hm := Kw q7
  refine Kk rfl (fun hc8 => ?_) (fun hc8 => ?_)
  ·replace hm := yes_t hc8 hm
   refine Kp ?_
   have e7 := Ke hm; subst e7
   refine ⟨rfl, ?_⟩
   exact WkX.of () (WkS.perm (WkS.cons rfl (Wk.refl _) (WkS.cons rfl (Wk.refl _) (WkS.cons rfl (Wk.refl _) (WkS.nil)))) Pf Pf)
  ·replace hm := yes_f hc8 hm
   refine Kd ?_
   refine pu ?_
   refine pu ?_
   refine Kb ?_
   obtain ⟨y13, q13, ho13⟩ := Kc hm
   refine K5 (Y := Unit) (fun z13 => (⟨[(1, .ptr b1 0), (4, .v (.int .i64 a0.gOp)), (5, .v (.bool y13))], [(b1, Blk.cells [.v (.int .i64 a0.gOp), .v (.string a0.gName), .v (.string a0.gFunc), .lst 5 (a0.gExps.map Kn) .no, .lst 7 (a0.gKids.map Kf) .no, .lst 7 (a0.gElse.map Kf) .no, .v (.int .i64 a0.gAt)] 121)], []⟩ : S)) ?_ ?_
   ·clear hm; have hm := Kw q13
    refine Kk rfl (fun hc14 => ?_) (fun hc14 => ?_)
    ·replace hm := yes_t hc14 hm
     refine Kp ?_
     have e13 := Ke hm; subst e13
     refine ⟨rfl, ?_⟩
     exact WkX.of () (WkS.perm (WkS.cons rfl (Wk.refl _) (WkS.cons rfl (Wk.refl _) (WkS.cons rfl (Wk.refl _) (WkS.nil)))) Pf Pf)
    ·replace hm := yes_f hc14 hm
     refine Kd ?_
     refine pu ?_
     refine pu ?_
     refine Kb ?_
     obtain ⟨y18, q18, ho18⟩ := Kc hm
     refine K5 (Y := Unit) (fun z18 => (⟨[(1, .ptr b1 0), (4, .v (.int .i64 a0.gOp)), (5, .v (.bool y18))], [(b1, Blk.cells [.v (.int .i64 a0.gOp), .v (.string a0.gName), .v (.string a0.gFunc), .lst 5 (a0.gExps.map Kn) .no, .lst 7 (a0.gKids.map Kf) .no, .lst 7 (a0.gElse.map Kf) .no, .v (.int .i64 a0.gAt)] 121)], []⟩ : S)) ?_ ?_
     ·clear hm; have hm := Kw q18
      refine Kk rfl (fun hc19 => ?_) (fun hc19 => ?_)
      ·replace hm := yes_t hc19 hm
       refine Kp ?_
       have e18 := Ke hm; subst e18
       refine ⟨rfl, ?_⟩
       exact WkX.of () (WkS.perm (WkS.cons rfl (Wk.refl _) (WkS.cons rfl (Wk.refl _) (WkS.cons rfl (Wk.refl _) (WkS.nil)))) Pf Pf)
      ·replace hm := yes_f hc19 hm
       refine Kd ?_
       refine pu ?_
       refine pu ?_
       refine Kb ?_
       obtain ⟨y22, q22, ho22⟩ := Kc hm
       refine K5 (Y := Unit) (fun z22 => (⟨[(1, .ptr b1 0), (4, .v (.int .i64 a0.gOp)), (5, .v (.bool y22))], [(b1, Blk.cells [.v (.int .i64 a0.gOp), .v (.string a0.gName), .v (.string a0.gFunc), .lst 5 (a0.gExps.map Kn) .no, .lst 7 (a0.gKids.map Kf) .no, .lst 7 (a0.gElse.map Kf) .no, .v (.int .i64 a0.gAt)] 121)], []⟩ : S)) ?_ ?_
       ·clear hm; have hm := Kw q22
        refine Kk rfl (fun hc23 => ?_) (fun hc23 => ?_)
        ·replace hm := yes_t hc23 hm
         refine Kp ?_
         have e22 := Ke hm; subst e22
         refine ⟨rfl, ?_⟩
         exact WkX.of () (WkS.perm (WkS.cons rfl (Wk.refl _) (WkS.cons rfl (Wk.refl _) (WkS.cons rfl (Wk.refl _) (WkS.nil)))) Pf Pf)
        ·replace hm := yes_f hc23 hm
         refine Kd ?_
         refine pu ?_
         refine pu ?_
         refine Kb ?_
         obtain ⟨y25, q25, ho25⟩ := Kc hm
         refine K5 (Y := Unit) (fun z25 => (⟨[(1, .ptr b1 0), (4, .v (.int .i64 a0.gOp)), (5, .v (.bool y25))], [(b1, Blk.cells [.v (.int .i64 a0.gOp), .v (.string a0.gName), .v (.string a0.gFunc), .lst 5 (a0.gExps.map Kn) .no, .lst 7 (a0.gKids.map Kf) .no, .lst 7 (a0.gElse.map Kf) .no, .v (.int .i64 a0.gAt)] 121)], []⟩ : S)) ?_ ?_
         ·clear hm; have hm := Kw q25
          refine Kk rfl (fun hc26 => ?_) (fun hc26 => ?_)
          ·replace hm := yes_t hc26 hm
           refine Kp ?_
           have e25 := Ke hm; subst e25
           refine ⟨rfl, ?_⟩
           exact WkX.of () (WkS.perm (WkS.cons rfl (Wk.refl _) (WkS.cons rfl (Wk.refl _) (WkS.cons rfl (Wk.refl _) (WkS.nil)))) Pf Pf)
          ·replace hm := yes_f hc26 hm
           refine Kx ?_
           refine pu ?_
           refine pu ?_
           refine Ky ?_
           have e25 := Ke hm; subst e25
           refine ⟨rfl, ?_⟩
           exact WkX.of () (WkS.perm (WkS.cons rfl (Wk.refl _) (WkS.cons rfl (Wk.refl _) (WkS.cons rfl (Wk.refl _) (WkS.nil)))) Pf Pf)
         ·intro s25 hw25; clear hm; have hm := ho25; clear q25 ho25
          have e22 := Ke hm; subst e22
          refine ⟨rfl, ?_⟩
          refine WkX.trans hw25 (fun z25 => ?_)
          exact WkX.of () (WkS.perm (WkS.cons rfl (Wk.refl _) (WkS.cons rfl (Wk.refl _) (WkS.cons rfl (Wk.refl _) (WkS.nil)))) Pf Pf)
       ·intro s22 hw22; clear hm; have hm := ho22; clear q22 ho22
        have e18 := Ke hm; subst e18
        refine ⟨rfl, ?_⟩
        refine WkX.trans hw22 (fun z22 => ?_)
        exact WkX.of () (WkS.perm (WkS.cons rfl (Wk.refl _) (WkS.cons rfl (Wk.refl _) (WkS.cons rfl (Wk.refl _) (WkS.nil)))) Pf Pf)
     ·intro s18 hw18; clear hm; have hm := ho18; clear q18 ho18
      have e13 := Ke hm; subst e13
      refine ⟨rfl, ?_⟩
      refine WkX.trans hw18 (fun z18 => ?_)
      exact WkX.of () (WkS.perm (WkS.cons rfl (Wk.refl _) (WkS.cons rfl (Wk.refl _) (WkS.cons rfl (Wk.refl _) (WkS.nil)))) Pf Pf)
   ·intro s13 hw13; clear hm; have hm := ho13; clear q13 ho13
    have e7 := Ke hm; subst e7
    refine ⟨rfl, ?_⟩
    refine WkX.trans hw13 (fun z13 => ?_)
    exact WkX.of () (WkS.perm (WkS.cons rfl (Wk.refl _) (WkS.cons rfl (Wk.refl _) (WkS.cons rfl (Wk.refl _) (WkS.nil)))) Pf Pf)
 ·intro s7 hw7; clear hm; have hm := ho7; clear q7 ho7
  refine Ka ?_
  refine KQ hw7 (fun z7 => ?_)
  refine Kk rfl (fun hc27 => ?_) (fun hc27 => ?_)
  ·replace hm := yes_t hc27 hm
   refine Kd ?_
   refine pu ?_
   refine Kb ?_
   refine Kr ?_
   refine KE ?_
   refine Kt ?_
   have er28 := Ke hm; subst er28
   refine rP (t' := [(2, .v (.int .i64 (1 : Int)))]) [] [] 0 (wC wN) (lT lN) ?_
   exact ⟨rfl, rfl, rfl⟩
  ·replace hm := yes_f hc27 hm
   refine Kd ?_
   refine pu ?_
   refine pu ?_
   refine Kb ?_
   refine Kk rfl (fun hc29 => ?_) (fun hc29 => ?_)
   ·replace hm := yes_t hc29 hm
    refine Kd ?_
    refine pu ?_
    refine Kb ?_
    refine Kr ?_
    refine KE ?_
    refine Kt ?_
    have er30 := Ke hm; subst er30
    refine rP (t' := [(2, .v (.int .i64 (2 : Int)))]) [] [] 0 (wC wN) (lT lN) ?_
    exact ⟨rfl, rfl, rfl⟩
   ·replace hm := yes_f hc29 hm
    refine Kd ?_
    refine pu ?_
    refine pu ?_
    refine Kb ?_
    refine Kk rfl (fun hc31 => ?_) (fun hc31 => ?_)
    ·replace hm := yes_t hc31 hm
     refine Kd ?_
     refine pu ?_
     refine pL 0 ?_
     refine Kaa htab rfl rfl rfl rfl rfl rfl rfl (by first | exact KM | rfl) ?_
     refine pu ?_
     refine Kb ?_
     refine Kr ?_
     refine KE ?_
     refine Kt ?_
     have er32 := Ke hm; subst er32
     refine rP (t' := [(2, .v (.int .i64 (a0.gExps.length : Int)))]) [] [] 0 (wC wN) (lT lN) ?_
     exact ⟨rfl, rfl, rfl⟩
    ·replace hm := yes_f hc31 hm
     refine Kd ?_
     refine pu ?_
     refine pu ?_
     refine Kb ?_
     refine Kk rfl (fun hc33 => ?_) (fun hc33 => ?_)
     ·replace hm := yes_t hc33 hm
      refine Kd ?_
      refine pu ?_
      refine Kb ?_
      refine Kr ?_
      refine KE ?_
      refine Kt ?_
      have er34 := Ke hm; subst er34
      refine rP (t' := [(2, .v (.int .i64 (0 : Int)))]) [] [] 0 (wC wN) (lT lN) ?_
      exact ⟨rfl, rfl, rfl⟩
     ·replace hm := yes_f hc33 hm
      refine Kp ?_
      refine KF ?_
      refine Ka ?_
      refine Kd ?_
      refine pu ?_
      refine Kb ?_
      refine Kr ?_
      have er35 := Ke hm; subst er35
      refine rP (t' := [(2, .v (.int .i64 (-1 : Int)))]) [] [] 0 (wC wN) (lT lN) ?_
      exact ⟨rfl, rfl, rfl⟩
noncomputable def Kd0 (a0 : Int) : Option (Int) :=
 (Option.bind (α := (Unit) ⊕ (Int)) (Option.bind (α := Bool) (bif (a0 == (1 : Int)) then some (a0 == (1 : Int)) else (Option.bind (α := Bool) (bif (a0 == (2 : Int)) then some (a0 == (2 : Int)) else (Option.bind (α := Bool) (bif (a0 == (4 : Int)) then some (a0 == (4 : Int)) else (Option.bind (α := Bool) (bif (a0 == (18 : Int)) then some (a0 == (18 : Int)) else some (a0 == (19 : Int))) fun y44 => some y44)) fun y41 => some y41)) fun y37 => some y37)) fun y32 => (Option.bind (α := (Unit) ⊕ (Int)) (bif y32 then some (.inr (0 : Int)) else (Option.bind (α := Bool) (bif (a0 == (3 : Int)) then some (a0 == (3 : Int)) else (Option.bind (α := Bool) (bif (a0 == (20 : Int)) then some (a0 == (20 : Int)) else (Option.bind (α := Bool) (bif (a0 == (5 : Int)) then some (a0 == (5 : Int)) else some (a0 == (6 : Int))) fun y67 => some y67)) fun y64 => some y64)) fun y60 => (bif y60 then some (.inr (1 : Int)) else some (.inl ())))) (Sum.elim (fun y54 => some (.inl ())) (fun r => some (.inr r))))) (Sum.elim (fun y27 => (bif (decide ((7 : Int) ≤ a0)) then (bif (decide (a0 ≤ (17 : Int))) then some (2 : Int) else some (-1 : Int)) else some (-1 : Int))) (fun r => some r)))
theorem KlT (a0 : Int) (r : Int) (h0 : Kd0 a0 = some r) : CallsD Tryz.prog 210 [.v (.int .i64 a0)] [] [] (fun d h k => d = .v (.int .i64 r) ∧ h = [] ∧ k = []) := by
 have hm := Kw h0
 unfold Kd0 at hm
 clear h0
 refine K0 htab Tryz.func210 rfl rfl rfl rfl rfl (fun C => ?_)
 refine Kd ?_
 refine pu ?_
 refine Kb ?_
 refine Kg ?_
 refine Kd ?_
 refine pu ?_
 refine Kb ?_
 obtain ⟨x27, q27, ho27⟩ := Kc hm
 refine Kaq (τ := Unit) (Y := Unit) (fun y27 z27 => (⟨[(0, .v (.int .i64 a0))], [], []⟩ : S)) x27 ?_ ?_
 ·clear hm; have hm := Kw q27
  refine KA ?_
  refine Kg ?_
  refine Kd ?_
  refine pu ?_
  refine pu ?_
  refine Kb ?_
  obtain ⟨y32, q32, ho32⟩ := Kc hm
  refine K5 (Y := Unit) (fun z32 => (⟨[(0, .v (.int .i64 a0)), (3, .v (.int .i64 a0)), (4, .v (.bool y32))], [], []⟩ : S)) ?_ ?_
  ·clear hm; have hm := Kw q32
   refine Kk rfl (fun hc33 => ?_) (fun hc33 => ?_)
   ·replace hm := yes_t hc33 hm
    refine Kp ?_
    have e32 := Ke hm; subst e32
    refine ⟨rfl, ?_⟩
    exact WkX.of () (WkS.perm (WkS.cons rfl (Wk.refl _) (WkS.cons rfl (Wk.refl _) (WkS.cons rfl (Wk.refl _) (WkS.nil)))) Pf Pf)
   ·replace hm := yes_f hc33 hm
    refine Kd ?_
    refine pu ?_
    refine pu ?_
    refine Kb ?_
    obtain ⟨y37, q37, ho37⟩ := Kc hm
    refine K5 (Y := Unit) (fun z37 => (⟨[(0, .v (.int .i64 a0)), (3, .v (.int .i64 a0)), (4, .v (.bool y37))], [], []⟩ : S)) ?_ ?_
    ·clear hm; have hm := Kw q37
     refine Kk rfl (fun hc38 => ?_) (fun hc38 => ?_)
     ·replace hm := yes_t hc38 hm
      refine Kp ?_
      have e37 := Ke hm; subst e37
      refine ⟨rfl, ?_⟩
      exact WkX.of () (WkS.perm (WkS.cons rfl (Wk.refl _) (WkS.cons rfl (Wk.refl _) (WkS.cons rfl (Wk.refl _) (WkS.nil)))) Pf Pf)
     ·replace hm := yes_f hc38 hm
      refine Kd ?_
      refine pu ?_
      refine pu ?_
      refine Kb ?_
      obtain ⟨y41, q41, ho41⟩ := Kc hm
      refine K5 (Y := Unit) (fun z41 => (⟨[(0, .v (.int .i64 a0)), (3, .v (.int .i64 a0)), (4, .v (.bool y41))], [], []⟩ : S)) ?_ ?_
      ·clear hm; have hm := Kw q41
       refine Kk rfl (fun hc42 => ?_) (fun hc42 => ?_)
       ·replace hm := yes_t hc42 hm
        refine Kp ?_
        have e41 := Ke hm; subst e41
        refine ⟨rfl, ?_⟩
        exact WkX.of () (WkS.perm (WkS.cons rfl (Wk.refl _) (WkS.cons rfl (Wk.refl _) (WkS.cons rfl (Wk.refl _) (WkS.nil)))) Pf Pf)
       ·replace hm := yes_f hc42 hm
        refine Kd ?_
        refine pu ?_
        refine pu ?_
        refine Kb ?_
        obtain ⟨y44, q44, ho44⟩ := Kc hm
        refine K5 (Y := Unit) (fun z44 => (⟨[(0, .v (.int .i64 a0)), (3, .v (.int .i64 a0)), (4, .v (.bool y44))], [], []⟩ : S)) ?_ ?_
        ·clear hm; have hm := Kw q44
         refine Kk rfl (fun hc45 => ?_) (fun hc45 => ?_)
         ·replace hm := yes_t hc45 hm
          refine Kp ?_
          have e44 := Ke hm; subst e44
          refine ⟨rfl, ?_⟩
          exact WkX.of () (WkS.perm (WkS.cons rfl (Wk.refl _) (WkS.cons rfl (Wk.refl _) (WkS.cons rfl (Wk.refl _) (WkS.nil)))) Pf Pf)
         ·replace hm := yes_f hc45 hm
          refine Kx ?_
          refine pu ?_
          refine pu ?_
          refine Ky ?_
          have e44 := Ke hm; subst e44
          refine ⟨rfl, ?_⟩
          exact WkX.of () (WkS.perm (WkS.cons rfl (Wk.refl _) (WkS.cons rfl (Wk.refl _) (WkS.cons rfl (Wk.refl _) (WkS.nil)))) Pf Pf)
        ·intro s44 hw44; clear hm; have hm := ho44; clear q44 ho44
         have e41 := Ke hm; subst e41
         refine ⟨rfl, ?_⟩
         refine WkX.trans hw44 (fun z44 => ?_)
         exact WkX.of () (WkS.perm (WkS.cons rfl (Wk.refl _) (WkS.cons rfl (Wk.refl _) (WkS.cons rfl (Wk.refl _) (WkS.nil)))) Pf Pf)
      ·intro s41 hw41; clear hm; have hm := ho41; clear q41 ho41
       have e37 := Ke hm; subst e37
       refine ⟨rfl, ?_⟩
       refine WkX.trans hw41 (fun z41 => ?_)
       exact WkX.of () (WkS.perm (WkS.cons rfl (Wk.refl _) (WkS.cons rfl (Wk.refl _) (WkS.cons rfl (Wk.refl _) (WkS.nil)))) Pf Pf)
    ·intro s37 hw37; clear hm; have hm := ho37; clear q37 ho37
     have e32 := Ke hm; subst e32
     refine ⟨rfl, ?_⟩
     refine WkX.trans hw37 (fun z37 => ?_)
     exact WkX.of () (WkS.perm (WkS.cons rfl (Wk.refl _) (WkS.cons rfl (Wk.refl _) (WkS.cons rfl (Wk.refl _) (WkS.nil)))) Pf Pf)
  ·intro s32 hw32; clear hm; have hm := ho32; clear q32 ho32
   refine Ka ?_
   refine KQ hw32 (fun z32 => ?_)
   obtain ⟨x54, q54, ho54⟩ := Kc hm
   refine Kaq (τ := Unit) (Y := Unit) (fun y54 z54 => (⟨[(0, .v (.int .i64 a0))], [], []⟩ : S)) x54 ?_ ?_
   ·clear hm; have hm := Kw q54
    refine Kk rfl (fun hc55 => ?_) (fun hc55 => ?_)
    ·replace hm := yes_t hc55 hm
     refine Kd ?_
     refine pu ?_
     refine Kb ?_
     refine Kr ?_
     have e54 := Ke hm; subst e54; refine Kax ?_; clear hm; have hm := ho54; simp only [Sum.elim_inr] at hm
     refine KE ?_
     have e27 := Ke hm; subst e27; refine Kax ?_; clear hm; have hm := ho27; simp only [Sum.elim_inr] at hm
     refine Kt ?_
     have er56 := Ke hm; subst er56
     refine rP (t' := [(2, .v (.int .i64 (0 : Int)))]) [] [] 0 (wC wN) (lT lN) ?_
     exact ⟨rfl, rfl, rfl⟩
    ·replace hm := yes_f hc55 hm
     refine Kg ?_
     refine Kd ?_
     refine pu ?_
     refine pu ?_
     refine Kb ?_
     obtain ⟨y60, q60, ho60⟩ := Kc hm
     refine K5 (Y := Unit) (fun z60 => (⟨[(0, .v (.int .i64 a0)), (10, .v (.bool y60))], [], []⟩ : S)) ?_ ?_
     ·clear hm; have hm := Kw q60
      refine Kk rfl (fun hc61 => ?_) (fun hc61 => ?_)
      ·replace hm := yes_t hc61 hm
       refine Kp ?_
       have e60 := Ke hm; subst e60
       refine ⟨rfl, ?_⟩
       exact WkX.of () (WkS.perm (WkS.cons rfl (Wk.refl _) (WkS.cons rfl (Wk.refl _) (WkS.nil))) Pf Pf)
      ·replace hm := yes_f hc61 hm
       refine Kd ?_
       refine pu ?_
       refine pu ?_
       refine Kb ?_
       obtain ⟨y64, q64, ho64⟩ := Kc hm
       refine K5 (Y := Unit) (fun z64 => (⟨[(0, .v (.int .i64 a0)), (10, .v (.bool y64))], [], []⟩ : S)) ?_ ?_
       ·clear hm; have hm := Kw q64
        refine Kk rfl (fun hc65 => ?_) (fun hc65 => ?_)
        ·replace hm := yes_t hc65 hm
         refine Kp ?_
         have e64 := Ke hm; subst e64
         refine ⟨rfl, ?_⟩
         exact WkX.of () (WkS.perm (WkS.cons rfl (Wk.refl _) (WkS.cons rfl (Wk.refl _) (WkS.nil))) Pf Pf)
        ·replace hm := yes_f hc65 hm
         refine Kd ?_
         refine pu ?_
         refine pu ?_
         refine Kb ?_
         obtain ⟨y67, q67, ho67⟩ := Kc hm
         refine K5 (Y := Unit) (fun z67 => (⟨[(0, .v (.int .i64 a0)), (10, .v (.bool y67))], [], []⟩ : S)) ?_ ?_
         ·clear hm; have hm := Kw q67
          refine Kk rfl (fun hc68 => ?_) (fun hc68 => ?_)
          ·replace hm := yes_t hc68 hm
           refine Kp ?_
           have e67 := Ke hm; subst e67
           refine ⟨rfl, ?_⟩
           exact WkX.of () (WkS.perm (WkS.cons rfl (Wk.refl _) (WkS.cons rfl (Wk.refl _) (WkS.nil))) Pf Pf)
          ·replace hm := yes_f hc68 hm
           refine Kx ?_
           refine pu ?_
           refine pu ?_
           refine Ky ?_
           have e67 := Ke hm; subst e67
           refine ⟨rfl, ?_⟩
           exact WkX.of () (WkS.perm (WkS.cons rfl (Wk.refl _) (WkS.cons rfl (Wk.refl _) (WkS.nil))) Pf Pf)
         ·intro s67 hw67; clear hm; have hm := ho67; clear q67 ho67
          have e64 := Ke hm; subst e64
          refine ⟨rfl, ?_⟩
          refine WkX.trans hw67 (fun z67 => ?_)
          exact WkX.of () (WkS.perm (WkS.cons rfl (Wk.refl _) (WkS.cons rfl (Wk.refl _) (WkS.nil))) Pf Pf)
       ·intro s64 hw64; clear hm; have hm := ho64; clear q64 ho64
        have e60 := Ke hm; subst e60
        refine ⟨rfl, ?_⟩
        refine WkX.trans hw64 (fun z64 => ?_)
        exact WkX.of () (WkS.perm (WkS.cons rfl (Wk.refl _) (WkS.cons rfl (Wk.refl _) (WkS.nil))) Pf Pf)
     ·intro s60 hw60; clear hm; have hm := ho60; clear q60 ho60
      refine Ka ?_
      refine KQ hw60 (fun z60 => ?_)
      refine Kk rfl (fun hc70 => ?_) (fun hc70 => ?_)
      ·replace hm := yes_t hc70 hm
       refine Kd ?_
       refine pu ?_
       refine Kb ?_
       refine Kr ?_
       have e54 := Ke hm; subst e54; refine Kax ?_; clear hm; have hm := ho54; simp only [Sum.elim_inr] at hm
       refine KE ?_
       have e27 := Ke hm; subst e27; refine Kax ?_; clear hm; have hm := ho27; simp only [Sum.elim_inr] at hm
       refine Kt ?_
       have er71 := Ke hm; subst er71
       refine rP (t' := [(2, .v (.int .i64 (1 : Int)))]) [] [] 0 (wC wN) (lT lN) ?_
       exact ⟨rfl, rfl, rfl⟩
      ·replace hm := yes_f hc70 hm
       refine Kp ?_
       have e54 := Ke hm; subst e54
       refine Kaf ?_
       exact WkX.of () (WkS.perm (WkS.cons rfl (Wk.refl _) (WkS.nil)) Pf Pf)
   ·intro y54 s54 hx54 hw54; subst hx54; clear hm; have hm := ho54; simp only [Sum.elim_inl] at hm; clear q54 ho54
    refine KF ?_
    have e27 := Ke hm; subst e27
    refine Kaf ?_
    refine WkX.trans hw54 (fun z54 => ?_)
    exact WkX.of () (WkS.perm (WkS.cons rfl (Wk.refl _) (WkS.nil)) Pf Pf)
 ·intro y27 s27 hx27 hw27; subst hx27; clear hm; have hm := ho27; simp only [Sum.elim_inl] at hm; clear q27 ho27
  refine Ka ?_
  refine KQ hw27 (fun z27 => ?_)
  refine Kg ?_
  refine Kd ?_
  iterate 3 refine pu ?_
  refine Kaj (i := 17) rfl (fun hg72 => ?_) (fun hg72 => ?_)
  ·replace hm := yes_t hg72 hm
   refine pu ?_
   refine pu ?_
   refine K3 rfl rfl rfl rfl rfl rfl ?_
   refine Kb ?_
   refine Kk rfl (fun hc73 => ?_) (fun hc73 => ?_)
   ·replace hm := yes_t hc73 hm
    refine Kd ?_
    refine pu ?_
    refine Kb ?_
    refine Kr ?_
    refine Kt ?_
    have er74 := Ke hm; subst er74
    refine rP (t' := [(2, .v (.int .i64 (2 : Int)))]) [] [] 0 (wC wN) (lT lN) ?_
    exact ⟨rfl, rfl, rfl⟩
   ·replace hm := yes_f hc73 hm
    refine Kp ?_
    refine Ka ?_
    refine Kd ?_
    refine pu ?_
    refine Kb ?_
    refine Kr ?_
    have er75 := Ke hm; subst er75
    refine rP (t' := [(2, .v (.int .i64 (-1 : Int)))]) [] [] 0 (wC wN) (lT lN) ?_
    exact ⟨rfl, rfl, rfl⟩
  ·replace hm := yes_f hg72 hm
   refine pK ?_
   refine pK ?_
   refine KO rfl rfl rfl rfl rfl rfl ?_
   refine Kb ?_
   refine KeB rfl ?_
   refine Kp ?_
   refine Ka ?_
   refine Kd ?_
   refine pu ?_
   refine Kb ?_
   refine Kr ?_
   have er76 := Ke hm; subst er76
   refine rP (t' := [(2, .v (.int .i64 (-1 : Int)))]) [] [] 0 (wC wN) (lT lN) ?_
   exact ⟨rfl, rfl, rfl⟩
noncomputable def KaX (g0 : (Kv) → (List Kh) → Option ((Int × Int) ⊕ (List Int))) (g1 : (Kv) → (Kh) → Option ((Int × Int) ⊕ (Int))) (a0 : Kv) (a1 : List Kh) : Option ((Int × Int) ⊕ (List Int)) :=
 (Option.bind (α := (List Int) ⊕ ((Int × Int) ⊕ (List Int))) (loopM (fun (s23 : List Int × Int) => (bif (decide (s23.2 < (a1.length : Int))) then ((idx a1 s23.2).bind fun x38 => ((g1 a0 x38).bind fun x40 => Sum.elim (fun pe40 => some (.done (.inr (.inl pe40)))) (fun z40 => ((app 8 s23.1 ([z40] : List Int)).bind fun x42 => some (.next (x42, (IntKind.i64.wrap (s23.2 + (1 : Int))))))) x40)) else some (.done (.inl s23.1)))) (([] : List Int), (0 : Int))) (Sum.elim (fun y22 => some (.inr y22)) (fun r => some r)))
theorem Kil (g0 : (Kv) → (List Kh) → Option ((Int × Int) ⊕ (List Int))) (g1 : (Kv) → (Kh) → Option ((Int × Int) ⊕ (Int))) (hg0 : ∀ (a0 : Kv) (a1 : List Kh) (r : (Int × Int) ⊕ (List Int)) (h0 : g0 a0 a1 = some r), Kba zc Tryz.prog 179 [KW a0, .lst 5 (a1.map Kn) .no] [] [] r (fun r d h k => ∃ y0, d = .lst 1 (r.map eI64) (.cur y0) ∧ h = [] ∧ k = [(1, y0)])) (hg1 : ∀ (a0 : Kv) (a1 : Kh) (r : (Int × Int) ⊕ (Int)) (h0 : g1 a0 a1 = some r), Kba zc Tryz.prog 198 [KW a0, Kn a1] [] [] r (fun r d h k => d = .v (.int .i64 r) ∧ h = [] ∧ k = [])) (a0 : Kv) (a1 : List Kh) (r : (Int × Int) ⊕ (List Int)) (h0 : KaX g0 g1 a0 a1 = some r) : Kba zc Tryz.prog 179 [KW a0, .lst 5 (a1.map Kn) .no] [] [] r (fun r d h k => ∃ y0, d = .lst 1 (r.map eI64) (.cur y0) ∧ h = [] ∧ k = [(1, y0)]) := by
 have hm := Kw h0
 unfold KaX at hm
 clear h0
 refine Ke5 htab Tryz.func179 rfl rfl rfl rfl rfl (fun C => ?_)
 refine Kd ?_
 refine p_box rfl rfl rfl rfl rfl rfl rfl (fun b1 => ?_)
 refine pu ?_
 refine KK ?_
 refine pu ?_
 refine Kb ?_
 refine Kg ?_
 refine Kd ?_
 refine pu ?_
 refine Kaa htab rfl rfl rfl rfl rfl rfl rfl (by first | exact KM | rfl) ?_
 refine pu ?_
 refine Kb ?_
 obtain ⟨x22, q22, ho22⟩ := Kc hm
 refine Kaq (τ := List Int) (Y := Value) (fun y22 z22 => (⟨[(5, .lst 1 (y22.map eI64) (.cur z22))], [], [(1, z22)]⟩ : S)) x22 ?_ ?_
 ·clear hm; have hm := Kw q22
  refine KA ?_
  obtain ⟨u23, hl23, hq23⟩ := yes_m hm
  refine Kav (Y := Value) hl23 (fun s23 z23 => (⟨[(2, .ptr b1 0), (5, .lst 1 (s23.1.map eI64) (.cur z23)), (8, .lst 5 (a1.map Kn) .no), (9, .v (.int .i64 (a1.length : Int))), (10, .v (.int .i64 s23.2))], [(b1, Blk.cells [.lst 4 (a0.gP.gGlobals.map Ks) .no, .lst 5 (a0.gP.gFuncs.map Ko) .no, .v (.string a0.gF.gName), .lst 2 (a0.gF.gParams.map Kj) .no, .lst 2 (a0.gF.gLocals.map Kj) .no, .lst 7 (a0.gF.gBody.map Kf) .no, .v (.int .i64 a0.gF.gAt)] 192)], [(1, z23)]⟩ : S)) ?_ ?_
  ·skip
   refine WkX.tokN (i := 5) 1 rfl (fun w36 => ?_)
   exact WkX.of w36 (WkS.perm (WkS.cons rfl (Wk.refl _) (WkS.cons rfl (Wk.refl _) (WkS.cons rfl (Wk.refl _) (WkS.cons rfl (Wk.refl _) (WkS.cons rfl (Wk.refl _) (WkS.nil)))))) Pf Pf)
  ·intro G23 s23 z23 hm
   refine Kd ?_
   refine pu ?_
   refine Kb ?_
   refine Kg ?_
   refine Kk rfl (fun hc37 => ?_) (fun hc37 => ?_)
   ·replace hm := yes_t hc37 hm
    refine Kp ?_
    refine Ka ?_
    refine Kg ?_
    refine KA ?_
    refine Kd ?_
    obtain ⟨x38, q38, hm⟩ := Kc hm
    refine KaD htab rfl rfl rfl rfl rfl rfl rfl rfl rfl rfl (Kz q38) (KG q38) ?_
    refine p_eq (i := 12) rfl (Wk.of_eq (congrArg D.el (KD x38))) ?_
    refine Kat (d := .agg [.v (.int .i64 x38.gOp), .v (.int .i64 x38.gN), .v (.string x38.gName), .lst 5 (x38.gKids.map Kn) .no, .v (.int .i64 x38.gAt)]) htab rfl rfl rfl rfl rfl rfl rfl rfl ?_
    refine Kar htab rfl rfl rfl rfl rfl rfl rfl (fun b39 => ?_)
    refine pS1 (ds' := [.v (.int .i64 x38.gOp), .v (.int .i64 x38.gN), .v (.string x38.gName), .lst 5 (x38.gKids.map Kn) .no, .v (.int .i64 x38.gAt)]) ?_
    refine Kb ?_
    refine Kx ?_
    refine pu ?_
    refine Kai (d := KW a0) 0 htab rfl rfl rfl rfl rfl rfl rfl rfl ?_
    refine Kai (d := .agg [.v (.int .i64 x38.gOp), .v (.int .i64 x38.gN), .v (.string x38.gName), .lst 5 (x38.gKids.map Kn) .no, .v (.int .i64 x38.gAt)]) 1 htab rfl rfl rfl rfl rfl rfl rfl rfl ?_
    obtain ⟨x40, q40, hm⟩ := Kc hm
    rcases x40 with pe40 | z40
    ·simp only [Sum.elim_inl] at hm
     refine KaE (hg1 a0 x38 (.inl pe40) q40) rfl rfl rfl (WkL.cons (Wk.refl _) (WkL.cons (Wk.trans (Wk.agg (WkR.refl _)) (Wk.of_eq (KD x38).symm)) Wl)) Pf Pf ?_
     refine Kal ?_
     refine KT ?_
     have e23 := KP hm; subst e23; clear hm; have hm := hq23
     refine KT ?_
     refine Kal ?_
     have e22 := Ke hm; subst e22; refine Kab ?_; clear hm; have hm := ho22; simp only [Sum.elim_inr] at hm
     refine KT ?_
     have er41 := Ke hm; subst er41; exact Kao
    simp only [Sum.elim_inr] at hm
    refine KN (hg1 a0 x38 (.inr z40) q40) rfl rfl rfl rfl rfl (WkL.cons (Wk.refl _) (WkL.cons (Wk.trans (Wk.agg (WkR.refl _)) (Wk.of_eq (KD x38).symm)) Wl)) ?_
    rintro _ rfl
    refine p_lit htab rfl rfl rfl rfl rfl rfl rfl rfl rfl rfl rfl rfl rfl rfl ?_
    refine p_eq (i := 18) (d' := .lst 1 (([z40] : List Int).map eI64) .full) rfl (Wk.lst0 (.cons (WkC.refl _) (.nil))) ?_
    obtain ⟨x42, q42, hm⟩ := Kc hm
    refine Ke3 0 htab rfl rfl rfl rfl rfl rfl rfl rfl rfl rfl rfl rfl rfl rfl rfl rfl rfl (Kb5 q42) (fun v42 => ?_)
    refine Ke4 (i := 19) q42 rfl ?_
    refine pu ?_
    refine Ky ?_
    refine KF ?_
    refine Ka ?_
    refine Kx ?_
    refine pu ?_
    refine pu ?_
    refine Ky ?_
    refine Ka ⟨_, Kam hm, ?_⟩
    exact WkX.of v42 (WkS.perm (WkS.cons rfl (Wk.refl _) (WkS.cons rfl (Wk.refl _) (WkS.cons rfl (Wk.refl _) (WkS.cons rfl (Wk.refl _) (WkS.cons rfl (Wk.refl _) (WkS.nil)))))) Pf Pf)
   ·replace hm := yes_f hc37 hm
    refine Kad ?_
    refine KC ?_
    have e23 := KP hm; subst e23; clear hm; have hm := hq23
    refine KC ?_
    refine K7 ?_
    have e22 := Ke hm; subst e22
    refine Kaf ?_
    exact WkX.of z23 (WkS.perm (WkS.cons rfl (Wk.refl _) (WkS.nil)) Pf Pf)
 ·intro y22 s22 hx22 hw22; subst hx22; clear hm; have hm := ho22; simp only [Sum.elim_inl] at hm; clear q22 ho22
  refine Ka ?_
  refine KQ hw22 (fun z22 => ?_)
  refine Kd ?_
  refine pu ?_
  refine pu ?_
  refine Kb ?_
  refine Kr ?_
  have er43 := Ke hm; subst er43; refine KbA ?_
  refine rP (t' := [(4, .lst 1 (y22.map eI64) (.cur z22))]) [] [0] 0 (wC wN) (lT lN) ?_
  exact ⟨z22, rfl, rfl, rfl⟩
noncomputable def KaY (g0 : (Kv) → (List Kh) → Option ((Int × Int) ⊕ (List Int))) (g1 : (Kv) → (Kh) → Option ((Int × Int) ⊕ (Int))) (a0 : Kv) (a1 : Kh) : Option ((Int × Int) ⊕ (Int)) :=
 ((Kd0 a1.gOp).bind fun x3 => (Option.bind (α := Bool) (bif (decide (x3 < (0 : Int))) then some true else some ((a1.gKids.length : Int) != x3)) fun y5 => (Option.bind (α := (Unit) ⊕ ((Int × Int) ⊕ (Int))) (bif y5 then ((Kaz a1.gAt (2 : Int)).bind fun x11 => Sum.elim (fun pe11 => some (.inr (.inl pe11))) (fun z11 => some (.inl ())) x11) else some (.inl ())) (Sum.elim (fun y9 => ((g0 a0 a1.gKids).bind fun x14 => Sum.elim (fun pe14 => some (.inl pe14)) (fun z14 => (Option.bind (α := Bool) (bif (a1.gOp == (14 : Int)) then some true else some (a1.gOp == (15 : Int))) fun y17 => (bif y17 then ((idx z14 (0 : Int)).bind fun x26 => ((idx z14 (1 : Int)).bind fun x27 => (Option.bind (α := (Unit) ⊕ ((Int × Int) ⊕ (Int))) (bif (x26 != x27) then ((idx a1.gKids (1 : Int)).bind fun x33 => ((Kaz x33.gAt (9 : Int)).bind fun x34 => Sum.elim (fun pe34 => some (.inr (.inl pe34))) (fun z34 => some (.inl ())) x34)) else some (.inl ())) (Sum.elim (fun y31 => some (.inr (1 : Int))) (fun r => some r))))) else (Option.bind (α := (Unit) ⊕ ((Int × Int) ⊕ (Int))) (loopM (fun (s57 : Int) => (bif (decide (s57 < (a1.gKids.length : Int))) then ((idx a1.gKids s57).bind fun x71 => ((idx z14 s57).bind fun x73 => ((Kbu x71 x73).bind fun x74 => Sum.elim (fun pe74 => some (.done (.inr (.inl pe74)))) (fun z74 => some (.next (IntKind.i64.wrap (s57 + (1 : Int))))) x74))) else some (.done (.inl ())))) (0 : Int)) (Sum.elim (fun y56 => (bif (a1.gOp == (2 : Int)) then ((KaG a0 a1.gName a1.gAt ([(1 : Int), (2 : Int)] : List Int)).bind fun x77 => Sum.elim (fun pe77 => some (.inl pe77)) (fun z77 => some (.inr z77)) x77) else (bif (a1.gOp == (3 : Int)) then ((KaG a0 a1.gName a1.gAt ([(3 : Int)] : List Int)).bind fun x81 => Sum.elim (fun pe81 => some (.inl pe81)) (fun z81 => some (.inr (1 : Int))) x81) else (bif (a1.gOp == (4 : Int)) then ((KaG a0 a1.gName a1.gAt ([(2 : Int)] : List Int)).bind fun x85 => Sum.elim (fun pe85 => some (.inl pe85)) (fun z85 => some (.inr (1 : Int))) x85) else (bif (a1.gOp == (18 : Int)) then some (.inr (2 : Int)) else (bif (a1.gOp == (19 : Int)) then ((Kbg a0 a1 (1 : Int)).bind fun x91 => Sum.elim (fun pe91 => some (.inl pe91)) (fun z91 => some (.inr z91)) x91) else (bif (a1.gOp == (20 : Int)) then ((Kbg a0 a1 (3 : Int)).bind fun x95 => Sum.elim (fun pe95 => some (.inl pe95)) (fun z95 => some (.inr z95)) x95) else some (.inr (1 : Int))))))))) (fun r => some r)))))) x14)) (fun r => some r)))))
theorem Kim (g0 : (Kv) → (List Kh) → Option ((Int × Int) ⊕ (List Int))) (g1 : (Kv) → (Kh) → Option ((Int × Int) ⊕ (Int))) (hg0 : ∀ (a0 : Kv) (a1 : List Kh) (r : (Int × Int) ⊕ (List Int)) (h0 : g0 a0 a1 = some r), Kba zc Tryz.prog 179 [KW a0, .lst 5 (a1.map Kn) .no] [] [] r (fun r d h k => ∃ y0, d = .lst 1 (r.map eI64) (.cur y0) ∧ h = [] ∧ k = [(1, y0)])) (hg1 : ∀ (a0 : Kv) (a1 : Kh) (r : (Int × Int) ⊕ (Int)) (h0 : g1 a0 a1 = some r), Kba zc Tryz.prog 198 [KW a0, Kn a1] [] [] r (fun r d h k => d = .v (.int .i64 r) ∧ h = [] ∧ k = [])) (a0 : Kv) (a1 : Kh) (r : (Int × Int) ⊕ (Int)) (h0 : KaY g0 g1 a0 a1 = some r) : Kba zc Tryz.prog 198 [KW a0, Kn a1] [] [] r (fun r d h k => d = .v (.int .i64 r) ∧ h = [] ∧ k = []) := by
 have hm := Kw h0
 unfold KaY at hm
 clear h0
 refine Ke5 htab Tryz.func198 rfl rfl rfl rfl rfl (fun C => ?_)
 refine w_eq (i := 1) rfl (Wk.of_eq (KD a1)) ?_
 refine Kd ?_
 refine p_box rfl rfl rfl rfl rfl rfl rfl (fun b1 => ?_)
 refine p_box rfl rfl rfl rfl rfl rfl rfl (fun b2 => ?_)
 refine pu ?_
 refine Kb ?_
 refine Kg ?_
 refine Kd ?_
 refine pu ?_
 refine pL 1 ?_
 obtain ⟨x3, q3, hm⟩ := Kc hm
 refine KN (KlT a1.gOp x3 q3) rfl rfl rfl rfl rfl Wl ?_
 rintro _ rfl
 refine pu ?_
 refine Kb ?_
 refine Kg ?_
 obtain ⟨y5, q5, ho5⟩ := Kc hm
 refine K5 (Y := Unit) (fun z5 => (⟨[(2, .ptr b1 0), (3, .ptr b2 0), (20, .v (.bool y5))], [(b1, Blk.cells [.lst 4 (a0.gP.gGlobals.map Ks) .no, .lst 5 (a0.gP.gFuncs.map Ko) .no, .v (.string a0.gF.gName), .lst 2 (a0.gF.gParams.map Kj) .no, .lst 2 (a0.gF.gLocals.map Kj) .no, .lst 7 (a0.gF.gBody.map Kf) .no, .v (.int .i64 a0.gF.gAt)] 192), (b2, Blk.cells [.v (.int .i64 a1.gOp), .v (.int .i64 a1.gN), .v (.string a1.gName), .lst 5 (a1.gKids.map Kn) .no, .v (.int .i64 a1.gAt)] 166)], []⟩ : S)) ?_ ?_
 ·clear hm; have hm := Kw q5
  refine Kx ?_
  iterate 3 refine pu ?_
  refine Kaj (i := 14) rfl (fun hg6 => ?_) (fun hg6 => ?_)
  ·replace hm := yes_t hg6 hm
   iterate 5 refine pK ?_
   refine K3 rfl rfl rfl rfl rfl rfl ?_
   refine Ky ?_
   have e5 := Ke hm; subst e5
   refine ⟨rfl, ?_⟩
   exact WkX.of () (WkS.perm (WkS.cons rfl (Wk.refl _) (WkS.cons rfl (Wk.refl _) (WkS.cons rfl (Wk.refl _) (WkS.nil)))) Pf Pf)
  ·replace hm := yes_f hg6 hm
   refine pu ?_
   refine pL 1 ?_
   refine Kaa htab rfl rfl rfl rfl rfl rfl rfl (by first | exact KM | rfl) ?_
   refine pu ?_
   refine pu ?_
   refine KO rfl rfl rfl rfl rfl rfl ?_
   refine Ky ?_
   have e5 := Ke hm; subst e5
   refine ⟨rfl, ?_⟩
   exact WkX.of () (WkS.perm (WkS.cons rfl (Wk.refl _) (WkS.cons rfl (Wk.refl _) (WkS.cons rfl (Wk.refl _) (WkS.nil)))) Pf Pf)
 ·intro s5 hw5; clear hm; have hm := ho5; clear q5 ho5
  refine Ka ?_
  refine KQ hw5 (fun z5 => ?_)
  obtain ⟨x9, q9, ho9⟩ := Kc hm
  refine Kaq (τ := Unit) (Y := Unit) (fun y9 z9 => (⟨[(2, .ptr b1 0), (3, .ptr b2 0)], [(b1, Blk.cells [.lst 4 (a0.gP.gGlobals.map Ks) .no, .lst 5 (a0.gP.gFuncs.map Ko) .no, .v (.string a0.gF.gName), .lst 2 (a0.gF.gParams.map Kj) .no, .lst 2 (a0.gF.gLocals.map Kj) .no, .lst 7 (a0.gF.gBody.map Kf) .no, .v (.int .i64 a0.gF.gAt)] 192), (b2, Blk.cells [.v (.int .i64 a1.gOp), .v (.int .i64 a1.gN), .v (.string a1.gName), .lst 5 (a1.gKids.map Kn) .no, .v (.int .i64 a1.gAt)] 166)], []⟩ : S)) x9 ?_ ?_
  ·clear hm; have hm := Kw q9
   refine Kk rfl (fun hc10 => ?_) (fun hc10 => ?_)
   ·replace hm := yes_t hc10 hm
    refine Kx ?_
    refine pu ?_
    refine pL 1 ?_
    obtain ⟨x11, q11, hm⟩ := Kc hm
    rcases x11 with pe11 | z11
    ·simp only [Sum.elim_inl] at hm
     refine KaE (KaK a1.gAt (2 : Int) (.inl pe11) q11) rfl rfl rfl Wl Pf Pf ?_
     have e9 := Ke hm; subst e9; refine Kab ?_; clear hm; have hm := ho9; simp only [Sum.elim_inr] at hm
     refine KT ?_
     have er12 := Ke hm; subst er12; exact Kao
    simp only [Sum.elim_inr] at hm
    refine KN (KaK a1.gAt (2 : Int) (.inr z11) q11) rfl rfl rfl rfl rfl Wl ?_
    rintro _ rfl
    refine Ky ?_
    have e9 := Ke hm; subst e9
    refine Kaf ?_
    exact WkX.of () (WkS.perm (WkS.cons rfl (Wk.refl _) (WkS.cons rfl (Wk.refl _) (WkS.nil))) Pf Pf)
   ·replace hm := yes_f hc10 hm
    refine Kp ?_
    have e9 := Ke hm; subst e9
    refine Kaf ?_
    exact WkX.of () (WkS.perm (WkS.cons rfl (Wk.refl _) (WkS.cons rfl (Wk.refl _) (WkS.nil))) Pf Pf)
  ·intro y9 s9 hx9 hw9; subst hx9; clear hm; have hm := ho9; simp only [Sum.elim_inl] at hm; clear q9 ho9
   refine Ka ?_
   refine KQ hw9 (fun z9 => ?_)
   refine Kd ?_
   refine Kai (d := KW a0) 0 htab rfl rfl rfl rfl rfl rfl rfl rfl ?_
   refine pu ?_
   refine pL 1 ?_
   obtain ⟨x14, q14, hm⟩ := Kc hm
   rcases x14 with pe14 | z14
   ·simp only [Sum.elim_inl] at hm
    refine KaE (hg0 a0 a1.gKids (.inl pe14) q14) rfl rfl rfl Wl Pf Pf ?_
    refine KT ?_
    have er15 := Ke hm; subst er15; exact Kao
   simp only [Sum.elim_inr] at hm
   refine pG (hg0 a0 a1.gKids (.inr z14) q14) Wl Pf Pf ?_
   rintro _ _ _ ⟨w13, rfl, rfl, rfl⟩
   refine pu ?_
   refine Kb ?_
   refine Kg ?_
   refine Kg ?_
   obtain ⟨y17, q17, ho17⟩ := Kc hm
   refine K5 (Y := Unit) (fun z17 => (⟨[(2, .ptr b1 0), (3, .ptr b2 0), (6, .lst 1 (z14.map eI64) (.cur w13)), (35, .v (.bool y17))], [(b1, Blk.cells [.lst 4 (a0.gP.gGlobals.map Ks) .no, .lst 5 (a0.gP.gFuncs.map Ko) .no, .v (.string a0.gF.gName), .lst 2 (a0.gF.gParams.map Kj) .no, .lst 2 (a0.gF.gLocals.map Kj) .no, .lst 7 (a0.gF.gBody.map Kf) .no, .v (.int .i64 a0.gF.gAt)] 192), (b2, Blk.cells [.v (.int .i64 a1.gOp), .v (.int .i64 a1.gN), .v (.string a1.gName), .lst 5 (a1.gKids.map Kn) .no, .v (.int .i64 a1.gAt)] 166)], [(1, w13)]⟩ : S)) ?_ ?_
   ·clear hm; have hm := Kw q17
    refine Kx ?_
    refine pu ?_
    refine pL 1 ?_
    refine pu ?_
    refine pu ?_
    refine Kaj (i := 31) rfl (fun hg18 => ?_) (fun hg18 => ?_)
    ·replace hm := yes_t hg18 hm
     iterate 3 refine pK ?_
     refine K3 rfl rfl rfl rfl rfl rfl ?_
     refine Ky ?_
     have e17 := Ke hm; subst e17
     refine ⟨rfl, ?_⟩
     exact WkX.of () (WkS.perm (WkS.cons rfl (Wk.refl _) (WkS.cons rfl (Wk.refl _) (WkS.cons rfl (Wk.refl _) (WkS.cons rfl (Wk.refl _) (WkS.nil))))) Pf Pf)
    ·replace hm := yes_f hg18 hm
     refine pu ?_
     refine pL 1 ?_
     refine pu ?_
     refine KO rfl rfl rfl rfl rfl rfl ?_
     refine Ky ?_
     have e17 := Ke hm; subst e17
     refine ⟨rfl, ?_⟩
     exact WkX.of () (WkS.perm (WkS.cons rfl (Wk.refl _) (WkS.cons rfl (Wk.refl _) (WkS.cons rfl (Wk.refl _) (WkS.cons rfl (Wk.refl _) (WkS.nil))))) Pf Pf)
   ·intro s17 hw17; clear hm; have hm := ho17; clear q17 ho17
    refine Ka ?_
    refine KQ hw17 (fun z17 => ?_)
    refine Kk rfl (fun hc25 => ?_) (fun hc25 => ?_)
    ·replace hm := yes_t hc25 hm
     refine Kg ?_
     refine Kg ?_
     obtain ⟨x26, q26, hm⟩ := Kc hm
     obtain ⟨x27, q27, hm⟩ := Kc hm
     refine KZ 6 [] [[],[0],[0,1],[],[3],[3,4]] [0,1,3,4] [[],[0],[0,1],[],[3],[3,4],[0,1,2,3,4,5]] (by kernel_rfl) (by kernel_rfl) (by kernel_rfl) (by rfl) (by rfl) (by kernel_rfl) ?_
     iterate 4 apply Exists.intro
     intro bs
     refine zep ?_
     refine z_e rfl rfl (Kak htab rfl rfl rfl rfl rfl rfl rfl (Kz q26) (KG q26)) rfl rfl rfl rfl rfl rfl ?_
     refine z_qM rfl rfl (KX htab rfl rfl rfl rfl rfl) rfl rfl rfl rfl rfl rfl ?_
     refine zep ?_
     refine z_e rfl rfl (Kak htab rfl rfl rfl rfl rfl rfl rfl (Kz q27) (KG q27)) rfl rfl rfl rfl rfl rfl ?_
     refine z_qM rfl rfl (KX htab rfl rfl rfl rfl rfl) rfl rfl rfl rfl rfl rfl ?_
     refine z_nil rfl rfl (fun e he => by simp [isAl] at he) ?_
     refine pu ?_
     refine Kb ?_
     obtain ⟨x31, q31, ho31⟩ := Kc hm
     refine Kaq (τ := Unit) (Y := Unit) (fun y31 z31 => (⟨[], [], []⟩ : S)) x31 ?_ ?_
     ·clear hm; have hm := Kw q31
      refine Kk rfl (fun hc32 => ?_) (fun hc32 => ?_)
      ·replace hm := yes_t hc32 hm
       refine Kx ?_
       refine pu ?_
       refine pL 1 ?_
       obtain ⟨x33, q33, hm⟩ := Kc hm
       refine KaD htab rfl rfl rfl rfl rfl rfl rfl rfl rfl rfl (Kz q33) (KG q33) ?_
       refine p_eq (i := 45) rfl (Wk.of_eq (congrArg D.el (KD x33))) ?_
       refine pu ?_
       refine Kat htab rfl rfl rfl rfl rfl rfl rfl rfl ?_
       obtain ⟨x34, q34, hm⟩ := Kc hm
       rcases x34 with pe34 | z34
       ·simp only [Sum.elim_inl] at hm
        refine KaE (KaK x33.gAt (9 : Int) (.inl pe34) q34) rfl rfl rfl Wl Pf Pf ?_
        have e31 := Ke hm; subst e31; refine Kab ?_; clear hm; have hm := ho31; simp only [Sum.elim_inr] at hm
        refine KT ?_
        refine KT ?_
        have er35 := Ke hm; subst er35; exact Kao
       simp only [Sum.elim_inr] at hm
       refine KN (KaK x33.gAt (9 : Int) (.inr z34) q34) rfl rfl rfl rfl rfl Wl ?_
       rintro _ rfl
       refine Ky ?_
       have e31 := Ke hm; subst e31
       refine Kaf ?_
       exact WkX.of () (WkS.perm (WkS.nil) Pf Pf)
      ·replace hm := yes_f hc32 hm
       refine Kp ?_
       have e31 := Ke hm; subst e31
       refine Kaf ?_
       exact WkX.of () (WkS.perm (WkS.nil) Pf Pf)
     ·intro y31 s31 hx31 hw31; subst hx31; clear hm; have hm := ho31; simp only [Sum.elim_inl] at hm; clear q31 ho31
      refine Ka ?_
      refine KQ hw31 (fun z31 => ?_)
      refine Kd ?_
      refine pu ?_
      refine Kb ?_
      refine Kr ?_
      refine Kt ?_
      have er36 := Ke hm; subst er36; refine KbA ?_
      refine rP (t' := [(4, .v (.int .i64 (1 : Int)))]) [] [] 0 (wC wN) (lT lN) ?_
      exact ⟨rfl, rfl, rfl⟩
    ·replace hm := yes_f hc25 hm
     refine Kp ?_
     refine Ka ?_
     refine Kg ?_
     refine Kd ?_
     refine pu ?_
     refine pL 1 ?_
     refine Kaa htab rfl rfl rfl rfl rfl rfl rfl (by first | exact KM | rfl) ?_
     refine pu ?_
     refine Kb ?_
     obtain ⟨x56, q56, ho56⟩ := Kc hm
     refine Kaq (τ := Unit) (Y := Unit) (fun y56 z56 => (⟨[(2, .ptr b1 0), (3, .ptr b2 0)], [(b1, Blk.cells [.lst 4 (a0.gP.gGlobals.map Ks) .no, .lst 5 (a0.gP.gFuncs.map Ko) .no, .v (.string a0.gF.gName), .lst 2 (a0.gF.gParams.map Kj) .no, .lst 2 (a0.gF.gLocals.map Kj) .no, .lst 7 (a0.gF.gBody.map Kf) .no, .v (.int .i64 a0.gF.gAt)] 192), (b2, Blk.cells [.v (.int .i64 a1.gOp), .v (.int .i64 a1.gN), .v (.string a1.gName), .lst 5 (a1.gKids.map Kn) .no, .v (.int .i64 a1.gAt)] 166)], []⟩ : S)) x56 ?_ ?_
     ·clear hm; have hm := Kw q56
      refine KA ?_
      obtain ⟨u57, hl57, hq57⟩ := yes_m hm
      refine Kav (Y := Unit) hl57 (fun s57 z57 => (⟨[(2, .ptr b1 0), (3, .ptr b2 0), (6, .lst 1 (z14.map eI64) (.cur w13)), (50, .lst 5 (a1.gKids.map Kn) .no), (51, .v (.int .i64 (a1.gKids.length : Int))), (52, .v (.int .i64 s57))], [(b1, Blk.cells [.lst 4 (a0.gP.gGlobals.map Ks) .no, .lst 5 (a0.gP.gFuncs.map Ko) .no, .v (.string a0.gF.gName), .lst 2 (a0.gF.gParams.map Kj) .no, .lst 2 (a0.gF.gLocals.map Kj) .no, .lst 7 (a0.gF.gBody.map Kf) .no, .v (.int .i64 a0.gF.gAt)] 192), (b2, Blk.cells [.v (.int .i64 a1.gOp), .v (.int .i64 a1.gN), .v (.string a1.gName), .lst 5 (a1.gKids.map Kn) .no, .v (.int .i64 a1.gAt)] 166)], [(1, w13)]⟩ : S)) ?_ ?_
      ·skip
       exact WkX.of () (WkS.perm (WkS.cons rfl (Wk.refl _) (WkS.cons rfl (Wk.refl _) (WkS.cons rfl (Wk.refl _) (WkS.cons rfl (Wk.refl _) (WkS.cons rfl (Wk.refl _) (WkS.cons rfl (Wk.refl _) (WkS.nil))))))) Pf Pf)
      ·intro G57 s57 z57 hm
       refine Kd ?_
       refine pu ?_
       refine Kb ?_
       refine Kg ?_
       refine Kk rfl (fun hc70 => ?_) (fun hc70 => ?_)
       ·replace hm := yes_t hc70 hm
        refine Kp ?_
        refine Ka ?_
        refine Kg ?_
        refine KA ?_
        refine Kd ?_
        refine pu ?_
        obtain ⟨x71, q71, hm⟩ := Kc hm
        refine KaD htab rfl rfl rfl rfl rfl rfl rfl rfl rfl rfl (Kz q71) (KG q71) ?_
        refine p_eq (i := 55) rfl (Wk.of_eq (congrArg D.el (KD x71))) ?_
        refine Kat (d := .agg [.v (.int .i64 x71.gOp), .v (.int .i64 x71.gN), .v (.string x71.gName), .lst 5 (x71.gKids.map Kn) .no, .v (.int .i64 x71.gAt)]) htab rfl rfl rfl rfl rfl rfl rfl rfl ?_
        refine Kar htab rfl rfl rfl rfl rfl rfl rfl (fun b72 => ?_)
        refine pu ?_
        refine pS2 (ds' := [.v (.int .i64 x71.gOp), .v (.int .i64 x71.gN), .v (.string x71.gName), .lst 5 (x71.gKids.map Kn) .no, .v (.int .i64 x71.gAt)]) ?_
        refine Kb ?_
        obtain ⟨x73, q73, hm⟩ := Kc hm
        refine KZ 5 [] [[],[],[],[1],[1,3]] [0,1,3] [[],[],[],[1,2],[1,2,3],[0,1,2,3,4]] (by kernel_rfl) (by kernel_rfl) (by kernel_rfl) (by rfl) (by rfl) (by kernel_rfl) ?_
        iterate 3 apply Exists.intro
        intro bs
        refine z_eM rfl rfl (KI (d := .agg [.v (.int .i64 x71.gOp), .v (.int .i64 x71.gN), .v (.string x71.gName), .lst 5 (x71.gKids.map Kn) .no, .v (.int .i64 x71.gAt)]) 2 htab rfl rfl rfl rfl rfl) rfl rfl rfl rfl rfl rfl ?_
        refine zep ?_
        refine zqp ?_
        refine z_e rfl rfl (Kak htab rfl rfl rfl rfl rfl rfl rfl (Kz q73) (KG q73)) rfl rfl rfl rfl rfl rfl ?_
        refine z_qM rfl rfl (KX htab rfl rfl rfl rfl rfl) rfl rfl rfl rfl rfl rfl ?_
        refine z_nil rfl rfl (fun e he => by simp [isAl] at he) ?_
        obtain ⟨x74, q74, hm⟩ := Kc hm
        rcases x74 with pe74 | z74
        ·simp only [Sum.elim_inl] at hm
         refine KaE (Kbe x71 x73 (.inl pe74) q74) rfl rfl rfl (WkL.cons (Wk.trans (Wk.agg (WkR.refl _)) (Wk.of_eq (KD x71).symm)) (WkL.cons (Wk.refl _) Wl)) Pf Pf ?_
         refine Kal ?_
         refine KT ?_
         have e57 := KP hm; subst e57; clear hm; have hm := hq57
         refine KT ?_
         refine Kal ?_
         have e56 := Ke hm; subst e56; refine Kab ?_; clear hm; have hm := ho56; simp only [Sum.elim_inr] at hm
         refine KT ?_
         have er75 := Ke hm; subst er75; exact Kao
        simp only [Sum.elim_inr] at hm
        refine KN (Kbe x71 x73 (.inr z74) q74) rfl rfl rfl rfl rfl (WkL.cons (Wk.trans (Wk.agg (WkR.refl _)) (Wk.of_eq (KD x71).symm)) (WkL.cons (Wk.refl _) Wl)) ?_
        rintro _ rfl
        refine Ky ?_
        refine KF ?_
        refine Ka ?_
        refine Kx ?_
        refine pu ?_
        refine pu ?_
        refine Ky ?_
        refine Ka ⟨_, Kam hm, ?_⟩
        exact WkX.of () (WkS.perm (WkS.cons rfl (Wk.refl _) (WkS.cons rfl (Wk.refl _) (WkS.cons rfl (Wk.refl _) (WkS.cons rfl (Wk.refl _) (WkS.cons rfl (Wk.refl _) (WkS.cons rfl (Wk.refl _) (WkS.nil))))))) Pf Pf)
       ·replace hm := yes_f hc70 hm
        refine Kad ?_
        refine KC ?_
        have e57 := KP hm; subst e57; clear hm; have hm := hq57
        refine KC ?_
        refine K7 ?_
        have e56 := Ke hm; subst e56
        refine Kaf ?_
        exact WkX.of () (WkS.perm (WkS.cons rfl (Wk.refl _) (WkS.cons rfl (Wk.refl _) (WkS.nil))) Pf Pf)
     ·intro y56 s56 hx56 hw56; subst hx56; clear hm; have hm := ho56; simp only [Sum.elim_inl] at hm; clear q56 ho56
      refine Ka ?_
      refine KQ hw56 (fun z56 => ?_)
      refine Kg ?_
      refine Kd ?_
      refine pu ?_
      refine pL 1 ?_
      refine Kb ?_
      refine KA ?_
      refine Kd ?_
      refine pu ?_
      refine pu ?_
      refine Kb ?_
      refine Kk rfl (fun hc76 => ?_) (fun hc76 => ?_)
      ·replace hm := yes_t hc76 hm
       refine Kd ?_
       refine Kai (d := KW a0) 0 htab rfl rfl rfl rfl rfl rfl rfl rfl ?_
       refine pu ?_
       refine pL 1 ?_
       refine pu ?_
       refine pL 1 ?_
       refine p_lit htab rfl rfl rfl rfl rfl rfl rfl rfl rfl rfl rfl rfl rfl rfl ?_
       refine p_eq (i := 73) (d' := .lst 1 (([(1 : Int), (2 : Int)] : List Int).map eI64) .full) rfl (Wk.lst0 (.cons (WkC.refl _) (.cons (WkC.refl _) (.nil)))) ?_
       obtain ⟨x77, q77, hm⟩ := Kc hm
       rcases x77 with pe77 | z77
       ·simp only [Sum.elim_inl] at hm
        refine KaE (Kau a0 a1.gName a1.gAt ([(1 : Int), (2 : Int)] : List Int) (.inl pe77) q77) rfl rfl rfl (WkL.cons (Wk.refl _) (WkL.cons (Wk.refl _) (WkL.cons (Wk.refl _) (WkL.cons (Wk.no) Wl)))) Pf Pf ?_
        refine KT ?_
        refine Kal ?_
        refine KT ?_
        have er78 := Ke hm; subst er78; exact Kao
       simp only [Sum.elim_inr] at hm
       refine KN (Kau a0 a1.gName a1.gAt ([(1 : Int), (2 : Int)] : List Int) (.inr z77) q77) rfl rfl rfl rfl rfl (WkL.cons (Wk.refl _) (WkL.cons (Wk.refl _) (WkL.cons (Wk.refl _) (WkL.cons (Wk.no) Wl)))) ?_
       rintro _ rfl
       refine pu ?_
       refine Kb ?_
       refine Kr ?_
       refine KE ?_
       refine Kt ?_
       have er79 := Ke hm; subst er79; refine KbA ?_
       refine rP (t' := [(4, .v (.int .i64 z77))]) [] [] 0 (wC wN) (lT lN) ?_
       exact ⟨rfl, rfl, rfl⟩
      ·replace hm := yes_f hc76 hm
       refine Kd ?_
       refine pu ?_
       refine pu ?_
       refine Kb ?_
       refine Kk rfl (fun hc80 => ?_) (fun hc80 => ?_)
       ·replace hm := yes_t hc80 hm
        refine Kx ?_
        refine Kai (d := KW a0) 0 htab rfl rfl rfl rfl rfl rfl rfl rfl ?_
        refine pu ?_
        refine pL 1 ?_
        refine pu ?_
        refine pL 1 ?_
        refine p_lit htab rfl rfl rfl rfl rfl rfl rfl rfl rfl rfl rfl rfl rfl rfl ?_
        refine p_eq (i := 82) (d' := .lst 1 (([(3 : Int)] : List Int).map eI64) .full) rfl (Wk.lst0 (.cons (WkC.refl _) (.nil))) ?_
        obtain ⟨x81, q81, hm⟩ := Kc hm
        rcases x81 with pe81 | z81
        ·simp only [Sum.elim_inl] at hm
         refine KaE (Kau a0 a1.gName a1.gAt ([(3 : Int)] : List Int) (.inl pe81) q81) rfl rfl rfl (WkL.cons (Wk.refl _) (WkL.cons (Wk.refl _) (WkL.cons (Wk.refl _) (WkL.cons (Wk.no) Wl)))) Pf Pf ?_
         refine Kal ?_
         refine KT ?_
         have er82 := Ke hm; subst er82; exact Kao
        simp only [Sum.elim_inr] at hm
        refine KN (Kau a0 a1.gName a1.gAt ([(3 : Int)] : List Int) (.inr z81) q81) rfl rfl rfl rfl rfl (WkL.cons (Wk.refl _) (WkL.cons (Wk.refl _) (WkL.cons (Wk.refl _) (WkL.cons (Wk.no) Wl)))) ?_
        rintro _ rfl
        refine Ky ?_
        refine KF ?_
        refine Ka ?_
        refine Kd ?_
        refine pu ?_
        refine Kb ?_
        refine Kr ?_
        have er83 := Ke hm; subst er83; refine KbA ?_
        refine rP (t' := [(4, .v (.int .i64 (1 : Int)))]) [] [] 0 (wC wN) (lT lN) ?_
        exact ⟨rfl, rfl, rfl⟩
       ·replace hm := yes_f hc80 hm
        refine Kd ?_
        refine pu ?_
        refine pu ?_
        refine Kb ?_
        refine Kk rfl (fun hc84 => ?_) (fun hc84 => ?_)
        ·replace hm := yes_t hc84 hm
         refine Kx ?_
         refine Kai (d := KW a0) 0 htab rfl rfl rfl rfl rfl rfl rfl rfl ?_
         refine pu ?_
         refine pL 1 ?_
         refine pu ?_
         refine pL 1 ?_
         refine p_lit htab rfl rfl rfl rfl rfl rfl rfl rfl rfl rfl rfl rfl rfl rfl ?_
         refine p_eq (i := 91) (d' := .lst 1 (([(2 : Int)] : List Int).map eI64) .full) rfl (Wk.lst0 (.cons (WkC.refl _) (.nil))) ?_
         obtain ⟨x85, q85, hm⟩ := Kc hm
         rcases x85 with pe85 | z85
         ·simp only [Sum.elim_inl] at hm
          refine KaE (Kau a0 a1.gName a1.gAt ([(2 : Int)] : List Int) (.inl pe85) q85) rfl rfl rfl (WkL.cons (Wk.refl _) (WkL.cons (Wk.refl _) (WkL.cons (Wk.refl _) (WkL.cons (Wk.no) Wl)))) Pf Pf ?_
          refine Kal ?_
          refine KT ?_
          have er86 := Ke hm; subst er86; exact Kao
         simp only [Sum.elim_inr] at hm
         refine KN (Kau a0 a1.gName a1.gAt ([(2 : Int)] : List Int) (.inr z85) q85) rfl rfl rfl rfl rfl (WkL.cons (Wk.refl _) (WkL.cons (Wk.refl _) (WkL.cons (Wk.refl _) (WkL.cons (Wk.no) Wl)))) ?_
         rintro _ rfl
         refine Ky ?_
         refine KF ?_
         refine Ka ?_
         refine Kd ?_
         refine pu ?_
         refine Kb ?_
         refine Kr ?_
         have er87 := Ke hm; subst er87; refine KbA ?_
         refine rP (t' := [(4, .v (.int .i64 (1 : Int)))]) [] [] 0 (wC wN) (lT lN) ?_
         exact ⟨rfl, rfl, rfl⟩
        ·replace hm := yes_f hc84 hm
         refine Kd ?_
         refine pu ?_
         refine pu ?_
         refine Kb ?_
         refine Kk rfl (fun hc88 => ?_) (fun hc88 => ?_)
         ·replace hm := yes_t hc88 hm
          refine Kd ?_
          refine pu ?_
          refine Kb ?_
          refine Kr ?_
          refine KE ?_
          refine Kt ?_
          have er89 := Ke hm; subst er89; refine KbA ?_
          refine rP (t' := [(4, .v (.int .i64 (2 : Int)))]) [] [] 0 (wC wN) (lT lN) ?_
          exact ⟨rfl, rfl, rfl⟩
         ·replace hm := yes_f hc88 hm
          refine Kd ?_
          refine pu ?_
          refine pu ?_
          refine Kb ?_
          refine Kk rfl (fun hc90 => ?_) (fun hc90 => ?_)
          ·replace hm := yes_t hc90 hm
           refine Kd ?_
           refine Kai (d := KW a0) 0 htab rfl rfl rfl rfl rfl rfl rfl rfl ?_
           refine Kai (d := .agg [.v (.int .i64 a1.gOp), .v (.int .i64 a1.gN), .v (.string a1.gName), .lst 5 (a1.gKids.map Kn) .no, .v (.int .i64 a1.gAt)]) 1 htab rfl rfl rfl rfl rfl rfl rfl rfl ?_
           obtain ⟨x91, q91, hm⟩ := Kc hm
           rcases x91 with pe91 | z91
           ·simp only [Sum.elim_inl] at hm
            refine KaE (Kcy a0 a1 (1 : Int) (.inl pe91) q91) rfl rfl rfl (WkL.cons (Wk.refl _) (WkL.cons (Wk.trans (Wk.agg (WkR.refl _)) (Wk.of_eq (KD a1).symm)) (WkL.cons (Wk.refl _) Wl))) Pf Pf ?_
            refine KT ?_
            refine Kal ?_
            refine KT ?_
            have er92 := Ke hm; subst er92; exact Kao
           simp only [Sum.elim_inr] at hm
           refine KN (Kcy a0 a1 (1 : Int) (.inr z91) q91) rfl rfl rfl rfl rfl (WkL.cons (Wk.refl _) (WkL.cons (Wk.trans (Wk.agg (WkR.refl _)) (Wk.of_eq (KD a1).symm)) (WkL.cons (Wk.refl _) Wl))) ?_
           rintro _ rfl
           refine pu ?_
           refine Kb ?_
           refine Kr ?_
           refine KE ?_
           refine Kt ?_
           have er93 := Ke hm; subst er93; refine KbA ?_
           refine rP (t' := [(4, .v (.int .i64 z91))]) [] [] 0 (wC wN) (lT lN) ?_
           exact ⟨rfl, rfl, rfl⟩
          ·replace hm := yes_f hc90 hm
           refine Kd ?_
           refine pu ?_
           refine pu ?_
           refine Kb ?_
           refine Kk rfl (fun hc94 => ?_) (fun hc94 => ?_)
           ·replace hm := yes_t hc94 hm
            refine Kd ?_
            refine Kai (d := KW a0) 0 htab rfl rfl rfl rfl rfl rfl rfl rfl ?_
            refine Kai (d := .agg [.v (.int .i64 a1.gOp), .v (.int .i64 a1.gN), .v (.string a1.gName), .lst 5 (a1.gKids.map Kn) .no, .v (.int .i64 a1.gAt)]) 1 htab rfl rfl rfl rfl rfl rfl rfl rfl ?_
            obtain ⟨x95, q95, hm⟩ := Kc hm
            rcases x95 with pe95 | z95
            ·simp only [Sum.elim_inl] at hm
             refine KaE (Kcy a0 a1 (3 : Int) (.inl pe95) q95) rfl rfl rfl (WkL.cons (Wk.refl _) (WkL.cons (Wk.trans (Wk.agg (WkR.refl _)) (Wk.of_eq (KD a1).symm)) (WkL.cons (Wk.refl _) Wl))) Pf Pf ?_
             refine KT ?_
             refine Kal ?_
             refine KT ?_
             have er96 := Ke hm; subst er96; exact Kao
            simp only [Sum.elim_inr] at hm
            refine KN (Kcy a0 a1 (3 : Int) (.inr z95) q95) rfl rfl rfl rfl rfl (WkL.cons (Wk.refl _) (WkL.cons (Wk.trans (Wk.agg (WkR.refl _)) (Wk.of_eq (KD a1).symm)) (WkL.cons (Wk.refl _) Wl))) ?_
            rintro _ rfl
            refine pu ?_
            refine Kb ?_
            refine Kr ?_
            refine KE ?_
            refine Kt ?_
            have er97 := Ke hm; subst er97; refine KbA ?_
            refine rP (t' := [(4, .v (.int .i64 z95))]) [] [] 0 (wC wN) (lT lN) ?_
            exact ⟨rfl, rfl, rfl⟩
           ·replace hm := yes_f hc94 hm
            refine Kp ?_
            refine KF ?_
            refine Ka ?_
            refine Kd ?_
            refine pu ?_
            refine Kb ?_
            refine Kr ?_
            have er98 := Ke hm; subst er98; refine KbA ?_
            refine rP (t' := [(4, .v (.int .i64 (1 : Int)))]) [] [] 0 (wC wN) (lT lN) ?_
            exact ⟨rfl, rfl, rfl⟩
noncomputable def K2 : Nat → ((Kv) → (List Kh) → Option ((Int × Int) ⊕ (List Int))) × ((Kv) → (Kh) → Option ((Int × Int) ⊕ (Int)))
 | 0 => (fun _ _ => none, fun _ _ => none)
 | n + 1 => (KaX ((K2 n).1) ((K2 n).2), KaY ((K2 n).1) ((K2 n).2))
theorem Kfy : ∀ n, (∀ (a0 : Kv) (a1 : List Kh) (r : (Int × Int) ⊕ (List Int)) (h0 : (K2 n).1 a0 a1 = some r), Kba zc Tryz.prog 179 [KW a0, .lst 5 (a1.map Kn) .no] [] [] r (fun r d h k => ∃ y0, d = .lst 1 (r.map eI64) (.cur y0) ∧ h = [] ∧ k = [(1, y0)])) ∧ (∀ (a0 : Kv) (a1 : Kh) (r : (Int × Int) ⊕ (Int)) (h0 : (K2 n).2 a0 a1 = some r), Kba zc Tryz.prog 198 [KW a0, Kn a1] [] [] r (fun r d h k => d = .v (.int .i64 r) ∧ h = [] ∧ k = []))
  | 0 => ⟨(fun _ _ _ h0 => by cases h0), (fun _ _ _ h0 => by cases h0)⟩
  | n + 1 => by
    have ih := Kfy n
    exact ⟨Kil ((K2 n).1) ((K2 n).2) (ih.1) (ih.2), Kim ((K2 n).1) ((K2 n).2) (ih.1) (ih.2)⟩
theorem Kfz : ∀ n, (∀ (a0 : Kv) (a1 : List Kh), Le ((K2 n).1 a0 a1) ((K2 (n + 1)).1 a0 a1)) ∧ (∀ (a0 : Kv) (a1 : Kh), Le ((K2 n).2 a0 a1) ((K2 (n + 1)).2 a0 a1))
  | 0 => ⟨fun _ _ => Le.none _, fun _ _ => Le.none _⟩
  | n + 1 => by
    have ih := Kfz n
    exact ⟨fun a0 a1 => by show Le (KaX ((K2 n).1) ((K2 n).2) a0 a1) (KaX ((K2 (n + 1)).1) ((K2 (n + 1)).2) a0 a1); unfold KaX; repeat (first | exact Le.refl _ | exact ih.1 _ _ | exact ih.2 _ _ | assumption | (refine Le.bind ?_ (fun _ => ?_)) | (refine Le.cond ?_ ?_) | (refine Le.loop (fun _ => ?_)) | (refine Le.elim (fun _ => ?_) (fun _ => ?_))), fun a0 a1 => by show Le (KaY ((K2 n).1) ((K2 n).2) a0 a1) (KaY ((K2 (n + 1)).1) ((K2 (n + 1)).2) a0 a1); unfold KaY; repeat (first | exact Le.refl _ | exact ih.1 _ _ | exact ih.2 _ _ | assumption | (refine Le.bind ?_ (fun _ => ?_)) | (refine Le.cond ?_ ?_) | (refine Le.loop (fun _ => ?_)) | (refine Le.elim (fun _ => ?_) (fun _ => ?_)))⟩
noncomputable def Kc3 (a0 : Kv) (a1 : List Kh) : Option ((Int × Int) ⊕ (List Int)) := anyN fun n => (K2 n).1 a0 a1
theorem Kf5 (a0 : Kv) (a1 : List Kh) {r : (Int × Int) ⊕ (List Int)} (n : Nat) (h : (K2 n).1 a0 a1 = some r) : Kc3 a0 a1 = some r := Kej (fun m => (Kfz m).1 a0 a1) h
theorem Kf6 (a0 : Kv) (a1 : List Kh) (r : (Int × Int) ⊕ (List Int)) (h0 : Kc3 a0 a1 = some r) : Kba zc Tryz.prog 179 [KW a0, .lst 5 (a1.map Kn) .no] [] [] r (fun r d h k => ∃ y0, d = .lst 1 (r.map eI64) (.cur y0) ∧ h = [] ∧ k = [(1, y0)]) :=
 let ⟨n, hn⟩ := Kdu h0; (Kfy n).1 a0 a1  r hn
noncomputable def Kb3 (a0 : Kv) (a1 : Ki) (a2 : List Int) : Option ((Int × Int) ⊕ (Unit)) :=
 (Option.bind (α := (Unit) ⊕ ((Int × Int) ⊕ (Unit))) (loopM (fun (s208 : Int) => (bif (decide (s208 < (a0.gP.gFuncs.length : Int))) then ((idx a0.gP.gFuncs s208).bind fun x344 => (bif (!decide (x344.gName = a1.gFunc)) then some (.next (IntKind.i64.wrap (s208 + (1 : Int)))) else (Option.bind (α := (Unit) ⊕ ((Int × Int) ⊕ (Unit))) (bif ((x344.gParams.length : Int) != (a2.length : Int)) then ((Kaz a1.gAt (2 : Int)).bind fun x351 => Sum.elim (fun pe351 => some (.inr (.inl pe351))) (fun z351 => some (.inl ())) x351) else some (.inl ())) (Sum.elim (fun y349 => (Option.bind (α := (Unit) ⊕ ((Int × Int) ⊕ (Unit))) (loopM (fun (s381 : Int) => (bif (decide (s381 < (x344.gParams.length : Int))) then ((idx x344.gParams s381).bind fun x401 => ((KbS x401.gPtr).bind fun x403 => ((idx a2 s381).bind fun x404 => (bif (x403 != x404) then ((idx a1.gExps s381).bind fun x406 => ((Kaz x406.gAt (9 : Int)).bind fun x407 => Sum.elim (fun pe407 => some (.done (.inr (.inl pe407)))) (fun z407 => some (.next (IntKind.i64.wrap (s381 + (1 : Int))))) x407)) else some (.next (IntKind.i64.wrap (s381 + (1 : Int)))))))) else some (.done (.inl ())))) (0 : Int)) (Sum.elim (fun y380 => (bif (!decide (a1.gName = (ByteArray.mk #[]))) then ((KaG a0 a1.gName a1.gAt ([(1 : Int)] : List Int)).bind fun x410 => Sum.elim (fun pe410 => some (.done (.inr (.inl pe410)))) (fun z410 => some (.done (.inr (.inr ())))) x410) else some (.done (.inr (.inr ()))))) (fun r => some (.done (.inr r)))))) (fun r => some (.done (.inr r))))))) else some (.done (.inl ())))) (0 : Int)) (Sum.elim (fun y207 => ((Kaz a1.gAt (7 : Int)).bind fun x414 => Sum.elim (fun pe414 => some (.inl pe414)) (fun z414 => some (.inr ())) x414)) (fun r => some r)))
theorem Kf7 (a0 : Kv) (a1 : Ki) (a2 : List Int) (r : (Int × Int) ⊕ (Unit)) (h0 : Kb3 a0 a1 a2 = some r) : Kba zc Tryz.prog 182 [KW a0, Kf a1, .lst 1 (a2.map eI64) .no] [] [] r (fun r d h k => d = .tup [] ∧ h = [] ∧ k = []) := by
 have hm := Kw h0
 unfold Kb3 at hm
 clear h0
 refine Ke5 htab Tryz.func182 rfl rfl rfl rfl rfl (fun C => ?_)
 refine w_eq (i := 1) rfl (Wk.of_eq (KU a1)) ?_
 refine Kd ?_
 refine p_box rfl rfl rfl rfl rfl rfl rfl (fun b1 => ?_)
 refine p_box rfl rfl rfl rfl rfl rfl rfl (fun b2 => ?_)
 refine Kb ?_
 refine Kg ?_
 refine Kd ?_
 refine pu ?_
 refine pu ?_
 refine pL 0 ?_
 refine Kaa htab rfl rfl rfl rfl rfl rfl rfl (by first | exact KM | rfl) ?_
 refine pu ?_
 refine Kb ?_
 obtain ⟨x207, q207, ho207⟩ := Kc hm
 refine Kaq (τ := Unit) (Y := Unit) (fun y207 z207 => (⟨[(4, .ptr b2 0)], [(b2, Blk.cells [.v (.int .i64 a1.gOp), .v (.string a1.gName), .v (.string a1.gFunc), .lst 5 (a1.gExps.map Kn) .no, .lst 7 (a1.gKids.map Kf) .no, .lst 7 (a1.gElse.map Kf) .no, .v (.int .i64 a1.gAt)] 121)], []⟩ : S)) x207 ?_ ?_
 ·clear hm; have hm := Kw q207
  refine KA ?_
  obtain ⟨u208, hl208, hq208⟩ := yes_m hm
  refine Kav (Y := Unit) hl208 (fun s208 z208 => (⟨[(2, .lst 1 (a2.map eI64) .no), (3, .ptr b1 0), (4, .ptr b2 0), (12, .lst 5 (a0.gP.gFuncs.map Ko) .no), (13, .v (.int .i64 (a0.gP.gFuncs.length : Int))), (14, .v (.int .i64 s208))], [(b1, Blk.cells [.lst 4 (a0.gP.gGlobals.map Ks) .no, .lst 5 (a0.gP.gFuncs.map Ko) .no, .v (.string a0.gF.gName), .lst 2 (a0.gF.gParams.map Kj) .no, .lst 2 (a0.gF.gLocals.map Kj) .no, .lst 7 (a0.gF.gBody.map Kf) .no, .v (.int .i64 a0.gF.gAt)] 192), (b2, Blk.cells [.v (.int .i64 a1.gOp), .v (.string a1.gName), .v (.string a1.gFunc), .lst 5 (a1.gExps.map Kn) .no, .lst 7 (a1.gKids.map Kf) .no, .lst 7 (a1.gElse.map Kf) .no, .v (.int .i64 a1.gAt)] 121)], []⟩ : S)) ?_ ?_
  ·skip
   exact WkX.of () (WkS.perm (WkS.cons rfl (Wk.refl _) (WkS.cons rfl (Wk.refl _) (WkS.cons rfl (Wk.refl _) (WkS.cons rfl (Wk.refl _) (WkS.cons rfl (Wk.refl _) (WkS.cons rfl (Wk.refl _) (WkS.nil))))))) Pf Pf)
  ·intro G208 s208 z208 hm
   refine Kd ?_
   refine pu ?_
   refine Kb ?_
   refine Kg ?_
   refine Kk rfl (fun hc343 => ?_) (fun hc343 => ?_)
   ·replace hm := yes_t hc343 hm
    refine Kp ?_
    refine Ka ?_
    refine Kg ?_
    refine KA ?_
    refine Kd ?_
    obtain ⟨x344, q344, hm⟩ := Kc hm
    refine KaD htab rfl rfl rfl rfl rfl rfl rfl rfl rfl rfl (Kz q344) (KG q344) ?_
    refine Kat (d := Ko x344) htab rfl rfl rfl rfl rfl rfl rfl rfl ?_
    refine Kar htab rfl rfl rfl rfl rfl rfl rfl (fun b345 => ?_)
    refine pS2 (ds' := [.v (.string x344.gName), .lst 2 (x344.gParams.map Kj) .no, .lst 2 (x344.gLocals.map Kj) .no, .lst 7 (x344.gBody.map Kf) .no, .v (.int .i64 x344.gAt)]) ?_
    refine Kb ?_
    refine Kg ?_
    refine Kd ?_
    refine pu ?_
    refine pL 2 ?_
    refine pu ?_
    refine pL 1 ?_
    refine pu ?_
    refine Kb ?_
    refine Kk rfl (fun hc346 => ?_) (fun hc346 => ?_)
    ·replace hm := yes_t hc346 hm
     refine Kad ?_
     refine KC ?_
     refine K7 ?_
     refine Ka ?_
     refine Kx ?_
     refine pu ?_
     refine pu ?_
     refine Ky ?_
     refine Ka ⟨_, Kam hm, ?_⟩
     exact WkX.of () (WkS.perm (WkS.cons rfl (Wk.refl _) (WkS.cons rfl (Wk.refl _) (WkS.cons rfl (Wk.refl _) (WkS.cons rfl (Wk.refl _) (WkS.cons rfl (Wk.refl _) (WkS.cons rfl (Wk.refl _) (WkS.nil))))))) Pf Pf)
    ·replace hm := yes_f hc346 hm
     refine Kp ?_
     refine Ka ?_
     refine Kg ?_
     refine Kd ?_
     refine pu ?_
     refine pL 2 ?_
     refine Kaa htab rfl rfl rfl rfl rfl rfl rfl (by first | exact KM | rfl) ?_
     refine pu ?_
     refine Kaa htab rfl rfl rfl rfl rfl rfl rfl (by first | exact KM | rfl) ?_
     refine pu ?_
     refine Kb ?_
     obtain ⟨x349, q349, ho349⟩ := Kc hm
     refine Kaq (τ := Unit) (Y := Unit) (fun y349 z349 => (⟨[(2, .lst 1 (a2.map eI64) .no), (3, .ptr b1 0), (4, .ptr b2 0), (7, .ptr b345 0)], [(b1, Blk.cells [.lst 4 (a0.gP.gGlobals.map Ks) .no, .lst 5 (a0.gP.gFuncs.map Ko) .no, .v (.string a0.gF.gName), .lst 2 (a0.gF.gParams.map Kj) .no, .lst 2 (a0.gF.gLocals.map Kj) .no, .lst 7 (a0.gF.gBody.map Kf) .no, .v (.int .i64 a0.gF.gAt)] 192), (b2, Blk.cells [.v (.int .i64 a1.gOp), .v (.string a1.gName), .v (.string a1.gFunc), .lst 5 (a1.gExps.map Kn) .no, .lst 7 (a1.gKids.map Kf) .no, .lst 7 (a1.gElse.map Kf) .no, .v (.int .i64 a1.gAt)] 121), (b345, Blk.cells [.v (.string x344.gName), .lst 2 (x344.gParams.map Kj) .no, .lst 2 (x344.gLocals.map Kj) .no, .lst 7 (x344.gBody.map Kf) .no, .v (.int .i64 x344.gAt)] 49)], []⟩ : S)) x349 ?_ ?_
     ·clear hm; have hm := Kw q349
      refine Kk rfl (fun hc350 => ?_) (fun hc350 => ?_)
      ·replace hm := yes_t hc350 hm
       refine Kx ?_
       refine pu ?_
       refine pL 1 ?_
       obtain ⟨x351, q351, hm⟩ := Kc hm
       rcases x351 with pe351 | z351
       ·simp only [Sum.elim_inl] at hm
        refine KaE (KaK a1.gAt (2 : Int) (.inl pe351) q351) rfl rfl rfl Wl Pf Pf ?_
        have e349 := Ke hm; subst e349; refine Kab ?_; clear hm; have hm := ho349; simp only [Sum.elim_inr] at hm
        refine KT ?_
        refine Kal ?_
        refine KT ?_
        have e208 := KP hm; subst e208; clear hm; have hm := hq208
        refine KT ?_
        refine Kal ?_
        have e207 := Ke hm; subst e207; refine Kab ?_; clear hm; have hm := ho207; simp only [Sum.elim_inr] at hm
        refine KT ?_
        have er352 := Ke hm; subst er352; exact Kao
       simp only [Sum.elim_inr] at hm
       refine KN (KaK a1.gAt (2 : Int) (.inr z351) q351) rfl rfl rfl rfl rfl Wl ?_
       rintro _ rfl
       refine Ky ?_
       have e349 := Ke hm; subst e349
       refine Kaf ?_
       exact WkX.of () (WkS.perm (WkS.cons rfl (Wk.refl _) (WkS.cons rfl (Wk.refl _) (WkS.cons rfl (Wk.refl _) (WkS.cons rfl (Wk.refl _) (WkS.nil))))) Pf Pf)
      ·replace hm := yes_f hc350 hm
       refine Kp ?_
       have e349 := Ke hm; subst e349
       refine Kaf ?_
       exact WkX.of () (WkS.perm (WkS.cons rfl (Wk.refl _) (WkS.cons rfl (Wk.refl _) (WkS.cons rfl (Wk.refl _) (WkS.cons rfl (Wk.refl _) (WkS.nil))))) Pf Pf)
     ·intro y349 s349 hx349 hw349; subst hx349; clear hm; have hm := ho349; simp only [Sum.elim_inl] at hm; clear q349 ho349
      refine Ka ?_
      refine KQ hw349 (fun z349 => ?_)
      refine Kg ?_
      refine Kd ?_
      refine pu ?_
      refine pL 2 ?_
      refine Kaa htab rfl rfl rfl rfl rfl rfl rfl (by first | exact KM | rfl) ?_
      refine pu ?_
      refine Kb ?_
      obtain ⟨x380, q380, ho380⟩ := Kc hm
      refine Kaq (τ := Unit) (Y := Unit) (fun y380 z380 => (⟨[(3, .ptr b1 0), (4, .ptr b2 0)], [(b1, Blk.cells [.lst 4 (a0.gP.gGlobals.map Ks) .no, .lst 5 (a0.gP.gFuncs.map Ko) .no, .v (.string a0.gF.gName), .lst 2 (a0.gF.gParams.map Kj) .no, .lst 2 (a0.gF.gLocals.map Kj) .no, .lst 7 (a0.gF.gBody.map Kf) .no, .v (.int .i64 a0.gF.gAt)] 192), (b2, Blk.cells [.v (.int .i64 a1.gOp), .v (.string a1.gName), .v (.string a1.gFunc), .lst 5 (a1.gExps.map Kn) .no, .lst 7 (a1.gKids.map Kf) .no, .lst 7 (a1.gElse.map Kf) .no, .v (.int .i64 a1.gAt)] 121)], []⟩ : S)) x380 ?_ ?_
      ·clear hm; have hm := Kw q380
       refine KA ?_
       obtain ⟨u381, hl381, hq381⟩ := yes_m hm
       refine Kav (Y := Unit) hl381 (fun s381 z381 => (⟨[(2, .lst 1 (a2.map eI64) .no), (3, .ptr b1 0), (4, .ptr b2 0), (33, .lst 2 (x344.gParams.map Kj) .no), (34, .v (.int .i64 (x344.gParams.length : Int))), (35, .v (.int .i64 s381))], [(b1, Blk.cells [.lst 4 (a0.gP.gGlobals.map Ks) .no, .lst 5 (a0.gP.gFuncs.map Ko) .no, .v (.string a0.gF.gName), .lst 2 (a0.gF.gParams.map Kj) .no, .lst 2 (a0.gF.gLocals.map Kj) .no, .lst 7 (a0.gF.gBody.map Kf) .no, .v (.int .i64 a0.gF.gAt)] 192), (b2, Blk.cells [.v (.int .i64 a1.gOp), .v (.string a1.gName), .v (.string a1.gFunc), .lst 5 (a1.gExps.map Kn) .no, .lst 7 (a1.gKids.map Kf) .no, .lst 7 (a1.gElse.map Kf) .no, .v (.int .i64 a1.gAt)] 121)], []⟩ : S)) ?_ ?_
       ·skip
        exact WkX.of () (WkS.perm (WkS.cons rfl (Wk.refl _) (WkS.cons rfl (Wk.refl _) (WkS.cons rfl (Wk.refl _) (WkS.cons rfl (Wk.refl _) (WkS.cons rfl (Wk.refl _) (WkS.cons rfl (Wk.refl _) (WkS.nil))))))) Pf Pf)
       ·intro G381 s381 z381 hm
        refine Kd ?_
        refine pu ?_
        refine Kb ?_
        refine Kg ?_
        refine Kk rfl (fun hc400 => ?_) (fun hc400 => ?_)
        ·replace hm := yes_t hc400 hm
         refine Kp ?_
         refine Ka ?_
         refine Kg ?_
         refine KA ?_
         refine Kd ?_
         refine pu ?_
         obtain ⟨x401, q401, hm⟩ := Kc hm
         refine KaD htab rfl rfl rfl rfl rfl rfl rfl rfl rfl rfl (Kz q401) (KG q401) ?_
         refine Kat (d := Kj x401) htab rfl rfl rfl rfl rfl rfl rfl rfl ?_
         refine Kar htab rfl rfl rfl rfl rfl rfl rfl (fun b402 => ?_)
         refine pu ?_
         refine pS2 (ds' := [.v (.string x401.gName), .v (.bool x401.gPtr)]) ?_
         refine Kb ?_
         refine Kg ?_
         obtain ⟨x403, q403, hm⟩ := Kc hm
         obtain ⟨x404, q404, hm⟩ := Kc hm
         refine KZ 7 [] [[],[0],[0],[],[],[3],[3,5]] [0,2,3,5] [[],[0],[0,1],[],[],[3,4],[3,4,5],[0,1,2,3,4,5,6]] (by kernel_rfl) (by kernel_rfl) (by kernel_rfl) (by rfl) (by rfl) (by kernel_rfl) ?_
         iterate 4 apply Exists.intro
         intro bs
         refine zep ?_
         refine z_qM rfl rfl (KI 2 htab rfl rfl rfl rfl rfl) rfl rfl rfl rfl rfl rfl ?_
         refine Kbj rfl rfl (KfO x401.gPtr x403 q403) rfl rfl Wl rfl rfl rfl rfl rfl rfl ?_
         refine zep ?_
         refine zqp ?_
         refine z_e rfl rfl (Kak htab rfl rfl rfl rfl rfl rfl rfl (Kz q404) (KG q404)) rfl rfl rfl rfl rfl rfl ?_
         refine z_qM rfl rfl (KX htab rfl rfl rfl rfl rfl) rfl rfl rfl rfl rfl rfl ?_
         refine z_nil rfl rfl (fun e he => by simp [isAl] at he) ?_
         refine pu ?_
         refine Kb ?_
         refine Kk rfl (fun hc405 => ?_) (fun hc405 => ?_)
         ·replace hm := yes_t hc405 hm
          refine Kx ?_
          refine pu ?_
          refine pL 1 ?_
          refine pu ?_
          obtain ⟨x406, q406, hm⟩ := Kc hm
          refine KaD htab rfl rfl rfl rfl rfl rfl rfl rfl rfl rfl (Kz q406) (KG q406) ?_
          refine p_eq (i := 51) rfl (Wk.of_eq (congrArg D.el (KD x406))) ?_
          refine pu ?_
          refine Kat htab rfl rfl rfl rfl rfl rfl rfl rfl ?_
          obtain ⟨x407, q407, hm⟩ := Kc hm
          rcases x407 with pe407 | z407
          ·simp only [Sum.elim_inl] at hm
           refine KaE (KaK x406.gAt (9 : Int) (.inl pe407) q407) rfl rfl rfl Wl Pf Pf ?_
           refine Kal ?_
           refine KT ?_
           have e381 := KP hm; subst e381; clear hm; have hm := hq381
           refine KT ?_
           refine Kal ?_
           have e380 := Ke hm; subst e380; refine Kab ?_; clear hm; have hm := ho380; simp only [Sum.elim_inr] at hm
           refine KT ?_
           refine Kal ?_
           refine KT ?_
           have e208 := KP hm; subst e208; clear hm; have hm := hq208
           refine KT ?_
           refine Kal ?_
           have e207 := Ke hm; subst e207; refine Kab ?_; clear hm; have hm := ho207; simp only [Sum.elim_inr] at hm
           refine KT ?_
           have er408 := Ke hm; subst er408; exact Kao
          simp only [Sum.elim_inr] at hm
          refine KN (KaK x406.gAt (9 : Int) (.inr z407) q407) rfl rfl rfl rfl rfl Wl ?_
          rintro _ rfl
          refine Ky ?_
          refine KF ?_
          refine Ka ?_
          refine Kx ?_
          refine pu ?_
          refine pu ?_
          refine Ky ?_
          refine Ka ⟨_, Kam hm, ?_⟩
          exact WkX.of () (WkS.perm (WkS.cons rfl (Wk.refl _) (WkS.cons rfl (Wk.refl _) (WkS.cons rfl (Wk.refl _) (WkS.cons rfl (Wk.refl _) (WkS.cons rfl (Wk.refl _) (WkS.cons rfl (Wk.refl _) (WkS.nil))))))) Pf Pf)
         ·replace hm := yes_f hc405 hm
          refine Kp ?_
          refine KF ?_
          refine Ka ?_
          refine Kx ?_
          refine pu ?_
          refine pu ?_
          refine Ky ?_
          refine Ka ⟨_, Kam hm, ?_⟩
          exact WkX.of () (WkS.perm (WkS.cons rfl (Wk.refl _) (WkS.cons rfl (Wk.refl _) (WkS.cons rfl (Wk.refl _) (WkS.cons rfl (Wk.refl _) (WkS.cons rfl (Wk.refl _) (WkS.cons rfl (Wk.refl _) (WkS.nil))))))) Pf Pf)
        ·replace hm := yes_f hc400 hm
         refine Kad ?_
         refine KC ?_
         have e381 := KP hm; subst e381; clear hm; have hm := hq381
         refine KC ?_
         refine K7 ?_
         have e380 := Ke hm; subst e380
         refine Kaf ?_
         exact WkX.of () (WkS.perm (WkS.cons rfl (Wk.refl _) (WkS.cons rfl (Wk.refl _) (WkS.nil))) Pf Pf)
      ·intro y380 s380 hx380 hw380; subst hx380; clear hm; have hm := ho380; simp only [Sum.elim_inl] at hm; clear q380 ho380
       refine Ka ?_
       refine KQ hw380 (fun z380 => ?_)
       refine Kg ?_
       refine Kd ?_
       refine pu ?_
       refine pL 1 ?_
       refine pu ?_
       refine Kb ?_
       refine Kk rfl (fun hc409 => ?_) (fun hc409 => ?_)
       ·replace hm := yes_t hc409 hm
        refine Kx ?_
        refine Kai (d := KW a0) 0 htab rfl rfl rfl rfl rfl rfl rfl rfl ?_
        refine pu ?_
        refine pL 1 ?_
        refine pu ?_
        refine pL 1 ?_
        refine p_lit htab rfl rfl rfl rfl rfl rfl rfl rfl rfl rfl rfl rfl rfl rfl ?_
        refine p_eq (i := 64) (d' := .lst 1 (([(1 : Int)] : List Int).map eI64) .full) rfl (Wk.lst0 (.cons (WkC.refl _) (.nil))) ?_
        obtain ⟨x410, q410, hm⟩ := Kc hm
        rcases x410 with pe410 | z410
        ·simp only [Sum.elim_inl] at hm
         refine KaE (Kau a0 a1.gName a1.gAt ([(1 : Int)] : List Int) (.inl pe410) q410) rfl rfl rfl (WkL.cons (Wk.refl _) (WkL.cons (Wk.refl _) (WkL.cons (Wk.refl _) (WkL.cons (Wk.no) Wl)))) Pf Pf ?_
         refine KT ?_
         refine Kal ?_
         refine KT ?_
         have e208 := KP hm; subst e208; clear hm; have hm := hq208
         refine KT ?_
         refine Kal ?_
         have e207 := Ke hm; subst e207; refine Kab ?_; clear hm; have hm := ho207; simp only [Sum.elim_inr] at hm
         refine KT ?_
         have er411 := Ke hm; subst er411; exact Kao
        simp only [Sum.elim_inr] at hm
        refine KN (Kau a0 a1.gName a1.gAt ([(1 : Int)] : List Int) (.inr z410) q410) rfl rfl rfl rfl rfl (WkL.cons (Wk.refl _) (WkL.cons (Wk.refl _) (WkL.cons (Wk.refl _) (WkL.cons (Wk.no) Wl)))) ?_
        rintro _ rfl
        refine Kb ?_
        refine Kr ?_
        refine KE ?_
        refine Kt ?_
        have e208 := KP hm; subst e208; clear hm; have hm := hq208
        refine Kt ?_
        refine KE ?_
        have e207 := Ke hm; subst e207; refine Kax ?_; clear hm; have hm := ho207; simp only [Sum.elim_inr] at hm
        refine Kt ?_
        have er412 := Ke hm; subst er412; refine KbA ?_
        refine rP (t' := []) [] [] 0 wN lN ?_
        exact ⟨rfl, rfl, rfl⟩
       ·replace hm := yes_f hc409 hm
        refine Kp ?_
        refine Ka ?_
        refine Kr ?_
        refine KE ?_
        refine Kt ?_
        have e208 := KP hm; subst e208; clear hm; have hm := hq208
        refine Kt ?_
        refine KE ?_
        have e207 := Ke hm; subst e207; refine Kax ?_; clear hm; have hm := ho207; simp only [Sum.elim_inr] at hm
        refine Kt ?_
        have er413 := Ke hm; subst er413; refine KbA ?_
        refine rP (t' := []) [] [] 0 wN lN ?_
        exact ⟨rfl, rfl, rfl⟩
   ·replace hm := yes_f hc343 hm
    refine Kad ?_
    refine KC ?_
    have e208 := KP hm; subst e208; clear hm; have hm := hq208
    refine KC ?_
    refine K7 ?_
    have e207 := Ke hm; subst e207
    refine Kaf ?_
    exact WkX.of () (WkS.perm (WkS.cons rfl (Wk.refl _) (WkS.nil)) ((Kah (j := 1) rfl).trans (List.Perm.cons _ Pf)) Pf)
 ·intro y207 s207 hx207 hw207; subst hx207; clear hm; have hm := ho207; simp only [Sum.elim_inl] at hm; clear q207 ho207
  refine Ka ?_
  refine KQ hw207 (fun z207 => ?_)
  refine Kx ?_
  refine pu ?_
  refine pL 0 ?_
  obtain ⟨x414, q414, hm⟩ := Kc hm
  rcases x414 with pe414 | z414
  ·simp only [Sum.elim_inl] at hm
   refine KaE (KaK a1.gAt (7 : Int) (.inl pe414) q414) rfl rfl rfl Wl Pf Pf ?_
   have er415 := Ke hm; subst er415; exact Kao
  simp only [Sum.elim_inr] at hm
  refine KN (KaK a1.gAt (7 : Int) (.inr z414) q414) rfl rfl rfl rfl rfl Wl ?_
  rintro _ rfl
  refine Ky ?_
  have er416 := Ke hm; subst er416; refine KbA ?_
  refine rP (t' := []) [] [] 0 wN lN ?_
  exact ⟨rfl, rfl, rfl⟩
end Go.Proofs.YtipfljkjjddapaaGreatDoor.Ab
namespace Go.Proofs.YtipfljkjjddapaaGreatDoor.Ab
open Go
set_option linter.all false
noncomputable def KaS (g0 : (Kv) → (List Ki) → Option ((Int × Int) ⊕ (Unit))) (g1 : (Kv) → (Ki) → Option ((Int × Int) ⊕ (Unit))) (a0 : Kv) (a1 : List Ki) : Option ((Int × Int) ⊕ (Unit)) :=
 (Option.bind (α := (Unit) ⊕ ((Int × Int) ⊕ (Unit))) (loopM (fun (s19 : Int) => (bif (decide (s19 < (a1.length : Int))) then ((idx a1 s19).bind fun x31 => ((g1 a0 x31).bind fun x33 => Sum.elim (fun pe33 => some (.done (.inr (.inl pe33)))) (fun z33 => some (.next (IntKind.i64.wrap (s19 + (1 : Int))))) x33)) else some (.done (.inl ())))) (0 : Int)) (Sum.elim (fun y18 => some (.inr ())) (fun r => some r)))
theorem KhX (g0 : (Kv) → (List Ki) → Option ((Int × Int) ⊕ (Unit))) (g1 : (Kv) → (Ki) → Option ((Int × Int) ⊕ (Unit))) (hg0 : ∀ (a0 : Kv) (a1 : List Ki) (r : (Int × Int) ⊕ (Unit)) (h0 : g0 a0 a1 = some r), Kba zc Tryz.prog 124 [KW a0, .lst 7 (a1.map Kf) .no] [] [] r (fun r d h k => d = .tup [] ∧ h = [] ∧ k = [])) (hg1 : ∀ (a0 : Kv) (a1 : Ki) (r : (Int × Int) ⊕ (Unit)) (h0 : g1 a0 a1 = some r), Kba zc Tryz.prog 153 [KW a0, Kf a1] [] [] r (fun r d h k => d = .tup [] ∧ h = [] ∧ k = [])) (a0 : Kv) (a1 : List Ki) (r : (Int × Int) ⊕ (Unit)) (h0 : KaS g0 g1 a0 a1 = some r) : Kba zc Tryz.prog 124 [KW a0, .lst 7 (a1.map Kf) .no] [] [] r (fun r d h k => d = .tup [] ∧ h = [] ∧ k = []) := by
 have hm := Kw h0
 unfold KaS at hm
 clear h0
 refine Ke5 htab Tryz.func124 rfl rfl rfl rfl rfl (fun C => ?_)
 refine Kd ?_
 refine p_box rfl rfl rfl rfl rfl rfl rfl (fun b1 => ?_)
 refine KK ?_
 refine pu ?_
 refine Kaa htab rfl rfl rfl rfl rfl rfl rfl (by first | exact KM | rfl) ?_
 refine pu ?_
 refine Kb ?_
 obtain ⟨x18, q18, ho18⟩ := Kc hm
 refine Kaq (τ := Unit) (Y := Unit) (fun y18 z18 => (⟨[], [], []⟩ : S)) x18 ?_ ?_
 ·clear hm; have hm := Kw q18
  refine KA ?_
  obtain ⟨u19, hl19, hq19⟩ := yes_m hm
  refine Kav (Y := Unit) hl19 (fun s19 z19 => (⟨[(2, .ptr b1 0), (6, .lst 7 (a1.map Kf) .no), (7, .v (.int .i64 (a1.length : Int))), (8, .v (.int .i64 s19))], [(b1, Blk.cells [.lst 4 (a0.gP.gGlobals.map Ks) .no, .lst 5 (a0.gP.gFuncs.map Ko) .no, .v (.string a0.gF.gName), .lst 2 (a0.gF.gParams.map Kj) .no, .lst 2 (a0.gF.gLocals.map Kj) .no, .lst 7 (a0.gF.gBody.map Kf) .no, .v (.int .i64 a0.gF.gAt)] 192)], []⟩ : S)) ?_ ?_
  ·skip
   exact WkX.of () (WkS.perm (WkS.cons rfl (Wk.refl _) (WkS.cons rfl (Wk.refl _) (WkS.cons rfl (Wk.refl _) (WkS.cons rfl (Wk.refl _) (WkS.nil))))) Pf Pf)
  ·intro G19 s19 z19 hm
   refine Kd ?_
   refine pu ?_
   refine Kb ?_
   refine Kg ?_
   refine Kk rfl (fun hc30 => ?_) (fun hc30 => ?_)
   ·replace hm := yes_t hc30 hm
    refine Kp ?_
    refine Ka ?_
    refine Kg ?_
    refine KA ?_
    refine Kd ?_
    obtain ⟨x31, q31, hm⟩ := Kc hm
    refine KaD htab rfl rfl rfl rfl rfl rfl rfl rfl rfl rfl (Kz q31) (KG q31) ?_
    refine p_eq (i := 10) rfl (Wk.of_eq (congrArg D.el (KU x31))) ?_
    refine Kat (d := .agg [.v (.int .i64 x31.gOp), .v (.string x31.gName), .v (.string x31.gFunc), .lst 5 (x31.gExps.map Kn) .no, .lst 7 (x31.gKids.map Kf) .no, .lst 7 (x31.gElse.map Kf) .no, .v (.int .i64 x31.gAt)]) htab rfl rfl rfl rfl rfl rfl rfl rfl ?_
    refine Kar htab rfl rfl rfl rfl rfl rfl rfl (fun b32 => ?_)
    refine pS1 (ds' := [.v (.int .i64 x31.gOp), .v (.string x31.gName), .v (.string x31.gFunc), .lst 5 (x31.gExps.map Kn) .no, .lst 7 (x31.gKids.map Kf) .no, .lst 7 (x31.gElse.map Kf) .no, .v (.int .i64 x31.gAt)]) ?_
    refine Kb ?_
    refine Kx ?_
    refine Kai (d := KW a0) 0 htab rfl rfl rfl rfl rfl rfl rfl rfl ?_
    refine Kai (d := .agg [.v (.int .i64 x31.gOp), .v (.string x31.gName), .v (.string x31.gFunc), .lst 5 (x31.gExps.map Kn) .no, .lst 7 (x31.gKids.map Kf) .no, .lst 7 (x31.gElse.map Kf) .no, .v (.int .i64 x31.gAt)]) 1 htab rfl rfl rfl rfl rfl rfl rfl rfl ?_
    obtain ⟨x33, q33, hm⟩ := Kc hm
    rcases x33 with pe33 | z33
    ·simp only [Sum.elim_inl] at hm
     refine KaE (hg1 a0 x31 (.inl pe33) q33) rfl rfl rfl (WkL.cons (Wk.refl _) (WkL.cons (Wk.trans (Wk.agg (WkR.refl _)) (Wk.of_eq (KU x31).symm)) Wl)) Pf Pf ?_
     refine Kal ?_
     refine KT ?_
     have e19 := KP hm; subst e19; clear hm; have hm := hq19
     refine KT ?_
     refine Kal ?_
     have e18 := Ke hm; subst e18; refine Kab ?_; clear hm; have hm := ho18; simp only [Sum.elim_inr] at hm
     have er34 := Ke hm; subst er34; exact Kao
    simp only [Sum.elim_inr] at hm
    refine KN (hg1 a0 x31 (.inr z33) q33) rfl rfl rfl rfl rfl (WkL.cons (Wk.refl _) (WkL.cons (Wk.trans (Wk.agg (WkR.refl _)) (Wk.of_eq (KU x31).symm)) Wl)) ?_
    rintro _ rfl
    refine Ky ?_
    refine KF ?_
    refine Ka ?_
    refine Kx ?_
    refine pu ?_
    refine pu ?_
    refine Ky ?_
    refine Ka ⟨_, Kam hm, ?_⟩
    exact WkX.of () (WkS.perm (WkS.cons rfl (Wk.refl _) (WkS.cons rfl (Wk.refl _) (WkS.cons rfl (Wk.refl _) (WkS.cons rfl (Wk.refl _) (WkS.nil))))) Pf Pf)
   ·replace hm := yes_f hc30 hm
    refine Kad ?_
    refine KC ?_
    have e19 := KP hm; subst e19; clear hm; have hm := hq19
    refine KC ?_
    refine K7 ?_
    have e18 := Ke hm; subst e18
    refine Kaf ?_
    exact WkX.of () (WkS.perm (WkS.nil) Pf Pf)
 ·intro y18 s18 hx18 hw18; subst hx18; clear hm; have hm := ho18; simp only [Sum.elim_inl] at hm; clear q18 ho18
  have er35 := Ke hm; subst er35; refine KbA ?_
  refine retX.wkX hw18 (fun z18 => ?_)
  refine rP (t' := []) [] [] 0 wN lN ?_
  exact ⟨rfl, rfl, rfl⟩
noncomputable def KaZ (g0 : (Kv) → (List Ki) → Option ((Int × Int) ⊕ (Unit))) (g1 : (Kv) → (Ki) → Option ((Int × Int) ⊕ (Unit))) (a0 : Kv) (a1 : Ki) : Option ((Int × Int) ⊕ (Unit)) :=
 ((KdZ a1).bind fun x3 => (Option.bind (α := Bool) (bif (decide (x3 < (0 : Int))) then some true else some ((a1.gExps.length : Int) != x3)) fun y5 => (Option.bind (α := (Unit) ⊕ ((Int × Int) ⊕ (Unit))) (bif y5 then ((Kaz a1.gAt (2 : Int)).bind fun x11 => Sum.elim (fun pe11 => some (.inr (.inl pe11))) (fun z11 => some (.inl ())) x11) else some (.inl ())) (Sum.elim (fun y9 => ((Kc3 a0 a1.gExps).bind fun x14 => Sum.elim (fun pe14 => some (.inl pe14)) (fun z14 => (Option.bind (α := (Unit) ⊕ ((Int × Int) ⊕ (Unit))) (Option.bind (α := (Unit) ⊕ ((Int × Int) ⊕ (Unit))) (bif (a1.gOp == (1 : Int)) then ((idx z14 (0 : Int)).bind fun x69 => ((KaG a0 a1.gName a1.gAt ([(1 : Int), (2 : Int)] : List Int)).bind fun x70 => Sum.elim (fun pe70 => some (.inr (.inl pe70))) (fun z70 => (Option.bind (α := (Unit) ⊕ ((Int × Int) ⊕ (Unit))) (bif (z70 != x69) then ((Kaz a1.gAt (9 : Int)).bind fun x76 => Sum.elim (fun pe76 => some (.inr (.inl pe76))) (fun z76 => some (.inl ())) x76) else some (.inl ())) (Sum.elim (fun y74 => some (.inl ())) (fun r => some (.inr r))))) x70)) else (Option.bind (α := (Unit) ⊕ ((Int × Int) ⊕ (Unit))) (bif (a1.gOp == (2 : Int)) then ((idx a1.gExps (0 : Int)).bind fun x100 => ((idx z14 (0 : Int)).bind fun x101 => ((Kbu x100 x101).bind fun x102 => Sum.elim (fun pe102 => some (.inr (.inl pe102))) (fun z102 => ((idx a1.gExps (1 : Int)).bind fun x104 => ((idx z14 (1 : Int)).bind fun x105 => ((Kbu x104 x105).bind fun x106 => Sum.elim (fun pe106 => some (.inr (.inl pe106))) (fun z106 => ((KaG a0 a1.gName a1.gAt ([(3 : Int)] : List Int)).bind fun x108 => Sum.elim (fun pe108 => some (.inr (.inl pe108))) (fun z108 => some (.inl ())) x108)) x106)))) x102))) else (Option.bind (α := (Unit) ⊕ ((Int × Int) ⊕ (Unit))) (bif (a1.gOp == (3 : Int)) then ((idx a1.gExps (0 : Int)).bind fun x124 => ((idx z14 (0 : Int)).bind fun x125 => ((Kbu x124 x125).bind fun x126 => Sum.elim (fun pe126 => some (.inr (.inl pe126))) (fun z126 => ((KaG a0 a1.gName a1.gAt ([(2 : Int)] : List Int)).bind fun x128 => Sum.elim (fun pe128 => some (.inr (.inl pe128))) (fun z128 => some (.inl ())) x128)) x126))) else (Option.bind (α := (Unit) ⊕ ((Int × Int) ⊕ (Unit))) (bif (a1.gOp == (4 : Int)) then ((Kb3 a0 a1 z14).bind fun x139 => Sum.elim (fun pe139 => some (.inr (.inl pe139))) (fun z139 => some (.inl ())) x139) else (Option.bind (α := (Unit) ⊕ ((Int × Int) ⊕ (Unit))) (bif (a1.gOp == (5 : Int)) then ((KaG a0 a1.gName a1.gAt ([(1 : Int)] : List Int)).bind fun x148 => Sum.elim (fun pe148 => some (.inr (.inl pe148))) (fun z148 => some (.inl ())) x148) else ((idx a1.gExps (0 : Int)).bind fun x150 => ((idx z14 (0 : Int)).bind fun x151 => ((Kbu x150 x151).bind fun x152 => Sum.elim (fun pe152 => some (.inr (.inl pe152))) (fun z152 => some (.inl ())) x152)))) (Sum.elim (fun y146 => some (.inl ())) (fun r => some (.inr r))))) (Sum.elim (fun y137 => some (.inl ())) (fun r => some (.inr r))))) (Sum.elim (fun y122 => some (.inl ())) (fun r => some (.inr r))))) (Sum.elim (fun y98 => some (.inl ())) (fun r => some (.inr r))))) (Sum.elim (fun y67 => some (.inl ())) (fun r => some (.inr r)))) (Sum.elim (fun y41 => ((g0 a0 a1.gKids).bind fun x154 => Sum.elim (fun pe154 => some (.inl pe154)) (fun z154 => ((g0 a0 a1.gElse).bind fun x156 => Sum.elim (fun pe156 => some (.inl pe156)) (fun z156 => some (.inr ())) x156)) x154)) (fun r => some r)))) x14)) (fun r => some r)))))
theorem Kin (g0 : (Kv) → (List Ki) → Option ((Int × Int) ⊕ (Unit))) (g1 : (Kv) → (Ki) → Option ((Int × Int) ⊕ (Unit))) (hg0 : ∀ (a0 : Kv) (a1 : List Ki) (r : (Int × Int) ⊕ (Unit)) (h0 : g0 a0 a1 = some r), Kba zc Tryz.prog 124 [KW a0, .lst 7 (a1.map Kf) .no] [] [] r (fun r d h k => d = .tup [] ∧ h = [] ∧ k = [])) (hg1 : ∀ (a0 : Kv) (a1 : Ki) (r : (Int × Int) ⊕ (Unit)) (h0 : g1 a0 a1 = some r), Kba zc Tryz.prog 153 [KW a0, Kf a1] [] [] r (fun r d h k => d = .tup [] ∧ h = [] ∧ k = [])) (a0 : Kv) (a1 : Ki) (r : (Int × Int) ⊕ (Unit)) (h0 : KaZ g0 g1 a0 a1 = some r) : Kba zc Tryz.prog 153 [KW a0, Kf a1] [] [] r (fun r d h k => d = .tup [] ∧ h = [] ∧ k = []) := by
 have hm := Kw h0
 unfold KaZ at hm
 clear h0
 refine Ke5 htab Tryz.func153 rfl rfl rfl rfl rfl (fun C => ?_)
 refine w_eq (i := 1) rfl (Wk.of_eq (KU a1)) ?_
 refine Kd ?_
 refine p_box rfl rfl rfl rfl rfl rfl rfl (fun b1 => ?_)
 refine p_box rfl rfl rfl rfl rfl rfl rfl (fun b2 => ?_)
 refine Kb ?_
 refine Kg ?_
 refine Kd ?_
 refine Kai (d := .agg [.v (.int .i64 a1.gOp), .v (.string a1.gName), .v (.string a1.gFunc), .lst 5 (a1.gExps.map Kn) .no, .lst 7 (a1.gKids.map Kf) .no, .lst 7 (a1.gElse.map Kf) .no, .v (.int .i64 a1.gAt)]) 1 htab rfl rfl rfl rfl rfl rfl rfl rfl ?_
 obtain ⟨x3, q3, hm⟩ := Kc hm
 refine KN (KlS a1 x3 q3) rfl rfl rfl rfl rfl (WkL.cons (Wk.trans (Wk.agg (WkR.refl _)) (Wk.of_eq (KU a1).symm)) Wl) ?_
 rintro _ rfl
 refine pu ?_
 refine Kb ?_
 refine Kg ?_
 obtain ⟨y5, q5, ho5⟩ := Kc hm
 refine K5 (Y := Unit) (fun z5 => (⟨[(2, .ptr b1 0), (3, .ptr b2 0), (16, .v (.bool y5))], [(b1, Blk.cells [.lst 4 (a0.gP.gGlobals.map Ks) .no, .lst 5 (a0.gP.gFuncs.map Ko) .no, .v (.string a0.gF.gName), .lst 2 (a0.gF.gParams.map Kj) .no, .lst 2 (a0.gF.gLocals.map Kj) .no, .lst 7 (a0.gF.gBody.map Kf) .no, .v (.int .i64 a0.gF.gAt)] 192), (b2, Blk.cells [.v (.int .i64 a1.gOp), .v (.string a1.gName), .v (.string a1.gFunc), .lst 5 (a1.gExps.map Kn) .no, .lst 7 (a1.gKids.map Kf) .no, .lst 7 (a1.gElse.map Kf) .no, .v (.int .i64 a1.gAt)] 121)], []⟩ : S)) ?_ ?_
 ·clear hm; have hm := Kw q5
  refine Kx ?_
  iterate 3 refine pu ?_
  refine Kaj (i := 10) rfl (fun hg6 => ?_) (fun hg6 => ?_)
  ·replace hm := yes_t hg6 hm
   iterate 5 refine pK ?_
   refine K3 rfl rfl rfl rfl rfl rfl ?_
   refine Ky ?_
   have e5 := Ke hm; subst e5
   refine ⟨rfl, ?_⟩
   exact WkX.of () (WkS.perm (WkS.cons rfl (Wk.refl _) (WkS.cons rfl (Wk.refl _) (WkS.cons rfl (Wk.refl _) (WkS.nil)))) Pf Pf)
  ·replace hm := yes_f hg6 hm
   refine pu ?_
   refine pL 1 ?_
   refine Kaa htab rfl rfl rfl rfl rfl rfl rfl (by first | exact KM | rfl) ?_
   refine pu ?_
   refine pu ?_
   refine KO rfl rfl rfl rfl rfl rfl ?_
   refine Ky ?_
   have e5 := Ke hm; subst e5
   refine ⟨rfl, ?_⟩
   exact WkX.of () (WkS.perm (WkS.cons rfl (Wk.refl _) (WkS.cons rfl (Wk.refl _) (WkS.cons rfl (Wk.refl _) (WkS.nil)))) Pf Pf)
 ·intro s5 hw5; clear hm; have hm := ho5; clear q5 ho5
  refine Ka ?_
  refine KQ hw5 (fun z5 => ?_)
  obtain ⟨x9, q9, ho9⟩ := Kc hm
  refine Kaq (τ := Unit) (Y := Unit) (fun y9 z9 => (⟨[(2, .ptr b1 0), (3, .ptr b2 0)], [(b1, Blk.cells [.lst 4 (a0.gP.gGlobals.map Ks) .no, .lst 5 (a0.gP.gFuncs.map Ko) .no, .v (.string a0.gF.gName), .lst 2 (a0.gF.gParams.map Kj) .no, .lst 2 (a0.gF.gLocals.map Kj) .no, .lst 7 (a0.gF.gBody.map Kf) .no, .v (.int .i64 a0.gF.gAt)] 192), (b2, Blk.cells [.v (.int .i64 a1.gOp), .v (.string a1.gName), .v (.string a1.gFunc), .lst 5 (a1.gExps.map Kn) .no, .lst 7 (a1.gKids.map Kf) .no, .lst 7 (a1.gElse.map Kf) .no, .v (.int .i64 a1.gAt)] 121)], []⟩ : S)) x9 ?_ ?_
  ·clear hm; have hm := Kw q9
   refine Kk rfl (fun hc10 => ?_) (fun hc10 => ?_)
   ·replace hm := yes_t hc10 hm
    refine Kx ?_
    refine pu ?_
    refine pL 1 ?_
    obtain ⟨x11, q11, hm⟩ := Kc hm
    rcases x11 with pe11 | z11
    ·simp only [Sum.elim_inl] at hm
     refine KaE (KaK a1.gAt (2 : Int) (.inl pe11) q11) rfl rfl rfl Wl Pf Pf ?_
     have e9 := Ke hm; subst e9; refine Kab ?_; clear hm; have hm := ho9; simp only [Sum.elim_inr] at hm
     refine KT ?_
     have er12 := Ke hm; subst er12; exact Kao
    simp only [Sum.elim_inr] at hm
    refine KN (KaK a1.gAt (2 : Int) (.inr z11) q11) rfl rfl rfl rfl rfl Wl ?_
    rintro _ rfl
    refine Ky ?_
    have e9 := Ke hm; subst e9
    refine Kaf ?_
    exact WkX.of () (WkS.perm (WkS.cons rfl (Wk.refl _) (WkS.cons rfl (Wk.refl _) (WkS.nil))) Pf Pf)
   ·replace hm := yes_f hc10 hm
    refine Kp ?_
    have e9 := Ke hm; subst e9
    refine Kaf ?_
    exact WkX.of () (WkS.perm (WkS.cons rfl (Wk.refl _) (WkS.cons rfl (Wk.refl _) (WkS.nil))) Pf Pf)
  ·intro y9 s9 hx9 hw9; subst hx9; clear hm; have hm := ho9; simp only [Sum.elim_inl] at hm; clear q9 ho9
   refine Ka ?_
   refine KQ hw9 (fun z9 => ?_)
   refine Kd ?_
   refine Kai (d := KW a0) 0 htab rfl rfl rfl rfl rfl rfl rfl rfl ?_
   refine pu ?_
   refine pL 1 ?_
   obtain ⟨x14, q14, hm⟩ := Kc hm
   rcases x14 with pe14 | z14
   ·simp only [Sum.elim_inl] at hm
    refine KaE (Kf6 a0 a1.gExps (.inl pe14) q14) rfl rfl rfl Wl Pf Pf ?_
    refine KT ?_
    have er15 := Ke hm; subst er15; exact Kao
   simp only [Sum.elim_inr] at hm
   refine pG (Kf6 a0 a1.gExps (.inr z14) q14) Wl Pf Pf ?_
   rintro _ _ _ ⟨w13, rfl, rfl, rfl⟩
   refine pu ?_
   refine Kb ?_
   refine Kg ?_
   refine Kd ?_
   refine pu ?_
   refine pL 1 ?_
   refine Kb ?_
   obtain ⟨x41, q41, ho41⟩ := Kc hm
   refine Kaq (τ := Unit) (Y := Unit) (fun y41 z41 => (⟨[(2, .ptr b1 0), (3, .ptr b2 0)], [(b1, Blk.cells [.lst 4 (a0.gP.gGlobals.map Ks) .no, .lst 5 (a0.gP.gFuncs.map Ko) .no, .v (.string a0.gF.gName), .lst 2 (a0.gF.gParams.map Kj) .no, .lst 2 (a0.gF.gLocals.map Kj) .no, .lst 7 (a0.gF.gBody.map Kf) .no, .v (.int .i64 a0.gF.gAt)] 192), (b2, Blk.cells [.v (.int .i64 a1.gOp), .v (.string a1.gName), .v (.string a1.gFunc), .lst 5 (a1.gExps.map Kn) .no, .lst 7 (a1.gKids.map Kf) .no, .lst 7 (a1.gElse.map Kf) .no, .v (.int .i64 a1.gAt)] 121)], []⟩ : S)) x41 ?_ ?_
   ·clear hm; have hm := Kw q41
    refine KA ?_
    refine Kd ?_
    refine pu ?_
    refine pu ?_
    refine Kb ?_
    obtain ⟨x67, q67, ho67⟩ := Kc hm
    refine Kaq (τ := Unit) (Y := Unit) (fun y67 z67 => (⟨[(2, .ptr b1 0), (3, .ptr b2 0)], [(b1, Blk.cells [.lst 4 (a0.gP.gGlobals.map Ks) .no, .lst 5 (a0.gP.gFuncs.map Ko) .no, .v (.string a0.gF.gName), .lst 2 (a0.gF.gParams.map Kj) .no, .lst 2 (a0.gF.gLocals.map Kj) .no, .lst 7 (a0.gF.gBody.map Kf) .no, .v (.int .i64 a0.gF.gAt)] 192), (b2, Blk.cells [.v (.int .i64 a1.gOp), .v (.string a1.gName), .v (.string a1.gFunc), .lst 5 (a1.gExps.map Kn) .no, .lst 7 (a1.gKids.map Kf) .no, .lst 7 (a1.gElse.map Kf) .no, .v (.int .i64 a1.gAt)] 121)], []⟩ : S)) x67 ?_ ?_
    ·clear hm; have hm := Kw q67
     refine Kk rfl (fun hc68 => ?_) (fun hc68 => ?_)
     ·replace hm := yes_t hc68 hm
      refine Kg ?_
      obtain ⟨x69, q69, hm⟩ := Kc hm
      obtain ⟨x70, q70, hm⟩ := Kc hm
      rcases x70 with pe70 | z70
      ·simp only [Sum.elim_inl] at hm
       refine Az.wpD_heavyZ (Zc := zc) (pe := pe70) (X := Unit) 10 [] [[],[],[1],[],[3],[],[0,1,2,3,4,5],[],[7],[7,8]] [0,1,2,3,4,5,6,7,8,9] [[],[],[1],[],[3],[],[0,1,2,3,4,5],[],[7],[7,8],[0,1,2,3,4,5,6,7,8,9]] ⟨6, fun _ => [], fun _ => [], fun _ => False⟩ () ?_ (by kernel_rfl) (by kernel_rfl) (by kernel_rfl) (by rfl) (by rfl) (by kernel_rfl) ?_
       ·skip
        refine KT ?_
        have e67 := Ke hm; subst e67; refine Kab ?_; clear hm; have hm := ho67; simp only [Sum.elim_inr] at hm
        refine Kal ?_
        have e41 := Ke hm; subst e41; refine Kab ?_; clear hm; have hm := ho41; simp only [Sum.elim_inr] at hm
        refine KT ?_
        have er71 := Ke hm; subst er71; exact Kao
       iterate 10 apply Exists.intro
       intro bs
       refine Az.zx_M rfl rfl (fun _ => KI (d := KW a0) 0 htab rfl rfl rfl rfl rfl) (fun _ _ hf => hf.elim) rfl rfl rfl rfl rfl rfl rfl rfl ?_
       refine Az.zx_e rfl rfl (Kay htab rfl) rfl rfl rfl rfl rfl rfl rfl rfl ?_
       refine Az.zx_M rfl rfl (fun _ => KI 1 htab rfl rfl rfl rfl rfl) (fun _ _ hf => hf.elim) rfl rfl rfl rfl rfl rfl rfl rfl ?_
       refine Az.zx_e rfl rfl (Kay htab rfl) rfl rfl rfl rfl rfl rfl rfl rfl ?_
       refine Az.zx_M rfl rfl (fun _ => KI 1 htab rfl rfl rfl rfl rfl) (fun _ _ hf => hf.elim) rfl rfl rfl rfl rfl rfl rfl rfl ?_
       refine Az.zx_E rfl rfl (ExE.wk (x_lit htab rfl rfl rfl rfl rfl rfl rfl rfl rfl rfl rfl) (show Wk _ (.lst 1 (([(1 : Int), (2 : Int)] : List Int).map eI64) .full) from Wk.lst0 (.cons (WkC.refl _) (.cons (WkC.refl _) (.nil))))) rfl rfl rfl rfl rfl rfl rfl rfl ?_
       refine Az.zx_callE (d := .v (.int .i64 (0 : Int))) rfl rfl rfl (Kau a0 a1.gName a1.gAt ([(1 : Int), (2 : Int)] : List Int) (.inl pe70) q70) rfl rfl (WkL.cons (Wk.refl _) (WkL.cons (Wk.refl _) (WkL.cons (Wk.refl _) (WkL.cons (Wk.no) Wl)))) Pf Pf rfl rfl rfl rfl rfl rfl ?_
       refine Az.zx_e rfl rfl (Kay htab rfl) rfl rfl rfl rfl rfl rfl rfl rfl ?_
       refine Az.zx_e rfl rfl (Kak htab rfl rfl rfl rfl rfl rfl rfl (Kz q69) (KG q69)) rfl rfl rfl rfl rfl rfl rfl rfl ?_
       refine Az.zx_M rfl rfl (fun _ => KX htab rfl rfl rfl rfl rfl) (fun _ _ hf => hf.elim) rfl rfl rfl rfl rfl rfl rfl rfl ?_
       exact Az.zx_nil0 (fun _ h => h) (by rfl)
      simp only [Sum.elim_inr] at hm
      refine KZ 10 [] [[],[],[1],[],[3],[],[0,1,3,5],[],[7],[7,8]] [0,1,3,5,6,7,8] [[],[],[1],[],[3],[],[0,1,2,3,4,5],[],[7],[7,8],[0,1,2,3,4,5,6,7,8,9]] (by kernel_rfl) (by kernel_rfl) (by kernel_rfl) (by rfl) (by rfl) (by kernel_rfl) ?_
      iterate 7 apply Exists.intro
      intro bs
      refine z_eM rfl rfl (KI (d := KW a0) 0 htab rfl rfl rfl rfl rfl) rfl rfl rfl rfl rfl rfl ?_
      refine zep ?_
      refine z_qM rfl rfl (KI 1 htab rfl rfl rfl rfl rfl) rfl rfl rfl rfl rfl rfl ?_
      refine zep ?_
      refine z_qM rfl rfl (KI 1 htab rfl rfl rfl rfl rfl) rfl rfl rfl rfl rfl rfl ?_
      refine z_E rfl rfl (ExE.wk (x_lit htab rfl rfl rfl rfl rfl rfl rfl rfl rfl rfl rfl) (show Wk _ (.lst 1 (([(1 : Int), (2 : Int)] : List Int).map eI64) .full) from Wk.lst0 (.cons (WkC.refl _) (.cons (WkC.refl _) (.nil))))) rfl rfl rfl rfl rfl rfl ?_
      refine Kbj rfl rfl (Kau a0 a1.gName a1.gAt ([(1 : Int), (2 : Int)] : List Int) (.inr z70) q70) rfl rfl (WkL.cons (Wk.refl _) (WkL.cons (Wk.refl _) (WkL.cons (Wk.refl _) (WkL.cons (Wk.no) Wl)))) rfl rfl rfl rfl rfl rfl ?_
      refine zep ?_
      refine z_e rfl rfl (Kak htab rfl rfl rfl rfl rfl rfl rfl (Kz q69) (KG q69)) rfl rfl rfl rfl rfl rfl ?_
      refine z_qM rfl rfl (KX htab rfl rfl rfl rfl rfl) rfl rfl rfl rfl rfl rfl ?_
      refine z_nil rfl rfl (fun e he => by simp [isAl] at he) ?_
      refine pu ?_
      refine Kb ?_
      obtain ⟨x74, q74, ho74⟩ := Kc hm
      refine Kaq (τ := Unit) (Y := Unit) (fun y74 z74 => (⟨[(2, .ptr b1 0), (3, .ptr b2 0)], [(b1, Blk.cells [.lst 4 (a0.gP.gGlobals.map Ks) .no, .lst 5 (a0.gP.gFuncs.map Ko) .no, .v (.string a0.gF.gName), .lst 2 (a0.gF.gParams.map Kj) .no, .lst 2 (a0.gF.gLocals.map Kj) .no, .lst 7 (a0.gF.gBody.map Kf) .no, .v (.int .i64 a0.gF.gAt)] 192), (b2, Blk.cells [.v (.int .i64 a1.gOp), .v (.string a1.gName), .v (.string a1.gFunc), .lst 5 (a1.gExps.map Kn) .no, .lst 7 (a1.gKids.map Kf) .no, .lst 7 (a1.gElse.map Kf) .no, .v (.int .i64 a1.gAt)] 121)], []⟩ : S)) x74 ?_ ?_
      ·clear hm; have hm := Kw q74
       refine Kk rfl (fun hc75 => ?_) (fun hc75 => ?_)
       ·replace hm := yes_t hc75 hm
        refine Kx ?_
        refine pu ?_
        refine pL 1 ?_
        obtain ⟨x76, q76, hm⟩ := Kc hm
        rcases x76 with pe76 | z76
        ·simp only [Sum.elim_inl] at hm
         refine KaE (KaK a1.gAt (9 : Int) (.inl pe76) q76) rfl rfl rfl Wl Pf Pf ?_
         have e74 := Ke hm; subst e74; refine Kab ?_; clear hm; have hm := ho74; simp only [Sum.elim_inr] at hm
         have e67 := Ke hm; subst e67; refine Kab ?_; clear hm; have hm := ho67; simp only [Sum.elim_inr] at hm
         refine Kal ?_
         have e41 := Ke hm; subst e41; refine Kab ?_; clear hm; have hm := ho41; simp only [Sum.elim_inr] at hm
         refine KT ?_
         have er77 := Ke hm; subst er77; exact Kao
        simp only [Sum.elim_inr] at hm
        refine KN (KaK a1.gAt (9 : Int) (.inr z76) q76) rfl rfl rfl rfl rfl Wl ?_
        rintro _ rfl
        refine Ky ?_
        have e74 := Ke hm; subst e74
        refine Kaf ?_
        exact WkX.of () (WkS.perm (WkS.cons rfl (Wk.refl _) (WkS.cons rfl (Wk.refl _) (WkS.nil))) Pf Pf)
       ·replace hm := yes_f hc75 hm
        refine Kp ?_
        have e74 := Ke hm; subst e74
        refine Kaf ?_
        exact WkX.of () (WkS.perm (WkS.cons rfl (Wk.refl _) (WkS.cons rfl (Wk.refl _) (WkS.nil))) Pf Pf)
      ·intro y74 s74 hx74 hw74; subst hx74; clear hm; have hm := ho74; simp only [Sum.elim_inl] at hm; clear q74 ho74
       have e67 := Ke hm; subst e67
       refine Kaf ?_
       refine WkX.trans hw74 (fun z74 => ?_)
       exact WkX.of () (WkS.perm (WkS.cons rfl (Wk.refl _) (WkS.cons rfl (Wk.refl _) (WkS.nil))) Pf Pf)
     ·replace hm := yes_f hc68 hm
      refine Kd ?_
      refine pu ?_
      refine pu ?_
      refine Kb ?_
      obtain ⟨x98, q98, ho98⟩ := Kc hm
      refine Kaq (τ := Unit) (Y := Unit) (fun y98 z98 => (⟨[(2, .ptr b1 0), (3, .ptr b2 0)], [(b1, Blk.cells [.lst 4 (a0.gP.gGlobals.map Ks) .no, .lst 5 (a0.gP.gFuncs.map Ko) .no, .v (.string a0.gF.gName), .lst 2 (a0.gF.gParams.map Kj) .no, .lst 2 (a0.gF.gLocals.map Kj) .no, .lst 7 (a0.gF.gBody.map Kf) .no, .v (.int .i64 a0.gF.gAt)] 192), (b2, Blk.cells [.v (.int .i64 a1.gOp), .v (.string a1.gName), .v (.string a1.gFunc), .lst 5 (a1.gExps.map Kn) .no, .lst 7 (a1.gKids.map Kf) .no, .lst 7 (a1.gElse.map Kf) .no, .v (.int .i64 a1.gAt)] 121)], []⟩ : S)) x98 ?_ ?_
      ·clear hm; have hm := Kw q98
       refine Kk rfl (fun hc99 => ?_) (fun hc99 => ?_)
       ·replace hm := yes_t hc99 hm
        refine Kg ?_
        obtain ⟨x100, q100, hm⟩ := Kc hm
        obtain ⟨x101, q101, hm⟩ := Kc hm
        refine KZ 7 [] [[],[0],[0,1],[0,1,2],[],[4],[4,5]] [0,1,2,3,4,5] [[],[0],[0,1],[0,1,2],[],[4],[4,5],[0,1,2,3,4,5,6]] (by kernel_rfl) (by kernel_rfl) (by kernel_rfl) (by rfl) (by rfl) (by kernel_rfl) ?_
        iterate 6 apply Exists.intro
        intro bs
        refine zep ?_
        refine z_eM rfl rfl (KI 1 htab rfl rfl rfl rfl rfl) rfl rfl rfl rfl rfl rfl ?_
        refine z_e rfl rfl (Ex.wk (Kak htab rfl rfl rfl rfl rfl rfl rfl (Kz q100) (KG q100)) (Wk.of_eq (congrArg D.el (KD x100)))) rfl rfl rfl rfl rfl rfl ?_
        refine z_eM rfl rfl (KX (d := .agg [.v (.int .i64 x100.gOp), .v (.int .i64 x100.gN), .v (.string x100.gName), .lst 5 (x100.gKids.map Kn) .no, .v (.int .i64 x100.gAt)]) htab rfl rfl rfl rfl rfl) rfl rfl rfl rfl rfl rfl ?_
        refine zep ?_
        refine z_e rfl rfl (Kak htab rfl rfl rfl rfl rfl rfl rfl (Kz q101) (KG q101)) rfl rfl rfl rfl rfl rfl ?_
        refine z_qM rfl rfl (KX htab rfl rfl rfl rfl rfl) rfl rfl rfl rfl rfl rfl ?_
        refine z_nil rfl rfl (fun e he => by simp [isAl] at he) ?_
        obtain ⟨x102, q102, hm⟩ := Kc hm
        rcases x102 with pe102 | z102
        ·simp only [Sum.elim_inl] at hm
         refine KaE (Kbe x100 x101 (.inl pe102) q102) rfl rfl rfl (WkL.cons (Wk.trans (Wk.agg (WkR.refl _)) (Wk.of_eq (KD x100).symm)) (WkL.cons (Wk.refl _) Wl)) Pf Pf ?_
         refine KT ?_
         have e98 := Ke hm; subst e98; refine Kab ?_; clear hm; have hm := ho98; simp only [Sum.elim_inr] at hm
         have e67 := Ke hm; subst e67; refine Kab ?_; clear hm; have hm := ho67; simp only [Sum.elim_inr] at hm
         refine Kal ?_
         have e41 := Ke hm; subst e41; refine Kab ?_; clear hm; have hm := ho41; simp only [Sum.elim_inr] at hm
         refine KT ?_
         have er103 := Ke hm; subst er103; exact Kao
        simp only [Sum.elim_inr] at hm
        refine KN (Kbe x100 x101 (.inr z102) q102) rfl rfl rfl rfl rfl (WkL.cons (Wk.trans (Wk.agg (WkR.refl _)) (Wk.of_eq (KD x100).symm)) (WkL.cons (Wk.refl _) Wl)) ?_
        rintro _ rfl
        refine Kb ?_
        refine Kg ?_
        obtain ⟨x104, q104, hm⟩ := Kc hm
        obtain ⟨x105, q105, hm⟩ := Kc hm
        refine KZ 7 [] [[],[0],[0,1],[0,1,2],[],[4],[4,5]] [0,1,2,3,4,5] [[],[0],[0,1],[0,1,2],[],[4],[4,5],[0,1,2,3,4,5,6]] (by kernel_rfl) (by kernel_rfl) (by kernel_rfl) (by rfl) (by rfl) (by kernel_rfl) ?_
        iterate 6 apply Exists.intro
        intro bs
        refine zep ?_
        refine z_eM rfl rfl (KI 1 htab rfl rfl rfl rfl rfl) rfl rfl rfl rfl rfl rfl ?_
        refine z_e rfl rfl (Ex.wk (Kak htab rfl rfl rfl rfl rfl rfl rfl (Kz q104) (KG q104)) (Wk.of_eq (congrArg D.el (KD x104)))) rfl rfl rfl rfl rfl rfl ?_
        refine z_eM rfl rfl (KX (d := .agg [.v (.int .i64 x104.gOp), .v (.int .i64 x104.gN), .v (.string x104.gName), .lst 5 (x104.gKids.map Kn) .no, .v (.int .i64 x104.gAt)]) htab rfl rfl rfl rfl rfl) rfl rfl rfl rfl rfl rfl ?_
        refine zep ?_
        refine z_e rfl rfl (Kak htab rfl rfl rfl rfl rfl rfl rfl (Kz q105) (KG q105)) rfl rfl rfl rfl rfl rfl ?_
        refine z_qM rfl rfl (KX htab rfl rfl rfl rfl rfl) rfl rfl rfl rfl rfl rfl ?_
        refine z_nil rfl rfl (fun e he => by simp [isAl] at he) ?_
        obtain ⟨x106, q106, hm⟩ := Kc hm
        rcases x106 with pe106 | z106
        ·simp only [Sum.elim_inl] at hm
         refine KaE (Kbe x104 x105 (.inl pe106) q106) rfl rfl rfl (WkL.cons (Wk.trans (Wk.agg (WkR.refl _)) (Wk.of_eq (KD x104).symm)) (WkL.cons (Wk.refl _) Wl)) Pf Pf ?_
         refine KT ?_
         have e98 := Ke hm; subst e98; refine Kab ?_; clear hm; have hm := ho98; simp only [Sum.elim_inr] at hm
         have e67 := Ke hm; subst e67; refine Kab ?_; clear hm; have hm := ho67; simp only [Sum.elim_inr] at hm
         refine Kal ?_
         have e41 := Ke hm; subst e41; refine Kab ?_; clear hm; have hm := ho41; simp only [Sum.elim_inr] at hm
         refine KT ?_
         have er107 := Ke hm; subst er107; exact Kao
        simp only [Sum.elim_inr] at hm
        refine KN (Kbe x104 x105 (.inr z106) q106) rfl rfl rfl rfl rfl (WkL.cons (Wk.trans (Wk.agg (WkR.refl _)) (Wk.of_eq (KD x104).symm)) (WkL.cons (Wk.refl _) Wl)) ?_
        rintro _ rfl
        refine Kb ?_
        refine Kx ?_
        refine Kai (d := KW a0) 0 htab rfl rfl rfl rfl rfl rfl rfl rfl ?_
        refine pu ?_
        refine pL 1 ?_
        refine pu ?_
        refine pL 1 ?_
        refine p_lit htab rfl rfl rfl rfl rfl rfl rfl rfl rfl rfl rfl rfl rfl rfl ?_
        refine p_eq (i := 73) (d' := .lst 1 (([(3 : Int)] : List Int).map eI64) .full) rfl (Wk.lst0 (.cons (WkC.refl _) (.nil))) ?_
        obtain ⟨x108, q108, hm⟩ := Kc hm
        rcases x108 with pe108 | z108
        ·simp only [Sum.elim_inl] at hm
         refine KaE (Kau a0 a1.gName a1.gAt ([(3 : Int)] : List Int) (.inl pe108) q108) rfl rfl rfl (WkL.cons (Wk.refl _) (WkL.cons (Wk.refl _) (WkL.cons (Wk.refl _) (WkL.cons (Wk.no) Wl)))) Pf Pf ?_
         have e98 := Ke hm; subst e98; refine Kab ?_; clear hm; have hm := ho98; simp only [Sum.elim_inr] at hm
         have e67 := Ke hm; subst e67; refine Kab ?_; clear hm; have hm := ho67; simp only [Sum.elim_inr] at hm
         refine Kal ?_
         have e41 := Ke hm; subst e41; refine Kab ?_; clear hm; have hm := ho41; simp only [Sum.elim_inr] at hm
         refine KT ?_
         have er109 := Ke hm; subst er109; exact Kao
        simp only [Sum.elim_inr] at hm
        refine KN (Kau a0 a1.gName a1.gAt ([(3 : Int)] : List Int) (.inr z108) q108) rfl rfl rfl rfl rfl (WkL.cons (Wk.refl _) (WkL.cons (Wk.refl _) (WkL.cons (Wk.refl _) (WkL.cons (Wk.no) Wl)))) ?_
        rintro _ rfl
        refine Ky ?_
        have e98 := Ke hm; subst e98
        refine Kaf ?_
        exact WkX.of () (WkS.perm (WkS.cons rfl (Wk.refl _) (WkS.cons rfl (Wk.refl _) (WkS.nil))) Pf Pf)
       ·replace hm := yes_f hc99 hm
        refine Kd ?_
        refine pu ?_
        refine pu ?_
        refine Kb ?_
        obtain ⟨x122, q122, ho122⟩ := Kc hm
        refine Kaq (τ := Unit) (Y := Unit) (fun y122 z122 => (⟨[(2, .ptr b1 0), (3, .ptr b2 0)], [(b1, Blk.cells [.lst 4 (a0.gP.gGlobals.map Ks) .no, .lst 5 (a0.gP.gFuncs.map Ko) .no, .v (.string a0.gF.gName), .lst 2 (a0.gF.gParams.map Kj) .no, .lst 2 (a0.gF.gLocals.map Kj) .no, .lst 7 (a0.gF.gBody.map Kf) .no, .v (.int .i64 a0.gF.gAt)] 192), (b2, Blk.cells [.v (.int .i64 a1.gOp), .v (.string a1.gName), .v (.string a1.gFunc), .lst 5 (a1.gExps.map Kn) .no, .lst 7 (a1.gKids.map Kf) .no, .lst 7 (a1.gElse.map Kf) .no, .v (.int .i64 a1.gAt)] 121)], []⟩ : S)) x122 ?_ ?_
        ·clear hm; have hm := Kw q122
         refine Kk rfl (fun hc123 => ?_) (fun hc123 => ?_)
         ·replace hm := yes_t hc123 hm
          refine Kg ?_
          obtain ⟨x124, q124, hm⟩ := Kc hm
          obtain ⟨x125, q125, hm⟩ := Kc hm
          refine KZ 7 [] [[],[0],[0,1],[0,1,2],[],[4],[4,5]] [0,1,2,3,4,5] [[],[0],[0,1],[0,1,2],[],[4],[4,5],[0,1,2,3,4,5,6]] (by kernel_rfl) (by kernel_rfl) (by kernel_rfl) (by rfl) (by rfl) (by kernel_rfl) ?_
          iterate 6 apply Exists.intro
          intro bs
          refine zep ?_
          refine z_eM rfl rfl (KI 1 htab rfl rfl rfl rfl rfl) rfl rfl rfl rfl rfl rfl ?_
          refine z_e rfl rfl (Ex.wk (Kak htab rfl rfl rfl rfl rfl rfl rfl (Kz q124) (KG q124)) (Wk.of_eq (congrArg D.el (KD x124)))) rfl rfl rfl rfl rfl rfl ?_
          refine z_eM rfl rfl (KX (d := .agg [.v (.int .i64 x124.gOp), .v (.int .i64 x124.gN), .v (.string x124.gName), .lst 5 (x124.gKids.map Kn) .no, .v (.int .i64 x124.gAt)]) htab rfl rfl rfl rfl rfl) rfl rfl rfl rfl rfl rfl ?_
          refine zep ?_
          refine z_e rfl rfl (Kak htab rfl rfl rfl rfl rfl rfl rfl (Kz q125) (KG q125)) rfl rfl rfl rfl rfl rfl ?_
          refine z_qM rfl rfl (KX htab rfl rfl rfl rfl rfl) rfl rfl rfl rfl rfl rfl ?_
          refine z_nil rfl rfl (fun e he => by simp [isAl] at he) ?_
          obtain ⟨x126, q126, hm⟩ := Kc hm
          rcases x126 with pe126 | z126
          ·simp only [Sum.elim_inl] at hm
           refine KaE (Kbe x124 x125 (.inl pe126) q126) rfl rfl rfl (WkL.cons (Wk.trans (Wk.agg (WkR.refl _)) (Wk.of_eq (KD x124).symm)) (WkL.cons (Wk.refl _) Wl)) Pf Pf ?_
           refine KT ?_
           have e122 := Ke hm; subst e122; refine Kab ?_; clear hm; have hm := ho122; simp only [Sum.elim_inr] at hm
           have e98 := Ke hm; subst e98; refine Kab ?_; clear hm; have hm := ho98; simp only [Sum.elim_inr] at hm
           have e67 := Ke hm; subst e67; refine Kab ?_; clear hm; have hm := ho67; simp only [Sum.elim_inr] at hm
           refine Kal ?_
           have e41 := Ke hm; subst e41; refine Kab ?_; clear hm; have hm := ho41; simp only [Sum.elim_inr] at hm
           refine KT ?_
           have er127 := Ke hm; subst er127; exact Kao
          simp only [Sum.elim_inr] at hm
          refine KN (Kbe x124 x125 (.inr z126) q126) rfl rfl rfl rfl rfl (WkL.cons (Wk.trans (Wk.agg (WkR.refl _)) (Wk.of_eq (KD x124).symm)) (WkL.cons (Wk.refl _) Wl)) ?_
          rintro _ rfl
          refine Kb ?_
          refine Kx ?_
          refine Kai (d := KW a0) 0 htab rfl rfl rfl rfl rfl rfl rfl rfl ?_
          refine pu ?_
          refine pL 1 ?_
          refine pu ?_
          refine pL 1 ?_
          refine p_lit htab rfl rfl rfl rfl rfl rfl rfl rfl rfl rfl rfl rfl rfl rfl ?_
          refine p_eq (i := 90) (d' := .lst 1 (([(2 : Int)] : List Int).map eI64) .full) rfl (Wk.lst0 (.cons (WkC.refl _) (.nil))) ?_
          obtain ⟨x128, q128, hm⟩ := Kc hm
          rcases x128 with pe128 | z128
          ·simp only [Sum.elim_inl] at hm
           refine KaE (Kau a0 a1.gName a1.gAt ([(2 : Int)] : List Int) (.inl pe128) q128) rfl rfl rfl (WkL.cons (Wk.refl _) (WkL.cons (Wk.refl _) (WkL.cons (Wk.refl _) (WkL.cons (Wk.no) Wl)))) Pf Pf ?_
           have e122 := Ke hm; subst e122; refine Kab ?_; clear hm; have hm := ho122; simp only [Sum.elim_inr] at hm
           have e98 := Ke hm; subst e98; refine Kab ?_; clear hm; have hm := ho98; simp only [Sum.elim_inr] at hm
           have e67 := Ke hm; subst e67; refine Kab ?_; clear hm; have hm := ho67; simp only [Sum.elim_inr] at hm
           refine Kal ?_
           have e41 := Ke hm; subst e41; refine Kab ?_; clear hm; have hm := ho41; simp only [Sum.elim_inr] at hm
           refine KT ?_
           have er129 := Ke hm; subst er129; exact Kao
          simp only [Sum.elim_inr] at hm
          refine KN (Kau a0 a1.gName a1.gAt ([(2 : Int)] : List Int) (.inr z128) q128) rfl rfl rfl rfl rfl (WkL.cons (Wk.refl _) (WkL.cons (Wk.refl _) (WkL.cons (Wk.refl _) (WkL.cons (Wk.no) Wl)))) ?_
          rintro _ rfl
          refine Ky ?_
          have e122 := Ke hm; subst e122
          refine Kaf ?_
          exact WkX.of () (WkS.perm (WkS.cons rfl (Wk.refl _) (WkS.cons rfl (Wk.refl _) (WkS.nil))) Pf Pf)
         ·replace hm := yes_f hc123 hm
          refine Kd ?_
          refine pu ?_
          refine pu ?_
          refine Kb ?_
          obtain ⟨x137, q137, ho137⟩ := Kc hm
          refine Kaq (τ := Unit) (Y := Unit) (fun y137 z137 => (⟨[(2, .ptr b1 0), (3, .ptr b2 0)], [(b1, Blk.cells [.lst 4 (a0.gP.gGlobals.map Ks) .no, .lst 5 (a0.gP.gFuncs.map Ko) .no, .v (.string a0.gF.gName), .lst 2 (a0.gF.gParams.map Kj) .no, .lst 2 (a0.gF.gLocals.map Kj) .no, .lst 7 (a0.gF.gBody.map Kf) .no, .v (.int .i64 a0.gF.gAt)] 192), (b2, Blk.cells [.v (.int .i64 a1.gOp), .v (.string a1.gName), .v (.string a1.gFunc), .lst 5 (a1.gExps.map Kn) .no, .lst 7 (a1.gKids.map Kf) .no, .lst 7 (a1.gElse.map Kf) .no, .v (.int .i64 a1.gAt)] 121)], []⟩ : S)) x137 ?_ ?_
          ·clear hm; have hm := Kw q137
           refine Kk rfl (fun hc138 => ?_) (fun hc138 => ?_)
           ·replace hm := yes_t hc138 hm
            refine Kx ?_
            refine Kai (d := KW a0) 0 htab rfl rfl rfl rfl rfl rfl rfl rfl ?_
            refine Kai (d := .agg [.v (.int .i64 a1.gOp), .v (.string a1.gName), .v (.string a1.gFunc), .lst 5 (a1.gExps.map Kn) .no, .lst 7 (a1.gKids.map Kf) .no, .lst 7 (a1.gElse.map Kf) .no, .v (.int .i64 a1.gAt)]) 1 htab rfl rfl rfl rfl rfl rfl rfl rfl ?_
            refine pu ?_
            obtain ⟨x139, q139, hm⟩ := Kc hm
            rcases x139 with pe139 | z139
            ·simp only [Sum.elim_inl] at hm
             refine KaE (Kf7 a0 a1 z14 (.inl pe139) q139) rfl rfl rfl (WkL.cons (Wk.refl _) (WkL.cons (Wk.trans (Wk.agg (WkR.refl _)) (Wk.of_eq (KU a1).symm)) (WkL.cons (Wk.no) Wl))) Pf Pf ?_
             have e137 := Ke hm; subst e137; refine Kab ?_; clear hm; have hm := ho137; simp only [Sum.elim_inr] at hm
             have e122 := Ke hm; subst e122; refine Kab ?_; clear hm; have hm := ho122; simp only [Sum.elim_inr] at hm
             have e98 := Ke hm; subst e98; refine Kab ?_; clear hm; have hm := ho98; simp only [Sum.elim_inr] at hm
             have e67 := Ke hm; subst e67; refine Kab ?_; clear hm; have hm := ho67; simp only [Sum.elim_inr] at hm
             refine Kal ?_
             have e41 := Ke hm; subst e41; refine Kab ?_; clear hm; have hm := ho41; simp only [Sum.elim_inr] at hm
             refine KT ?_
             have er140 := Ke hm; subst er140; exact Kao
            simp only [Sum.elim_inr] at hm
            refine KN (Kf7 a0 a1 z14 (.inr z139) q139) rfl rfl rfl rfl rfl (WkL.cons (Wk.refl _) (WkL.cons (Wk.trans (Wk.agg (WkR.refl _)) (Wk.of_eq (KU a1).symm)) (WkL.cons (Wk.no) Wl))) ?_
            rintro _ rfl
            refine Ky ?_
            have e137 := Ke hm; subst e137
            refine Kaf ?_
            exact WkX.of () (WkS.perm (WkS.cons rfl (Wk.refl _) (WkS.cons rfl (Wk.refl _) (WkS.nil))) Pf Pf)
           ·replace hm := yes_f hc138 hm
            refine Kd ?_
            refine pu ?_
            refine pu ?_
            refine Kb ?_
            obtain ⟨x146, q146, ho146⟩ := Kc hm
            refine Kaq (τ := Unit) (Y := Unit) (fun y146 z146 => (⟨[(2, .ptr b1 0), (3, .ptr b2 0)], [(b1, Blk.cells [.lst 4 (a0.gP.gGlobals.map Ks) .no, .lst 5 (a0.gP.gFuncs.map Ko) .no, .v (.string a0.gF.gName), .lst 2 (a0.gF.gParams.map Kj) .no, .lst 2 (a0.gF.gLocals.map Kj) .no, .lst 7 (a0.gF.gBody.map Kf) .no, .v (.int .i64 a0.gF.gAt)] 192), (b2, Blk.cells [.v (.int .i64 a1.gOp), .v (.string a1.gName), .v (.string a1.gFunc), .lst 5 (a1.gExps.map Kn) .no, .lst 7 (a1.gKids.map Kf) .no, .lst 7 (a1.gElse.map Kf) .no, .v (.int .i64 a1.gAt)] 121)], []⟩ : S)) x146 ?_ ?_
            ·clear hm; have hm := Kw q146
             refine Kk rfl (fun hc147 => ?_) (fun hc147 => ?_)
             ·replace hm := yes_t hc147 hm
              refine Kx ?_
              refine Kai (d := KW a0) 0 htab rfl rfl rfl rfl rfl rfl rfl rfl ?_
              refine pu ?_
              refine pL 1 ?_
              refine pu ?_
              refine pL 1 ?_
              refine p_lit htab rfl rfl rfl rfl rfl rfl rfl rfl rfl rfl rfl rfl rfl rfl ?_
              refine p_eq (i := 105) (d' := .lst 1 (([(1 : Int)] : List Int).map eI64) .full) rfl (Wk.lst0 (.cons (WkC.refl _) (.nil))) ?_
              obtain ⟨x148, q148, hm⟩ := Kc hm
              rcases x148 with pe148 | z148
              ·simp only [Sum.elim_inl] at hm
               refine KaE (Kau a0 a1.gName a1.gAt ([(1 : Int)] : List Int) (.inl pe148) q148) rfl rfl rfl (WkL.cons (Wk.refl _) (WkL.cons (Wk.refl _) (WkL.cons (Wk.refl _) (WkL.cons (Wk.no) Wl)))) Pf Pf ?_
               have e146 := Ke hm; subst e146; refine Kab ?_; clear hm; have hm := ho146; simp only [Sum.elim_inr] at hm
               have e137 := Ke hm; subst e137; refine Kab ?_; clear hm; have hm := ho137; simp only [Sum.elim_inr] at hm
               have e122 := Ke hm; subst e122; refine Kab ?_; clear hm; have hm := ho122; simp only [Sum.elim_inr] at hm
               have e98 := Ke hm; subst e98; refine Kab ?_; clear hm; have hm := ho98; simp only [Sum.elim_inr] at hm
               have e67 := Ke hm; subst e67; refine Kab ?_; clear hm; have hm := ho67; simp only [Sum.elim_inr] at hm
               refine Kal ?_
               have e41 := Ke hm; subst e41; refine Kab ?_; clear hm; have hm := ho41; simp only [Sum.elim_inr] at hm
               refine KT ?_
               have er149 := Ke hm; subst er149; exact Kao
              simp only [Sum.elim_inr] at hm
              refine KN (Kau a0 a1.gName a1.gAt ([(1 : Int)] : List Int) (.inr z148) q148) rfl rfl rfl rfl rfl (WkL.cons (Wk.refl _) (WkL.cons (Wk.refl _) (WkL.cons (Wk.refl _) (WkL.cons (Wk.no) Wl)))) ?_
              rintro _ rfl
              refine Ky ?_
              have e146 := Ke hm; subst e146
              refine Kaf ?_
              exact WkX.of () (WkS.perm (WkS.cons rfl (Wk.refl _) (WkS.cons rfl (Wk.refl _) (WkS.nil))) Pf Pf)
             ·replace hm := yes_f hc147 hm
              obtain ⟨x150, q150, hm⟩ := Kc hm
              obtain ⟨x151, q151, hm⟩ := Kc hm
              refine KZ 7 [] [[],[0],[0,1],[0,1,2],[],[4],[4,5]] [0,1,2,3,4,5] [[],[0],[0,1],[0,1,2],[],[4],[4,5],[0,1,2,3,4,5,6]] (by kernel_rfl) (by kernel_rfl) (by kernel_rfl) (by rfl) (by rfl) (by kernel_rfl) ?_
              iterate 6 apply Exists.intro
              intro bs
              refine zep ?_
              refine z_eM rfl rfl (KI 1 htab rfl rfl rfl rfl rfl) rfl rfl rfl rfl rfl rfl ?_
              refine z_e rfl rfl (Ex.wk (Kak htab rfl rfl rfl rfl rfl rfl rfl (Kz q150) (KG q150)) (Wk.of_eq (congrArg D.el (KD x150)))) rfl rfl rfl rfl rfl rfl ?_
              refine z_eM rfl rfl (KX (d := .agg [.v (.int .i64 x150.gOp), .v (.int .i64 x150.gN), .v (.string x150.gName), .lst 5 (x150.gKids.map Kn) .no, .v (.int .i64 x150.gAt)]) htab rfl rfl rfl rfl rfl) rfl rfl rfl rfl rfl rfl ?_
              refine zep ?_
              refine z_e rfl rfl (Kak htab rfl rfl rfl rfl rfl rfl rfl (Kz q151) (KG q151)) rfl rfl rfl rfl rfl rfl ?_
              refine z_qM rfl rfl (KX htab rfl rfl rfl rfl rfl) rfl rfl rfl rfl rfl rfl ?_
              refine z_nil rfl rfl (fun e he => by simp [isAl] at he) ?_
              obtain ⟨x152, q152, hm⟩ := Kc hm
              rcases x152 with pe152 | z152
              ·simp only [Sum.elim_inl] at hm
               refine KaE (Kbe x150 x151 (.inl pe152) q152) rfl rfl rfl (WkL.cons (Wk.trans (Wk.agg (WkR.refl _)) (Wk.of_eq (KD x150).symm)) (WkL.cons (Wk.refl _) Wl)) Pf Pf ?_
               have e146 := Ke hm; subst e146; refine Kab ?_; clear hm; have hm := ho146; simp only [Sum.elim_inr] at hm
               have e137 := Ke hm; subst e137; refine Kab ?_; clear hm; have hm := ho137; simp only [Sum.elim_inr] at hm
               have e122 := Ke hm; subst e122; refine Kab ?_; clear hm; have hm := ho122; simp only [Sum.elim_inr] at hm
               have e98 := Ke hm; subst e98; refine Kab ?_; clear hm; have hm := ho98; simp only [Sum.elim_inr] at hm
               have e67 := Ke hm; subst e67; refine Kab ?_; clear hm; have hm := ho67; simp only [Sum.elim_inr] at hm
               refine Kal ?_
               have e41 := Ke hm; subst e41; refine Kab ?_; clear hm; have hm := ho41; simp only [Sum.elim_inr] at hm
               refine KT ?_
               have er153 := Ke hm; subst er153; exact Kao
              simp only [Sum.elim_inr] at hm
              refine KN (Kbe x150 x151 (.inr z152) q152) rfl rfl rfl rfl rfl (WkL.cons (Wk.trans (Wk.agg (WkR.refl _)) (Wk.of_eq (KD x150).symm)) (WkL.cons (Wk.refl _) Wl)) ?_
              rintro _ rfl
              refine Ky ?_
              have e146 := Ke hm; subst e146
              refine Kaf ?_
              exact WkX.of () (WkS.perm (WkS.cons rfl (Wk.refl _) (WkS.cons rfl (Wk.refl _) (WkS.nil))) Pf Pf)
            ·intro y146 s146 hx146 hw146; subst hx146; clear hm; have hm := ho146; simp only [Sum.elim_inl] at hm; clear q146 ho146
             have e137 := Ke hm; subst e137
             refine Kaf ?_
             refine WkX.trans hw146 (fun z146 => ?_)
             exact WkX.of () (WkS.perm (WkS.cons rfl (Wk.refl _) (WkS.cons rfl (Wk.refl _) (WkS.nil))) Pf Pf)
          ·intro y137 s137 hx137 hw137; subst hx137; clear hm; have hm := ho137; simp only [Sum.elim_inl] at hm; clear q137 ho137
           have e122 := Ke hm; subst e122
           refine Kaf ?_
           refine WkX.trans hw137 (fun z137 => ?_)
           exact WkX.of () (WkS.perm (WkS.cons rfl (Wk.refl _) (WkS.cons rfl (Wk.refl _) (WkS.nil))) Pf Pf)
        ·intro y122 s122 hx122 hw122; subst hx122; clear hm; have hm := ho122; simp only [Sum.elim_inl] at hm; clear q122 ho122
         have e98 := Ke hm; subst e98
         refine Kaf ?_
         refine WkX.trans hw122 (fun z122 => ?_)
         exact WkX.of () (WkS.perm (WkS.cons rfl (Wk.refl _) (WkS.cons rfl (Wk.refl _) (WkS.nil))) Pf Pf)
      ·intro y98 s98 hx98 hw98; subst hx98; clear hm; have hm := ho98; simp only [Sum.elim_inl] at hm; clear q98 ho98
       have e67 := Ke hm; subst e67
       refine Kaf ?_
       refine WkX.trans hw98 (fun z98 => ?_)
       exact WkX.of () (WkS.perm (WkS.cons rfl (Wk.refl _) (WkS.cons rfl (Wk.refl _) (WkS.nil))) Pf Pf)
    ·intro y67 s67 hx67 hw67; subst hx67; clear hm; have hm := ho67; simp only [Sum.elim_inl] at hm; clear q67 ho67
     refine KF ?_
     have e41 := Ke hm; subst e41
     refine Kaf ?_
     refine WkX.trans hw67 (fun z67 => ?_)
     exact WkX.of () (WkS.perm (WkS.cons rfl (Wk.refl _) (WkS.cons rfl (Wk.refl _) (WkS.nil))) Pf Pf)
   ·intro y41 s41 hx41 hw41; subst hx41; clear hm; have hm := ho41; simp only [Sum.elim_inl] at hm; clear q41 ho41
    refine Ka ?_
    refine KQ hw41 (fun z41 => ?_)
    refine Kd ?_
    refine Kai (d := KW a0) 0 htab rfl rfl rfl rfl rfl rfl rfl rfl ?_
    refine pu ?_
    refine pL 1 ?_
    obtain ⟨x154, q154, hm⟩ := Kc hm
    rcases x154 with pe154 | z154
    ·simp only [Sum.elim_inl] at hm
     refine KaE (hg0 a0 a1.gKids (.inl pe154) q154) rfl rfl rfl Wl Pf Pf ?_
     refine KT ?_
     have er155 := Ke hm; subst er155; exact Kao
    simp only [Sum.elim_inr] at hm
    refine KN (hg0 a0 a1.gKids (.inr z154) q154) rfl rfl rfl rfl rfl Wl ?_
    rintro _ rfl
    refine Kb ?_
    refine Kx ?_
    refine Kai (d := KW a0) 0 htab rfl rfl rfl rfl rfl rfl rfl rfl ?_
    refine pu ?_
    refine pL 1 ?_
    obtain ⟨x156, q156, hm⟩ := Kc hm
    rcases x156 with pe156 | z156
    ·simp only [Sum.elim_inl] at hm
     refine KaE (hg0 a0 a1.gElse (.inl pe156) q156) rfl rfl rfl Wl Pf Pf ?_
     have er157 := Ke hm; subst er157; exact Kao
    simp only [Sum.elim_inr] at hm
    refine KN (hg0 a0 a1.gElse (.inr z156) q156) rfl rfl rfl rfl rfl Wl ?_
    rintro _ rfl
    refine Ky ?_
    have er158 := Ke hm; subst er158; refine KbA ?_
    refine rP (t' := []) [] [] 0 wN lN ?_
    exact ⟨rfl, rfl, rfl⟩
noncomputable def KV : Nat → ((Kv) → (List Ki) → Option ((Int × Int) ⊕ (Unit))) × ((Kv) → (Ki) → Option ((Int × Int) ⊕ (Unit)))
 | 0 => (fun _ _ => none, fun _ _ => none)
 | n + 1 => (KaS ((KV n).1) ((KV n).2), KaZ ((KV n).1) ((KV n).2))
theorem Ke7 : ∀ n, (∀ (a0 : Kv) (a1 : List Ki) (r : (Int × Int) ⊕ (Unit)) (h0 : (KV n).1 a0 a1 = some r), Kba zc Tryz.prog 124 [KW a0, .lst 7 (a1.map Kf) .no] [] [] r (fun r d h k => d = .tup [] ∧ h = [] ∧ k = [])) ∧ (∀ (a0 : Kv) (a1 : Ki) (r : (Int × Int) ⊕ (Unit)) (h0 : (KV n).2 a0 a1 = some r), Kba zc Tryz.prog 153 [KW a0, Kf a1] [] [] r (fun r d h k => d = .tup [] ∧ h = [] ∧ k = []))
  | 0 => ⟨(fun _ _ _ h0 => by cases h0), (fun _ _ _ h0 => by cases h0)⟩
  | n + 1 => by
    have ih := Ke7 n
    exact ⟨KhX ((KV n).1) ((KV n).2) (ih.1) (ih.2), Kin ((KV n).1) ((KV n).2) (ih.1) (ih.2)⟩
theorem Ke8 : ∀ n, (∀ (a0 : Kv) (a1 : List Ki), Le ((KV n).1 a0 a1) ((KV (n + 1)).1 a0 a1)) ∧ (∀ (a0 : Kv) (a1 : Ki), Le ((KV n).2 a0 a1) ((KV (n + 1)).2 a0 a1))
  | 0 => ⟨fun _ _ => Le.none _, fun _ _ => Le.none _⟩
  | n + 1 => by
    have ih := Ke8 n
    exact ⟨fun a0 a1 => by show Le (KaS ((KV n).1) ((KV n).2) a0 a1) (KaS ((KV (n + 1)).1) ((KV (n + 1)).2) a0 a1); unfold KaS; repeat (first | exact Le.refl _ | exact ih.1 _ _ | exact ih.2 _ _ | assumption | (refine Le.bind ?_ (fun _ => ?_)) | (refine Le.cond ?_ ?_) | (refine Le.loop (fun _ => ?_)) | (refine Le.elim (fun _ => ?_) (fun _ => ?_))), fun a0 a1 => by show Le (KaZ ((KV n).1) ((KV n).2) a0 a1) (KaZ ((KV (n + 1)).1) ((KV (n + 1)).2) a0 a1); unfold KaZ; repeat (first | exact Le.refl _ | exact ih.1 _ _ | exact ih.2 _ _ | assumption | (refine Le.bind ?_ (fun _ => ?_)) | (refine Le.cond ?_ ?_) | (refine Le.loop (fun _ => ?_)) | (refine Le.elim (fun _ => ?_) (fun _ => ?_)))⟩
noncomputable def KcN (a0 : Kv) (a1 : List Ki) : Option ((Int × Int) ⊕ (Unit)) := anyN fun n => (KV n).1 a0 a1
theorem KfQ (a0 : Kv) (a1 : List Ki) {r : (Int × Int) ⊕ (Unit)} (n : Nat) (h : (KV n).1 a0 a1 = some r) : KcN a0 a1 = some r := Kej (fun m => (Ke8 m).1 a0 a1) h
theorem Ki6 (a0 : Kv) (a1 : List Ki) (r : (Int × Int) ⊕ (Unit)) (h0 : KcN a0 a1 = some r) : Kba zc Tryz.prog 124 [KW a0, .lst 7 (a1.map Kf) .no] [] [] r (fun r d h k => d = .tup [] ∧ h = [] ∧ k = []) :=
 let ⟨n, hn⟩ := Kdu h0; (Ke7 n).1 a0 a1  r hn
noncomputable def KcX (a0 : Kl) : Option (Int) :=
 (Option.bind (α := (List (ByteArray × Int)) ⊕ (Int)) (loopM (fun (s25 : Int × List (ByteArray × Int)) => (bif (decide (s25.1 < (a0.gGlobals.length : Int))) then ((idx a0.gGlobals s25.1).bind fun x42 => (bif (decide ((1 : Int) < (mgetD (mput s25.2 x42.gName (IntKind.i64.wrap ((mgetD s25.2 x42.gName (0 : Int)) + (1 : Int)))) x42.gName (0 : Int)))) then some (.done (.inr s25.1)) else some (.next ((IntKind.i64.wrap (s25.1 + (1 : Int))), (mput s25.2 x42.gName (IntKind.i64.wrap ((mgetD s25.2 x42.gName (0 : Int)) + (1 : Int)))))))) else some (.done (.inl s25.2)))) ((0 : Int), ([] : List (ByteArray × Int)))) (Sum.elim (fun y24 => (Option.bind (α := (List (ByteArray × Int)) ⊕ (Int)) (loopM (fun (s68 : Int × List (ByteArray × Int)) => (bif (decide (s68.1 < (a0.gFuncs.length : Int))) then ((idx a0.gFuncs s68.1).bind fun x85 => (bif (decide ((1 : Int) < (mgetD (mput s68.2 x85.gName (IntKind.i64.wrap ((mgetD s68.2 x85.gName (0 : Int)) + (1 : Int)))) x85.gName (0 : Int)))) then some (.done (.inr (IntKind.i64.wrap ((a0.gGlobals.length : Int) + s68.1)))) else some (.next ((IntKind.i64.wrap (s68.1 + (1 : Int))), (mput s68.2 x85.gName (IntKind.i64.wrap ((mgetD s68.2 x85.gName (0 : Int)) + (1 : Int)))))))) else some (.done (.inl s68.2)))) ((0 : Int), y24)) (Sum.elim (fun y67 => some (-1 : Int)) (fun r => some r)))) (fun r => some r)))
theorem Kla (a0 : Kl) (r : Int) (h0 : KcX a0 = some r) : CallsD Tryz.prog 78 [KL a0] [] [] (fun d h k => d = .v (.int .i64 r) ∧ h = [] ∧ k = []) := by
 have hm := Kw h0
 unfold KcX at hm
 clear h0
 refine K0 htab Tryz.func78 rfl rfl rfl rfl rfl (fun C => ?_)
 refine Kd ?_
 refine p_box rfl rfl rfl rfl rfl rfl rfl (fun b1 => ?_)
 refine pu ?_
 refine KK ?_
 refine KlK rfl rfl rfl rfl (fun b2 => ?_)
 refine pu ?_
 refine Kb ?_
 refine Kg ?_
 refine Kd ?_
 refine pu ?_
 refine pL 1 ?_
 refine Kaa htab rfl rfl rfl rfl rfl rfl rfl (by first | exact KM | rfl) ?_
 refine pu ?_
 refine Kb ?_
 obtain ⟨x24, q24, ho24⟩ := Kc hm
 refine Kaq (τ := List (ByteArray × Int)) (Y := Unit) (fun y24 z24 => (⟨[(1, .ptr b1 0), (3, .v (.map (some b2)))], [(b2, Blk.mp (y24.map fun p => ((fun s : ByteArray => Value.string s) p.1, eI64 p.2))), (b1, Blk.cells [.lst 4 (a0.gGlobals.map Ks) .no, .lst 5 (a0.gFuncs.map Ko) .no] 28)], []⟩ : S)) x24 ?_ ?_
 ·clear hm; have hm := Kw q24
  refine KA ?_
  obtain ⟨u25, hl25, hq25⟩ := yes_m hm
  refine Kav (Y := Unit) hl25 (fun s25 z25 => (⟨[(1, .ptr b1 0), (3, .v (.map (some b2))), (10, .lst 4 (a0.gGlobals.map Ks) .no), (11, .v (.int .i64 (a0.gGlobals.length : Int))), (12, .v (.int .i64 s25.1))], [(b2, Blk.mp (s25.2.map fun p => ((fun s : ByteArray => Value.string s) p.1, eI64 p.2))), (b1, Blk.cells [.lst 4 (a0.gGlobals.map Ks) .no, .lst 5 (a0.gFuncs.map Ko) .no] 28)], []⟩ : S)) ?_ ?_
  ·skip
   exact WkX.of () (WkS.perm (WkS.cons rfl (Wk.refl _) (WkS.cons rfl (Wk.refl _) (WkS.cons rfl (Wk.refl _) (WkS.cons rfl (Wk.refl _) (WkS.cons rfl (Wk.refl _) (WkS.nil)))))) Pf Pf)
  ·intro G25 s25 z25 hm
   refine Kd ?_
   refine pu ?_
   refine Kb ?_
   refine Kg ?_
   refine Kk rfl (fun hc41 => ?_) (fun hc41 => ?_)
   ·replace hm := yes_t hc41 hm
    refine Kp ?_
    refine Ka ?_
    refine Kg ?_
    refine KA ?_
    refine Kd ?_
    refine pu ?_
    obtain ⟨x42, q42, hm⟩ := Kc hm
    refine KaD htab rfl rfl rfl rfl rfl rfl rfl rfl rfl rfl (Kz q42) (KG q42) ?_
    refine Kat (d := Ks x42) htab rfl rfl rfl rfl rfl rfl rfl rfl ?_
    refine Kar htab rfl rfl rfl rfl rfl rfl rfl (fun b43 => ?_)
    refine pu ?_
    refine pS2 (ds' := [.v (.string x42.gName), .v (.bool x42.gPtr), .v (.int .i64 x42.gSize), .v (.int .i64 x42.gAt)]) ?_
    refine KK ?_
    refine pu ?_
    refine pu ?_
    refine pL 2 ?_
    refine Kge (l := s25.2) (f := (fun s : ByteArray => Value.string s)) (e := eI64) (kk := x42.gName) (z := (0 : Int)) (dr := .v (.int .i64 (mgetD s25.2 x42.gName (0 : Int)))) 0 htab rfl rfl rfl rfl rfl rfl rfl rfl rfl rfl mk187 (fun H v h => K1 h) mz187 mr187 rfl ?_
    refine pu ?_
    refine KhW (l := s25.2) (f := (fun s : ByteArray => Value.string s)) (e := eI64) (kk := x42.gName) (vv := (IntKind.i64.wrap ((mgetD s25.2 x42.gName (0 : Int)) + (1 : Int)))) (h' := [(b2, Blk.mp ((mput s25.2 x42.gName (IntKind.i64.wrap ((mgetD s25.2 x42.gName (0 : Int)) + (1 : Int)))).map fun p => ((fun s : ByteArray => Value.string s) p.1, eI64 p.2))), (b1, Blk.cells [.lst 4 (a0.gGlobals.map Ks) .no, .lst 5 (a0.gFuncs.map Ko) .no] 28), (b43, Blk.cells [.v (.string x42.gName), .v (.bool x42.gPtr), .v (.int .i64 x42.gSize), .v (.int .i64 x42.gAt)] 67)]) 0 htab rfl rfl rfl rfl rfl rfl rfl rfl rfl rfl mk187 (fun H v h => K1 h) (Wk.refl _) rfl ?_
    refine KK ?_
    refine pu ?_
    refine pu ?_
    refine pL 2 ?_
    refine Kge (l := (mput s25.2 x42.gName (IntKind.i64.wrap ((mgetD s25.2 x42.gName (0 : Int)) + (1 : Int))))) (f := (fun s : ByteArray => Value.string s)) (e := eI64) (kk := x42.gName) (z := (0 : Int)) (dr := .v (.int .i64 (mgetD (mput s25.2 x42.gName (IntKind.i64.wrap ((mgetD s25.2 x42.gName (0 : Int)) + (1 : Int)))) x42.gName (0 : Int)))) 0 htab rfl rfl rfl rfl rfl rfl rfl rfl rfl rfl mk187 (fun H v h => K1 h) mz187 mr187 rfl ?_
    refine pu ?_
    refine Kb ?_
    refine Kk rfl (fun hc44 => ?_) (fun hc44 => ?_)
    ·replace hm := yes_t hc44 hm
     refine Kd ?_
     refine pu ?_
     refine pu ?_
     refine Kb ?_
     refine Kr ?_
     refine KE ?_
     refine Kt ?_
     have e25 := KP hm; subst e25; clear hm; have hm := hq25
     refine Kt ?_
     refine KE ?_
     have e24 := Ke hm; subst e24; refine Kax ?_; clear hm; have hm := ho24; simp only [Sum.elim_inr] at hm
     refine Kt ?_
     have er45 := Ke hm; subst er45
     refine rP (t' := [(2, .v (.int .i64 s25.1))]) [] [] 0 (wC wN) (lT lN) ?_
     exact ⟨rfl, rfl, rfl⟩
    ·replace hm := yes_f hc44 hm
     refine Kp ?_
     refine KF ?_
     refine Ka ?_
     refine Kx ?_
     refine pu ?_
     refine pu ?_
     refine Ky ?_
     refine Ka ⟨_, Kam hm, ?_⟩
     exact WkX.of () (WkS.perm (WkS.cons rfl (Wk.refl _) (WkS.cons rfl (Wk.refl _) (WkS.cons rfl (Wk.refl _) (WkS.cons rfl (Wk.refl _) (WkS.cons rfl (Wk.refl _) (WkS.nil)))))) Pf Pf)
   ·replace hm := yes_f hc41 hm
    refine Kad ?_
    refine KC ?_
    have e25 := KP hm; subst e25; clear hm; have hm := hq25
    refine KC ?_
    refine K7 ?_
    have e24 := Ke hm; subst e24
    refine Kaf ?_
    exact WkX.of () (WkS.perm (WkS.cons rfl (Wk.refl _) (WkS.cons rfl (Wk.refl _) (WkS.nil))) Pf Pf)
 ·intro y24 s24 hx24 hw24; subst hx24; clear hm; have hm := ho24; simp only [Sum.elim_inl] at hm; clear q24 ho24
  refine Ka ?_
  refine KQ hw24 (fun z24 => ?_)
  refine Kg ?_
  refine Kd ?_
  refine pu ?_
  refine pL 1 ?_
  refine Kaa htab rfl rfl rfl rfl rfl rfl rfl (by first | exact KM | rfl) ?_
  refine pu ?_
  refine Kb ?_
  obtain ⟨x67, q67, ho67⟩ := Kc hm
  refine Kaq (τ := List (ByteArray × Int)) (Y := Unit) (fun y67 z67 => (⟨[], [], []⟩ : S)) x67 ?_ ?_
  ·clear hm; have hm := Kw q67
   refine KA ?_
   obtain ⟨u68, hl68, hq68⟩ := yes_m hm
   refine Kav (Y := Unit) hl68 (fun s68 z68 => (⟨[(1, .ptr b1 0), (3, .v (.map (some b2))), (30, .lst 5 (a0.gFuncs.map Ko) .no), (31, .v (.int .i64 (a0.gFuncs.length : Int))), (32, .v (.int .i64 s68.1))], [(b2, Blk.mp (s68.2.map fun p => ((fun s : ByteArray => Value.string s) p.1, eI64 p.2))), (b1, Blk.cells [.lst 4 (a0.gGlobals.map Ks) .no, .lst 5 (a0.gFuncs.map Ko) .no] 28)], []⟩ : S)) ?_ ?_
   ·skip
    exact WkX.of () (WkS.perm (WkS.cons rfl (Wk.refl _) (WkS.cons rfl (Wk.refl _) (WkS.cons rfl (Wk.refl _) (WkS.cons rfl (Wk.refl _) (WkS.cons rfl (Wk.refl _) (WkS.nil)))))) Pf Pf)
   ·intro G68 s68 z68 hm
    refine Kd ?_
    refine pu ?_
    refine Kb ?_
    refine Kg ?_
    refine Kk rfl (fun hc84 => ?_) (fun hc84 => ?_)
    ·replace hm := yes_t hc84 hm
     refine Kp ?_
     refine Ka ?_
     refine Kg ?_
     refine KA ?_
     refine Kd ?_
     refine pu ?_
     obtain ⟨x85, q85, hm⟩ := Kc hm
     refine KaD htab rfl rfl rfl rfl rfl rfl rfl rfl rfl rfl (Kz q85) (KG q85) ?_
     refine Kat (d := Ko x85) htab rfl rfl rfl rfl rfl rfl rfl rfl ?_
     refine Kar htab rfl rfl rfl rfl rfl rfl rfl (fun b86 => ?_)
     refine pu ?_
     refine pS2 (ds' := [.v (.string x85.gName), .lst 2 (x85.gParams.map Kj) .no, .lst 2 (x85.gLocals.map Kj) .no, .lst 7 (x85.gBody.map Kf) .no, .v (.int .i64 x85.gAt)]) ?_
     refine KK ?_
     refine pu ?_
     refine pu ?_
     refine pL 2 ?_
     refine Kge (l := s68.2) (f := (fun s : ByteArray => Value.string s)) (e := eI64) (kk := x85.gName) (z := (0 : Int)) (dr := .v (.int .i64 (mgetD s68.2 x85.gName (0 : Int)))) 0 htab rfl rfl rfl rfl rfl rfl rfl rfl rfl rfl mk187 (fun H v h => K1 h) mz187 mr187 rfl ?_
     refine pu ?_
     refine KhW (l := s68.2) (f := (fun s : ByteArray => Value.string s)) (e := eI64) (kk := x85.gName) (vv := (IntKind.i64.wrap ((mgetD s68.2 x85.gName (0 : Int)) + (1 : Int)))) (h' := [(b2, Blk.mp ((mput s68.2 x85.gName (IntKind.i64.wrap ((mgetD s68.2 x85.gName (0 : Int)) + (1 : Int)))).map fun p => ((fun s : ByteArray => Value.string s) p.1, eI64 p.2))), (b1, Blk.cells [.lst 4 (a0.gGlobals.map Ks) .no, .lst 5 (a0.gFuncs.map Ko) .no] 28), (b86, Blk.cells [.v (.string x85.gName), .lst 2 (x85.gParams.map Kj) .no, .lst 2 (x85.gLocals.map Kj) .no, .lst 7 (x85.gBody.map Kf) .no, .v (.int .i64 x85.gAt)] 49)]) 0 htab rfl rfl rfl rfl rfl rfl rfl rfl rfl rfl mk187 (fun H v h => K1 h) (Wk.refl _) rfl ?_
     refine KK ?_
     refine pu ?_
     refine pu ?_
     refine pL 2 ?_
     refine Kge (l := (mput s68.2 x85.gName (IntKind.i64.wrap ((mgetD s68.2 x85.gName (0 : Int)) + (1 : Int))))) (f := (fun s : ByteArray => Value.string s)) (e := eI64) (kk := x85.gName) (z := (0 : Int)) (dr := .v (.int .i64 (mgetD (mput s68.2 x85.gName (IntKind.i64.wrap ((mgetD s68.2 x85.gName (0 : Int)) + (1 : Int)))) x85.gName (0 : Int)))) 0 htab rfl rfl rfl rfl rfl rfl rfl rfl rfl rfl mk187 (fun H v h => K1 h) mz187 mr187 rfl ?_
     refine pu ?_
     refine Kb ?_
     refine Kk rfl (fun hc87 => ?_) (fun hc87 => ?_)
     ·replace hm := yes_t hc87 hm
      refine Kd ?_
      refine pu ?_
      refine pL 1 ?_
      refine Kaa htab rfl rfl rfl rfl rfl rfl rfl (by first | exact KM | rfl) ?_
      iterate 3 refine pu ?_
      refine Kb ?_
      refine Kr ?_
      refine KE ?_
      refine Kt ?_
      have e68 := KP hm; subst e68; clear hm; have hm := hq68
      refine Kt ?_
      refine KE ?_
      have e67 := Ke hm; subst e67; refine Kax ?_; clear hm; have hm := ho67; simp only [Sum.elim_inr] at hm
      refine Kt ?_
      have er88 := Ke hm; subst er88
      refine rP (t' := [(2, .v (.int .i64 (IntKind.i64.wrap ((a0.gGlobals.length : Int) + s68.1))))]) [] [] 0 (wC wN) (lT lN) ?_
      exact ⟨rfl, rfl, rfl⟩
     ·replace hm := yes_f hc87 hm
      refine Kp ?_
      refine KF ?_
      refine Ka ?_
      refine Kx ?_
      refine pu ?_
      refine pu ?_
      refine Ky ?_
      refine Ka ⟨_, Kam hm, ?_⟩
      exact WkX.of () (WkS.perm (WkS.cons rfl (Wk.refl _) (WkS.cons rfl (Wk.refl _) (WkS.cons rfl (Wk.refl _) (WkS.cons rfl (Wk.refl _) (WkS.cons rfl (Wk.refl _) (WkS.nil)))))) Pf Pf)
    ·replace hm := yes_f hc84 hm
     refine Kad ?_
     refine KC ?_
     have e68 := KP hm; subst e68; clear hm; have hm := hq68
     refine KC ?_
     refine K7 ?_
     have e67 := Ke hm; subst e67
     refine Kaf ?_
     exact WkX.of () (WkS.perm (WkS.nil) Pf Pf)
  ·intro y67 s67 hx67 hw67; subst hx67; clear hm; have hm := ho67; simp only [Sum.elim_inl] at hm; clear q67 ho67
   refine Ka ?_
   refine KQ hw67 (fun z67 => ?_)
   refine Kd ?_
   refine pu ?_
   refine Kb ?_
   refine Kr ?_
   have er89 := Ke hm; subst er89
   refine rP (t' := [(2, .v (.int .i64 (-1 : Int)))]) [] [] 0 (wC wN) (lT lN) ?_
   exact ⟨rfl, rfl, rfl⟩
end Go.Proofs.YtipfljkjjddapaaGreatDoor.Ab
namespace Go.Proofs.YtipfljkjjddapaaGreatDoor
open Go Go.RowKit
set_option linter.all false
abbrev Hp := Addr → Option Value
def Hp.le (H H' : Hp) : Prop := ∀ a v, H a = some v → H' a = some v
theorem Hp.le_refl (H : Hp) : H.le H := fun _ _ h => h
theorem Hp.le_trans {H H' H'' : Hp} (h : H.le H') (k : H'.le H'') : H.le H'' := fun a v x => k a v (h a v x)
def Ag (H : Hp) (w : World) : Prop := ∀ a v, H a = some v → w.cell? a = some v
theorem cell_lt {w : World} {a : Addr} {v : Value} (h : w.cell? a = some v) : a.block < w.heap.size := by
 unfold World.cell? at h
 rcases Nat.lt_or_ge a.block w.heap.size with hl | hl
 ·exact hl
 ·rw [Array.getElem?_eq_none hl] at h; cases h
theorem Ag.lt {H : Hp} {w : World} (h : Ag H w) {a : Addr} {v : Value} (ha : H a = some v) : a.block < w.heap.size := cell_lt (h a v ha)
theorem Ag.below {H : Hp} {w w' : World} (h : Ag H w) (hb : Below w.heap.size w w') : Ag H w' := fun a v ha => by rw [hb.cell (p := a) (h.lt ha)]; exact h a v ha
theorem Ag.drew {H : Hp} {w : World} (h : Ag H w) : Ag H w.drew := h
theorem Ag.alloc {H : Hp} {w : World} (h : Ag H w) (o : Obj) : Ag H (w.alloc o) := h.below ((Below.refl _ _).alloc (Nat.le_refl _) o)
structure Grow (H : Hp) (w : World) (H' : Hp) (w' : World) : Prop where
 le : H.le H'
 new : ∀ a v, H' a = some v → H a = some v ∨ w.heap.size ≤ a.block
 ag : Ag H' w'
 below : Below w.heap.size w w'
theorem Grow.refl {H : Hp} {w : World} (h : Ag H w) : Grow H w H w := ⟨Hp.le_refl H, fun _ _ h => .inl h, h, Below.refl _ _⟩
theorem Grow.trans {H H1 H2 : Hp} {w w1 w2 : World} (h : Grow H w H1 w1) (k : Grow H1 w1 H2 w2) : Grow H w H2 w2 :=
 ⟨Hp.le_trans h.le k.le, fun a v x => by
  rcases k.new a v x with y | y
  ·exact h.new a v y
  ·exact .inr (Nat.le_trans h.below.size y), k.ag, h.below.trans (k.below.mono h.below.size)⟩
theorem Grow.drew {H H' : Hp} {w w' : World} (h : Grow H w H' w') : Grow H w H' w'.drew := ⟨h.le, h.new, h.ag, h.below.drew⟩
theorem Grow.cell {H H' : Hp} {w w' : World} (h : Grow H w H' w') : (∀ b o, b < w.heap.size → w'.cell? ⟨b, o, none⟩ = w.cell? ⟨b, o, none⟩) ∧ (∀ b o, b < w.heap.size → w'.frozen? ⟨b, o, none⟩ = w.frozen? ⟨b, o, none⟩) :=
 ⟨fun b o hb => h.below.cell (p := ⟨b, o, none⟩) hb, fun b o hb => h.below.frozen (p := ⟨b, o, none⟩) hb⟩
def E : Hp := fun _ => none
theorem hp_alloc (w : World) (o : Obj) (k : Nat) : (w.alloc o).heap[k]? = if k = w.heap.size then some o else w.heap[k]? := by
 show (w.heap.push o)[k]? = _
 rw [Array.getElem?_push]
def setO (off : Nat) (v : Value) : Obj → Obj
 | .cells c e fr => .cells (c.setIfInBounds off v) e fr
 | o => o
theorem KfR (w : World) (b o : Nat) (v : Value) (k : Nat) : (w.setCell ⟨b, o, none⟩ v).heap[k]? = if b = k then (w.heap[k]?).map (setO o v) else w.heap[k]? := by
 simp only [World.setCell, Array.getElem?_modify]
 by_cases h : b = k
 ·rw [if_pos h, if_pos h]
  cases w.heap[k]? with
  | none => rfl
  | some x => cases x <;> rfl
 ·rw [if_neg h, if_neg h]
def IsPtr (v : Value) (b : Nat) : Prop := v = .pointer (some ⟨b, 0, none⟩)
theorem IsPtr.inj {v : Value} {b b' : Nat} (h : IsPtr v b) (h' : IsPtr v b') : b = b' := by
 unfold IsPtr at *; rw [h] at h'; simpa using h'
structure Blk (H : Hp) (w : World) (n : Nat) (b : Nat) (c : Array Value) (T : TypeId) : Prop where
 ge : n ≤ b
 at_ : w.heap[b]? = some (.cells c T (0, 0))
 out : ∀ o, H ⟨b, o, none⟩ = none
theorem Blk.lt {H : Hp} {w : World} {n b : Nat} {c : Array Value} {T : TypeId} (h : Blk H w n b c T) : b < w.heap.size := (Array.getElem?_eq_some_iff.1 h.at_).1
theorem Blk.new {H : Hp} {w : World} (hA : Ag H w) {n : Nat} (hn : n ≤ w.heap.size) (c : Array Value) (T : TypeId) : Blk H (w.alloc (.cells c T)) n w.heap.size c T :=
 ⟨hn, by show (w.heap.push _)[w.heap.size]? = _; simp, fun o => by
  cases e : H ⟨w.heap.size, o, none⟩ with
  | none => rfl
  | some v => exact absurd (hA.lt e) (Nat.lt_irrefl _)⟩
theorem Blk.alloc {H : Hp} {w : World} {n b : Nat} {c : Array Value} {T : TypeId} (h : Blk H w n b c T) (o : Obj) : Blk H (w.alloc o) n b c T :=
 ⟨h.ge, by rw [hp_alloc, if_neg (by have := h.lt; omega)]; exact h.at_, h.out⟩
theorem Blk.drew {H : Hp} {w : World} {n b : Nat} {c : Array Value} {T : TypeId} (h : Blk H w n b c T) : Blk H w.drew n b c T := ⟨h.ge, h.at_, h.out⟩
theorem Blk.set {H : Hp} {w : World} {n b : Nat} {c : Array Value} {T : TypeId} (h : Blk H w n b c T) (o : Nat) (v : Value) : Blk H (w.setCell ⟨b, o, none⟩ v) n b (c.setIfInBounds o v) T :=
 ⟨h.ge, by rw [KfR, if_pos rfl, h.at_]; rfl, h.out⟩
theorem KhQ {B : Nat} {a w : World} {p : Addr} {u : Value} (hp : B ≤ p.block) (h : Below B a w) : Below B a (w.setCell p u) := h.setCell hp u
theorem Kmk {B : Nat} {a w : World} {o : Obj} (hB : B ≤ w.heap.size) (h : Below B a w) : Below B a (w.alloc o) := h.alloc hB o
theorem Blk.below {H : Hp} {w w' : World} {n b : Nat} {c : Array Value} {T : TypeId} (h : Blk H w n b c T) (hb : Below w.heap.size w w') : Blk H w' n b c T :=
 ⟨h.ge, by rw [hb.block b h.lt]; exact h.at_, h.out⟩
theorem Blk.cell {H : Hp} {w : World} {n b : Nat} {c : Array Value} {T : TypeId} (h : Blk H w n b c T) (o : Nat) : w.cell? ⟨b, o, none⟩ = c[o]? := by
 simp [World.cell?, h.at_]
theorem Blk.frozen {H : Hp} {w : World} {n b : Nat} {c : Array Value} {T : TypeId} (h : Blk H w n b c T) (o : Nat) : w.frozen? ⟨b, o, none⟩ = false := by
 simp [World.frozen?, h.at_]
structure St where
 r : Hp → World → Value → Prop
 st : ∀ H w H' w', Grow H w H' w' → ∀ v, r H w v → r H' w' v
def St.hp (p : Hp → Value → Prop) (hp : ∀ H H', Hp.le H H' → ∀ v, p H v → p H' v) : St := ⟨fun H _ v => p H v, fun H _ H' _ hg v h => hp H H' hg.le v h⟩
section
variable {P : Program} {ops : Array Oper} {Q : Exit → Act → World → Prop} {H0 : Hp} {w0 : World} {R : Nat → St} {pre : List (List Nat)} {ev al : List Nat} {l2 : List Oper} {vals : Nat → Value} {i : Nat} {o : Oper} {rest : List Oper} {a : Act}
end
end Go.Proofs.YtipfljkjjddapaaGreatDoor
namespace Go.Proofs.YtipfljkjjddapaaGreatDoor.Ab
open Go Go.RowKit Go.Proofs
set_option linter.all false
theorem try1_idle (p : Addr) (w : World) :
  Go.CallsD Tryz.prog 150 #[.pointer (some p)] .returning w fun e u' w' => e = .returned (.tuple #[]) ∧ u' = .returning ∧ w' = w := by
 refine callsD_of_wpS Tryz.func150 rfl fun c₀ cs hu => ?_
 apply wpS_seq
 apply wpS_region
 simp [wpOpsS, go_sem, recoverD, hu, Tryz.ntmps150, Exit.thenS]
 apply wpS_seq
 apply wpS_region
 simp [wpOpsS, go_sem, recoverD, hu, Tryz.ntmps150, Exit.thenS]
 refine wpS_cond (t := false) (by simp [Act.eval, Array.replicate]) ?_
 simp only [Bool.false_eq_true, if_false]
 refine wpS_of_wp (wp_skip ?_)
 cases c₀
 simp_all [bodyPostS, results, Tryz.results150]
theorem Kl7 (v : Value) (t : TypeId) (w : World) : (Instr.typeAssert (.iface 189 v) t 189 true).run Tryz.prog w = .ok (.tuple #[v, .bool true]) w := by
 obtain ⟨d0, u0, u1⟩ := Kag (P := Tryz.prog) (w := w) (ti_ok htab (t := 189) rfl)
 obtain ⟨gs, rfl, _⟩ := Kfw (u1.trans rfl)
 unfold Instr.typeAssert
 rw [Kq u0]
 rfl
theorem Klb (b : Nat) (pe : Int × Int) (w : World) (hx : w.heap[b]? = some (.cells #[.int .i64 0, .int .i64 0] 189 (0, 0))) :
  Go.CallsD Tryz.prog 150 #[.pointer (some ⟨b, 0, none⟩)] (.panicking (zc pe)) w fun e u' w' =>
   e = .returned (.tuple #[]) ∧ u' = .panicking [{ v := .iface 189 (.agg #[.int .i64 pe.1, .int .i64 pe.2]), recovered := true }] ∧ w'.heap[b]? = some (.cells #[.int .i64 pe.1, .int .i64 pe.2] 189 (0, 0)) ∧ Below b w w' := by
 have hlt : b < w.heap.size := (Array.getElem?_eq_some_iff.1 hx).1
 obtain ⟨W1, hW1⟩ : ∃ W1, W1 = w.alloc (.cells #[.int .i64 pe.1, .int .i64 pe.2] 189) := ⟨_, rfl⟩
 have hb1 : Below w.heap.size w W1 := by rw [hW1]; exact (Below.refl _ w).alloc (Nat.le_refl _) _
 have hx1 := (hb1.block _ hlt).trans hx
 have hy1 : W1.heap[w.heap.size]? = some (.cells #[.int .i64 pe.1, .int .i64 pe.2] 189 (0, 0)) := by rw [hW1, Ka9, if_pos rfl]
 refine callsD_of_wpS Tryz.func150 rfl fun c₀ cs hu => ?_
 apply wpS_seq
 apply wpS_region
 simp [wpOpsS, go_sem, recoverD, hu, zc, Tryz.ntmps150, Exit.thenS]
 apply wpS_seq
 apply wpS_region
 simp [wpOpsS, go_sem, recoverD, hu, Tryz.ntmps150, Exit.thenS]
 refine wpS_cond (t := true) (by simp [Act.eval, Array.replicate]) ?_
 simp only [if_true]
 refine wpS_of_wp ?_
 change Code.wp _ _ _ { tmps := #[.pointer (some ⟨b, 0, none⟩), .iface 189 (.agg #[.int .i64 pe.1, .int .i64 pe.2]), undef, undef, .iface 189 (.agg #[.int .i64 pe.1, .int .i64 pe.2]), .iface 189 (.agg #[.int .i64 pe.1, .int .i64 pe.2]), .bool true, undef, undef, undef, undef, undef, undef, undef, undef, undef], defers := [] } w
 have hta := Kl7
 have hne : ¬ w.heap.size = b := by omega
 have hne' : ¬ b = w.heap.size := by omega
 have z0 : w.frozen? ⟨b, 0, none⟩ = false := by simp [World.frozen?, hx]
 have z1 : w.frozen? ⟨b, 1, none⟩ = false := by simp [World.frozen?, hx]
 have a0 : w.cell? ⟨b, 0, none⟩ = some (.int .i64 0) := by simp [World.cell?, hx]
 have a1 : w.cell? ⟨b, 1, none⟩ = some (.int .i64 0) := by simp [World.cell?, hx]
 go_wp2_with fail
 obtain ⟨W9, hW9⟩ : ∃ W9, W9 = ((w.setCell ⟨b, 0, none⟩ (.int .i64 pe.1)).setCell ⟨b, 1, none⟩ (.int .i64 pe.2)).alloc (.cells #[.int .i64 pe.1, .int .i64 pe.2] 189) := ⟨_, rfl⟩
 rw [← hW9]
 have hx9 : W9.heap[b]? = some (.cells #[.int .i64 pe.1, .int .i64 pe.2] 189 (0, 0)) := by
  rw [hW9, Ka9, if_neg (by simp; omega), KfR, if_pos rfl, KfR, if_pos rfl, hx]; rfl
 have hb9 : Below b w W9 := by
  rw [hW9]
  have := KhQ (p := ⟨b, 1, none⟩) (u := .int .i64 pe.2) (Nat.le_refl b) (KhQ (p := ⟨b, 0, none⟩) (u := .int .i64 pe.1) (Nat.le_refl b) (Below.refl b w))
  exact this.alloc (by simp; omega) _
 clear hW9 z0 z1 a0 a1 hta
 cases c₀
 simp [bodyPostS, results, Tryz.results150, hx9, hb9]
def oc (pr : (Int × Int) ⊕ Unit) : Ending := match pr with | .inr _ => .returned (.tuple #[]) | .inl pe => .panicked (zc pe)
def wr (pr : (Int × Int) ⊕ Unit) : Int × Int := match pr with | .inr _ => (0, 0) | .inl pe => pe
theorem try_calls (cap : Array Value) (w : World) (pr : (Int × Int) ⊕ Unit) (hcl : Calls Tryz.prog 122 cap (w.alloc (.cells #[.int .i64 0, .int .i64 0] 189)) fun e w' => e = oc pr ∧ Below (w.heap.size + 1) (w.alloc (.cells #[.int .i64 0, .int .i64 0] 189)) w') :
    Calls Tryz.prog 121 #[.func (.func 122) #[] cap] w fun e w' => e = .returned (.agg #[.int .i64 (wr pr).1, .int .i64 (wr pr).2]) ∧ Below w.heap.size w w' := by
  have hmf : ∀ (fn : Fn) (first cap : Array Value) (w : World), (Instr.makeFunc fn first cap).run Tryz.prog w = .ok (.func fn first cap) w := fun _ _ _ _ => rfl
  go_enter_defers Tryz.func121, Tryz.ntmps121
  go_wp2_with fail
  refine hcl.mono ?_
  rintro e w1 ⟨rfl, hb⟩
  have hx : w1.heap[w.heap.size]? = some (.cells #[.int .i64 0, .int .i64 0] 189 (0, 0)) := by
    rw [hb.block _ (Nat.lt_succ_self _), Ka9, if_pos rfl]
  have hbw : Below w.heap.size w w1 := ((Below.refl _ w).alloc (Nat.le_refl _) _).trans (hb.mono (Nat.le_succ _))
  cases pr with
  | inl pe =>
    simp only [oc, wr]
    refine leaves_cons (f := 150) (args := #[.pointer (some ⟨w.heap.size, 0, none⟩)]) (by simp) (by simp [go_sem]) ?_
    refine (Klb w.heap.size pe _ hx).mono ?_
    rintro e u' w9 ⟨rfl, rfl, hx9, hb9⟩
    have y0 : w9.cell? ⟨w.heap.size, 0, none⟩ = some (.int .i64 pe.1) := by simp [World.cell?, hx9]
    have y1 : w9.cell? ⟨w.heap.size, 1, none⟩ = some (.int .i64 pe.2) := by simp [World.cell?, hx9]
    simp [Leaves, settle, results, Tryz.results121, go_sem, y0, y1]
    exact ⟨⟨rfl, rfl⟩, hbw.trans hb9⟩
  | inr u =>
    simp only [oc, wr]
    have x0 : w1.cell? ⟨w.heap.size, 0, none⟩ = some (.int .i64 0) := by simp [World.cell?, hx]
    have x1 : w1.cell? ⟨w.heap.size, 1, none⟩ = some (.int .i64 0) := by simp [World.cell?, hx]
    have z0 : w1.frozen? ⟨w.heap.size, 0, none⟩ = false := by simp [World.frozen?, hx]
    have z1 : w1.frozen? ⟨w.heap.size, 1, none⟩ = false := by simp [World.frozen?, hx]
    go_wp2_with fail
    obtain ⟨W9, hW9⟩ : ∃ W9, W9 = (w1.setCell ⟨w.heap.size, 0, none⟩ (.int .i64 0)).setCell ⟨w.heap.size, 1, none⟩ (.int .i64 0) := ⟨_, rfl⟩
    rw [← hW9]
    have hx9 : W9.heap[w.heap.size]? = some (.cells #[.int .i64 0, .int .i64 0] 189 (0, 0)) := by
      rw [hW9, KfR, if_pos rfl, KfR, if_pos rfl, hx]; rfl
    have y0 : W9.cell? ⟨w.heap.size, 0, none⟩ = some (.int .i64 0) := by simp [World.cell?, hx9]
    have y1 : W9.cell? ⟨w.heap.size, 1, none⟩ = some (.int .i64 0) := by simp [World.cell?, hx9]
    have hb9 : Below w.heap.size w W9 := by
      rw [hW9]
      exact KhQ (Nat.le_refl _) (KhQ (Nat.le_refl _) hbw)
    clear hW9 hx9 x0 x1 z0 z1 hx hcl
    refine leaves_cons (f := 150) (args := #[.pointer (some ⟨w.heap.size, 0, none⟩)]) (by simp) (by simp [go_sem]) ?_
    refine (try1_idle ⟨w.heap.size, 0, none⟩ _).mono ?_
    rintro e u' w'' ⟨rfl, rfl, rfl⟩
    simp [Leaves, settle, results, Tryz.results121, go_sem, y0, y1]
    exact ⟨⟨rfl, rfl⟩, hb9⟩
end Go.Proofs.YtipfljkjjddapaaGreatDoor.Ab
namespace Go.Proofs.YtipfljkjjddapaaGreatDoor.Ab
open Go Go.RowKit Go.Proofs
set_option linter.all false
noncomputable def Kha (p : Kl) (f : Km) : Option ((Int × Int) ⊕ Unit) := (Kbi ⟨p, f⟩).bind (Sum.elim (fun pe => some (.inl pe)) fun _ => KcN ⟨p, f⟩ f.gBody)
noncomputable def Khb (p : Kl) (f : Km) : Option (Int × Int) := (Kha p f).bind fun pr => some (wr pr)
theorem KkX {H H' : Hp} {w w' : World} {h : List (Nat × Blk)} {k : List (Nat × Value)} (c : Core ⟨H, w, []⟩ H' h k w') : Below w.heap.size w w' := ⟨c.env.1, c.env.2.1, c.env.2.2.1, c.size, fun j hj => c.same j hj (by simp)⟩
theorem u_callsP {f : FuncId} {ds : List D} {us : Array Value} {pr : (Int × Int) ⊕ Unit} (c : Kba zc Tryz.prog f ds [] [] pr (fun r d h k => d = .tup [] ∧ h = [] ∧ k = [])) {H : Hp} {w : World} (hA : Ag H w) (hv : RepsV H ds us.toList) :
    Calls Tryz.prog f us w fun e w' => e = oc pr ∧ Below w.heap.size w w' := by
  cases pr with
  | inl pe => exact (c.2 H w us.toList hv hA (by simp) (by simp) (by simp [KY])).mono fun e w' ⟨he, H', hc⟩ => ⟨he, KkX hc⟩
  | inr u =>
    refine (c.2 H w us.toList hv hA (by simp) (by simp) (by simp [KY])).mono fun e w' ⟨v, H', d, h', k', he, hr, hc, e1, e2, e3⟩ => ?_
    subst e1; subst e2; subst e3
    refine ⟨?_, KkX hc⟩
    obtain ⟨r1, r2⟩ := hr
    cases v <;> simp [D.shape, RepC, RepsV, Value.cells] at r1 r2
    rw [he]; simp_all [oc]
theorem checkF_ok (p : Kl) (f : Km) (r : Int × Int) (h0 : Khb p f = some r) : CallsD Tryz.prog 79 [KL p, Ko f] [] [] (fun d h k => d = .tup [.v (.int .i64 r.1), .v (.int .i64 r.2)] ∧ h = [] ∧ k = []) := by
  unfold Khb at h0
  cases hP : Kha p f with
  | none => rw [hP] at h0; cases h0
  | some pr =>
  rw [hP, Option.bind_some] at h0
  cases h0
  unfold Kha at hP
  cases hn : Kbi ⟨p, f⟩ with
  | none => rw [hn] at hP; cases hP
  | some pr1 =>
  rw [hn, Option.bind_some] at hP
  refine ⟨⟨_, Tryz.func79, rfl, rfl⟩, fun H w vs hv hA _ _ _ => ?_⟩
  simp only [RepsV] at hv
  obtain ⟨u1, _, rfl, g1, u2, _, rfl, g2, rfl⟩ := hv
  obtain ⟨us1, rfl, r1⟩ := KcV g1
  obtain ⟨us2, rfl, r2⟩ := KcV g2
  simp only [Reps] at r1 r2
  obtain ⟨p0, _, rfl, q0, p1, _, rfl, q1, rfl⟩ := r1
  obtain ⟨f0, _, rfl, k0, f1, _, rfl, k1, f2, _, rfl, k2, f3, _, rfl, k3, f4, _, rfl, k4, rfl⟩ := r2
  have lst1 : ∀ {kk : Nat} {xs : List D} {u : Value}, RepC H (.lst kk xs .no) [u] → ∃ a n m, u = .slice a n m := fun {kk xs u} h => by
    simp only [RepC] at h
    obtain ⟨y, e, _, h⟩ := h
    simp only [List.cons.injEq, and_true] at e
    subst e
    rcases h with ⟨_, a, m, e, _⟩ | ⟨b, off, m, e, _⟩
    · exact ⟨_, _, _, e⟩
    · exact ⟨_, _, _, e⟩
  obtain ⟨pa, pn, pm, rfl⟩ := lst1 q0.1
  obtain ⟨qa, qn, qm, rfl⟩ := lst1 q1.1
  obtain ⟨ra, rn, rm, rfl⟩ := lst1 k1.1
  obtain ⟨sa, sn, sm, rfl⟩ := lst1 k2.1
  obtain ⟨ta, tn, tm, rfl⟩ := lst1 k3.1
  obtain rfl : f0 = .string f.gName := by simpa [RepC] using k0.1
  obtain rfl : f4 = .int .i64 f.gAt := by simpa [RepC] using k4.1
  suffices hs : Calls Tryz.prog 79 #[.agg #[(.slice pa pn pm), (.slice qa qn qm)], .agg #[(.string f.gName), (.slice ra rn rm), (.slice sa sn sm), (.slice ta tn tm), (.int .i64 f.gAt)]] w fun e w' => e = .returned (.tuple #[.int .i64 (wr pr).1, .int .i64 (wr pr).2]) ∧ Below w.heap.size w w' from
    hs.mono fun e w' ⟨he, hb⟩ => ⟨_, H, .tup [.v (.int .i64 (wr pr).1), .v (.int .i64 (wr pr).2)], [], [], he, ⟨by simp only [Value.cells, RepC]; exact ⟨[.int .i64 (wr pr).1, .int .i64 (wr pr).2], rfl, by simp only [RepsV]; exact ⟨_, _, rfl, rep_v rfl, _, _, rfl, rep_v rfl, rfl⟩⟩, rfl⟩, Kka hA hb, rfl, rfl, rfl⟩
  obtain ⟨W2, hW2⟩ : ∃ W2, W2 = (w.alloc (.cells #[(.slice pa pn pm), (.slice qa qn qm)] 28)).alloc (.cells #[(.string f.gName), (.slice ra rn rm), (.slice sa sn sm), (.slice ta tn tm), (.int .i64 f.gAt)] 49) := ⟨_, rfl⟩
  have hb2 : Below w.heap.size w W2 := by rw [hW2]; exact ((Below.refl _ w).alloc (Nat.le_refl _) _).alloc (by simp) _
  have hs2 : W2.heap.size = w.heap.size + 2 := by rw [hW2]; simp
  have hx1 : W2.heap[w.heap.size]? = some (.cells #[(.slice pa pn pm), (.slice qa qn qm)] 28 (0, 0)) := by rw [hW2, Ka9, if_neg (by simp), Ka9, if_pos rfl]
  have hx2 : W2.heap[w.heap.size + 1]? = some (.cells #[(.string f.gName), (.slice ra rn rm), (.slice sa sn sm), (.slice ta tn tm), (.int .i64 f.gAt)] 49 (0, 0)) := by rw [hW2, Ka9, if_pos (by simp)]
  have o0 := q0.2.1
  have o1 := q1.2.1
  have sc : ∀ {u : Value}, one u = true → u.cells.toList = [u] := fun {u} h => by cases u <;> simp [one] at h <;> rfl
  have hrep : Rep H (KW ⟨p, f⟩) (.agg #[(.slice pa pn pm), (.slice qa qn qm), (.string f.gName), (.slice ra rn rm), (.slice sa sn sm), (.slice ta tn tm), (.int .i64 f.gAt)]) := Kih (us := [(.slice pa pn pm), (.slice qa qn qm), (.string f.gName), (.slice ra rn rm), (.slice sa sn sm), (.slice ta tn tm), (.int .i64 f.gAt)]) (by
    simp only [Reps]
    exact ⟨_, _, rfl, q0, _, _, rfl, q1, _, _, rfl, k0, _, _, rfl, k1, _, _, rfl, k2, _, _, rfl, k3, _, _, rfl, k4, rfl⟩)
  have rb : Rep H (.lst 7 (f.gBody.map Kf) .no) (.slice ta tn tm) := KaN k3.1 k3.2.1 rfl
  have fn1 : ∀ W : World, W2.heap.size ≤ W.heap.size → Below W2.heap.size W2 W → Calls Tryz.prog 122 #[.pointer (some ⟨w.heap.size, 0, none⟩), .pointer (some ⟨w.heap.size + 1, 0, none⟩)] W fun e w' => e = oc pr ∧ Below W.heap.size W w' := by
    intro W hsz hb
    have hy1 := (hb.block _ (by omega)).trans hx1
    have hy2 := (hb.block _ (by omega)).trans hx2
    have x0 : W.cell? ⟨w.heap.size, 0, none⟩ = some (.slice pa pn pm) := by simp [World.cell?, hy1]
    have x1 : W.cell? ⟨w.heap.size, 1, none⟩ = some (.slice qa qn qm) := by simp [World.cell?, hy1]
    have y0 : W.cell? ⟨w.heap.size + 1, 0, none⟩ = some (.string f.gName) := by simp [World.cell?, hy2]
    have y1 : W.cell? ⟨w.heap.size + 1, 1, none⟩ = some (.slice ra rn rm) := by simp [World.cell?, hy2]
    have y2 : W.cell? ⟨w.heap.size + 1, 2, none⟩ = some (.slice sa sn sm) := by simp [World.cell?, hy2]
    have y3 : W.cell? ⟨w.heap.size + 1, 3, none⟩ = some (.slice ta tn tm) := by simp [World.cell?, hy2]
    have y4 : W.cell? ⟨w.heap.size + 1, 4, none⟩ = some (.int .i64 f.gAt) := by simp [World.cell?, hy2]
    go_enter Tryz.func122, Tryz.ntmps122
    have hAW : Ag H W := Go.Proofs.YtipfljkjjddapaaGreatDoor.Ag.below hA (hb2.trans (hb.mono hb2.size))
    generalize hWa : W.alloc (.cells #[.slice pa pn pm, .slice qa qn qm, .string f.gName, .slice ra rn rm, .slice sa sn sm, .slice ta tn tm, .int .i64 f.gAt] 192) = Wa
    have hba : Below W.heap.size W Wa := by rw [← hWa]; exact (Below.refl _ _).alloc (Nat.le_refl _) _
    have hsa : W.heap.size < Wa.heap.size := by rw [← hWa]; simp
    have hxa : Wa.heap[W.heap.size]? = some (.cells #[.slice pa pn pm, .slice qa qn qm, .string f.gName, .slice ra rn rm, .slice sa sn sm, .slice ta tn tm, .int .i64 f.gAt] 192 (0, 0)) := by rw [← hWa, Ka9, if_pos rfl]
    have hAa : Ag H Wa := Go.Proofs.YtipfljkjjddapaaGreatDoor.Ag.below hAW hba
    have hn1 := u_callsP (us := #[.agg #[.slice pa pn pm, .slice qa qn qm, .string f.gName, .slice ra rn rm, .slice sa sn sm, .slice ta tn tm, .int .i64 f.gAt]]) (Ki5 ⟨p, f⟩ pr1 hn) hAa (by simp only [RepsV]; exact ⟨_, _, rfl, hrep, rfl⟩)
    have d0 : Wa.cell? ⟨W.heap.size, 0, none⟩ = some (.slice pa pn pm) := by simp [World.cell?, hxa]
    have d1 : Wa.cell? ⟨W.heap.size, 1, none⟩ = some (.slice qa qn qm) := by simp [World.cell?, hxa]
    have d2 : Wa.cell? ⟨W.heap.size, 2, none⟩ = some (.string f.gName) := by simp [World.cell?, hxa]
    have d3 : Wa.cell? ⟨W.heap.size, 3, none⟩ = some (.slice ra rn rm) := by simp [World.cell?, hxa]
    have d4 : Wa.cell? ⟨W.heap.size, 4, none⟩ = some (.slice sa sn sm) := by simp [World.cell?, hxa]
    have d5 : Wa.cell? ⟨W.heap.size, 5, none⟩ = some (.slice ta tn tm) := by simp [World.cell?, hxa]
    have d6 : Wa.cell? ⟨W.heap.size, 6, none⟩ = some (.int .i64 f.gAt) := by simp [World.cell?, hxa]
    go_wp2_with fail
    refine hn1.mono ?_
    rintro e w5 ⟨rfl, h5⟩
    cases pr1 with
    | inl pe =>
      simp only [Sum.elim_inl, Option.some.injEq] at hP
      subst hP
      exact ⟨rfl, rfl, hba.trans (h5.mono hba.size)⟩
    | inr u1 =>
    simp only [Sum.elim_inr] at hP
    simp only [oc]
    clear hWa x0 x1 y0 y1 y2 y3 y4 d0 d1 d2 d3 d4 d5 d6
    have hxb := (h5.block _ hsa).trans hxa
    have hba5 : Below W.heap.size W w5 := hba.trans (h5.mono hba.size)
    have hyc := (hba5.block _ (by omega)).trans hy2
    have e0 : w5.cell? ⟨W.heap.size, 0, none⟩ = some (.slice pa pn pm) := by simp [World.cell?, hxb]
    have e1 : w5.cell? ⟨W.heap.size, 1, none⟩ = some (.slice qa qn qm) := by simp [World.cell?, hxb]
    have e2 : w5.cell? ⟨W.heap.size, 2, none⟩ = some (.string f.gName) := by simp [World.cell?, hxb]
    have e3 : w5.cell? ⟨W.heap.size, 3, none⟩ = some (.slice ra rn rm) := by simp [World.cell?, hxb]
    have e4 : w5.cell? ⟨W.heap.size, 4, none⟩ = some (.slice sa sn sm) := by simp [World.cell?, hxb]
    have e5 : w5.cell? ⟨W.heap.size, 5, none⟩ = some (.slice ta tn tm) := by simp [World.cell?, hxb]
    have e6 : w5.cell? ⟨W.heap.size, 6, none⟩ = some (.int .i64 f.gAt) := by simp [World.cell?, hxb]
    have e7 : w5.cell? ⟨w.heap.size + 1, 3, none⟩ = some (.slice ta tn tm) := by simp [World.cell?, hyc]
    have hA5 : Ag H w5 := Go.Proofs.YtipfljkjjddapaaGreatDoor.Ag.below hAa h5
    have hn2 := u_callsP (us := #[.agg #[.slice pa pn pm, .slice qa qn qm, .string f.gName, .slice ra rn rm, .slice sa sn sm, .slice ta tn tm, .int .i64 f.gAt], .slice ta tn tm]) (Ki6 ⟨p, f⟩ f.gBody pr hP) hA5 (by simp only [RepsV]; exact ⟨_, _, rfl, hrep, _, _, rfl, rb, rfl⟩)
    go_wp2_with fail
    refine hn2.mono ?_
    rintro e w6 ⟨rfl, h6⟩
    cases pr with
    | inl pe => exact ⟨rfl, rfl, hba5.trans (h6.mono hba5.size)⟩
    | inr u2 =>
      simp only [oc]
      go_wp2
      go_end0
      exact ⟨rfl, hba5.trans (h6.mono hba5.size)⟩
  have hmf : ∀ (fn : Fn) (first cap : Array Value) (w : World), (Instr.makeFunc fn first cap).run Tryz.prog w = .ok (.func fn first cap) w := fun _ _ _ _ => rfl
  have htry := try_calls #[.pointer (some ⟨w.heap.size, 0, none⟩), .pointer (some ⟨w.heap.size + 1, 0, none⟩)] W2 pr (by
    have := fn1 (W2.alloc (.cells #[.int .i64 0, .int .i64 0] 189)) (by simp) ((Below.refl _ _).alloc (Nat.le_refl _) _)
    simpa using this)
  go_enter Tryz.func79, Tryz.ntmps79
  go_wp2_with fail
  rw [← hW2]
  refine htry.mono ?_
  rintro e w7 ⟨rfl, h7⟩
  go_wp2_with fail
  go_region
  all_goals
    go_wp2
    go_ret2
    exact ⟨rfl, hb2.trans ((h7.trans (Kmk h7.size (Below.refl _ w7)).drew).mono hb2.size)⟩
end Go.Proofs.YtipfljkjjddapaaGreatDoor.Ab
