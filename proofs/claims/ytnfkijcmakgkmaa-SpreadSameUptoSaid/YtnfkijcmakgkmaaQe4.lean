/- The texts that spreadSameUpto_holds leans on, part 4. -/
import Derived.Test.YtnfkijcmakgkmaaQe3
set_option maxRecDepth 100000
set_option maxHeartbeats 80000000
namespace Go.Proofs.Ytnfkijcmakgkmaa.Ab
open Go
set_option linter.all false
structure Kbl where
 gName : ByteArray
 gPtr : Bool
def KW (x : Kbl) : D := .agg [.v (.string x.gName), .v (.bool x.gPtr)]
structure Kl where
 gOp : Int
 gN : Int
 gName : ByteArray
 gKids : List Kl
 gAt : Int
mutual
def Kw : Kl → D
 | ⟨f0, f1, f2, f3, f4⟩ => .agg [.v (.int .i64 f0), .v (.int .i64 f1), .v (.string f2), .lst 5 (KcF f3) .no, .v (.int .i64 f4)]
def KcF : List Kl → List D
 | [] => []
 | x :: l => Kw x :: KcF l
end
theorem KeX : ∀ l, KcF l = l.map Kw
 | [] => by simp [KcF]
 | x :: l => by simp only [KcF, List.map_cons, KeX l]
theorem Kah (x : Kl) : Kw x = .agg [.v (.int .i64 x.gOp), .v (.int .i64 x.gN), .v (.string x.gName), .lst 5 (x.gKids.map Kw) .no, .v (.int .i64 x.gAt)] := by
 cases x
 simp only [Kw, KeX]
structure Kf where
 gOp : Int
 gName : ByteArray
 gFunc : ByteArray
 gExps : List Kl
 gKids : List Kf
 gElse : List Kf
 gAt : Int
mutual
def Km : Kf → D
 | ⟨f0, f1, f2, f3, f4, f5, f6⟩ => .agg [.v (.int .i64 f0), .v (.string f1), .v (.string f2), .lst 5 (f3.map Kw) .no, .lst 7 (Kcb f4) .no, .lst 7 (Kcb f5) .no, .v (.int .i64 f6)]
def Kcb : List Kf → List D
 | [] => []
 | x :: l => Km x :: Kcb l
end
theorem KeY : ∀ l, Kcb l = l.map Km
 | [] => by simp [Kcb]
 | x :: l => by simp only [Kcb, List.map_cons, KeY l]
theorem KaF (x : Kf) : Km x = .agg [.v (.int .i64 x.gOp), .v (.string x.gName), .v (.string x.gFunc), .lst 5 (x.gExps.map Kw) .no, .lst 7 (x.gKids.map Km) .no, .lst 7 (x.gElse.map Km) .no, .v (.int .i64 x.gAt)] := by
 cases x
 simp only [Km, KeY]
structure KB where
 gName : ByteArray
 gParams : List Kbl
 gLocals : List Kbl
 gBody : List Kf
 gAt : Int
def Kp (x : KB) : D := .agg [.v (.string x.gName), .lst 2 (x.gParams.map KW) .no, .lst 2 (x.gLocals.map KW) .no, .lst 7 (x.gBody.map Km) .no, .v (.int .i64 x.gAt)]
structure KS where
 gName : ByteArray
 gPtr : Bool
 gSize : Int
 gAt : Int
def Kq (x : KS) : D := .agg [.v (.string x.gName), .v (.bool x.gPtr), .v (.int .i64 x.gSize), .v (.int .i64 x.gAt)]
def growF42 (n : Int) : List KB := []
def Kd6 (n : Int) : Bool := decide (0 ≤ n) && decide (n * 96 ≤ 140737488355328)
open Go.RowKit Go.Shelf Go.Proofs.Ytnfkijcmakgkmaa in
theorem growOk42 (n : Int) {k0 : Nat} (h : Kd6 n = true) : CallsD Try.prog 42 [.lst k0 [] .full, .v (.int .i64 n)] [] [] (fun d h k => ∃ y0, d = .v (SL y0) ∧ h = [(0, .row 5 ((growF42 n).map Kp) (SL y0))] ∧ k = []) := by
 simp only [Kd6, Bool.and_eq_true, decide_eq_true_eq] at h
 exact grow_nil (e := 49) (bb := 96) ⟨_, Try.func42, rfl, rfl⟩ ⟨_, _, rfl, rfl, rfl, rfl, rfl⟩ (by decide)
  (fun a w => Any8.slices_Grow_room Try.grow42 a 0 0 0 w (by omega) (by omega) (by omega) (by omega))
  (fun i0 z hi0 hz0 hs0 a m w h0 hb h62 => by
   have := Any8.slices_Grow_grow Try.grow42 i0 z hi0 hz0 hs0 a 0 0 m [] w (by omega) (by omega) (by simpa using hb) (by omega) (by simp) (fun _ => rfl) (fun _ _ j v hj => by simp at hj)
   simpa [Try.grow42_ren] using this) n h.1 h.2 (by omega)
def growF67 (n : Int) : List KS := []
def Kd7 (n : Int) : Bool := decide (0 ≤ n) && decide (n * 40 ≤ 140737488355328)
open Go.RowKit Go.Shelf Go.Proofs.Ytnfkijcmakgkmaa in
theorem growOk67 (n : Int) {k0 : Nat} (h : Kd7 n = true) : CallsD Try.prog 67 [.lst k0 [] .full, .v (.int .i64 n)] [] [] (fun d h k => ∃ y0, d = .v (SL y0) ∧ h = [(0, .row 4 ((growF67 n).map Kq) (SL y0))] ∧ k = []) := by
 simp only [Kd7, Bool.and_eq_true, decide_eq_true_eq] at h
 exact grow_nil (e := 105) (bb := 40) ⟨_, Try.func67, rfl, rfl⟩ ⟨_, _, rfl, rfl, rfl, rfl, rfl⟩ (by decide)
  (fun a w => Any8.slices_Grow_room Try.grow67 a 0 0 0 w (by omega) (by omega) (by omega) (by omega))
  (fun i0 z hi0 hz0 hs0 a m w h0 hb h62 => by
   have := Any8.slices_Grow_grow Try.grow67 i0 z hi0 hz0 hs0 a 0 0 m [] w (by omega) (by omega) (by simpa using hb) (by omega) (by simp) (fun _ => rfl) (fun _ _ j v hj => by simp at hj)
   simpa [Try.grow67_ren] using this) n h.1 h.2 (by omega)
noncomputable def Kce (a0 : KB) (m0 : ByteArray) : Option (Bool) :=
 some (decide (a0.gName = m0))
theorem Kfe (a0 : KB) (m0 : ByteArray) (o0 : Nat) (T0 : TypeId) (r : Bool) (h0 : Kce a0 m0 = some r) : CallsD Try.prog 64 [Kp a0, .ptr o0 0] [(o0, Blk.cells [.v (.string m0)] T0)] [] (fun d h k => d = .v (.bool r) ∧ h = [(o0, Blk.cells [.v (.string m0)] T0)] ∧ k = []) := by
 have hm := KF h0
 unfold Kce at hm
 clear h0
 refine KX htab Try.func64 rfl rfl rfl rfl rfl (fun C => ?_)
 refine Kk ?_
 refine p_box rfl rfl rfl rfl rfl rfl rfl (fun b1 => ?_)
 refine pu ?_
 refine KM ?_
 refine pu ?_
 refine pL 1 ?_
 refine pL 0 ?_
 refine pu ?_
 refine pu ?_
 refine Kj ?_
 refine KA ?_
 have er2 := Ko hm; subst er2
 refine rP (t' := [(3, .v (.bool (decide (a0.gName = m0))))]) [0] [] 1 (wC wN) (lT lN) ?_
 exact ⟨rfl, rfl, rfl⟩
noncomputable def Kaf (a0 : List KB) (m0 : ByteArray) : Option (Int) :=
 (Option.bind (α := (Unit) ⊕ (Int)) (loopM (fun (s18 : Int) => (bif (decide (s18 < (a0.length : Int))) then ((idx a0 s18).bind fun x30 => ((Kce x30 m0).bind fun x31 => (bif x31 then some (.done (.inr s18)) else some (.next (IntKind.i64.wrap (s18 + (1 : Int))))))) else some (.done (.inl ())))) (0 : Int)) (Sum.elim (fun y17 => some (-1 : Int)) (fun r => some r)))
theorem Kcf (a0 : List KB) (m0 : ByteArray) (o0 : Nat) (T0 : TypeId) (r : Int) (h0 : Kaf a0 m0 = some r) : CallsD Try.prog 63 [.lst 5 (a0.map Kp) .no, .fn (.func 64) [] [.ptr o0 0]] [(o0, Blk.cells [.v (.string m0)] T0)] [] (fun d h k => d = .v (.int .i64 r) ∧ h = [(o0, Blk.cells [.v (.string m0)] T0)] ∧ k = []) := by
 have hm := KF h0
 unfold Kaf at hm
 clear h0
 refine KX htab Try.func63 rfl rfl rfl rfl rfl (fun C => ?_)
 refine Kk ?_
 refine pu ?_
 refine Kj ?_
 refine Ks ?_
 refine Kk ?_
 refine pu ?_
 refine Kaw htab rfl rfl rfl rfl rfl rfl rfl (by first | exact K7 | rfl) ?_
 refine pu ?_
 refine Kj ?_
 obtain ⟨x17, q17, ho17⟩ := Kh hm
 refine Kci (τ := Unit) (Y := Unit) (fun y17 z17 => (⟨[], [(o0, Blk.cells [.v (.string m0)] T0)], []⟩ : S)) x17 ?_ ?_
 ·clear hm; have hm := KF q17
  refine KN ?_
  obtain ⟨u18, hl18, hq18⟩ := yes_m hm
  refine KaM (Y := Unit) hl18 (fun s18 z18 => (⟨[(0, .lst 5 (a0.map Kp) .no), (1, .fn (.func 64) [] [.ptr o0 0]), (7, .v (.int .i64 (a0.length : Int))), (8, .v (.int .i64 s18))], [(o0, Blk.cells [.v (.string m0)] T0)], []⟩ : S)) ?_ ?_
  ·skip
   exact WkX.of () (WkS.perm (WkS.cons rfl (Wk.refl _) (WkS.cons rfl (Wk.refl _) (WkS.cons rfl (Wk.refl _) (WkS.cons rfl (Wk.refl _) (WkS.nil))))) Pf Pf)
  ·intro G18 s18 z18 hm
   refine Kk ?_
   refine pu ?_
   refine Kj ?_
   refine Ks ?_
   refine KH rfl (fun hc29 => ?_) (fun hc29 => ?_)
   ·replace hm := yes_t hc29 hm
    refine KI ?_
    refine Ke ?_
    refine Ks ?_
    refine KN ?_
    refine Kk ?_
    refine pu ?_
    refine pu ?_
    refine KM ?_
    iterate 3 refine pu ?_
    obtain ⟨x30, q30, hm⟩ := Kh hm
    refine Kaz htab rfl rfl rfl rfl rfl rfl rfl rfl rfl rfl (KV q30) (K9 q30) ?_
    refine Kad (d := Kp x30) htab rfl rfl rfl rfl rfl rfl rfl rfl ?_
    obtain ⟨x31, q31, hm⟩ := Kh hm
    refine Kca (Kfe x30 m0 o0 T0 x31 q31) rfl rfl rfl rfl rfl rfl rfl Wl Pf Pf ?_
    rintro _ _ _ ⟨rfl, rfl, rfl⟩
    refine Kj ?_
    refine KH rfl (fun hc32 => ?_) (fun hc32 => ?_)
    ·replace hm := yes_t hc32 hm
     refine Kk ?_
     refine pu ?_
     refine pu ?_
     refine Kj ?_
     refine KA ?_
     refine KaD ?_
     refine KT ?_
     have e18 := Kaa hm; subst e18; clear hm; have hm := hq18
     refine KT ?_
     refine KaD ?_
     have e17 := Ko hm; subst e17; refine Kck ?_; clear hm; have hm := ho17; simp only [Sum.elim_inr] at hm
     refine KT ?_
     have er33 := Ko hm; subst er33
     refine rP (t' := [(4, .v (.int .i64 s18))]) [0] [] 1 (wC wN) (lT lN) ?_
     exact ⟨rfl, rfl, rfl⟩
    ·replace hm := yes_f hc32 hm
     refine KI ?_
     refine KR ?_
     refine Ke ?_
     refine Kz ?_
     refine pu ?_
     refine pu ?_
     refine KG ?_
     refine Ke ⟨_, Kab hm, ?_⟩
     exact WkX.of () (WkS.perm (WkS.cons rfl (Wk.refl _) (WkS.cons rfl (Wk.refl _) (WkS.cons rfl (Wk.refl _) (WkS.cons rfl (Wk.refl _) (WkS.nil))))) Pf Pf)
   ·replace hm := yes_f hc29 hm
    refine Kak ?_
    refine KO ?_
    have e18 := Kaa hm; subst e18; clear hm; have hm := hq18
    refine KO ?_
    refine Kae ?_
    have e17 := Ko hm; subst e17
    refine Kcj ?_
    exact WkX.of () (WkS.perm (WkS.nil) Pf Pf)
 ·intro y17 s17 hx17 hw17; subst hx17; clear hm; have hm := ho17; simp only [Sum.elim_inl] at hm; clear q17 ho17
  refine Ke ?_
  refine K8 hw17 (fun z17 => ?_)
  refine Kk ?_
  refine pu ?_
  refine Kj ?_
  refine KA ?_
  have er34 := Ko hm; subst er34
  refine rP (t' := [(4, .v (.int .i64 (-1 : Int)))]) [0] [] 1 (wC wN) (lT lN) ?_
  exact ⟨rfl, rfl, rfl⟩
structure Kr where
 gGlobals : List KS
 gFuncs : List KB
def Ku (x : Kr) : D := .agg [.lst 4 (x.gGlobals.map Kq) .no, .lst 5 (x.gFuncs.map Kp) .no]
noncomputable def Kbb (a0 : Kr) (a1 : ByteArray) : Option (KB × Bool) :=
 ((Kaf a0.gFuncs a1).bind fun x4 => (bif (decide (x4 < (0 : Int))) then some ((⟨ByteArray.empty, [], [], [], (0 : Int)⟩ : KB), false) else ((idx a0.gFuncs x4).bind fun x8 => some (x8, true))))
theorem Kb4 (a0 : Kr) (a1 : ByteArray) (r : KB × Bool) (h0 : Kbb a0 a1 = some r) : CallsD Try.prog 52 [Ku a0, .v (.string a1)] [] [] (fun d h k => d = .tup [Kp r.1, .v (.bool r.2)] ∧ h = [] ∧ k = []) := by
 have hm := KF h0
 unfold Kbb at hm
 clear h0
 refine KX htab Try.func52 rfl rfl rfl rfl rfl (fun C => ?_)
 refine Kk ?_
 refine p_box rfl rfl rfl rfl rfl rfl rfl (fun b1 => ?_)
 refine p_box rfl rfl rfl rfl rfl rfl rfl (fun b2 => ?_)
 refine K5 htab rfl rfl rfl rfl rfl rfl rfl (fun b3 => ?_)
 refine pu ?_
 refine KM ?_
 refine pu ?_
 refine pL 0 ?_
 refine pu ?_
 obtain ⟨x4, q4, hm⟩ := Kh hm
 refine pG (Kcf a0.gFuncs a1 b2 9 x4 q4) Wl ((Kv (j := 1) rfl).trans (List.Perm.cons _ Pf)) Pf ?_
 rintro _ _ _ ⟨rfl, rfl, rfl⟩
 refine pu ?_
 refine Kj ?_
 refine Ks ?_
 refine Kk ?_
 refine pu ?_
 refine pu ?_
 refine Kj ?_
 refine KH rfl (fun hc6 => ?_) (fun hc6 => ?_)
 ·replace hm := yes_t hc6 hm
  refine Kk ?_
  refine KbJ (r := [.v (.string ByteArray.empty), .lst 1 [] .full, .lst 1 [] .full, .lst 1 [] .full, .v (.int .i64 (0 : Int))]) htab rfl rfl rfl rfl rfl rfl rfl rfl rfl ?_
  refine pS2 (ds' := [.v (.string ByteArray.empty), .lst 1 [] .full, .lst 1 [] .full, .lst 1 [] .full, .v (.int .i64 (0 : Int))]) ?_
  refine pu ?_
  refine Kj ?_
  refine KA ?_
  refine KT ?_
  have er7 := Ko hm; subst er7
  refine retX.wk (WkS.bl2 (ds' := [.v (.string ByteArray.empty), .lst 2 (([] : List Kbl).map KW) .no, .lst 2 (([] : List Kbl).map KW) .no, .lst 7 (([] : List Kf).map Km) .no, .v (.int .i64 (0 : Int))]) (rC (WkR.cons (WkC.nil) rfl (WkR.cons (WkC.nil) rfl (WkR.cons (WkC.nil) rfl (rC WkR.nil)))))) ?_
  refine rP (t' := [(4, .ptr b3 0), (5, .v (.bool false))]) [2] [] 0 (wC (wC wN)) (lC 0 (lT lN)) ?_
  exact ⟨rfl, rfl, rfl⟩
 ·replace hm := yes_f hc6 hm
  refine KI ?_
  refine Ke ?_
  refine Kk ?_
  refine pu ?_
  refine pL 1 ?_
  refine pu ?_
  obtain ⟨x8, q8, hm⟩ := Kh hm
  refine Kaz htab rfl rfl rfl rfl rfl rfl rfl rfl rfl rfl (KV q8) (K9 q8) ?_
  refine Kad (d := Kp x8) htab rfl rfl rfl rfl rfl rfl rfl rfl ?_
  refine pS2 (ds' := [.v (.string x8.gName), .lst 2 (x8.gParams.map KW) .no, .lst 2 (x8.gLocals.map KW) .no, .lst 7 (x8.gBody.map Km) .no, .v (.int .i64 x8.gAt)]) ?_
  refine pu ?_
  refine Kj ?_
  refine KA ?_
  have er9 := Ko hm; subst er9
  refine rP (t' := [(4, .ptr b3 0), (5, .v (.bool true))]) [2] [] 0 (wC (wC wN)) (lC 0 (lT lN)) ?_
  exact ⟨rfl, rfl, rfl⟩
noncomputable def Kag (a0 : List Kbl) (a1 : List Kbl) : Option (Bool) :=
 (bif ((a0.length : Int) != (a1.length : Int)) then some false else (Option.bind (α := (Unit) ⊕ (Bool)) (loopM (fun (s21 : Int) => (bif (decide (s21 < (a0.length : Int))) then ((idx a0 s21).bind fun x33 => ((idx a1 s21).bind fun x34 => (bif (!(decide (x33.gName = x34.gName) && (x33.gPtr == x34.gPtr && true))) then some (.done (.inr false)) else some (.next (IntKind.i64.wrap (s21 + (1 : Int))))))) else some (.done (.inl ())))) (0 : Int)) (Sum.elim (fun y20 => some true) (fun r => some r))))
theorem KbH (a0 : List Kbl) (a1 : List Kbl) (r : Bool) (h0 : Kag a0 a1 = some r) : CallsD Try.prog 65 [.lst 2 (a0.map KW) .no, .lst 2 (a1.map KW) .no] [] [] (fun d h k => d = .v (.bool r) ∧ h = [] ∧ k = []) := by
 have hm := KF h0
 unfold Kag at hm
 clear h0
 refine KX htab Try.func65 rfl rfl rfl rfl rfl (fun C => ?_)
 refine Kk ?_
 refine pu ?_
 refine Kj ?_
 refine Ks ?_
 refine Kk ?_
 refine pu ?_
 refine Kaw htab rfl rfl rfl rfl rfl rfl rfl (by first | exact K7 | rfl) ?_
 refine pu ?_
 refine Kaw htab rfl rfl rfl rfl rfl rfl rfl (by first | exact K7 | rfl) ?_
 refine pu ?_
 refine Kj ?_
 refine KH rfl (fun hc2 => ?_) (fun hc2 => ?_)
 ·replace hm := yes_t hc2 hm
  refine Kk ?_
  refine pu ?_
  refine Kj ?_
  refine KA ?_
  refine KT ?_
  have er3 := Ko hm; subst er3
  refine rP (t' := [(4, .v (.bool false))]) [] [] 0 (wC wN) (lT lN) ?_
  exact ⟨rfl, rfl, rfl⟩
 ·replace hm := yes_f hc2 hm
  refine KI ?_
  refine Ke ?_
  refine Ks ?_
  refine Kk ?_
  refine pu ?_
  refine Kaw htab rfl rfl rfl rfl rfl rfl rfl (by first | exact K7 | rfl) ?_
  refine pu ?_
  refine Kj ?_
  obtain ⟨x20, q20, ho20⟩ := Kh hm
  refine Kci (τ := Unit) (Y := Unit) (fun y20 z20 => (⟨[], [], []⟩ : S)) x20 ?_ ?_
  ·clear hm; have hm := KF q20
   refine KN ?_
   obtain ⟨u21, hl21, hq21⟩ := yes_m hm
   refine KaM (Y := Unit) hl21 (fun s21 z21 => (⟨[(0, .lst 2 (a0.map KW) .no), (1, .lst 2 (a1.map KW) .no), (12, .v (.int .i64 (a0.length : Int))), (13, .v (.int .i64 s21))], [], []⟩ : S)) ?_ ?_
   ·skip
    exact WkX.of () (WkS.perm (WkS.cons rfl (Wk.refl _) (WkS.cons rfl (Wk.refl _) (WkS.cons rfl (Wk.refl _) (WkS.cons rfl (Wk.refl _) (WkS.nil))))) Pf Pf)
   ·intro G21 s21 z21 hm
    refine Kk ?_
    refine pu ?_
    refine Kj ?_
    refine Ks ?_
    refine KH rfl (fun hc32 => ?_) (fun hc32 => ?_)
    ·replace hm := yes_t hc32 hm
     refine KI ?_
     refine Ke ?_
     refine Ks ?_
     refine KN ?_
     refine Kk ?_
     refine pu ?_
     refine pu ?_
     refine Kj ?_
     refine Ks ?_
     obtain ⟨x33, q33, hm⟩ := Kh hm
     obtain ⟨x34, q34, hm⟩ := Kh hm
     refine Kb0 8 [] [[],[],[0],[0,2],[],[],[4],[4,6]] [0,2,3,4,6,7] [[],[],[0,1],[0,1,2],[],[],[4,5],[4,5,6],[0,1,2,3,4,5,6,7]] (by kernel_rfl) (by kernel_rfl) (by kernel_rfl) (by rfl) (by rfl) (by kernel_rfl) ?_
     iterate 6 apply Exists.intro
     intro bs
     refine zep ?_
     refine zqp ?_
     refine z_e rfl rfl (Kem htab rfl rfl rfl rfl rfl rfl rfl (KV q33) (K9 q33)) rfl rfl rfl rfl rfl rfl ?_
     refine z_eM rfl rfl (Kdi (d := KW x33) htab rfl rfl rfl rfl rfl) rfl rfl rfl rfl rfl rfl ?_
     refine zep ?_
     refine zqp ?_
     refine z_e rfl rfl (Kem htab rfl rfl rfl rfl rfl rfl rfl (KV q34) (K9 q34)) rfl rfl rfl rfl rfl rfl ?_
     refine z_eM rfl rfl (Kdi (d := KW x34) htab rfl rfl rfl rfl rfl) rfl rfl rfl rfl rfl rfl ?_
     refine z_nil rfl rfl (fun e he => by simp [isAl] at he) ?_
     refine p_eqS htab rfl rfl rfl rfl rfl eqt118 rfl rfl rfl rfl rfl ?_
     refine Kj ?_
     refine KH rfl (fun hc35 => ?_) (fun hc35 => ?_)
     ·replace hm := yes_t hc35 hm
      refine Kk ?_
      refine pu ?_
      refine Kj ?_
      refine KA ?_
      refine KaD ?_
      refine KT ?_
      have e21 := Kaa hm; subst e21; clear hm; have hm := hq21
      refine KT ?_
      refine KaD ?_
      have e20 := Ko hm; subst e20; refine Kck ?_; clear hm; have hm := ho20; simp only [Sum.elim_inr] at hm
      refine KT ?_
      have er36 := Ko hm; subst er36
      refine rP (t' := [(4, .v (.bool false))]) [] [] 0 (wC wN) (lT lN) ?_
      exact ⟨rfl, rfl, rfl⟩
     ·replace hm := yes_f hc35 hm
      refine KI ?_
      refine KR ?_
      refine Ke ?_
      refine Kz ?_
      refine pu ?_
      refine pu ?_
      refine KG ?_
      refine Ke ⟨_, Kab hm, ?_⟩
      exact WkX.of () (WkS.perm (WkS.cons rfl (Wk.refl _) (WkS.cons rfl (Wk.refl _) (WkS.cons rfl (Wk.refl _) (WkS.cons rfl (Wk.refl _) (WkS.nil))))) Pf Pf)
    ·replace hm := yes_f hc32 hm
     refine Kak ?_
     refine KO ?_
     have e21 := Kaa hm; subst e21; clear hm; have hm := hq21
     refine KO ?_
     refine Kae ?_
     have e20 := Ko hm; subst e20
     refine Kcj ?_
     exact WkX.of () (WkS.perm (WkS.nil) Pf Pf)
  ·intro y20 s20 hx20 hw20; subst hx20; clear hm; have hm := ho20; simp only [Sum.elim_inl] at hm; clear q20 ho20
   refine Ke ?_
   refine K8 hw20 (fun z20 => ?_)
   refine Kk ?_
   refine pu ?_
   refine Kj ?_
   refine KA ?_
   have er37 := Ko hm; subst er37
   refine rP (t' := [(4, .v (.bool true))]) [] [] 0 (wC wN) (lT lN) ?_
   exact ⟨rfl, rfl, rfl⟩
noncomputable def KC (g0 : (List Kl) → (List Kl) → Option (Bool)) (g1 : (Kl) → (Kl) → Option (Bool)) (a0 : List Kl) (a1 : List Kl) : Option (Bool) :=
 (bif ((a0.length : Int) != (a1.length : Int)) then some false else (Option.bind (α := (Unit) ⊕ (Bool)) (loopM (fun (s30 : Int) => (bif (decide (s30 < (a0.length : Int))) then ((idx a0 s30).bind fun x48 => ((idx a1 s30).bind fun x50 => ((g1 x48 x50).bind fun x52 => (bif (!x52) then some (.done (.inr false)) else some (.next (IntKind.i64.wrap (s30 + (1 : Int)))))))) else some (.done (.inl ())))) (0 : Int)) (Sum.elim (fun y29 => some true) (fun r => some r))))
theorem Kbf (g0 : (List Kl) → (List Kl) → Option (Bool)) (g1 : (Kl) → (Kl) → Option (Bool)) (hg0 : ∀ (a0 : List Kl) (a1 : List Kl) (r : Bool) (h0 : g0 a0 a1 = some r), CallsD Try.prog 91 [.lst 5 (a0.map Kw) .no, .lst 5 (a1.map Kw) .no, .fn (.func 92) [] []] [] [] (fun d h k => d = .v (.bool r) ∧ h = [] ∧ k = [])) (hg1 : ∀ (a0 : Kl) (a1 : Kl) (r : Bool) (h0 : g1 a0 a1 = some r), CallsD Try.prog 92 [Kw a0, Kw a1] [] [] (fun d h k => d = .v (.bool r) ∧ h = [] ∧ k = [])) (a0 : List Kl) (a1 : List Kl) (r : Bool) (h0 : KC g0 g1 a0 a1 = some r) : CallsD Try.prog 91 [.lst 5 (a0.map Kw) .no, .lst 5 (a1.map Kw) .no, .fn (.func 92) [] []] [] [] (fun d h k => d = .v (.bool r) ∧ h = [] ∧ k = []) := by
 have hm := KF h0
 unfold KC at hm
 clear h0
 refine KX htab Try.func91 rfl rfl rfl rfl rfl (fun C => ?_)
 refine Kk ?_
 refine pu ?_
 refine Kj ?_
 refine Ks ?_
 refine Kk ?_
 refine pu ?_
 refine Kaw htab rfl rfl rfl rfl rfl rfl rfl (by first | exact K7 | rfl) ?_
 refine pu ?_
 refine Kaw htab rfl rfl rfl rfl rfl rfl rfl (by first | exact K7 | rfl) ?_
 refine pu ?_
 refine Kj ?_
 refine KH rfl (fun hc2 => ?_) (fun hc2 => ?_)
 ·replace hm := yes_t hc2 hm
  refine Kk ?_
  refine pu ?_
  refine Kj ?_
  refine KA ?_
  refine KT ?_
  have er3 := Ko hm; subst er3
  refine rP (t' := [(6, .v (.bool false))]) [] [] 0 (wC wN) (lT lN) ?_
  exact ⟨rfl, rfl, rfl⟩
 ·replace hm := yes_f hc2 hm
  refine KI ?_
  refine Ke ?_
  refine Ks ?_
  refine Kk ?_
  refine pu ?_
  refine Kaw htab rfl rfl rfl rfl rfl rfl rfl (by first | exact K7 | rfl) ?_
  refine pu ?_
  refine Kj ?_
  obtain ⟨x29, q29, ho29⟩ := Kh hm
  refine Kci (τ := Unit) (Y := Unit) (fun y29 z29 => (⟨[], [], []⟩ : S)) x29 ?_ ?_
  ·clear hm; have hm := KF q29
   refine KN ?_
   obtain ⟨u30, hl30, hq30⟩ := yes_m hm
   refine KaM (Y := Unit) hl30 (fun s30 z30 => (⟨[(1, .lst 5 (a1.map Kw) .no), (2, .fn (.func 92) [] []), (15, .lst 5 (a0.map Kw) .no), (16, .v (.int .i64 (a0.length : Int))), (17, .v (.int .i64 s30))], [], []⟩ : S)) ?_ ?_
   ·skip
    exact WkX.of () (WkS.perm (WkS.cons rfl (Wk.refl _) (WkS.cons rfl (Wk.refl _) (WkS.cons rfl (Wk.refl _) (WkS.cons rfl (Wk.refl _) (WkS.cons rfl (Wk.refl _) (WkS.nil)))))) Pf Pf)
   ·intro G30 s30 z30 hm
    refine Kk ?_
    refine pu ?_
    refine Kj ?_
    refine Ks ?_
    refine KH rfl (fun hc47 => ?_) (fun hc47 => ?_)
    ·replace hm := yes_t hc47 hm
     refine KI ?_
     refine Ke ?_
     refine Ks ?_
     refine KN ?_
     refine Kk ?_
     refine pu ?_
     obtain ⟨x48, q48, hm⟩ := Kh hm
     refine Kaz htab rfl rfl rfl rfl rfl rfl rfl rfl rfl rfl (KV q48) (K9 q48) ?_
     refine p_eq (i := 20) rfl (Wk.of_eq (congrArg D.el (Kah x48))) ?_
     refine Kad (d := .agg [.v (.int .i64 x48.gOp), .v (.int .i64 x48.gN), .v (.string x48.gName), .lst 5 (x48.gKids.map Kw) .no, .v (.int .i64 x48.gAt)]) htab rfl rfl rfl rfl rfl rfl rfl rfl ?_
     refine K5 htab rfl rfl rfl rfl rfl rfl rfl (fun b49 => ?_)
     refine pu ?_
     refine pS0 (ds' := [.v (.int .i64 x48.gOp), .v (.int .i64 x48.gN), .v (.string x48.gName), .lst 5 (x48.gKids.map Kw) .no, .v (.int .i64 x48.gAt)]) ?_
     refine KM ?_
     refine pu ?_
     refine pu ?_
     obtain ⟨x50, q50, hm⟩ := Kh hm
     refine Kaz htab rfl rfl rfl rfl rfl rfl rfl rfl rfl rfl (KV q50) (K9 q50) ?_
     refine p_eq (i := 24) rfl (Wk.of_eq (congrArg D.el (Kah x50))) ?_
     refine Kad (d := .agg [.v (.int .i64 x50.gOp), .v (.int .i64 x50.gN), .v (.string x50.gName), .lst 5 (x50.gKids.map Kw) .no, .v (.int .i64 x50.gAt)]) htab rfl rfl rfl rfl rfl rfl rfl rfl ?_
     refine K5 htab rfl rfl rfl rfl rfl rfl rfl (fun b51 => ?_)
     refine pS1 (ds' := [.v (.int .i64 x50.gOp), .v (.int .i64 x50.gN), .v (.string x50.gName), .lst 5 (x50.gKids.map Kw) .no, .v (.int .i64 x50.gAt)]) ?_
     refine KM ?_
     refine pu ?_
     refine Kav (d := .agg [.v (.int .i64 x48.gOp), .v (.int .i64 x48.gN), .v (.string x48.gName), .lst 5 (x48.gKids.map Kw) .no, .v (.int .i64 x48.gAt)]) 0 htab rfl rfl rfl rfl rfl rfl rfl rfl ?_
     refine Kav (d := .agg [.v (.int .i64 x50.gOp), .v (.int .i64 x50.gN), .v (.string x50.gName), .lst 5 (x50.gKids.map Kw) .no, .v (.int .i64 x50.gAt)]) 1 htab rfl rfl rfl rfl rfl rfl rfl rfl ?_
     obtain ⟨x52, q52, hm⟩ := Kh hm
     refine Kga (hg1 x48 x50 x52 q52) rfl rfl rfl rfl rfl rfl rfl (WkL.cons (Wk.trans (Wk.agg (WkR.refl _)) (Wk.of_eq (Kah x48).symm)) (WkL.cons (Wk.trans (Wk.agg (WkR.refl _)) (Wk.of_eq (Kah x50).symm)) Wl)) ?_
     rintro _ rfl
     refine pu ?_
     refine Kj ?_
     refine KH rfl (fun hc53 => ?_) (fun hc53 => ?_)
     ·replace hm := yes_t hc53 hm
      refine Kk ?_
      refine pu ?_
      refine Kj ?_
      refine KA ?_
      refine KaD ?_
      refine KT ?_
      have e30 := Kaa hm; subst e30; clear hm; have hm := hq30
      refine KT ?_
      refine KaD ?_
      have e29 := Ko hm; subst e29; refine Kck ?_; clear hm; have hm := ho29; simp only [Sum.elim_inr] at hm
      refine KT ?_
      have er54 := Ko hm; subst er54
      refine rP (t' := [(6, .v (.bool false))]) [] [] 0 (wC wN) (lT lN) ?_
      exact ⟨rfl, rfl, rfl⟩
     ·replace hm := yes_f hc53 hm
      refine KI ?_
      refine KR ?_
      refine Ke ?_
      refine Kz ?_
      refine pu ?_
      refine pu ?_
      refine KG ?_
      refine Ke ⟨_, Kab hm, ?_⟩
      exact WkX.of () (WkS.perm (WkS.cons rfl (Wk.refl _) (WkS.cons rfl (Wk.refl _) (WkS.cons rfl (Wk.refl _) (WkS.cons rfl (Wk.refl _) (WkS.cons rfl (Wk.refl _) (WkS.nil)))))) Pf Pf)
    ·replace hm := yes_f hc47 hm
     refine Kak ?_
     refine KO ?_
     have e30 := Kaa hm; subst e30; clear hm; have hm := hq30
     refine KO ?_
     refine Kae ?_
     have e29 := Ko hm; subst e29
     refine Kcj ?_
     exact WkX.of () (WkS.perm (WkS.nil) Pf Pf)
  ·intro y29 s29 hx29 hw29; subst hx29; clear hm; have hm := ho29; simp only [Sum.elim_inl] at hm; clear q29 ho29
   refine Ke ?_
   refine K8 hw29 (fun z29 => ?_)
   refine Kk ?_
   refine pu ?_
   refine Kj ?_
   refine KA ?_
   have er55 := Ko hm; subst er55
   refine rP (t' := [(6, .v (.bool true))]) [] [] 0 (wC wN) (lT lN) ?_
   exact ⟨rfl, rfl, rfl⟩
noncomputable def Kby (g0 : (List Kl) → (List Kl) → Option (Bool)) (g1 : (Kl) → (Kl) → Option (Bool)) (a0 : Kl) (a1 : Kl) : Option (Bool) :=
 (bif (a0.gOp == a1.gOp) then (bif (a0.gN == a1.gN) then (bif (decide (a0.gName = a1.gName)) then ((g0 a0.gKids a1.gKids).bind fun x6 => some x6) else some false) else some false) else some false)
theorem KgN (g0 : (List Kl) → (List Kl) → Option (Bool)) (g1 : (Kl) → (Kl) → Option (Bool)) (hg0 : ∀ (a0 : List Kl) (a1 : List Kl) (r : Bool) (h0 : g0 a0 a1 = some r), CallsD Try.prog 91 [.lst 5 (a0.map Kw) .no, .lst 5 (a1.map Kw) .no, .fn (.func 92) [] []] [] [] (fun d h k => d = .v (.bool r) ∧ h = [] ∧ k = [])) (hg1 : ∀ (a0 : Kl) (a1 : Kl) (r : Bool) (h0 : g1 a0 a1 = some r), CallsD Try.prog 92 [Kw a0, Kw a1] [] [] (fun d h k => d = .v (.bool r) ∧ h = [] ∧ k = [])) (a0 : Kl) (a1 : Kl) (r : Bool) (h0 : Kby g0 g1 a0 a1 = some r) : CallsD Try.prog 92 [Kw a0, Kw a1] [] [] (fun d h k => d = .v (.bool r) ∧ h = [] ∧ k = []) := by
 have hm := KF h0
 unfold Kby at hm
 clear h0
 refine KX htab Try.func92 rfl rfl rfl rfl rfl (fun C => ?_)
 refine w_eq (i := 0) rfl (Wk.of_eq (Kah a0)) ?_
 refine w_eq (i := 1) rfl (Wk.of_eq (Kah a1)) ?_
 refine Kk ?_
 refine p_box rfl rfl rfl rfl rfl rfl rfl (fun b1 => ?_)
 refine p_box rfl rfl rfl rfl rfl rfl rfl (fun b2 => ?_)
 refine pu ?_
 refine KM ?_
 refine pu ?_
 refine pL 0 ?_
 refine pu ?_
 refine pL 1 ?_
 refine pu ?_
 refine pu ?_
 refine Ka0 (i := 10) rfl (fun hg3 => ?_) (fun hg3 => ?_)
 ·replace hm := yes_t hg3 hm
  refine pu ?_
  refine pL 0 ?_
  refine pu ?_
  refine pL 1 ?_
  refine pu ?_
  refine KaE rfl rfl rfl rfl rfl rfl ?_
  refine pu ?_
  refine Ka0 (i := 17) rfl (fun hg4 => ?_) (fun hg4 => ?_)
  ·replace hm := yes_t hg4 hm
   refine pu ?_
   refine pL 0 ?_
   refine pu ?_
   refine pL 1 ?_
   refine pu ?_
   refine KaE rfl rfl rfl rfl rfl rfl ?_
   refine pu ?_
   refine Ka0 (i := 24) rfl (fun hg5 => ?_) (fun hg5 => ?_)
   ·replace hm := yes_t hg5 hm
    refine pu ?_
    refine pL 0 ?_
    refine pu ?_
    refine pL 1 ?_
    obtain ⟨x6, q6, hm⟩ := Kh hm
    refine Kai (hg0 a0.gKids a1.gKids x6 q6) rfl rfl rfl rfl rfl Wl ?_
    rintro _ rfl
    refine KaE rfl rfl rfl rfl rfl rfl ?_
    refine pu ?_
    refine Kj ?_
    refine KA ?_
    have er7 := Ko hm; subst er7
    refine rP (t' := [(4, .v (.bool x6))]) [] [] 0 (wC wN) (lT lN) ?_
    exact ⟨rfl, rfl, rfl⟩
   ·replace hm := yes_f hg5 hm
    iterate 5 refine pK ?_
    refine Kan rfl rfl rfl rfl rfl rfl ?_
    refine pu ?_
    refine Kj ?_
    refine KA ?_
    have er8 := Ko hm; subst er8
    refine rP (t' := [(4, .v (.bool false))]) [] [] 0 (wC wN) (lT lN) ?_
    exact ⟨rfl, rfl, rfl⟩
  ·replace hm := yes_f hg4 hm
   iterate 5 refine pK ?_
   refine Kan rfl rfl rfl rfl rfl rfl ?_
   refine pu ?_
   iterate 5 refine pK ?_
   refine Kan rfl rfl rfl rfl rfl rfl ?_
   refine pu ?_
   refine Kj ?_
   refine KA ?_
   have er9 := Ko hm; subst er9
   refine rP (t' := [(4, .v (.bool false))]) [] [] 0 (wC wN) (lT lN) ?_
   exact ⟨rfl, rfl, rfl⟩
 ·replace hm := yes_f hg3 hm
  iterate 5 refine pK ?_
  refine Kan rfl rfl rfl rfl rfl rfl ?_
  refine pu ?_
  iterate 5 refine pK ?_
  refine Kan rfl rfl rfl rfl rfl rfl ?_
  refine pu ?_
  iterate 5 refine pK ?_
  refine Kan rfl rfl rfl rfl rfl rfl ?_
  refine pu ?_
  refine Kj ?_
  refine KA ?_
  have er10 := Ko hm; subst er10
  refine rP (t' := [(4, .v (.bool false))]) [] [] 0 (wC wN) (lT lN) ?_
  exact ⟨rfl, rfl, rfl⟩
noncomputable def Kc : Nat → ((List Kl) → (List Kl) → Option (Bool)) × ((Kl) → (Kl) → Option (Bool))
 | 0 => (fun _ _ => none, fun _ _ => none)
 | n + 1 => (KC ((Kc n).1) ((Kc n).2), Kby ((Kc n).1) ((Kc n).2))
theorem Kap : ∀ n, (∀ (a0 : List Kl) (a1 : List Kl) (r : Bool) (h0 : (Kc n).1 a0 a1 = some r), CallsD Try.prog 91 [.lst 5 (a0.map Kw) .no, .lst 5 (a1.map Kw) .no, .fn (.func 92) [] []] [] [] (fun d h k => d = .v (.bool r) ∧ h = [] ∧ k = [])) ∧ (∀ (a0 : Kl) (a1 : Kl) (r : Bool) (h0 : (Kc n).2 a0 a1 = some r), CallsD Try.prog 92 [Kw a0, Kw a1] [] [] (fun d h k => d = .v (.bool r) ∧ h = [] ∧ k = []))
  | 0 => ⟨(fun _ _ _ h0 => by cases h0), (fun _ _ _ h0 => by cases h0)⟩
  | n + 1 => by
    have ih := Kap n
    exact ⟨Kbf ((Kc n).1) ((Kc n).2) (ih.1) (ih.2), KgN ((Kc n).1) ((Kc n).2) (ih.1) (ih.2)⟩
theorem Kaq : ∀ n, (∀ (a0 : List Kl) (a1 : List Kl), Le ((Kc n).1 a0 a1) ((Kc (n + 1)).1 a0 a1)) ∧ (∀ (a0 : Kl) (a1 : Kl), Le ((Kc n).2 a0 a1) ((Kc (n + 1)).2 a0 a1))
  | 0 => ⟨fun _ _ => Le.none _, fun _ _ => Le.none _⟩
  | n + 1 => by
    have ih := Kaq n
    exact ⟨fun a0 a1 => by show Le (KC ((Kc n).1) ((Kc n).2) a0 a1) (KC ((Kc (n + 1)).1) ((Kc (n + 1)).2) a0 a1); unfold KC; repeat (first | exact Le.refl _ | exact ih.1 _ _ | exact ih.2 _ _ | assumption | (refine Le.bind ?_ (fun _ => ?_)) | (refine Le.cond ?_ ?_) | (refine Le.loop (fun _ => ?_)) | (refine Le.elim (fun _ => ?_) (fun _ => ?_))), fun a0 a1 => by show Le (Kby ((Kc n).1) ((Kc n).2) a0 a1) (Kby ((Kc (n + 1)).1) ((Kc (n + 1)).2) a0 a1); unfold Kby; repeat (first | exact Le.refl _ | exact ih.1 _ _ | exact ih.2 _ _ | assumption | (refine Le.bind ?_ (fun _ => ?_)) | (refine Le.cond ?_ ?_) | (refine Le.loop (fun _ => ?_)) | (refine Le.elim (fun _ => ?_) (fun _ => ?_)))⟩
noncomputable def K1 (a0 : List Kl) (a1 : List Kl) : Option (Bool) := anyN fun n => (Kc n).1 a0 a1
theorem Kbo (a0 : List Kl) (a1 : List Kl) {r : Bool} (n : Nat) (h : (Kc n).1 a0 a1 = some r) : K1 a0 a1 = some r := Kfx (fun m => (Kaq m).1 a0 a1) h
theorem Kbp (a0 : List Kl) (a1 : List Kl) (r : Bool) (h0 : K1 a0 a1 = some r) : CallsD Try.prog 91 [.lst 5 (a0.map Kw) .no, .lst 5 (a1.map Kw) .no, .fn (.func 92) [] []] [] [] (fun d h k => d = .v (.bool r) ∧ h = [] ∧ k = []) :=
 let ⟨n, hn⟩ := KeI h0; (Kap n).1 a0 a1  r hn
noncomputable def Ka2 (g0 : (List Kf) → (List Kf) → Option (Bool)) (g1 : (List Kf) → (List Kf) → Option (Bool)) (g2 : (Kf) → (Kf) → Option (Bool)) (a0 : List Kf) (a1 : List Kf) : Option (Bool) :=
 ((g1 a0 a1).bind fun x1 => some x1)
theorem KfE (g0 : (List Kf) → (List Kf) → Option (Bool)) (g1 : (List Kf) → (List Kf) → Option (Bool)) (g2 : (Kf) → (Kf) → Option (Bool)) (hg0 : ∀ (a0 : List Kf) (a1 : List Kf) (r : Bool) (h0 : g0 a0 a1 = some r), CallsD Try.prog 66 [.lst 7 (a0.map Km) .no, .lst 7 (a1.map Km) .no] [] [] (fun d h k => d = .v (.bool r) ∧ h = [] ∧ k = [])) (hg1 : ∀ (a0 : List Kf) (a1 : List Kf) (r : Bool) (h0 : g1 a0 a1 = some r), CallsD Try.prog 83 [.lst 7 (a0.map Km) .no, .lst 7 (a1.map Km) .no, .fn (.func 84) [] []] [] [] (fun d h k => d = .v (.bool r) ∧ h = [] ∧ k = [])) (hg2 : ∀ (a0 : Kf) (a1 : Kf) (r : Bool) (h0 : g2 a0 a1 = some r), CallsD Try.prog 84 [Km a0, Km a1] [] [] (fun d h k => d = .v (.bool r) ∧ h = [] ∧ k = [])) (a0 : List Kf) (a1 : List Kf) (r : Bool) (h0 : Ka2 g0 g1 g2 a0 a1 = some r) : CallsD Try.prog 66 [.lst 7 (a0.map Km) .no, .lst 7 (a1.map Km) .no] [] [] (fun d h k => d = .v (.bool r) ∧ h = [] ∧ k = []) := by
 have hm := KF h0
 unfold Ka2 at hm
 clear h0
 refine KX htab Try.func66 rfl rfl rfl rfl rfl (fun C => ?_)
 refine Kk ?_
 refine pu ?_
 refine KM ?_
 refine pu ?_
 refine pu ?_
 obtain ⟨x1, q1, hm⟩ := Kh hm
 refine Kai (hg1 a0 a1 x1 q1) rfl rfl rfl rfl rfl Wl ?_
 rintro _ rfl
 refine pu ?_
 refine Kj ?_
 refine KA ?_
 have er2 := Ko hm; subst er2
 refine rP (t' := [(4, .v (.bool x1))]) [] [] 0 (wC wN) (lT lN) ?_
 exact ⟨rfl, rfl, rfl⟩
noncomputable def KD (g0 : (List Kf) → (List Kf) → Option (Bool)) (g1 : (List Kf) → (List Kf) → Option (Bool)) (g2 : (Kf) → (Kf) → Option (Bool)) (a0 : List Kf) (a1 : List Kf) : Option (Bool) :=
 (bif ((a0.length : Int) != (a1.length : Int)) then some false else (Option.bind (α := (Unit) ⊕ (Bool)) (loopM (fun (s30 : Int) => (bif (decide (s30 < (a0.length : Int))) then ((idx a0 s30).bind fun x48 => ((idx a1 s30).bind fun x50 => ((g2 x48 x50).bind fun x52 => (bif (!x52) then some (.done (.inr false)) else some (.next (IntKind.i64.wrap (s30 + (1 : Int)))))))) else some (.done (.inl ())))) (0 : Int)) (Sum.elim (fun y29 => some true) (fun r => some r))))
theorem Kbg (g0 : (List Kf) → (List Kf) → Option (Bool)) (g1 : (List Kf) → (List Kf) → Option (Bool)) (g2 : (Kf) → (Kf) → Option (Bool)) (hg0 : ∀ (a0 : List Kf) (a1 : List Kf) (r : Bool) (h0 : g0 a0 a1 = some r), CallsD Try.prog 66 [.lst 7 (a0.map Km) .no, .lst 7 (a1.map Km) .no] [] [] (fun d h k => d = .v (.bool r) ∧ h = [] ∧ k = [])) (hg1 : ∀ (a0 : List Kf) (a1 : List Kf) (r : Bool) (h0 : g1 a0 a1 = some r), CallsD Try.prog 83 [.lst 7 (a0.map Km) .no, .lst 7 (a1.map Km) .no, .fn (.func 84) [] []] [] [] (fun d h k => d = .v (.bool r) ∧ h = [] ∧ k = [])) (hg2 : ∀ (a0 : Kf) (a1 : Kf) (r : Bool) (h0 : g2 a0 a1 = some r), CallsD Try.prog 84 [Km a0, Km a1] [] [] (fun d h k => d = .v (.bool r) ∧ h = [] ∧ k = [])) (a0 : List Kf) (a1 : List Kf) (r : Bool) (h0 : KD g0 g1 g2 a0 a1 = some r) : CallsD Try.prog 83 [.lst 7 (a0.map Km) .no, .lst 7 (a1.map Km) .no, .fn (.func 84) [] []] [] [] (fun d h k => d = .v (.bool r) ∧ h = [] ∧ k = []) := by
 have hm := KF h0
 unfold KD at hm
 clear h0
 refine KX htab Try.func83 rfl rfl rfl rfl rfl (fun C => ?_)
 refine Kk ?_
 refine pu ?_
 refine Kj ?_
 refine Ks ?_
 refine Kk ?_
 refine pu ?_
 refine Kaw htab rfl rfl rfl rfl rfl rfl rfl (by first | exact K7 | rfl) ?_
 refine pu ?_
 refine Kaw htab rfl rfl rfl rfl rfl rfl rfl (by first | exact K7 | rfl) ?_
 refine pu ?_
 refine Kj ?_
 refine KH rfl (fun hc2 => ?_) (fun hc2 => ?_)
 ·replace hm := yes_t hc2 hm
  refine Kk ?_
  refine pu ?_
  refine Kj ?_
  refine KA ?_
  refine KT ?_
  have er3 := Ko hm; subst er3
  refine rP (t' := [(6, .v (.bool false))]) [] [] 0 (wC wN) (lT lN) ?_
  exact ⟨rfl, rfl, rfl⟩
 ·replace hm := yes_f hc2 hm
  refine KI ?_
  refine Ke ?_
  refine Ks ?_
  refine Kk ?_
  refine pu ?_
  refine Kaw htab rfl rfl rfl rfl rfl rfl rfl (by first | exact K7 | rfl) ?_
  refine pu ?_
  refine Kj ?_
  obtain ⟨x29, q29, ho29⟩ := Kh hm
  refine Kci (τ := Unit) (Y := Unit) (fun y29 z29 => (⟨[], [], []⟩ : S)) x29 ?_ ?_
  ·clear hm; have hm := KF q29
   refine KN ?_
   obtain ⟨u30, hl30, hq30⟩ := yes_m hm
   refine KaM (Y := Unit) hl30 (fun s30 z30 => (⟨[(1, .lst 7 (a1.map Km) .no), (2, .fn (.func 84) [] []), (15, .lst 7 (a0.map Km) .no), (16, .v (.int .i64 (a0.length : Int))), (17, .v (.int .i64 s30))], [], []⟩ : S)) ?_ ?_
   ·skip
    exact WkX.of () (WkS.perm (WkS.cons rfl (Wk.refl _) (WkS.cons rfl (Wk.refl _) (WkS.cons rfl (Wk.refl _) (WkS.cons rfl (Wk.refl _) (WkS.cons rfl (Wk.refl _) (WkS.nil)))))) Pf Pf)
   ·intro G30 s30 z30 hm
    refine Kk ?_
    refine pu ?_
    refine Kj ?_
    refine Ks ?_
    refine KH rfl (fun hc47 => ?_) (fun hc47 => ?_)
    ·replace hm := yes_t hc47 hm
     refine KI ?_
     refine Ke ?_
     refine Ks ?_
     refine KN ?_
     refine Kk ?_
     refine pu ?_
     obtain ⟨x48, q48, hm⟩ := Kh hm
     refine Kaz htab rfl rfl rfl rfl rfl rfl rfl rfl rfl rfl (KV q48) (K9 q48) ?_
     refine p_eq (i := 20) rfl (Wk.of_eq (congrArg D.el (KaF x48))) ?_
     refine Kad (d := .agg [.v (.int .i64 x48.gOp), .v (.string x48.gName), .v (.string x48.gFunc), .lst 5 (x48.gExps.map Kw) .no, .lst 7 (x48.gKids.map Km) .no, .lst 7 (x48.gElse.map Km) .no, .v (.int .i64 x48.gAt)]) htab rfl rfl rfl rfl rfl rfl rfl rfl ?_
     refine K5 htab rfl rfl rfl rfl rfl rfl rfl (fun b49 => ?_)
     refine pu ?_
     refine pS0 (ds' := [.v (.int .i64 x48.gOp), .v (.string x48.gName), .v (.string x48.gFunc), .lst 5 (x48.gExps.map Kw) .no, .lst 7 (x48.gKids.map Km) .no, .lst 7 (x48.gElse.map Km) .no, .v (.int .i64 x48.gAt)]) ?_
     refine KM ?_
     refine pu ?_
     refine pu ?_
     obtain ⟨x50, q50, hm⟩ := Kh hm
     refine Kaz htab rfl rfl rfl rfl rfl rfl rfl rfl rfl rfl (KV q50) (K9 q50) ?_
     refine p_eq (i := 24) rfl (Wk.of_eq (congrArg D.el (KaF x50))) ?_
     refine Kad (d := .agg [.v (.int .i64 x50.gOp), .v (.string x50.gName), .v (.string x50.gFunc), .lst 5 (x50.gExps.map Kw) .no, .lst 7 (x50.gKids.map Km) .no, .lst 7 (x50.gElse.map Km) .no, .v (.int .i64 x50.gAt)]) htab rfl rfl rfl rfl rfl rfl rfl rfl ?_
     refine K5 htab rfl rfl rfl rfl rfl rfl rfl (fun b51 => ?_)
     refine pS1 (ds' := [.v (.int .i64 x50.gOp), .v (.string x50.gName), .v (.string x50.gFunc), .lst 5 (x50.gExps.map Kw) .no, .lst 7 (x50.gKids.map Km) .no, .lst 7 (x50.gElse.map Km) .no, .v (.int .i64 x50.gAt)]) ?_
     refine KM ?_
     refine pu ?_
     refine Kav (d := .agg [.v (.int .i64 x48.gOp), .v (.string x48.gName), .v (.string x48.gFunc), .lst 5 (x48.gExps.map Kw) .no, .lst 7 (x48.gKids.map Km) .no, .lst 7 (x48.gElse.map Km) .no, .v (.int .i64 x48.gAt)]) 0 htab rfl rfl rfl rfl rfl rfl rfl rfl ?_
     refine Kav (d := .agg [.v (.int .i64 x50.gOp), .v (.string x50.gName), .v (.string x50.gFunc), .lst 5 (x50.gExps.map Kw) .no, .lst 7 (x50.gKids.map Km) .no, .lst 7 (x50.gElse.map Km) .no, .v (.int .i64 x50.gAt)]) 1 htab rfl rfl rfl rfl rfl rfl rfl rfl ?_
     obtain ⟨x52, q52, hm⟩ := Kh hm
     refine Kga (hg2 x48 x50 x52 q52) rfl rfl rfl rfl rfl rfl rfl (WkL.cons (Wk.trans (Wk.agg (WkR.refl _)) (Wk.of_eq (KaF x48).symm)) (WkL.cons (Wk.trans (Wk.agg (WkR.refl _)) (Wk.of_eq (KaF x50).symm)) Wl)) ?_
     rintro _ rfl
     refine pu ?_
     refine Kj ?_
     refine KH rfl (fun hc53 => ?_) (fun hc53 => ?_)
     ·replace hm := yes_t hc53 hm
      refine Kk ?_
      refine pu ?_
      refine Kj ?_
      refine KA ?_
      refine KaD ?_
      refine KT ?_
      have e30 := Kaa hm; subst e30; clear hm; have hm := hq30
      refine KT ?_
      refine KaD ?_
      have e29 := Ko hm; subst e29; refine Kck ?_; clear hm; have hm := ho29; simp only [Sum.elim_inr] at hm
      refine KT ?_
      have er54 := Ko hm; subst er54
      refine rP (t' := [(6, .v (.bool false))]) [] [] 0 (wC wN) (lT lN) ?_
      exact ⟨rfl, rfl, rfl⟩
     ·replace hm := yes_f hc53 hm
      refine KI ?_
      refine KR ?_
      refine Ke ?_
      refine Kz ?_
      refine pu ?_
      refine pu ?_
      refine KG ?_
      refine Ke ⟨_, Kab hm, ?_⟩
      exact WkX.of () (WkS.perm (WkS.cons rfl (Wk.refl _) (WkS.cons rfl (Wk.refl _) (WkS.cons rfl (Wk.refl _) (WkS.cons rfl (Wk.refl _) (WkS.cons rfl (Wk.refl _) (WkS.nil)))))) Pf Pf)
    ·replace hm := yes_f hc47 hm
     refine Kak ?_
     refine KO ?_
     have e30 := Kaa hm; subst e30; clear hm; have hm := hq30
     refine KO ?_
     refine Kae ?_
     have e29 := Ko hm; subst e29
     refine Kcj ?_
     exact WkX.of () (WkS.perm (WkS.nil) Pf Pf)
  ·intro y29 s29 hx29 hw29; subst hx29; clear hm; have hm := ho29; simp only [Sum.elim_inl] at hm; clear q29 ho29
   refine Ke ?_
   refine K8 hw29 (fun z29 => ?_)
   refine Kk ?_
   refine pu ?_
   refine Kj ?_
   refine KA ?_
   have er55 := Ko hm; subst er55
   refine rP (t' := [(6, .v (.bool true))]) [] [] 0 (wC wN) (lT lN) ?_
   exact ⟨rfl, rfl, rfl⟩
noncomputable def KaP (g0 : (List Kf) → (List Kf) → Option (Bool)) (g1 : (List Kf) → (List Kf) → Option (Bool)) (g2 : (Kf) → (Kf) → Option (Bool)) (a0 : Kf) (a1 : Kf) : Option (Bool) :=
 (Option.bind (α := Bool) (bif (a0.gOp != a1.gOp) then some true else (bif (!decide (a0.gName = a1.gName)) then some true else some (!decide (a0.gFunc = a1.gFunc)))) fun y5 => (bif y5 then some false else ((K1 a0.gExps a1.gExps).bind fun x11 => (bif x11 then ((g0 a0.gKids a1.gKids).bind fun x13 => (bif x13 then ((g0 a0.gElse a1.gElse).bind fun x15 => some x15) else some false)) else some false))))
theorem Kff (g0 : (List Kf) → (List Kf) → Option (Bool)) (g1 : (List Kf) → (List Kf) → Option (Bool)) (g2 : (Kf) → (Kf) → Option (Bool)) (hg0 : ∀ (a0 : List Kf) (a1 : List Kf) (r : Bool) (h0 : g0 a0 a1 = some r), CallsD Try.prog 66 [.lst 7 (a0.map Km) .no, .lst 7 (a1.map Km) .no] [] [] (fun d h k => d = .v (.bool r) ∧ h = [] ∧ k = [])) (hg1 : ∀ (a0 : List Kf) (a1 : List Kf) (r : Bool) (h0 : g1 a0 a1 = some r), CallsD Try.prog 83 [.lst 7 (a0.map Km) .no, .lst 7 (a1.map Km) .no, .fn (.func 84) [] []] [] [] (fun d h k => d = .v (.bool r) ∧ h = [] ∧ k = [])) (hg2 : ∀ (a0 : Kf) (a1 : Kf) (r : Bool) (h0 : g2 a0 a1 = some r), CallsD Try.prog 84 [Km a0, Km a1] [] [] (fun d h k => d = .v (.bool r) ∧ h = [] ∧ k = [])) (a0 : Kf) (a1 : Kf) (r : Bool) (h0 : KaP g0 g1 g2 a0 a1 = some r) : CallsD Try.prog 84 [Km a0, Km a1] [] [] (fun d h k => d = .v (.bool r) ∧ h = [] ∧ k = []) := by
 have hm := KF h0
 unfold KaP at hm
 clear h0
 refine KX htab Try.func84 rfl rfl rfl rfl rfl (fun C => ?_)
 refine w_eq (i := 0) rfl (Wk.of_eq (KaF a0)) ?_
 refine w_eq (i := 1) rfl (Wk.of_eq (KaF a1)) ?_
 refine Kk ?_
 refine p_box rfl rfl rfl rfl rfl rfl rfl (fun b1 => ?_)
 refine p_box rfl rfl rfl rfl rfl rfl rfl (fun b2 => ?_)
 refine pu ?_
 refine Kj ?_
 refine Ks ?_
 refine Ks ?_
 obtain ⟨y5, q5, ho5⟩ := Kh hm
 refine KaI (Y := Unit) (fun z5 => (⟨[(2, .ptr b1 0), (3, .ptr b2 0), (23, .v (.bool y5))], [(b1, Blk.cells [.v (.int .i64 a0.gOp), .v (.string a0.gName), .v (.string a0.gFunc), .lst 5 (a0.gExps.map Kw) .no, .lst 7 (a0.gKids.map Km) .no, .lst 7 (a0.gElse.map Km) .no, .v (.int .i64 a0.gAt)] 92), (b2, Blk.cells [.v (.int .i64 a1.gOp), .v (.string a1.gName), .v (.string a1.gFunc), .lst 5 (a1.gExps.map Kw) .no, .lst 7 (a1.gKids.map Km) .no, .lst 7 (a1.gElse.map Km) .no, .v (.int .i64 a1.gAt)] 92)], []⟩ : S)) ?_ ?_
 ·clear hm; have hm := KF q5
  refine Kz ?_
  refine pu ?_
  refine pL 0 ?_
  refine pu ?_
  refine pL 1 ?_
  refine pu ?_
  refine pu ?_
  refine Ka0 (i := 10) rfl (fun hg6 => ?_) (fun hg6 => ?_)
  ·replace hm := yes_t hg6 hm
   iterate 5 refine pK ?_
   refine KaE rfl rfl rfl rfl rfl rfl ?_
   refine pu ?_
   iterate 5 refine pK ?_
   refine KaE rfl rfl rfl rfl rfl rfl ?_
   refine KG ?_
   have e5 := Ko hm; subst e5
   refine ⟨rfl, ?_⟩
   exact WkX.of () (WkS.perm (WkS.cons rfl (Wk.refl _) (WkS.cons rfl (Wk.refl _) (WkS.cons rfl (Wk.refl _) (WkS.nil)))) Pf Pf)
  ·replace hm := yes_f hg6 hm
   refine pu ?_
   refine pL 0 ?_
   refine pu ?_
   refine pL 1 ?_
   refine pu ?_
   refine Kan rfl rfl rfl rfl rfl rfl ?_
   refine pu ?_
   refine Ka0 (i := 17) rfl (fun hg7 => ?_) (fun hg7 => ?_)
   ·replace hm := yes_t hg7 hm
    iterate 5 refine pK ?_
    refine KaE rfl rfl rfl rfl rfl rfl ?_
    refine KG ?_
    have e5 := Ko hm; subst e5
    refine ⟨rfl, ?_⟩
    exact WkX.of () (WkS.perm (WkS.cons rfl (Wk.refl _) (WkS.cons rfl (Wk.refl _) (WkS.cons rfl (Wk.refl _) (WkS.nil)))) Pf Pf)
   ·replace hm := yes_f hg7 hm
    refine pu ?_
    refine pL 0 ?_
    refine pu ?_
    refine pL 1 ?_
    refine pu ?_
    refine Kan rfl rfl rfl rfl rfl rfl ?_
    refine KG ?_
    have e5 := Ko hm; subst e5
    refine ⟨rfl, ?_⟩
    exact WkX.of () (WkS.perm (WkS.cons rfl (Wk.refl _) (WkS.cons rfl (Wk.refl _) (WkS.cons rfl (Wk.refl _) (WkS.nil)))) Pf Pf)
 ·intro s5 hw5; clear hm; have hm := ho5; clear q5 ho5
  refine Ke ?_
  refine K8 hw5 (fun z5 => ?_)
  refine KH rfl (fun hc9 => ?_) (fun hc9 => ?_)
  ·replace hm := yes_t hc9 hm
   refine Kk ?_
   refine pu ?_
   refine Kj ?_
   refine KA ?_
   refine KT ?_
   have er10 := Ko hm; subst er10
   refine rP (t' := [(4, .v (.bool false))]) [] [] 0 (wC wN) (lT lN) ?_
   exact ⟨rfl, rfl, rfl⟩
  ·replace hm := yes_f hc9 hm
   refine KI ?_
   refine Ke ?_
   refine Kk ?_
   refine pu ?_
   refine pL 0 ?_
   refine pu ?_
   refine pL 1 ?_
   obtain ⟨x11, q11, hm⟩ := Kh hm
   refine Kai (Kbp a0.gExps a1.gExps x11 q11) rfl rfl rfl rfl rfl Wl ?_
   rintro _ rfl
   refine pu ?_
   refine Ka0 (i := 29) rfl (fun hg12 => ?_) (fun hg12 => ?_)
   ·replace hm := yes_t hg12 hm
    refine pu ?_
    refine pL 0 ?_
    refine pu ?_
    refine pL 1 ?_
    obtain ⟨x13, q13, hm⟩ := Kh hm
    refine Kai (hg0 a0.gKids a1.gKids x13 q13) rfl rfl rfl rfl rfl Wl ?_
    rintro _ rfl
    refine KaE rfl rfl rfl rfl rfl rfl ?_
    refine pu ?_
    refine Ka0 (i := 36) rfl (fun hg14 => ?_) (fun hg14 => ?_)
    ·replace hm := yes_t hg14 hm
     refine pu ?_
     refine pL 0 ?_
     refine pu ?_
     refine pL 1 ?_
     obtain ⟨x15, q15, hm⟩ := Kh hm
     refine Kai (hg0 a0.gElse a1.gElse x15 q15) rfl rfl rfl rfl rfl Wl ?_
     rintro _ rfl
     refine KaE rfl rfl rfl rfl rfl rfl ?_
     refine pu ?_
     refine Kj ?_
     refine KA ?_
     have er16 := Ko hm; subst er16
     refine rP (t' := [(4, .v (.bool x15))]) [] [] 0 (wC wN) (lT lN) ?_
     exact ⟨rfl, rfl, rfl⟩
    ·replace hm := yes_f hg14 hm
     iterate 5 refine pK ?_
     refine Kan rfl rfl rfl rfl rfl rfl ?_
     refine pu ?_
     refine Kj ?_
     refine KA ?_
     have er17 := Ko hm; subst er17
     refine rP (t' := [(4, .v (.bool false))]) [] [] 0 (wC wN) (lT lN) ?_
     exact ⟨rfl, rfl, rfl⟩
   ·replace hm := yes_f hg12 hm
    iterate 5 refine pK ?_
    refine Kan rfl rfl rfl rfl rfl rfl ?_
    refine pu ?_
    iterate 5 refine pK ?_
    refine Kan rfl rfl rfl rfl rfl rfl ?_
    refine pu ?_
    refine Kj ?_
    refine KA ?_
    have er18 := Ko hm; subst er18
    refine rP (t' := [(4, .v (.bool false))]) [] [] 0 (wC wN) (lT lN) ?_
    exact ⟨rfl, rfl, rfl⟩
noncomputable def Kn : Nat → ((List Kf) → (List Kf) → Option (Bool)) × ((List Kf) → (List Kf) → Option (Bool)) × ((Kf) → (Kf) → Option (Bool))
 | 0 => (fun _ _ => none, fun _ _ => none, fun _ _ => none)
 | n + 1 => (Ka2 ((Kn n).1) ((Kn n).2.1) ((Kn n).2.2), KD ((Kn n).1) ((Kn n).2.1) ((Kn n).2.2), KaP ((Kn n).1) ((Kn n).2.1) ((Kn n).2.2))
theorem Kdr : ∀ n, (∀ (a0 : List Kf) (a1 : List Kf) (r : Bool) (h0 : (Kn n).1 a0 a1 = some r), CallsD Try.prog 66 [.lst 7 (a0.map Km) .no, .lst 7 (a1.map Km) .no] [] [] (fun d h k => d = .v (.bool r) ∧ h = [] ∧ k = [])) ∧ (∀ (a0 : List Kf) (a1 : List Kf) (r : Bool) (h0 : (Kn n).2.1 a0 a1 = some r), CallsD Try.prog 83 [.lst 7 (a0.map Km) .no, .lst 7 (a1.map Km) .no, .fn (.func 84) [] []] [] [] (fun d h k => d = .v (.bool r) ∧ h = [] ∧ k = [])) ∧ (∀ (a0 : Kf) (a1 : Kf) (r : Bool) (h0 : (Kn n).2.2 a0 a1 = some r), CallsD Try.prog 84 [Km a0, Km a1] [] [] (fun d h k => d = .v (.bool r) ∧ h = [] ∧ k = []))
  | 0 => ⟨(fun _ _ _ h0 => by cases h0), (fun _ _ _ h0 => by cases h0), (fun _ _ _ h0 => by cases h0)⟩
  | n + 1 => by
    have ih := Kdr n
    exact ⟨KfE ((Kn n).1) ((Kn n).2.1) ((Kn n).2.2) (ih.1) (ih.2.1) (ih.2.2), Kbg ((Kn n).1) ((Kn n).2.1) ((Kn n).2.2) (ih.1) (ih.2.1) (ih.2.2), Kff ((Kn n).1) ((Kn n).2.1) ((Kn n).2.2) (ih.1) (ih.2.1) (ih.2.2)⟩
theorem Kds : ∀ n, (∀ (a0 : List Kf) (a1 : List Kf), Le ((Kn n).1 a0 a1) ((Kn (n + 1)).1 a0 a1)) ∧ (∀ (a0 : List Kf) (a1 : List Kf), Le ((Kn n).2.1 a0 a1) ((Kn (n + 1)).2.1 a0 a1)) ∧ (∀ (a0 : Kf) (a1 : Kf), Le ((Kn n).2.2 a0 a1) ((Kn (n + 1)).2.2 a0 a1))
  | 0 => ⟨fun _ _ => Le.none _, fun _ _ => Le.none _, fun _ _ => Le.none _⟩
  | n + 1 => by
    have ih := Kds n
    exact ⟨fun a0 a1 => by show Le (Ka2 ((Kn n).1) ((Kn n).2.1) ((Kn n).2.2) a0 a1) (Ka2 ((Kn (n + 1)).1) ((Kn (n + 1)).2.1) ((Kn (n + 1)).2.2) a0 a1); unfold Ka2; repeat (first | exact Le.refl _ | exact ih.1 _ _ | exact ih.2.1 _ _ | exact ih.2.2 _ _ | assumption | (refine Le.bind ?_ (fun _ => ?_)) | (refine Le.cond ?_ ?_) | (refine Le.loop (fun _ => ?_)) | (refine Le.elim (fun _ => ?_) (fun _ => ?_))), fun a0 a1 => by show Le (KD ((Kn n).1) ((Kn n).2.1) ((Kn n).2.2) a0 a1) (KD ((Kn (n + 1)).1) ((Kn (n + 1)).2.1) ((Kn (n + 1)).2.2) a0 a1); unfold KD; repeat (first | exact Le.refl _ | exact ih.1 _ _ | exact ih.2.1 _ _ | exact ih.2.2 _ _ | assumption | (refine Le.bind ?_ (fun _ => ?_)) | (refine Le.cond ?_ ?_) | (refine Le.loop (fun _ => ?_)) | (refine Le.elim (fun _ => ?_) (fun _ => ?_))), fun a0 a1 => by show Le (KaP ((Kn n).1) ((Kn n).2.1) ((Kn n).2.2) a0 a1) (KaP ((Kn (n + 1)).1) ((Kn (n + 1)).2.1) ((Kn (n + 1)).2.2) a0 a1); unfold KaP; repeat (first | exact Le.refl _ | exact ih.1 _ _ | exact ih.2.1 _ _ | exact ih.2.2 _ _ | assumption | (refine Le.bind ?_ (fun _ => ?_)) | (refine Le.cond ?_ ?_) | (refine Le.loop (fun _ => ?_)) | (refine Le.elim (fun _ => ?_) (fun _ => ?_)))⟩
noncomputable def Kc1 (a0 : List Kf) (a1 : List Kf) : Option (Bool) := anyN fun n => (Kn n).1 a0 a1
theorem KgG (a0 : List Kf) (a1 : List Kf) {r : Bool} (n : Nat) (h : (Kn n).1 a0 a1 = some r) : Kc1 a0 a1 = some r := Kfx (fun m => (Kds m).1 a0 a1) h
theorem KgH (a0 : List Kf) (a1 : List Kf) (r : Bool) (h0 : Kc1 a0 a1 = some r) : CallsD Try.prog 66 [.lst 7 (a0.map Km) .no, .lst 7 (a1.map Km) .no] [] [] (fun d h k => d = .v (.bool r) ∧ h = [] ∧ k = []) :=
 let ⟨n, hn⟩ := KeI h0; (Kdr n).1 a0 a1  r hn
noncomputable def KaX (a0 : KB) (a1 : KB) : Option (Bool) :=
 (bif (decide (a0.gName = a1.gName)) then ((Kag a0.gParams a1.gParams).bind fun x4 => (bif x4 then ((Kag a0.gLocals a1.gLocals).bind fun x6 => (bif x6 then ((Kc1 a0.gBody a1.gBody).bind fun x8 => some x8) else some false)) else some false)) else some false)
theorem KdT (a0 : KB) (a1 : KB) (r : Bool) (h0 : KaX a0 a1 = some r) : CallsD Try.prog 53 [Kp a0, Kp a1] [] [] (fun d h k => d = .v (.bool r) ∧ h = [] ∧ k = []) := by
 have hm := KF h0
 unfold KaX at hm
 clear h0
 refine KX htab Try.func53 rfl rfl rfl rfl rfl (fun C => ?_)
 refine Kk ?_
 refine p_box rfl rfl rfl rfl rfl rfl rfl (fun b1 => ?_)
 refine p_box rfl rfl rfl rfl rfl rfl rfl (fun b2 => ?_)
 refine pu ?_
 refine KM ?_
 refine pu ?_
 refine pL 0 ?_
 refine pu ?_
 refine pL 1 ?_
 refine pu ?_
 refine pu ?_
 refine Ka0 (i := 10) rfl (fun hg3 => ?_) (fun hg3 => ?_)
 ·replace hm := yes_t hg3 hm
  refine pu ?_
  refine pL 0 ?_
  refine pu ?_
  refine pL 1 ?_
  obtain ⟨x4, q4, hm⟩ := Kh hm
  refine Kai (KbH a0.gParams a1.gParams x4 q4) rfl rfl rfl rfl rfl Wl ?_
  rintro _ rfl
  refine KaE rfl rfl rfl rfl rfl rfl ?_
  refine pu ?_
  refine Ka0 (i := 17) rfl (fun hg5 => ?_) (fun hg5 => ?_)
  ·replace hm := yes_t hg5 hm
   refine pu ?_
   refine pL 0 ?_
   refine pu ?_
   refine pL 1 ?_
   obtain ⟨x6, q6, hm⟩ := Kh hm
   refine Kai (KbH a0.gLocals a1.gLocals x6 q6) rfl rfl rfl rfl rfl Wl ?_
   rintro _ rfl
   refine KaE rfl rfl rfl rfl rfl rfl ?_
   refine pu ?_
   refine Ka0 (i := 24) rfl (fun hg7 => ?_) (fun hg7 => ?_)
   ·replace hm := yes_t hg7 hm
    refine pu ?_
    refine pL 0 ?_
    refine pu ?_
    refine pL 1 ?_
    obtain ⟨x8, q8, hm⟩ := Kh hm
    refine Kai (KgH a0.gBody a1.gBody x8 q8) rfl rfl rfl rfl rfl Wl ?_
    rintro _ rfl
    refine KaE rfl rfl rfl rfl rfl rfl ?_
    refine pu ?_
    refine Kj ?_
    refine KA ?_
    have er9 := Ko hm; subst er9
    refine rP (t' := [(4, .v (.bool x8))]) [] [] 0 (wC wN) (lT lN) ?_
    exact ⟨rfl, rfl, rfl⟩
   ·replace hm := yes_f hg7 hm
    iterate 5 refine pK ?_
    refine Kan rfl rfl rfl rfl rfl rfl ?_
    refine pu ?_
    refine Kj ?_
    refine KA ?_
    have er10 := Ko hm; subst er10
    refine rP (t' := [(4, .v (.bool false))]) [] [] 0 (wC wN) (lT lN) ?_
    exact ⟨rfl, rfl, rfl⟩
  ·replace hm := yes_f hg5 hm
   iterate 5 refine pK ?_
   refine Kan rfl rfl rfl rfl rfl rfl ?_
   refine pu ?_
   iterate 5 refine pK ?_
   refine Kan rfl rfl rfl rfl rfl rfl ?_
   refine pu ?_
   refine Kj ?_
   refine KA ?_
   have er11 := Ko hm; subst er11
   refine rP (t' := [(4, .v (.bool false))]) [] [] 0 (wC wN) (lT lN) ?_
   exact ⟨rfl, rfl, rfl⟩
 ·replace hm := yes_f hg3 hm
  iterate 5 refine pK ?_
  refine Kan rfl rfl rfl rfl rfl rfl ?_
  refine pu ?_
  iterate 5 refine pK ?_
  refine Kan rfl rfl rfl rfl rfl rfl ?_
  refine pu ?_
  iterate 5 refine pK ?_
  refine Kan rfl rfl rfl rfl rfl rfl ?_
  refine pu ?_
  refine Kj ?_
  refine KA ?_
  have er12 := Ko hm; subst er12
  refine rP (t' := [(4, .v (.bool false))]) [] [] 0 (wC wN) (lT lN) ?_
  exact ⟨rfl, rfl, rfl⟩
noncomputable def K0 (a0 : List (List KB)) : Option (List KB) :=
 (Option.bind (α := Int) (loopM (fun (s15 : Int × Int) => (bif (decide (s15.2 < (a0.length : Int))) then ((idx a0 s15.2).bind fun x25 => (bif (decide ((IntKind.i64.wrap (s15.1 + (x25.length : Int))) < (0 : Int))) then none else some (.next ((IntKind.i64.wrap (s15.1 + (x25.length : Int))), (IntKind.i64.wrap (s15.2 + (1 : Int))))))) else some (.done s15.1))) ((0 : Int), (0 : Int))) fun y14 => ((need (Kd6 y14)).bind fun x28 => (Option.bind (α := List KB) (loopM (fun (s47 : Int × List KB) => (bif (decide (s47.1 < (a0.length : Int))) then ((idx a0 s47.1).bind fun x61 => ((app 96 s47.2 x61).bind fun x62 => some (.next ((IntKind.i64.wrap (s47.1 + (1 : Int))), x62)))) else some (.done s47.2))) ((0 : Int), (growF42 y14))) fun y46 => some y46)))
theorem KaG (a0 : List (List KB)) (r : List KB) (h0 : K0 a0 = some r) : CallsD Try.prog 26 [.lst 1 (a0.map (eList 5 Kp)) .no] [] [] (fun d h k => ∃ y0, d = .v (SL y0) ∧ h = [(0, Blk.row 5 (r.map Kp) (SL y0))] ∧ k = []) := by
 have hm := KF h0
 unfold K0 at hm
 clear h0
 refine KX htab Try.func26 rfl rfl rfl rfl rfl (fun C => ?_)
 refine Kk ?_
 refine pu ?_
 refine KM ?_
 refine pu ?_
 refine Kj ?_
 refine Ks ?_
 refine Kk ?_
 refine pu ?_
 refine Kaw htab rfl rfl rfl rfl rfl rfl rfl (by first | exact K7 | rfl) ?_
 refine pu ?_
 refine Kj ?_
 obtain ⟨y14, q14, ho14⟩ := Kh hm
 refine KaI (Y := Unit) (fun z14 => (⟨[(0, .lst 1 (a0.map (eList 5 Kp)) .no), (3, .v (.int .i64 y14))], [], []⟩ : S)) ?_ ?_
 ·clear hm; have hm := KF q14
  refine KN ?_
  obtain ⟨u15, hl15, hq15⟩ := yes_m hm
  refine KaM (Y := Unit) hl15 (fun s15 z15 => (⟨[(0, .lst 1 (a0.map (eList 5 Kp)) .no), (3, .v (.int .i64 s15.1)), (9, .lst 1 (a0.map (eList 5 Kp)) .no), (10, .v (.int .i64 (a0.length : Int))), (11, .v (.int .i64 s15.2))], [], []⟩ : S)) ?_ ?_
  ·skip
   exact WkX.of () (WkS.perm (WkS.cons rfl (Wk.refl _) (WkS.cons rfl (Wk.refl _) (WkS.cons rfl (Wk.refl _) (WkS.cons rfl (Wk.refl _) (WkS.cons rfl (Wk.refl _) (WkS.nil)))))) Pf Pf)
  ·intro G15 s15 z15 hm
   refine Kk ?_
   refine pu ?_
   refine Kj ?_
   refine Ks ?_
   refine KH rfl (fun hc24 => ?_) (fun hc24 => ?_)
   ·replace hm := yes_t hc24 hm
    refine KI ?_
    refine Ke ?_
    refine Ks ?_
    refine KN ?_
    refine Kk ?_
    obtain ⟨x25, q25, hm⟩ := Kh hm
    refine Kaz htab rfl rfl rfl rfl rfl rfl rfl rfl rfl rfl (KV q25) (K9 q25) ?_
    refine Kad htab rfl rfl rfl rfl rfl rfl rfl rfl ?_
    refine pu ?_
    refine KM ?_
    refine pu ?_
    refine pu ?_
    refine Kaw htab rfl rfl rfl rfl rfl rfl rfl (by first | exact K7 | rfl) ?_
    refine pu ?_
    refine pu ?_
    refine KM ?_
    refine pu ?_
    refine pu ?_
    refine Kj ?_
    refine KH rfl (fun hc26 => ?_) (fun hc26 => ?_)
    ·replace hm := yes_t hc26 hm
     exact (yes_none hm).elim
    ·replace hm := yes_f hc26 hm
     refine KI ?_
     refine KR ?_
     refine Ke ?_
     refine Kz ?_
     refine pu ?_
     refine pu ?_
     refine KG ?_
     refine Ke ⟨_, Kab hm, ?_⟩
     exact WkX.of () (WkS.perm (WkS.cons rfl (Wk.refl _) (WkS.cons rfl (Wk.refl _) (WkS.cons rfl (Wk.refl _) (WkS.cons rfl (Wk.refl _) (WkS.cons rfl (Wk.refl _) (WkS.nil)))))) Pf Pf)
   ·replace hm := yes_f hc24 hm
    refine Kak ?_
    refine KO ?_
    have e15 := Kaa hm; subst e15; clear hm; have hm := hq15
    refine KO ?_
    refine Kae ?_
    have e14 := Ko hm; subst e14
    refine ⟨rfl, ?_⟩
    exact WkX.of () (WkS.perm (WkS.cons rfl (Wk.refl _) (WkS.cons rfl (Wk.refl _) (WkS.nil))) Pf Pf)
 ·intro s14 hw14; clear hm; have hm := ho14; clear q14 ho14
  refine Ke ?_
  refine K8 hw14 (fun z14 => ?_)
  refine Kk ?_
  refine pu ?_
  obtain ⟨x28, q28, hm⟩ := Kh hm
  refine pG (growOk42 y14 (KcM q28)) Wl Pf Pf ?_
  rintro _ _ _ ⟨w27, rfl, rfl, rfl⟩
  refine pu ?_
  refine Kj ?_
  refine Ks ?_
  refine Kk ?_
  refine pu ?_
  refine Kaw htab rfl rfl rfl rfl rfl rfl rfl (by first | exact K7 | rfl) ?_
  refine pu ?_
  refine Kj ?_
  obtain ⟨y46, q46, ho46⟩ := Kh hm
  refine KaI (Y := Z3) (fun z46 => (⟨[(6, .v (SL z46))], [(0, Blk.row 5 (y46.map Kp) (SL z46))], []⟩ : S)) ?_ ?_
  ·clear hm; have hm := KF q46
   refine KN ?_
   obtain ⟨u47, hl47, hq47⟩ := yes_m hm
   refine KaM (Y := Z3) hl47 (fun s47 z47 => (⟨[(6, .v (SL z47)), (25, .lst 1 (a0.map (eList 5 Kp)) .no), (26, .v (.int .i64 (a0.length : Int))), (27, .v (.int .i64 s47.1))], [(0, Blk.row 5 (s47.2.map Kp) (SL z47))], []⟩ : S)) ?_ ?_
   ·skip
    exact WkX.of w27 (WkS.perm (WkS.cons rfl (Wk.refl _) (WkS.cons rfl (Wk.refl _) (WkS.cons rfl (Wk.refl _) (WkS.cons rfl (Wk.refl _) (WkS.nil))))) Pf Pf)
   ·intro G47 s47 z47 hm
    refine Kk ?_
    refine pu ?_
    refine Kj ?_
    refine Ks ?_
    refine KH rfl (fun hc60 => ?_) (fun hc60 => ?_)
    ·replace hm := yes_t hc60 hm
     refine KI ?_
     refine Ke ?_
     refine Ks ?_
     refine KN ?_
     refine Kk ?_
     obtain ⟨x61, q61, hm⟩ := Kh hm
     refine Kaz htab rfl rfl rfl rfl rfl rfl rfl rfl rfl rfl (KV q61) (K9 q61) ?_
     refine Kad htab rfl rfl rfl rfl rfl rfl rfl rfl ?_
     refine pu ?_
     refine Kj ?_
     refine Kz ?_
     refine pu ?_
     refine pu ?_
     obtain ⟨x62, q62, hm⟩ := Kh hm
     refine KcN 0 htab rfl rfl rfl rfl rfl rfl rfl rfl rfl rfl rfl rfl rfl rfl rfl rfl (Kbx q62) (Kcs q62) (fun v62 => ?_)
     refine pu ?_
     refine KG ?_
     refine KR ?_
     refine Ke ?_
     refine Kz ?_
     refine pu ?_
     refine pu ?_
     refine KG ?_
     refine Ke ⟨_, Kab hm, ?_⟩
     exact WkX.of v62 (WkS.perm (WkS.cons rfl (Wk.refl _) (WkS.cons rfl (Wk.refl _) (WkS.cons rfl (Wk.refl _) (WkS.cons rfl (Wk.refl _) (WkS.nil))))) Pf Pf)
    ·replace hm := yes_f hc60 hm
     refine Kak ?_
     refine KO ?_
     have e47 := Kaa hm; subst e47; clear hm; have hm := hq47
     refine KO ?_
     refine Kae ?_
     have e46 := Ko hm; subst e46
     refine ⟨rfl, ?_⟩
     exact WkX.of z47 (WkS.perm (WkS.cons rfl (Wk.refl _) (WkS.nil)) Pf Pf)
  ·intro s46 hw46; clear hm; have hm := ho46; clear q46 ho46
   refine Ke ?_
   refine K8 hw46 (fun z46 => ?_)
   refine Kk ?_
   refine pu ?_
   refine pu ?_
   refine Kj ?_
   refine KA ?_
   have er63 := Ko hm; subst er63
   refine rP (t' := [(2, .v (SL z46))]) [0] [] 1 (wC wN) (lT lN) ?_
   exact ⟨z46, rfl, rfl, rfl⟩
noncomputable def Ka8 (a0 : List ByteArray) : Option (List ByteArray) :=
 ((need (Kb8 a0)).bind fun x1 => ((need (Kb8 (sortB a0))).bind fun x3 => some (KcI (sortB a0))))
theorem KbN (a0 : List ByteArray) (za0 : Z3) (r : List ByteArray) (h0 : Ka8 a0 = some r) : CallsD Try.prog 30 [.v (SL za0)] [(0, Blk.row 1 (a0.map eStr) (SL za0))] [] (fun d h k => ∃ y0, d = .v (SL y0) ∧ h = [(0, Blk.row 1 (r.map eStr) (SL y0))] ∧ k = []) := by
 have hm := KF h0
 unfold Ka8 at hm
 clear h0
 refine KX htab Try.func30 rfl rfl rfl rfl rfl (fun C => ?_)
 refine Kk ?_
 refine pu ?_
 refine KM ?_
 refine pu ?_
 obtain ⟨x1, q1, hm⟩ := Kh hm
 refine pG (sortB_ok a0 za0 (KcM q1)) Wl Pf Pf ?_
 rintro _ _ _ ⟨rfl, rfl, rfl⟩
 refine KM ?_
 refine pu ?_
 obtain ⟨x3, q3, hm⟩ := Kh hm
 refine pG (KfQ (sortB a0) za0 (KcM q3)) Wl Pf Pf ?_
 rintro _ _ _ ⟨w2, rfl, rfl, rfl⟩
 refine pu ?_
 refine Kj ?_
 refine KA ?_
 have er4 := Ko hm; subst er4
 refine rP (t' := [(2, .v (SL w2))]) [0] [] 1 (wC wN) (lT lN) ?_
 exact ⟨w2, rfl, rfl, rfl⟩
noncomputable def KbV (a0 : Kr) (a1 : Kr) : Option (List ByteArray) :=
 ((K0 ([a0.gFuncs, a1.gFuncs] : List (List KB))).bind fun x4 => (Option.bind (α := List ByteArray) (loopM (fun (s85 : List ByteArray × Int) => (bif (decide (s85.2 < (x4.length : Int))) then ((idx x4 s85.2).bind fun x118 => ((Kbb a0 x118.gName).bind fun x120 => ((Kbb a1 x118.gName).bind fun x122 => (Option.bind (α := Bool) (bif (!(x120.2 == x122.2)) then some true else ((KaX x120.1 x122.1).bind fun x128 => some (!x128))) fun y126 => (bif y126 then ((app 16 s85.1 ([x118.gName] : List ByteArray)).bind fun x130 => some (.next (x130, (IntKind.i64.wrap (s85.2 + (1 : Int)))))) else some (.next (s85.1, (IntKind.i64.wrap (s85.2 + (1 : Int)))))))))) else some (.done s85.1))) (([] : List ByteArray), (0 : Int))) fun y68 => ((Ka8 y68).bind fun x132 => some x132)))
theorem KgI (a0 : Kr) (a1 : Kr) (r : List ByteArray) (h0 : KbV a0 a1 = some r) : CallsD Try.prog 31 [Ku a0, Ku a1] [] [] (fun d h k => ∃ y0, d = .lst 1 (r.map eStr) (.cur y0) ∧ h = [] ∧ k = [(1, y0)]) := by
 have hm := KF h0
 unfold KbV at hm
 clear h0
 refine KX htab Try.func31 rfl rfl rfl rfl rfl (fun C => ?_)
 refine Kk ?_
 refine p_box rfl rfl rfl rfl rfl rfl rfl (fun b1 => ?_)
 refine p_box rfl rfl rfl rfl rfl rfl rfl (fun b2 => ?_)
 refine pu ?_
 refine KM ?_
 refine pu ?_
 refine Kj ?_
 refine Ks ?_
 refine Kk ?_
 refine pu ?_
 refine pL 0 ?_
 refine pu ?_
 refine pL 1 ?_
 refine p_lit htab rfl rfl rfl rfl rfl rfl rfl rfl rfl rfl rfl rfl rfl rfl ?_
 refine p_eq (i := 16) (d' := .lst 1 (([a0.gFuncs, a1.gFuncs] : List (List KB)).map (eList 5 Kp)) .full) rfl (Wk.lst0 (.cons (WkC.refl _) (.cons (WkC.refl _) (.nil)))) ?_
 obtain ⟨x4, q4, hm⟩ := Kh hm
 refine Kct (KaG ([a0.gFuncs, a1.gFuncs] : List (List KB)) x4 q4) rfl rfl rfl rfl rfl (WkL.cons (Wk.no) Wl) Pf Pf ?_
 rintro _ _ _ ⟨w3, rfl, rfl, rfl⟩
 refine p_lenR 0 htab rfl rfl rfl rfl rfl rfl rfl rfl (by first | exact K7 | rfl) ?_
 refine pu ?_
 refine Kj ?_
 obtain ⟨y68, q68, ho68⟩ := Kh hm
 refine KaI (Y := Z3) (fun z68 => (⟨[(5, .v (SL z68))], [(0, Blk.row 1 (y68.map eStr) (SL z68))], []⟩ : S)) ?_ ?_
 ·clear hm; have hm := KF q68
  refine KN ?_
  refine K8 (Y := Unit) (S1 := fun _ => (⟨[(2, .ptr b1 0), (3, .ptr b2 0), (5, .lst 1 [] .full), (17, .lst 5 (x4.map Kp) (.cur (SL w3))), (18, .v (.int .i64 (x4.length : Int))), (19, .v (.int .i64 (0 : Int)))], [(b1, Blk.cells [.lst 4 (a0.gGlobals.map Kq) .no, .lst 5 (a0.gFuncs.map Kp) .no] 25), (b2, Blk.cells [.lst 4 (a1.gGlobals.map Kq) .no, .lst 5 (a1.gFuncs.map Kp) .no] 25)], [(5, (SL w3))]⟩ : S)) ?_ (fun _ => ?_)
  ·skip
   refine WkX.wk (WkS.frz 0 rfl rfl) ?_
   refine WkX.wk (WkS.tld 17 0 rfl rfl) ?_
   refine WkX.wk (WkS.drop 0 rfl) ?_
   exact WkX.of () (WkS.perm (WkS.cons rfl (Wk.refl _) (WkS.cons rfl (Wk.refl _) (WkS.cons rfl (Wk.refl _) (WkS.cons rfl (Wk.refl _) (WkS.cons rfl (Wk.refl _) (WkS.cons rfl (Wk.refl _) (WkS.nil))))))) Pf Pf)
  ·skip
   obtain ⟨u85, hl85, hq85⟩ := yes_m hm
   refine KaM (Y := Z3) hl85 (fun s85 z85 => (⟨[(2, .ptr b1 0), (3, .ptr b2 0), (5, .v (SL z85)), (17, .lst 5 (x4.map Kp) (.cur (SL w3))), (18, .v (.int .i64 (x4.length : Int))), (19, .v (.int .i64 s85.2))], [(0, Blk.row 1 (s85.1.map eStr) (SL z85)), (b1, Blk.cells [.lst 4 (a0.gGlobals.map Kq) .no, .lst 5 (a0.gFuncs.map Kp) .no] 25), (b2, Blk.cells [.lst 4 (a1.gGlobals.map Kq) .no, .lst 5 (a1.gFuncs.map Kp) .no] 25)], [(5, (SL w3))]⟩ : S)) ?_ ?_
   ·skip
    refine WkX.rowN (i := 5) 1 rfl (fun w116 => ?_)
    exact WkX.of w116 (WkS.perm (WkS.cons rfl (Wk.refl _) (WkS.cons rfl (Wk.refl _) (WkS.cons rfl (Wk.refl _) (WkS.cons rfl (Wk.refl _) (WkS.cons rfl (Wk.refl _) (WkS.cons rfl (Wk.refl _) (WkS.nil))))))) Pf Pf)
   ·intro G85 s85 z85 hm
    refine Kk ?_
    refine pu ?_
    refine Kj ?_
    refine Ks ?_
    refine KH rfl (fun hc117 => ?_) (fun hc117 => ?_)
    ·replace hm := yes_t hc117 hm
     refine KI ?_
     refine Ke ?_
     refine Ks ?_
     refine KN ?_
     refine Kk ?_
     obtain ⟨x118, q118, hm⟩ := Kh hm
     refine Kaz htab rfl rfl rfl rfl rfl rfl rfl rfl rfl rfl (KV q118) (K9 q118) ?_
     refine Kad (d := Kp x118) htab rfl rfl rfl rfl rfl rfl rfl rfl ?_
     refine K5 htab rfl rfl rfl rfl rfl rfl rfl (fun b119 => ?_)
     refine pS3 (ds' := [.v (.string x118.gName), .lst 2 (x118.gParams.map KW) .no, .lst 2 (x118.gLocals.map KW) .no, .lst 7 (x118.gBody.map Km) .no, .v (.int .i64 x118.gAt)]) ?_
     refine KM ?_
     refine Kav (d := Ku a0) 1 htab rfl rfl rfl rfl rfl rfl rfl rfl ?_
     refine pu ?_
     refine pL 3 ?_
     obtain ⟨x120, q120, hm⟩ := Kh hm
     refine Kai (Kb4 a0 x118.gName x120 q120) rfl rfl rfl rfl rfl Wl ?_
     rintro _ rfl
     iterate 3 refine pu ?_
     refine K5 htab rfl rfl rfl rfl rfl rfl rfl (fun b121 => ?_)
     refine pS4 (ds' := [.v (.string x120.1.gName), .lst 2 (x120.1.gParams.map KW) .no, .lst 2 (x120.1.gLocals.map KW) .no, .lst 7 (x120.1.gBody.map Km) .no, .v (.int .i64 x120.1.gAt)]) ?_
     refine pu ?_
     refine KM ?_
     refine Kav (d := Ku a1) 2 htab rfl rfl rfl rfl rfl rfl rfl rfl ?_
     refine pu ?_
     refine pL 3 ?_
     obtain ⟨x122, q122, hm⟩ := Kh hm
     refine Kai (Kb4 a1 x118.gName x122 q122) rfl rfl rfl rfl rfl Wl ?_
     rintro _ rfl
     iterate 3 refine pu ?_
     refine K5 htab rfl rfl rfl rfl rfl rfl rfl (fun b123 => ?_)
     refine pS5 (ds' := [.v (.string x122.1.gName), .lst 2 (x122.1.gParams.map KW) .no, .lst 2 (x122.1.gLocals.map KW) .no, .lst 7 (x122.1.gBody.map Km) .no, .v (.int .i64 x122.1.gAt)]) ?_
     refine pu ?_
     refine Kj ?_
     refine Ks ?_
     obtain ⟨y126, q126, ho126⟩ := Kh hm
     refine KaI (Y := Unit) (fun z126 => (⟨[(2, .ptr b1 0), (3, .ptr b2 0), (5, .v (SL z85)), (7, .ptr b119 0), (17, .lst 5 (x4.map Kp) (.cur (SL w3))), (18, .v (.int .i64 (x4.length : Int))), (19, .v (.int .i64 s85.2)), (45, .v (.bool y126))], [(0, Blk.row 1 (s85.1.map eStr) (SL z85)), (b1, Blk.cells [.lst 4 (a0.gGlobals.map Kq) .no, .lst 5 (a0.gFuncs.map Kp) .no] 25), (b2, Blk.cells [.lst 4 (a1.gGlobals.map Kq) .no, .lst 5 (a1.gFuncs.map Kp) .no] 25), (b119, Blk.cells [.v (.string x118.gName), .lst 2 (x118.gParams.map KW) .no, .lst 2 (x118.gLocals.map KW) .no, .lst 7 (x118.gBody.map Km) .no, .v (.int .i64 x118.gAt)] 49)], [(5, (SL w3))]⟩ : S)) ?_ ?_
     ·clear hm; have hm := KF q126
      refine Kz ?_
      iterate 4 refine pu ?_
      refine Ka0 (i := 40) rfl (fun hg127 => ?_) (fun hg127 => ?_)
      ·replace hm := yes_t hg127 hm
       iterate 4 refine pK ?_
       refine KaE rfl rfl rfl rfl rfl rfl ?_
       refine KG ?_
       have e126 := Ko hm; subst e126
       refine ⟨rfl, ?_⟩
       exact WkX.of () (WkS.perm (WkS.cons rfl (Wk.refl _) (WkS.cons rfl (Wk.refl _) (WkS.cons rfl (Wk.refl _) (WkS.cons rfl (Wk.refl _) (WkS.cons rfl (Wk.refl _) (WkS.cons rfl (Wk.refl _) (WkS.cons rfl (Wk.refl _) (WkS.cons rfl (Wk.refl _) (WkS.nil))))))))) Pf Pf)
      ·replace hm := yes_f hg127 hm
       refine Kav (d := Kp x120.1) 4 htab rfl rfl rfl rfl rfl rfl rfl rfl ?_
       refine Kav (d := Kp x122.1) 5 htab rfl rfl rfl rfl rfl rfl rfl rfl ?_
       obtain ⟨x128, q128, hm⟩ := Kh hm
       refine Kai (KdT x120.1 x122.1 x128 q128) rfl rfl rfl rfl rfl Wl ?_
       rintro _ rfl
       refine pu ?_
       refine Kan rfl rfl rfl rfl rfl rfl ?_
       refine KG ?_
       have e126 := Ko hm; subst e126
       refine ⟨rfl, ?_⟩
       exact WkX.of () (WkS.perm (WkS.cons rfl (Wk.refl _) (WkS.cons rfl (Wk.refl _) (WkS.cons rfl (Wk.refl _) (WkS.cons rfl (Wk.refl _) (WkS.cons rfl (Wk.refl _) (WkS.cons rfl (Wk.refl _) (WkS.cons rfl (Wk.refl _) (WkS.cons rfl (Wk.refl _) (WkS.nil))))))))) Pf Pf)
     ·intro s126 hw126; clear hm; have hm := ho126; clear q126 ho126
      refine Ke ?_
      refine K8 hw126 (fun z126 => ?_)
      refine KH rfl (fun hc129 => ?_) (fun hc129 => ?_)
      ·replace hm := yes_t hc129 hm
       refine Kz ?_
       refine pu ?_
       refine pu ?_
       refine pL 3 ?_
       refine p_lit htab rfl rfl rfl rfl rfl rfl rfl rfl rfl rfl rfl rfl rfl rfl ?_
       refine p_eq (i := 49) (d' := .lst 1 (([x118.gName] : List ByteArray).map eStr) .full) rfl (Wk.lst0 (.cons (WkC.refl _) (.nil))) ?_
       obtain ⟨x130, q130, hm⟩ := Kh hm
       refine KcN 0 htab rfl rfl rfl rfl rfl rfl rfl rfl rfl rfl rfl rfl rfl rfl rfl rfl (Kbx q130) (Kcs q130) (fun v130 => ?_)
       refine pu ?_
       refine KG ?_
       refine KR ?_
       refine Ke ?_
       refine Kz ?_
       refine pu ?_
       refine pu ?_
       refine KG ?_
       refine Ke ⟨_, Kab hm, ?_⟩
       exact WkX.of v130 (WkS.perm (WkS.cons rfl (Wk.refl _) (WkS.cons rfl (Wk.refl _) (WkS.cons rfl (Wk.refl _) (WkS.cons rfl (Wk.refl _) (WkS.cons rfl (Wk.refl _) (WkS.cons rfl (Wk.refl _) (WkS.nil))))))) Pf Pf)
      ·replace hm := yes_f hc129 hm
       refine KI ?_
       refine KR ?_
       refine Ke ?_
       refine Kz ?_
       refine pu ?_
       refine pu ?_
       refine KG ?_
       refine Ke ⟨_, Kab hm, ?_⟩
       exact WkX.of z85 (WkS.perm (WkS.cons rfl (Wk.refl _) (WkS.cons rfl (Wk.refl _) (WkS.cons rfl (Wk.refl _) (WkS.cons rfl (Wk.refl _) (WkS.cons rfl (Wk.refl _) (WkS.cons rfl (Wk.refl _) (WkS.nil))))))) Pf Pf)
    ·replace hm := yes_f hc117 hm
     refine Kak ?_
     refine KO ?_
     have e85 := Kaa hm; subst e85; clear hm; have hm := hq85
     refine KO ?_
     refine Kae ?_
     have e68 := Ko hm; subst e68
     refine ⟨rfl, ?_⟩
     exact WkX.of z85 (WkS.perm (WkS.cons rfl (Wk.refl _) (WkS.nil)) Pf Pf)
 ·intro s68 hw68; clear hm; have hm := ho68; clear q68 ho68
  refine Ke ?_
  refine K8 hw68 (fun z68 => ?_)
  refine Kk ?_
  refine pu ?_
  obtain ⟨x132, q132, hm⟩ := Kh hm
  refine pG (KbN y68 z68 x132 q132) Wl Pf Pf ?_
  rintro _ _ _ ⟨w131, rfl, rfl, rfl⟩
  refine pu ?_
  refine Kj ?_
  refine KA ?_
  have er133 := Ko hm; subst er133
  refine retX.wk (WkS.frz 0 rfl rfl) ?_
  refine retX.wk (WkS.tld 4 0 rfl rfl) ?_
  refine retX.wk (WkS.tld 53 0 rfl rfl) ?_
  refine retX.wk (WkS.drop 0 rfl) ?_
  refine rP (t' := [(4, .lst 1 (x132.map eStr) (.cur (SL w131)))]) [] [0] 0 (wC wN) (lT lN) ?_
  exact ⟨(SL w131), rfl, rfl, rfl⟩
noncomputable def KbS (a0 : KS) (m0 : ByteArray) : Option (Bool) :=
 some (decide (a0.gName = m0))
theorem KeQ (a0 : KS) (m0 : ByteArray) (o0 : Nat) (T0 : TypeId) (r : Bool) (h0 : KbS a0 m0 = some r) : CallsD Try.prog 69 [Kq a0, .ptr o0 0] [(o0, Blk.cells [.v (.string m0)] T0)] [] (fun d h k => d = .v (.bool r) ∧ h = [(o0, Blk.cells [.v (.string m0)] T0)] ∧ k = []) := by
 have hm := KF h0
 unfold KbS at hm
 clear h0
 refine KX htab Try.func69 rfl rfl rfl rfl rfl (fun C => ?_)
 refine Kk ?_
 refine p_box rfl rfl rfl rfl rfl rfl rfl (fun b1 => ?_)
 refine pu ?_
 refine KM ?_
 refine pu ?_
 refine pL 1 ?_
 refine pL 0 ?_
 refine pu ?_
 refine pu ?_
 refine Kj ?_
 refine KA ?_
 have er2 := Ko hm; subst er2
 refine rP (t' := [(3, .v (.bool (decide (a0.gName = m0))))]) [0] [] 1 (wC wN) (lT lN) ?_
 exact ⟨rfl, rfl, rfl⟩
noncomputable def K6 (a0 : List KS) (m0 : ByteArray) : Option (Int) :=
 (Option.bind (α := (Unit) ⊕ (Int)) (loopM (fun (s18 : Int) => (bif (decide (s18 < (a0.length : Int))) then ((idx a0 s18).bind fun x30 => ((KbS x30 m0).bind fun x31 => (bif x31 then some (.done (.inr s18)) else some (.next (IntKind.i64.wrap (s18 + (1 : Int))))))) else some (.done (.inl ())))) (0 : Int)) (Sum.elim (fun y17 => some (-1 : Int)) (fun r => some r)))
theorem KbY (a0 : List KS) (m0 : ByteArray) (o0 : Nat) (T0 : TypeId) (r : Int) (h0 : K6 a0 m0 = some r) : CallsD Try.prog 68 [.lst 4 (a0.map Kq) .no, .fn (.func 69) [] [.ptr o0 0]] [(o0, Blk.cells [.v (.string m0)] T0)] [] (fun d h k => d = .v (.int .i64 r) ∧ h = [(o0, Blk.cells [.v (.string m0)] T0)] ∧ k = []) := by
 have hm := KF h0
 unfold K6 at hm
 clear h0
 refine KX htab Try.func68 rfl rfl rfl rfl rfl (fun C => ?_)
 refine Kk ?_
 refine pu ?_
 refine Kj ?_
 refine Ks ?_
 refine Kk ?_
 refine pu ?_
 refine Kaw htab rfl rfl rfl rfl rfl rfl rfl (by first | exact K7 | rfl) ?_
 refine pu ?_
 refine Kj ?_
 obtain ⟨x17, q17, ho17⟩ := Kh hm
 refine Kci (τ := Unit) (Y := Unit) (fun y17 z17 => (⟨[], [(o0, Blk.cells [.v (.string m0)] T0)], []⟩ : S)) x17 ?_ ?_
 ·clear hm; have hm := KF q17
  refine KN ?_
  obtain ⟨u18, hl18, hq18⟩ := yes_m hm
  refine KaM (Y := Unit) hl18 (fun s18 z18 => (⟨[(0, .lst 4 (a0.map Kq) .no), (1, .fn (.func 69) [] [.ptr o0 0]), (7, .v (.int .i64 (a0.length : Int))), (8, .v (.int .i64 s18))], [(o0, Blk.cells [.v (.string m0)] T0)], []⟩ : S)) ?_ ?_
  ·skip
   exact WkX.of () (WkS.perm (WkS.cons rfl (Wk.refl _) (WkS.cons rfl (Wk.refl _) (WkS.cons rfl (Wk.refl _) (WkS.cons rfl (Wk.refl _) (WkS.nil))))) Pf Pf)
  ·intro G18 s18 z18 hm
   refine Kk ?_
   refine pu ?_
   refine Kj ?_
   refine Ks ?_
   refine KH rfl (fun hc29 => ?_) (fun hc29 => ?_)
   ·replace hm := yes_t hc29 hm
    refine KI ?_
    refine Ke ?_
    refine Ks ?_
    refine KN ?_
    refine Kk ?_
    refine pu ?_
    refine pu ?_
    refine KM ?_
    iterate 3 refine pu ?_
    obtain ⟨x30, q30, hm⟩ := Kh hm
    refine Kaz htab rfl rfl rfl rfl rfl rfl rfl rfl rfl rfl (KV q30) (K9 q30) ?_
    refine Kad (d := Kq x30) htab rfl rfl rfl rfl rfl rfl rfl rfl ?_
    obtain ⟨x31, q31, hm⟩ := Kh hm
    refine Kca (KeQ x30 m0 o0 T0 x31 q31) rfl rfl rfl rfl rfl rfl rfl Wl Pf Pf ?_
    rintro _ _ _ ⟨rfl, rfl, rfl⟩
    refine Kj ?_
    refine KH rfl (fun hc32 => ?_) (fun hc32 => ?_)
    ·replace hm := yes_t hc32 hm
     refine Kk ?_
     refine pu ?_
     refine pu ?_
     refine Kj ?_
     refine KA ?_
     refine KaD ?_
     refine KT ?_
     have e18 := Kaa hm; subst e18; clear hm; have hm := hq18
     refine KT ?_
     refine KaD ?_
     have e17 := Ko hm; subst e17; refine Kck ?_; clear hm; have hm := ho17; simp only [Sum.elim_inr] at hm
     refine KT ?_
     have er33 := Ko hm; subst er33
     refine rP (t' := [(4, .v (.int .i64 s18))]) [0] [] 1 (wC wN) (lT lN) ?_
     exact ⟨rfl, rfl, rfl⟩
    ·replace hm := yes_f hc32 hm
     refine KI ?_
     refine KR ?_
     refine Ke ?_
     refine Kz ?_
     refine pu ?_
     refine pu ?_
     refine KG ?_
     refine Ke ⟨_, Kab hm, ?_⟩
     exact WkX.of () (WkS.perm (WkS.cons rfl (Wk.refl _) (WkS.cons rfl (Wk.refl _) (WkS.cons rfl (Wk.refl _) (WkS.cons rfl (Wk.refl _) (WkS.nil))))) Pf Pf)
   ·replace hm := yes_f hc29 hm
    refine Kak ?_
    refine KO ?_
    have e18 := Kaa hm; subst e18; clear hm; have hm := hq18
    refine KO ?_
    refine Kae ?_
    have e17 := Ko hm; subst e17
    refine Kcj ?_
    exact WkX.of () (WkS.perm (WkS.nil) Pf Pf)
 ·intro y17 s17 hx17 hw17; subst hx17; clear hm; have hm := ho17; simp only [Sum.elim_inl] at hm; clear q17 ho17
  refine Ke ?_
  refine K8 hw17 (fun z17 => ?_)
  refine Kk ?_
  refine pu ?_
  refine Kj ?_
  refine KA ?_
  have er34 := Ko hm; subst er34
  refine rP (t' := [(4, .v (.int .i64 (-1 : Int)))]) [0] [] 1 (wC wN) (lT lN) ?_
  exact ⟨rfl, rfl, rfl⟩
noncomputable def KaQ (a0 : Kr) (a1 : ByteArray) : Option (KS × Bool) :=
 ((K6 a0.gGlobals a1).bind fun x4 => (bif (decide (x4 < (0 : Int))) then some ((⟨ByteArray.empty, false, (0 : Int), (0 : Int)⟩ : KS), false) else ((idx a0.gGlobals x4).bind fun x8 => some (x8, true))))
theorem KbO (a0 : Kr) (a1 : ByteArray) (r : KS × Bool) (h0 : KaQ a0 a1 = some r) : CallsD Try.prog 55 [Ku a0, .v (.string a1)] [] [] (fun d h k => d = .tup [Kq r.1, .v (.bool r.2)] ∧ h = [] ∧ k = []) := by
 have hm := KF h0
 unfold KaQ at hm
 clear h0
 refine KX htab Try.func55 rfl rfl rfl rfl rfl (fun C => ?_)
 refine Kk ?_
 refine p_box rfl rfl rfl rfl rfl rfl rfl (fun b1 => ?_)
 refine p_box rfl rfl rfl rfl rfl rfl rfl (fun b2 => ?_)
 refine K5 htab rfl rfl rfl rfl rfl rfl rfl (fun b3 => ?_)
 refine pu ?_
 refine KM ?_
 refine pu ?_
 refine pL 0 ?_
 refine pu ?_
 obtain ⟨x4, q4, hm⟩ := Kh hm
 refine pG (KbY a0.gGlobals a1 b2 9 x4 q4) Wl ((Kv (j := 1) rfl).trans (List.Perm.cons _ Pf)) Pf ?_
 rintro _ _ _ ⟨rfl, rfl, rfl⟩
 refine pu ?_
 refine Kj ?_
 refine Ks ?_
 refine Kk ?_
 refine pu ?_
 refine pu ?_
 refine Kj ?_
 refine KH rfl (fun hc6 => ?_) (fun hc6 => ?_)
 ·replace hm := yes_t hc6 hm
  refine Kk ?_
  refine KbJ (r := [.v (.string ByteArray.empty), .v (.bool false), .v (.int .i64 (0 : Int)), .v (.int .i64 (0 : Int))]) htab rfl rfl rfl rfl rfl rfl rfl rfl rfl ?_
  refine pS2 (ds' := [.v (.string ByteArray.empty), .v (.bool false), .v (.int .i64 (0 : Int)), .v (.int .i64 (0 : Int))]) ?_
  refine pu ?_
  refine Kj ?_
  refine KA ?_
  refine KT ?_
  have er7 := Ko hm; subst er7
  refine rP (t' := [(4, .ptr b3 0), (5, .v (.bool false))]) [2] [] 0 (wC (wC wN)) (lC 0 (lT lN)) ?_
  exact ⟨rfl, rfl, rfl⟩
 ·replace hm := yes_f hc6 hm
  refine KI ?_
  refine Ke ?_
  refine Kk ?_
  refine pu ?_
  refine pL 1 ?_
  refine pu ?_
  obtain ⟨x8, q8, hm⟩ := Kh hm
  refine Kaz htab rfl rfl rfl rfl rfl rfl rfl rfl rfl rfl (KV q8) (K9 q8) ?_
  refine Kad (d := Kq x8) htab rfl rfl rfl rfl rfl rfl rfl rfl ?_
  refine pS2 (ds' := [.v (.string x8.gName), .v (.bool x8.gPtr), .v (.int .i64 x8.gSize), .v (.int .i64 x8.gAt)]) ?_
  refine pu ?_
  refine Kj ?_
  refine KA ?_
  have er9 := Ko hm; subst er9
  refine rP (t' := [(4, .ptr b3 0), (5, .v (.bool true))]) [2] [] 0 (wC (wC wN)) (lC 0 (lT lN)) ?_
  exact ⟨rfl, rfl, rfl⟩
noncomputable def K2 (a0 : List (List KS)) : Option (List KS) :=
 (Option.bind (α := Int) (loopM (fun (s15 : Int × Int) => (bif (decide (s15.2 < (a0.length : Int))) then ((idx a0 s15.2).bind fun x25 => (bif (decide ((IntKind.i64.wrap (s15.1 + (x25.length : Int))) < (0 : Int))) then none else some (.next ((IntKind.i64.wrap (s15.1 + (x25.length : Int))), (IntKind.i64.wrap (s15.2 + (1 : Int))))))) else some (.done s15.1))) ((0 : Int), (0 : Int))) fun y14 => ((need (Kd7 y14)).bind fun x28 => (Option.bind (α := List KS) (loopM (fun (s47 : Int × List KS) => (bif (decide (s47.1 < (a0.length : Int))) then ((idx a0 s47.1).bind fun x61 => ((app 40 s47.2 x61).bind fun x62 => some (.next ((IntKind.i64.wrap (s47.1 + (1 : Int))), x62)))) else some (.done s47.2))) ((0 : Int), (growF67 y14))) fun y46 => some y46)))
theorem Ka9 (a0 : List (List KS)) (r : List KS) (h0 : K2 a0 = some r) : CallsD Try.prog 54 [.lst 1 (a0.map (eList 4 Kq)) .no] [] [] (fun d h k => ∃ y0, d = .v (SL y0) ∧ h = [(0, Blk.row 4 (r.map Kq) (SL y0))] ∧ k = []) := by
 have hm := KF h0
 unfold K2 at hm
 clear h0
 refine KX htab Try.func54 rfl rfl rfl rfl rfl (fun C => ?_)
 refine Kk ?_
 refine pu ?_
 refine KM ?_
 refine pu ?_
 refine Kj ?_
 refine Ks ?_
 refine Kk ?_
 refine pu ?_
 refine Kaw htab rfl rfl rfl rfl rfl rfl rfl (by first | exact K7 | rfl) ?_
 refine pu ?_
 refine Kj ?_
 obtain ⟨y14, q14, ho14⟩ := Kh hm
 refine KaI (Y := Unit) (fun z14 => (⟨[(0, .lst 1 (a0.map (eList 4 Kq)) .no), (3, .v (.int .i64 y14))], [], []⟩ : S)) ?_ ?_
 ·clear hm; have hm := KF q14
  refine KN ?_
  obtain ⟨u15, hl15, hq15⟩ := yes_m hm
  refine KaM (Y := Unit) hl15 (fun s15 z15 => (⟨[(0, .lst 1 (a0.map (eList 4 Kq)) .no), (3, .v (.int .i64 s15.1)), (9, .lst 1 (a0.map (eList 4 Kq)) .no), (10, .v (.int .i64 (a0.length : Int))), (11, .v (.int .i64 s15.2))], [], []⟩ : S)) ?_ ?_
  ·skip
   exact WkX.of () (WkS.perm (WkS.cons rfl (Wk.refl _) (WkS.cons rfl (Wk.refl _) (WkS.cons rfl (Wk.refl _) (WkS.cons rfl (Wk.refl _) (WkS.cons rfl (Wk.refl _) (WkS.nil)))))) Pf Pf)
  ·intro G15 s15 z15 hm
   refine Kk ?_
   refine pu ?_
   refine Kj ?_
   refine Ks ?_
   refine KH rfl (fun hc24 => ?_) (fun hc24 => ?_)
   ·replace hm := yes_t hc24 hm
    refine KI ?_
    refine Ke ?_
    refine Ks ?_
    refine KN ?_
    refine Kk ?_
    obtain ⟨x25, q25, hm⟩ := Kh hm
    refine Kaz htab rfl rfl rfl rfl rfl rfl rfl rfl rfl rfl (KV q25) (K9 q25) ?_
    refine Kad htab rfl rfl rfl rfl rfl rfl rfl rfl ?_
    refine pu ?_
    refine KM ?_
    refine pu ?_
    refine pu ?_
    refine Kaw htab rfl rfl rfl rfl rfl rfl rfl (by first | exact K7 | rfl) ?_
    refine pu ?_
    refine pu ?_
    refine KM ?_
    refine pu ?_
    refine pu ?_
    refine Kj ?_
    refine KH rfl (fun hc26 => ?_) (fun hc26 => ?_)
    ·replace hm := yes_t hc26 hm
     exact (yes_none hm).elim
    ·replace hm := yes_f hc26 hm
     refine KI ?_
     refine KR ?_
     refine Ke ?_
     refine Kz ?_
     refine pu ?_
     refine pu ?_
     refine KG ?_
     refine Ke ⟨_, Kab hm, ?_⟩
     exact WkX.of () (WkS.perm (WkS.cons rfl (Wk.refl _) (WkS.cons rfl (Wk.refl _) (WkS.cons rfl (Wk.refl _) (WkS.cons rfl (Wk.refl _) (WkS.cons rfl (Wk.refl _) (WkS.nil)))))) Pf Pf)
   ·replace hm := yes_f hc24 hm
    refine Kak ?_
    refine KO ?_
    have e15 := Kaa hm; subst e15; clear hm; have hm := hq15
    refine KO ?_
    refine Kae ?_
    have e14 := Ko hm; subst e14
    refine ⟨rfl, ?_⟩
    exact WkX.of () (WkS.perm (WkS.cons rfl (Wk.refl _) (WkS.cons rfl (Wk.refl _) (WkS.nil))) Pf Pf)
 ·intro s14 hw14; clear hm; have hm := ho14; clear q14 ho14
  refine Ke ?_
  refine K8 hw14 (fun z14 => ?_)
  refine Kk ?_
  refine pu ?_
  obtain ⟨x28, q28, hm⟩ := Kh hm
  refine pG (growOk67 y14 (KcM q28)) Wl Pf Pf ?_
  rintro _ _ _ ⟨w27, rfl, rfl, rfl⟩
  refine pu ?_
  refine Kj ?_
  refine Ks ?_
  refine Kk ?_
  refine pu ?_
  refine Kaw htab rfl rfl rfl rfl rfl rfl rfl (by first | exact K7 | rfl) ?_
  refine pu ?_
  refine Kj ?_
  obtain ⟨y46, q46, ho46⟩ := Kh hm
  refine KaI (Y := Z3) (fun z46 => (⟨[(6, .v (SL z46))], [(0, Blk.row 4 (y46.map Kq) (SL z46))], []⟩ : S)) ?_ ?_
  ·clear hm; have hm := KF q46
   refine KN ?_
   obtain ⟨u47, hl47, hq47⟩ := yes_m hm
   refine KaM (Y := Z3) hl47 (fun s47 z47 => (⟨[(6, .v (SL z47)), (25, .lst 1 (a0.map (eList 4 Kq)) .no), (26, .v (.int .i64 (a0.length : Int))), (27, .v (.int .i64 s47.1))], [(0, Blk.row 4 (s47.2.map Kq) (SL z47))], []⟩ : S)) ?_ ?_
   ·skip
    exact WkX.of w27 (WkS.perm (WkS.cons rfl (Wk.refl _) (WkS.cons rfl (Wk.refl _) (WkS.cons rfl (Wk.refl _) (WkS.cons rfl (Wk.refl _) (WkS.nil))))) Pf Pf)
   ·intro G47 s47 z47 hm
    refine Kk ?_
    refine pu ?_
    refine Kj ?_
    refine Ks ?_
    refine KH rfl (fun hc60 => ?_) (fun hc60 => ?_)
    ·replace hm := yes_t hc60 hm
     refine KI ?_
     refine Ke ?_
     refine Ks ?_
     refine KN ?_
     refine Kk ?_
     obtain ⟨x61, q61, hm⟩ := Kh hm
     refine Kaz htab rfl rfl rfl rfl rfl rfl rfl rfl rfl rfl (KV q61) (K9 q61) ?_
     refine Kad htab rfl rfl rfl rfl rfl rfl rfl rfl ?_
     refine pu ?_
     refine Kj ?_
     refine Kz ?_
     refine pu ?_
     refine pu ?_
     obtain ⟨x62, q62, hm⟩ := Kh hm
     refine KcN 0 htab rfl rfl rfl rfl rfl rfl rfl rfl rfl rfl rfl rfl rfl rfl rfl rfl (Kbx q62) (Kcs q62) (fun v62 => ?_)
     refine pu ?_
     refine KG ?_
     refine KR ?_
     refine Ke ?_
     refine Kz ?_
     refine pu ?_
     refine pu ?_
     refine KG ?_
     refine Ke ⟨_, Kab hm, ?_⟩
     exact WkX.of v62 (WkS.perm (WkS.cons rfl (Wk.refl _) (WkS.cons rfl (Wk.refl _) (WkS.cons rfl (Wk.refl _) (WkS.cons rfl (Wk.refl _) (WkS.nil))))) Pf Pf)
    ·replace hm := yes_f hc60 hm
     refine Kak ?_
     refine KO ?_
     have e47 := Kaa hm; subst e47; clear hm; have hm := hq47
     refine KO ?_
     refine Kae ?_
     have e46 := Ko hm; subst e46
     refine ⟨rfl, ?_⟩
     exact WkX.of z47 (WkS.perm (WkS.cons rfl (Wk.refl _) (WkS.nil)) Pf Pf)
  ·intro s46 hw46; clear hm; have hm := ho46; clear q46 ho46
   refine Ke ?_
   refine K8 hw46 (fun z46 => ?_)
   refine Kk ?_
   refine pu ?_
   refine pu ?_
   refine Kj ?_
   refine KA ?_
   have er63 := Ko hm; subst er63
   refine rP (t' := [(2, .v (SL z46))]) [0] [] 1 (wC wN) (lT lN) ?_
   exact ⟨z46, rfl, rfl, rfl⟩
noncomputable def KbB (a0 : Kr) (a1 : Kr) : Option (List ByteArray) :=
 ((K2 ([a0.gGlobals, a1.gGlobals] : List (List KS))).bind fun x4 => (Option.bind (α := List ByteArray) (loopM (fun (s85 : List ByteArray × Int) => (bif (decide (s85.2 < (x4.length : Int))) then ((idx x4 s85.2).bind fun x118 => ((KaQ a0 x118.gName).bind fun x120 => ((KaQ a1 x118.gName).bind fun x122 => (Option.bind (α := Bool) (bif (!(x120.2 == x122.2)) then some true else (bif (!(x120.1.gPtr == x122.1.gPtr)) then some true else some (x120.1.gSize != x122.1.gSize))) fun y126 => (bif y126 then ((app 16 s85.1 ([x118.gName] : List ByteArray)).bind fun x130 => some (.next (x130, (IntKind.i64.wrap (s85.2 + (1 : Int)))))) else some (.next (s85.1, (IntKind.i64.wrap (s85.2 + (1 : Int)))))))))) else some (.done s85.1))) (([] : List ByteArray), (0 : Int))) fun y68 => ((Ka8 y68).bind fun x132 => some x132)))
theorem KfF (a0 : Kr) (a1 : Kr) (r : List ByteArray) (h0 : KbB a0 a1 = some r) : CallsD Try.prog 32 [Ku a0, Ku a1] [] [] (fun d h k => ∃ y0, d = .lst 1 (r.map eStr) (.cur y0) ∧ h = [] ∧ k = [(1, y0)]) := by
 have hm := KF h0
 unfold KbB at hm
 clear h0
 refine KX htab Try.func32 rfl rfl rfl rfl rfl (fun C => ?_)
 refine Kk ?_
 refine p_box rfl rfl rfl rfl rfl rfl rfl (fun b1 => ?_)
 refine p_box rfl rfl rfl rfl rfl rfl rfl (fun b2 => ?_)
 refine pu ?_
 refine KM ?_
 refine pu ?_
 refine Kj ?_
 refine Ks ?_
 refine Kk ?_
 refine pu ?_
 refine pL 0 ?_
 refine pu ?_
 refine pL 1 ?_
 refine p_lit htab rfl rfl rfl rfl rfl rfl rfl rfl rfl rfl rfl rfl rfl rfl ?_
 refine p_eq (i := 16) (d' := .lst 1 (([a0.gGlobals, a1.gGlobals] : List (List KS)).map (eList 4 Kq)) .full) rfl (Wk.lst0 (.cons (WkC.refl _) (.cons (WkC.refl _) (.nil)))) ?_
 obtain ⟨x4, q4, hm⟩ := Kh hm
 refine Kct (Ka9 ([a0.gGlobals, a1.gGlobals] : List (List KS)) x4 q4) rfl rfl rfl rfl rfl (WkL.cons (Wk.no) Wl) Pf Pf ?_
 rintro _ _ _ ⟨w3, rfl, rfl, rfl⟩
 refine p_lenR 0 htab rfl rfl rfl rfl rfl rfl rfl rfl (by first | exact K7 | rfl) ?_
 refine pu ?_
 refine Kj ?_
 obtain ⟨y68, q68, ho68⟩ := Kh hm
 refine KaI (Y := Z3) (fun z68 => (⟨[(5, .v (SL z68))], [(0, Blk.row 1 (y68.map eStr) (SL z68))], []⟩ : S)) ?_ ?_
 ·clear hm; have hm := KF q68
  refine KN ?_
  refine K8 (Y := Unit) (S1 := fun _ => (⟨[(2, .ptr b1 0), (3, .ptr b2 0), (5, .lst 1 [] .full), (17, .lst 4 (x4.map Kq) (.cur (SL w3))), (18, .v (.int .i64 (x4.length : Int))), (19, .v (.int .i64 (0 : Int)))], [(b1, Blk.cells [.lst 4 (a0.gGlobals.map Kq) .no, .lst 5 (a0.gFuncs.map Kp) .no] 25), (b2, Blk.cells [.lst 4 (a1.gGlobals.map Kq) .no, .lst 5 (a1.gFuncs.map Kp) .no] 25)], [(4, (SL w3))]⟩ : S)) ?_ (fun _ => ?_)
  ·skip
   refine WkX.wk (WkS.frz 0 rfl rfl) ?_
   refine WkX.wk (WkS.tld 17 0 rfl rfl) ?_
   refine WkX.wk (WkS.drop 0 rfl) ?_
   exact WkX.of () (WkS.perm (WkS.cons rfl (Wk.refl _) (WkS.cons rfl (Wk.refl _) (WkS.cons rfl (Wk.refl _) (WkS.cons rfl (Wk.refl _) (WkS.cons rfl (Wk.refl _) (WkS.cons rfl (Wk.refl _) (WkS.nil))))))) Pf Pf)
  ·skip
   obtain ⟨u85, hl85, hq85⟩ := yes_m hm
   refine KaM (Y := Z3) hl85 (fun s85 z85 => (⟨[(2, .ptr b1 0), (3, .ptr b2 0), (5, .v (SL z85)), (17, .lst 4 (x4.map Kq) (.cur (SL w3))), (18, .v (.int .i64 (x4.length : Int))), (19, .v (.int .i64 s85.2))], [(0, Blk.row 1 (s85.1.map eStr) (SL z85)), (b1, Blk.cells [.lst 4 (a0.gGlobals.map Kq) .no, .lst 5 (a0.gFuncs.map Kp) .no] 25), (b2, Blk.cells [.lst 4 (a1.gGlobals.map Kq) .no, .lst 5 (a1.gFuncs.map Kp) .no] 25)], [(4, (SL w3))]⟩ : S)) ?_ ?_
   ·skip
    refine WkX.rowN (i := 5) 1 rfl (fun w116 => ?_)
    exact WkX.of w116 (WkS.perm (WkS.cons rfl (Wk.refl _) (WkS.cons rfl (Wk.refl _) (WkS.cons rfl (Wk.refl _) (WkS.cons rfl (Wk.refl _) (WkS.cons rfl (Wk.refl _) (WkS.cons rfl (Wk.refl _) (WkS.nil))))))) Pf Pf)
   ·intro G85 s85 z85 hm
    refine Kk ?_
    refine pu ?_
    refine Kj ?_
    refine Ks ?_
    refine KH rfl (fun hc117 => ?_) (fun hc117 => ?_)
    ·replace hm := yes_t hc117 hm
     refine KI ?_
     refine Ke ?_
     refine Ks ?_
     refine KN ?_
     refine Kk ?_
     obtain ⟨x118, q118, hm⟩ := Kh hm
     refine Kaz htab rfl rfl rfl rfl rfl rfl rfl rfl rfl rfl (KV q118) (K9 q118) ?_
     refine Kad (d := Kq x118) htab rfl rfl rfl rfl rfl rfl rfl rfl ?_
     refine K5 htab rfl rfl rfl rfl rfl rfl rfl (fun b119 => ?_)
     refine pS3 (ds' := [.v (.string x118.gName), .v (.bool x118.gPtr), .v (.int .i64 x118.gSize), .v (.int .i64 x118.gAt)]) ?_
     refine KM ?_
     refine Kav (d := Ku a0) 1 htab rfl rfl rfl rfl rfl rfl rfl rfl ?_
     refine pu ?_
     refine pL 3 ?_
     obtain ⟨x120, q120, hm⟩ := Kh hm
     refine Kai (KbO a0 x118.gName x120 q120) rfl rfl rfl rfl rfl Wl ?_
     rintro _ rfl
     iterate 3 refine pu ?_
     refine K5 htab rfl rfl rfl rfl rfl rfl rfl (fun b121 => ?_)
     refine pS4 (ds' := [.v (.string x120.1.gName), .v (.bool x120.1.gPtr), .v (.int .i64 x120.1.gSize), .v (.int .i64 x120.1.gAt)]) ?_
     refine pu ?_
     refine KM ?_
     refine Kav (d := Ku a1) 2 htab rfl rfl rfl rfl rfl rfl rfl rfl ?_
     refine pu ?_
     refine pL 3 ?_
     obtain ⟨x122, q122, hm⟩ := Kh hm
     refine Kai (KbO a1 x118.gName x122 q122) rfl rfl rfl rfl rfl Wl ?_
     rintro _ rfl
     iterate 3 refine pu ?_
     refine K5 htab rfl rfl rfl rfl rfl rfl rfl (fun b123 => ?_)
     refine pS5 (ds' := [.v (.string x122.1.gName), .v (.bool x122.1.gPtr), .v (.int .i64 x122.1.gSize), .v (.int .i64 x122.1.gAt)]) ?_
     refine pu ?_
     refine Kj ?_
     refine Ks ?_
     obtain ⟨y126, q126, ho126⟩ := Kh hm
     refine KaI (Y := Unit) (fun z126 => (⟨[(2, .ptr b1 0), (3, .ptr b2 0), (5, .v (SL z85)), (7, .ptr b119 0), (17, .lst 4 (x4.map Kq) (.cur (SL w3))), (18, .v (.int .i64 (x4.length : Int))), (19, .v (.int .i64 s85.2)), (53, .v (.bool y126))], [(0, Blk.row 1 (s85.1.map eStr) (SL z85)), (b1, Blk.cells [.lst 4 (a0.gGlobals.map Kq) .no, .lst 5 (a0.gFuncs.map Kp) .no] 25), (b2, Blk.cells [.lst 4 (a1.gGlobals.map Kq) .no, .lst 5 (a1.gFuncs.map Kp) .no] 25), (b119, Blk.cells [.v (.string x118.gName), .v (.bool x118.gPtr), .v (.int .i64 x118.gSize), .v (.int .i64 x118.gAt)] 105)], [(4, (SL w3))]⟩ : S)) ?_ ?_
     ·clear hm; have hm := KF q126
      refine Kz ?_
      iterate 4 refine pu ?_
      refine Ka0 (i := 40) rfl (fun hg127 => ?_) (fun hg127 => ?_)
      ·replace hm := yes_t hg127 hm
       iterate 5 refine pK ?_
       refine KaE rfl rfl rfl rfl rfl rfl ?_
       refine pu ?_
       iterate 5 refine pK ?_
       refine KaE rfl rfl rfl rfl rfl rfl ?_
       refine KG ?_
       have e126 := Ko hm; subst e126
       refine ⟨rfl, ?_⟩
       exact WkX.of () (WkS.perm (WkS.cons rfl (Wk.refl _) (WkS.cons rfl (Wk.refl _) (WkS.cons rfl (Wk.refl _) (WkS.cons rfl (Wk.refl _) (WkS.cons rfl (Wk.refl _) (WkS.cons rfl (Wk.refl _) (WkS.cons rfl (Wk.refl _) (WkS.cons rfl (Wk.refl _) (WkS.nil))))))))) Pf Pf)
      ·replace hm := yes_f hg127 hm
       refine pu ?_
       refine pL 4 ?_
       refine pu ?_
       refine pL 5 ?_
       refine pu ?_
       refine Kan rfl rfl rfl rfl rfl rfl ?_
       refine pu ?_
       refine Ka0 (i := 47) rfl (fun hg128 => ?_) (fun hg128 => ?_)
       ·replace hm := yes_t hg128 hm
        iterate 5 refine pK ?_
        refine KaE rfl rfl rfl rfl rfl rfl ?_
        refine KG ?_
        have e126 := Ko hm; subst e126
        refine ⟨rfl, ?_⟩
        exact WkX.of () (WkS.perm (WkS.cons rfl (Wk.refl _) (WkS.cons rfl (Wk.refl _) (WkS.cons rfl (Wk.refl _) (WkS.cons rfl (Wk.refl _) (WkS.cons rfl (Wk.refl _) (WkS.cons rfl (Wk.refl _) (WkS.cons rfl (Wk.refl _) (WkS.cons rfl (Wk.refl _) (WkS.nil))))))))) Pf Pf)
       ·replace hm := yes_f hg128 hm
        refine pu ?_
        refine pL 4 ?_
        refine pu ?_
        refine pL 5 ?_
        refine pu ?_
        refine Kan rfl rfl rfl rfl rfl rfl ?_
        refine KG ?_
        have e126 := Ko hm; subst e126
        refine ⟨rfl, ?_⟩
        exact WkX.of () (WkS.perm (WkS.cons rfl (Wk.refl _) (WkS.cons rfl (Wk.refl _) (WkS.cons rfl (Wk.refl _) (WkS.cons rfl (Wk.refl _) (WkS.cons rfl (Wk.refl _) (WkS.cons rfl (Wk.refl _) (WkS.cons rfl (Wk.refl _) (WkS.cons rfl (Wk.refl _) (WkS.nil))))))))) Pf Pf)
     ·intro s126 hw126; clear hm; have hm := ho126; clear q126 ho126
      refine Ke ?_
      refine K8 hw126 (fun z126 => ?_)
      refine KH rfl (fun hc129 => ?_) (fun hc129 => ?_)
      ·replace hm := yes_t hc129 hm
       refine Kz ?_
       refine pu ?_
       refine pu ?_
       refine pL 3 ?_
       refine p_lit htab rfl rfl rfl rfl rfl rfl rfl rfl rfl rfl rfl rfl rfl rfl ?_
       refine p_eq (i := 57) (d' := .lst 1 (([x118.gName] : List ByteArray).map eStr) .full) rfl (Wk.lst0 (.cons (WkC.refl _) (.nil))) ?_
       obtain ⟨x130, q130, hm⟩ := Kh hm
       refine KcN 0 htab rfl rfl rfl rfl rfl rfl rfl rfl rfl rfl rfl rfl rfl rfl rfl rfl (Kbx q130) (Kcs q130) (fun v130 => ?_)
       refine pu ?_
       refine KG ?_
       refine KR ?_
       refine Ke ?_
       refine Kz ?_
       refine pu ?_
       refine pu ?_
       refine KG ?_
       refine Ke ⟨_, Kab hm, ?_⟩
       exact WkX.of v130 (WkS.perm (WkS.cons rfl (Wk.refl _) (WkS.cons rfl (Wk.refl _) (WkS.cons rfl (Wk.refl _) (WkS.cons rfl (Wk.refl _) (WkS.cons rfl (Wk.refl _) (WkS.cons rfl (Wk.refl _) (WkS.nil))))))) Pf Pf)
      ·replace hm := yes_f hc129 hm
       refine KI ?_
       refine KR ?_
       refine Ke ?_
       refine Kz ?_
       refine pu ?_
       refine pu ?_
       refine KG ?_
       refine Ke ⟨_, Kab hm, ?_⟩
       exact WkX.of z85 (WkS.perm (WkS.cons rfl (Wk.refl _) (WkS.cons rfl (Wk.refl _) (WkS.cons rfl (Wk.refl _) (WkS.cons rfl (Wk.refl _) (WkS.cons rfl (Wk.refl _) (WkS.cons rfl (Wk.refl _) (WkS.nil))))))) Pf Pf)
    ·replace hm := yes_f hc117 hm
     refine Kak ?_
     refine KO ?_
     have e85 := Kaa hm; subst e85; clear hm; have hm := hq85
     refine KO ?_
     refine Kae ?_
     have e68 := Ko hm; subst e68
     refine ⟨rfl, ?_⟩
     exact WkX.of z85 (WkS.perm (WkS.cons rfl (Wk.refl _) (WkS.nil)) Pf Pf)
 ·intro s68 hw68; clear hm; have hm := ho68; clear q68 ho68
  refine Ke ?_
  refine K8 hw68 (fun z68 => ?_)
  refine Kk ?_
  refine pu ?_
  obtain ⟨x132, q132, hm⟩ := Kh hm
  refine pG (KbN y68 z68 x132 q132) Wl Pf Pf ?_
  rintro _ _ _ ⟨w131, rfl, rfl, rfl⟩
  refine pu ?_
  refine Kj ?_
  refine KA ?_
  have er133 := Ko hm; subst er133
  refine retX.wk (WkS.frz 0 rfl rfl) ?_
  refine retX.wk (WkS.tld 4 0 rfl rfl) ?_
  refine retX.wk (WkS.tld 61 0 rfl rfl) ?_
  refine retX.wk (WkS.drop 0 rfl) ?_
  refine rP (t' := [(4, .lst 1 (x132.map eStr) (.cur (SL w131)))]) [] [0] 0 (wC wN) (lT lN) ?_
  exact ⟨(SL w131), rfl, rfl, rfl⟩
structure Kbz where
 gFuncs : List ByteArray
 gGlobals : List ByteArray
def KhC (x : Kbz) : D := .agg [.lst 1 (x.gFuncs.map eStr) .no, .lst 1 (x.gGlobals.map eStr) .no]
noncomputable def KcO (a0 : Kr) (a1 : Kr) : Option (Kbz) :=
 ((KbV a0 a1).bind fun x5 => ((KbB a0 a1).bind fun x11 => some (⟨x5, x11⟩ : Kbz)))
theorem KhD (a0 : Kr) (a1 : Kr) (r : Kbz) (h0 : KcO a0 a1 = some r) : CallsD Try.prog 16 [Ku a0, Ku a1] [] [] (fun d h k => ∃ y0 y1, d = .agg [.lst 1 (r.gFuncs.map eStr) (.cur y0), .lst 1 (r.gGlobals.map eStr) (.cur y1)] ∧ h = [] ∧ k = [(1, y0), (1, y1)]) := by
 have hm := KF h0
 unfold KcO at hm
 clear h0
 refine KX htab Try.func16 rfl rfl rfl rfl rfl (fun C => ?_)
 refine Kk ?_
 refine p_box rfl rfl rfl rfl rfl rfl rfl (fun b1 => ?_)
 refine p_box rfl rfl rfl rfl rfl rfl rfl (fun b2 => ?_)
 refine K5 htab rfl rfl rfl rfl rfl rfl rfl (fun b3 => ?_)
 refine Kj ?_
 refine Ks ?_
 obtain ⟨x5, q5, hm⟩ := Kh hm
 refine wpD_drawsT 5 [] [(2, 1)] [[],[],[0,1],[],[]] [0,1,2,3,4] [[],[],[0,1],[],[],[0,1,2,3,4],[0,1,2,3,4,5],[0,1,2,3,4,5,6]] (by kernel_rfl) (by kernel_rfl) (by kernel_rfl) (by rfl) (by rfl) (by kernel_rfl) ?_
 iterate 5 apply Exists.intro
 intro bs
 refine zt_eM rfl rfl (Kat (d := Ku a0) 0 htab rfl rfl rfl rfl rfl) rfl rfl rfl rfl rfl rfl rfl ?_
 refine zt_eM rfl rfl (Kat (d := Ku a1) 1 htab rfl rfl rfl rfl rfl) rfl rfl rfl rfl rfl rfl rfl ?_
 refine zt_callT rfl rfl (KgI a0 a1 x5 q5) rfl rfl Wl rfl rfl rfl rfl rfl (by simp) (by decide) rfl ?_
 refine zt_eM rfl rfl (Kat (d := Ku a0) 0 htab rfl rfl rfl rfl rfl) rfl rfl rfl rfl rfl rfl rfl ?_
 refine zt_eM rfl rfl (Kat (d := Ku a1) 1 htab rfl rfl rfl rfl rfl) rfl rfl rfl rfl rfl rfl rfl ?_
 refine zt_nil (k' := [(1, (bs 2))]) rfl (fun e he => by simp [isT] at he; subst he; rfl) rfl rfl (fun e he => by simp [isAl] at he) ?_
 obtain ⟨w9, hw9⟩ : ∃ y, bs 2 = y := ⟨_, rfl⟩
 simp only [hw9]
 clear hw9
 obtain ⟨x11, q11, hm⟩ := Kh hm
 refine pG (KfF a0 a1 x11 q11) Wl Pf Pf ?_
 rintro _ _ _ ⟨w10, rfl, rfl, rfl⟩
 refine KbJ (r := [.lst 1 (x5.map eStr) (.cur w9), .lst 1 (x11.map eStr) (.cur w10)]) htab rfl rfl rfl rfl rfl rfl rfl rfl rfl ?_
 refine pS2 (ds' := [.lst 1 (x5.map eStr) (.cur w9), .lst 1 (x11.map eStr) (.cur w10)]) ?_
 refine Kj ?_
 refine KA ?_
 have er12 := Ko hm; subst er12
 refine rP (t' := [(4, .ptr b3 0)]) [2] [1,0] 0 (wC wN) (lC 0 lN) ?_
 exact ⟨w9, w10, rfl, rfl, rfl⟩
theorem Khw (a0 : Kr) (a1 : Kr) (r : Kbz) (h0 : KcO a0 a1 = some r) : CallsD Try.prog 16 [Ku a0, Ku a1] [] [] (fun d h k => d = KhC r ∧ h = [] ∧ k = []) :=
 (KhD a0 a1 r h0).drop fun d h k ⟨y0, y1, e, _, _⟩ => by subst e; exact Wk.agg (WkR.cons (WkC.no) rfl (WkR.cons (WkC.no) rfl (WkR.nil)))
structure Kg where
 gL : List ByteArray
noncomputable def Ka3 (m0 : Kg) (a1 : ByteArray) : Option (Kg) :=
 ((app 16 m0.gL ([a1] : List ByteArray)).bind fun x1 => some (⟨x1⟩ : Kg))
theorem KdU (m0 : Kg) (a1 : ByteArray) (o0 : Nat) (T0 : TypeId) (z0_0 : Z3) (r : Kg) (h0 : Ka3 m0 a1 = some r) : CallsD Try.prog 44 [.ptr o0 0, .v (.string a1)] [(o0, Blk.cells [.v (SL z0_0)] T0), (0, Blk.row 1 (m0.gL.map eStr) (SL z0_0))] [] (fun d h k => ∃ y0, d = .tup [] ∧ h = [(o0, Blk.cells [.v (SL y0)] T0), (0, Blk.row 1 (r.gL.map eStr) (SL y0))] ∧ k = []) := by
 have hm := KF h0
 unfold Ka3 at hm
 clear h0
 refine KX htab Try.func44 rfl rfl rfl rfl rfl (fun C => ?_)
 refine Kz ?_
 iterate 4 refine pu ?_
 refine pL 0 ?_
 refine pu ?_
 refine p_lit htab rfl rfl rfl rfl rfl rfl rfl rfl rfl rfl rfl rfl rfl rfl ?_
 refine p_eq (i := 10) (d' := .lst 1 (([a1] : List ByteArray).map eStr) .full) rfl (Wk.lst0 (.cons (WkC.refl _) (.nil))) ?_
 obtain ⟨x1, q1, hm⟩ := Kh hm
 refine KcN 1 htab rfl rfl rfl rfl rfl rfl rfl rfl rfl rfl rfl rfl rfl rfl rfl rfl (Kbx q1) (Kcs q1) (fun v1 => ?_)
 refine pu ?_
 refine pu ?_
 refine pS0 (ds' := [.v (SL v1)]) ?_
 refine KG ?_
 have er2 := Ko hm; subst er2
 refine rP (t' := []) [0,0] [] 2 wN lN ?_
 exact ⟨v1, rfl, rfl, rfl⟩
noncomputable def KbC (a0 : ByteArray) (m0 : Kg) : Option (Kg) :=
 (bif (!decide (a0 = (ByteArray.mk #[]))) then ((Ka3 m0 a0).bind fun x3 => some x3) else some m0)
theorem Kdt (a0 : ByteArray) (m0 : Kg) (o0 : Nat) (T0 : TypeId) (z0_0 : Z3) (r : Kg) (h0 : KbC a0 m0 = some r) : CallsD Try.prog 43 [.v (.string a0), .ptr o0 0] [(o0, Blk.cells [.v (SL z0_0)] T0), (0, Blk.row 1 (m0.gL.map eStr) (SL z0_0))] [] (fun d h k => ∃ y0, d = .tup [] ∧ h = [(o0, Blk.cells [.v (SL y0)] T0), (0, Blk.row 1 (r.gL.map eStr) (SL y0))] ∧ k = []) := by
 have hm := KF h0
 unfold KbC at hm
 clear h0
 refine KX htab Try.func43 rfl rfl rfl rfl rfl (fun C => ?_)
 refine Kk ?_
 refine pu ?_
 refine pu ?_
 refine Kj ?_
 refine KH rfl (fun hc1 => ?_) (fun hc1 => ?_)
 ·replace hm := yes_t hc1 hm
  refine Kz ?_
  refine pu ?_
  obtain ⟨x3, q3, hm⟩ := Kh hm
  refine pG (KdU m0 a0 o0 T0 z0_0 x3 q3) Wl Pf Pf ?_
  rintro _ _ _ ⟨w2, rfl, rfl, rfl⟩
  refine KG ?_
  have er4 := Ko hm; subst er4
  refine rP (t' := []) [0,0] [] 2 wN lN ?_
  exact ⟨w2, rfl, rfl, rfl⟩
 ·replace hm := yes_f hc1 hm
  refine KI ?_
  have er5 := Ko hm; subst er5
  refine rP (t' := []) [0,0] [] 2 wN lN ?_
  exact ⟨z0_0, rfl, rfl, rfl⟩
noncomputable def KbW (a0 : Kf) (m1 : Kg) : Option (Kg) :=
 ((KbC a0.gName m1).bind fun x3 => some x3)
theorem KfG (a0 : Kf) (m1 : Kg) (o0 : Nat) (T0 : TypeId) (o1 : Nat) (T1 : TypeId) (z1_0 : Z3) (r : Kg) (h0 : KbW a0 m1 = some r) : CallsD Try.prog 46 [Km a0, .ptr o0 0] [(o0, Blk.cells [.fn (.func 43) [] [.ptr o1 0]] T0), (o1, Blk.cells [.v (SL z1_0)] T1), (0, Blk.row 1 (m1.gL.map eStr) (SL z1_0))] [] (fun d h k => ∃ y0, d = .tup [] ∧ h = [(o0, Blk.cells [.fn (.func 43) [] [.ptr o1 0]] T0), (o1, Blk.cells [.v (SL y0)] T1), (0, Blk.row 1 (r.gL.map eStr) (SL y0))] ∧ k = []) := by
 have hm := KF h0
 unfold KbW at hm
 clear h0
 refine KX htab Try.func46 rfl rfl rfl rfl rfl (fun C => ?_)
 refine w_eq (i := 0) rfl (Wk.of_eq (KaF a0)) ?_
 refine Kk ?_
 refine p_box rfl rfl rfl rfl rfl rfl rfl (fun b1 => ?_)
 refine Kj ?_
 refine Kz ?_
 refine pL 0 ?_
 refine pu ?_
 refine pL 3 ?_
 obtain ⟨x3, q3, hm⟩ := Kh hm
 refine Kca (Kdt a0.gName m1 o1 T1 z1_0 x3 q3) rfl rfl rfl rfl rfl rfl rfl Wl ((Kv (j := 1) rfl).trans (List.Perm.cons _ ((Kv (j := 1) rfl).trans (List.Perm.cons _ Pf)))) Pf ?_
 rintro _ _ _ ⟨w2, rfl, rfl, rfl⟩
 refine KG ?_
 have er4 := Ko hm; subst er4
 refine rP (t' := []) [2,0,0] [] 3 wN lN ?_
 exact ⟨w2, rfl, rfl, rfl⟩
noncomputable def KbX (a0 : Kl) (m1 : Kg) : Option (Kg) :=
 ((KbC a0.gName m1).bind fun x3 => some x3)
theorem KfH (a0 : Kl) (m1 : Kg) (o0 : Nat) (T0 : TypeId) (o1 : Nat) (T1 : TypeId) (z1_0 : Z3) (r : Kg) (h0 : KbX a0 m1 = some r) : CallsD Try.prog 47 [Kw a0, .ptr o0 0] [(o0, Blk.cells [.fn (.func 43) [] [.ptr o1 0]] T0), (o1, Blk.cells [.v (SL z1_0)] T1), (0, Blk.row 1 (m1.gL.map eStr) (SL z1_0))] [] (fun d h k => ∃ y0, d = .tup [] ∧ h = [(o0, Blk.cells [.fn (.func 43) [] [.ptr o1 0]] T0), (o1, Blk.cells [.v (SL y0)] T1), (0, Blk.row 1 (r.gL.map eStr) (SL y0))] ∧ k = []) := by
 have hm := KF h0
 unfold KbX at hm
 clear h0
 refine KX htab Try.func47 rfl rfl rfl rfl rfl (fun C => ?_)
 refine w_eq (i := 0) rfl (Wk.of_eq (Kah a0)) ?_
 refine Kk ?_
 refine p_box rfl rfl rfl rfl rfl rfl rfl (fun b1 => ?_)
 refine Kj ?_
 refine Kz ?_
 refine pL 0 ?_
 refine pu ?_
 refine pL 3 ?_
 obtain ⟨x3, q3, hm⟩ := Kh hm
 refine Kca (Kdt a0.gName m1 o1 T1 z1_0 x3 q3) rfl rfl rfl rfl rfl rfl rfl Wl ((Kv (j := 1) rfl).trans (List.Perm.cons _ ((Kv (j := 1) rfl).trans (List.Perm.cons _ Pf)))) Pf ?_
 rintro _ _ _ ⟨w2, rfl, rfl, rfl⟩
 refine KG ?_
 have er4 := Ko hm; subst er4
 refine rP (t' := []) [2,0,0] [] 3 wN lN ?_
 exact ⟨w2, rfl, rfl, rfl⟩
noncomputable def KaR (g0 : (Kl) → (Kg) → Option (Kg)) (a0 : Kl) (m2 : Kg) : Option (Kg) :=
 ((KbX a0 m2).bind fun x3 => (Option.bind (α := List ByteArray) (loopM (fun (s30 : Int × List ByteArray) => (bif (decide (s30.1 < (a0.gKids.length : Int))) then ((idx a0.gKids s30.1).bind fun x50 => ((g0 x50 (⟨s30.2⟩ : Kg)).bind fun x53 => some (.next ((IntKind.i64.wrap (s30.1 + (1 : Int))), x53.gL)))) else some (.done s30.2))) ((0 : Int), x3.gL)) fun y29 => some (⟨y29⟩ : Kg)))
theorem Kfg (g0 : (Kl) → (Kg) → Option (Kg)) (hg0 : ∀ (a0 : Kl) (m2 : Kg) (o0 : Nat) (T0 : TypeId) (o1 : Nat) (T1 : TypeId) (o2 : Nat) (T2 : TypeId) (z2_0 : Z3) (o3 : Nat) (T3 : TypeId) (r : Kg) (h0 : g0 a0 m2 = some r), CallsD Try.prog 60 [Kw a0, .ptr o0 0, .ptr o3 0] [(o0, Blk.cells [.fn (.func 47) [] [.ptr o1 0]] T0), (o1, Blk.cells [.fn (.func 43) [] [.ptr o2 0]] T1), (o2, Blk.cells [.v (SL z2_0)] T2), (o3, Blk.cells [.fn (.func 60) [] [.ptr o0 0, .ptr o3 0]] T3), (0, Blk.row 1 (m2.gL.map eStr) (SL z2_0))] [] (fun d h k => ∃ y0, d = .tup [] ∧ h = [(o0, Blk.cells [.fn (.func 47) [] [.ptr o1 0]] T0), (o1, Blk.cells [.fn (.func 43) [] [.ptr o2 0]] T1), (o2, Blk.cells [.v (SL y0)] T2), (o3, Blk.cells [.fn (.func 60) [] [.ptr o0 0, .ptr o3 0]] T3), (0, Blk.row 1 (r.gL.map eStr) (SL y0))] ∧ k = [])) (a0 : Kl) (m2 : Kg) (o0 : Nat) (T0 : TypeId) (o1 : Nat) (T1 : TypeId) (o2 : Nat) (T2 : TypeId) (z2_0 : Z3) (o3 : Nat) (T3 : TypeId) (r : Kg) (h0 : KaR g0 a0 m2 = some r) : CallsD Try.prog 60 [Kw a0, .ptr o0 0, .ptr o3 0] [(o0, Blk.cells [.fn (.func 47) [] [.ptr o1 0]] T0), (o1, Blk.cells [.fn (.func 43) [] [.ptr o2 0]] T1), (o2, Blk.cells [.v (SL z2_0)] T2), (o3, Blk.cells [.fn (.func 60) [] [.ptr o0 0, .ptr o3 0]] T3), (0, Blk.row 1 (m2.gL.map eStr) (SL z2_0))] [] (fun d h k => ∃ y0, d = .tup [] ∧ h = [(o0, Blk.cells [.fn (.func 47) [] [.ptr o1 0]] T0), (o1, Blk.cells [.fn (.func 43) [] [.ptr o2 0]] T1), (o2, Blk.cells [.v (SL y0)] T2), (o3, Blk.cells [.fn (.func 60) [] [.ptr o0 0, .ptr o3 0]] T3), (0, Blk.row 1 (r.gL.map eStr) (SL y0))] ∧ k = []) := by
 have hm := KF h0
 unfold KaR at hm
 clear h0
 refine KX htab Try.func60 rfl rfl rfl rfl rfl (fun C => ?_)
 refine w_eq (i := 0) rfl (Wk.of_eq (Kah a0)) ?_
 refine Kk ?_
 refine p_box rfl rfl rfl rfl rfl rfl rfl (fun b1 => ?_)
 refine KM ?_
 refine pL 0 ?_
 refine Kav (d := .agg [.v (.int .i64 a0.gOp), .v (.int .i64 a0.gN), .v (.string a0.gName), .lst 5 (a0.gKids.map Kw) .no, .v (.int .i64 a0.gAt)]) 5 htab rfl rfl rfl rfl rfl rfl rfl rfl ?_
 obtain ⟨x3, q3, hm⟩ := Kh hm
 refine Kca (KfH a0 m2 o1 T1 o2 T2 z2_0 x3 q3) rfl rfl rfl rfl rfl rfl rfl (WkL.cons (Wk.trans (Wk.agg (WkR.refl _)) (Wk.of_eq (Kah a0).symm)) (WkL.cons (Wk.refl _) Wl)) ((Kv (j := 1) rfl).trans (List.Perm.cons _ ((Kv (j := 1) rfl).trans (List.Perm.cons _ ((Kv (j := 2) rfl).trans (List.Perm.cons _ Pf)))))) Pf ?_
 rintro _ _ _ ⟨w2, rfl, rfl, rfl⟩
 refine KM ?_
 refine pu ?_
 refine pL 5 ?_
 refine Kaw htab rfl rfl rfl rfl rfl rfl rfl (by first | exact K7 | rfl) ?_
 refine pu ?_
 refine Kj ?_
 obtain ⟨y29, q29, ho29⟩ := Kh hm
 refine KaI (Y := Z3) (fun z29 => (⟨[], [(0, Blk.row 1 (y29.map eStr) (SL z29)), (o1, Blk.cells [.fn (.func 43) [] [.ptr o2 0]] T1), (o2, Blk.cells [.v (SL z29)] T2), (o0, Blk.cells [.fn (.func 47) [] [.ptr o1 0]] T0), (o3, Blk.cells [.fn (.func 60) [] [.ptr o0 0, .ptr o3 0]] T3)], []⟩ : S)) ?_ ?_
 ·clear hm; have hm := KF q29
  refine KN ?_
  obtain ⟨u30, hl30, hq30⟩ := yes_m hm
  refine KaM (Y := Z3) hl30 (fun s30 z30 => (⟨[(2, .ptr o3 0), (10, .lst 5 (a0.gKids.map Kw) .no), (11, .v (.int .i64 (a0.gKids.length : Int))), (12, .v (.int .i64 s30.1))], [(0, Blk.row 1 (s30.2.map eStr) (SL z30)), (o1, Blk.cells [.fn (.func 43) [] [.ptr o2 0]] T1), (o2, Blk.cells [.v (SL z30)] T2), (o0, Blk.cells [.fn (.func 47) [] [.ptr o1 0]] T0), (o3, Blk.cells [.fn (.func 60) [] [.ptr o0 0, .ptr o3 0]] T3)], []⟩ : S)) ?_ ?_
  ·skip
   exact WkX.of w2 (WkS.perm (WkS.cons rfl (Wk.refl _) (WkS.cons rfl (Wk.refl _) (WkS.cons rfl (Wk.refl _) (WkS.cons rfl (Wk.refl _) (WkS.nil))))) ((Kv (j := 2) rfl).trans (List.Perm.cons _ ((Kv (j := 0) rfl).trans (List.Perm.cons _ ((Kv (j := 0) rfl).trans (List.Perm.cons _ ((Kv (j := 0) rfl).trans (List.Perm.cons _ ((Kv (j := 0) rfl).trans (List.Perm.cons _ Pf)))))))))) Pf)
  ·intro G30 s30 z30 hm
   refine Kk ?_
   refine pu ?_
   refine Kj ?_
   refine Ks ?_
   refine KH rfl (fun hc49 => ?_) (fun hc49 => ?_)
   ·replace hm := yes_t hc49 hm
    refine KI ?_
    refine Ke ?_
    refine Ks ?_
    refine KN ?_
    refine Kk ?_
    obtain ⟨x50, q50, hm⟩ := Kh hm
    refine Kaz htab rfl rfl rfl rfl rfl rfl rfl rfl rfl rfl (KV q50) (K9 q50) ?_
    refine p_eq (i := 14) rfl (Wk.of_eq (congrArg D.el (Kah x50))) ?_
    refine Kad (d := .agg [.v (.int .i64 x50.gOp), .v (.int .i64 x50.gN), .v (.string x50.gName), .lst 5 (x50.gKids.map Kw) .no, .v (.int .i64 x50.gAt)]) htab rfl rfl rfl rfl rfl rfl rfl rfl ?_
    refine K5 htab rfl rfl rfl rfl rfl rfl rfl (fun b51 => ?_)
    refine pS5 (ds' := [.v (.int .i64 x50.gOp), .v (.int .i64 x50.gN), .v (.string x50.gName), .lst 5 (x50.gKids.map Kw) .no, .v (.int .i64 x50.gAt)]) ?_
    refine Kj ?_
    refine Kz ?_
    refine pL 4 ?_
    refine Kav (d := .agg [.v (.int .i64 x50.gOp), .v (.int .i64 x50.gN), .v (.string x50.gName), .lst 5 (x50.gKids.map Kw) .no, .v (.int .i64 x50.gAt)]) 5 htab rfl rfl rfl rfl rfl rfl rfl rfl ?_
    obtain ⟨x53, q53, hm⟩ := Kh hm
    refine Kca (hg0 x50 (⟨s30.2⟩ : Kg) o0 T0 o1 T1 o2 T2 z30 o3 T3 x53 q53) rfl rfl rfl rfl rfl rfl rfl (WkL.cons (Wk.trans (Wk.agg (WkR.refl _)) (Wk.of_eq (Kah x50).symm)) (WkL.cons (Wk.refl _) (WkL.cons (Wk.refl _) Wl))) ((Kv (j := 3) rfl).trans (List.Perm.cons _ ((Kv (j := 1) rfl).trans (List.Perm.cons _ ((Kv (j := 1) rfl).trans (List.Perm.cons _ ((Kv (j := 1) rfl).trans (List.Perm.cons _ ((Kv (j := 0) rfl).trans (List.Perm.cons _ Pf)))))))))) Pf ?_
    rintro _ _ _ ⟨w52, rfl, rfl, rfl⟩
    refine KG ?_
    refine KR ?_
    refine Ke ?_
    refine Kz ?_
    refine pu ?_
    refine pu ?_
    refine KG ?_
    refine Ke ⟨_, Kab hm, ?_⟩
    exact WkX.of w52 (WkS.perm (WkS.cons rfl (Wk.refl _) (WkS.cons rfl (Wk.refl _) (WkS.cons rfl (Wk.refl _) (WkS.cons rfl (Wk.refl _) (WkS.nil))))) ((Kv (j := 4) rfl).trans (List.Perm.cons _ ((Kv (j := 1) rfl).trans (List.Perm.cons _ ((Kv (j := 1) rfl).trans (List.Perm.cons _ ((Kv (j := 0) rfl).trans (List.Perm.cons _ ((Kv (j := 0) rfl).trans (List.Perm.cons _ Pf)))))))))) Pf)
   ·replace hm := yes_f hc49 hm
    refine Kak ?_
    refine KO ?_
    have e30 := Kaa hm; subst e30; clear hm; have hm := hq30
    refine KO ?_
    refine Kae ?_
    have e29 := Ko hm; subst e29
    refine ⟨rfl, ?_⟩
    exact WkX.of z30 (WkS.perm (WkS.nil) Pf Pf)
 ·intro s29 hw29; clear hm; have hm := ho29; clear q29 ho29
  refine retX.wkX hw29 (fun z29 => ?_)
  have er54 := Ko hm; subst er54
  refine rP (t' := []) [3,1,1,1,0] [] 5 wN lN ?_
  exact ⟨z29, rfl, rfl, rfl⟩
noncomputable def Kal : Nat → ((Kl) → (Kg) → Option (Kg))
 | 0 => (fun _ _ => none)
 | n + 1 => (KaR ((Kal n)))
theorem Kdk : ∀ n, (∀ (a0 : Kl) (m2 : Kg) (o0 : Nat) (T0 : TypeId) (o1 : Nat) (T1 : TypeId) (o2 : Nat) (T2 : TypeId) (z2_0 : Z3) (o3 : Nat) (T3 : TypeId) (r : Kg) (h0 : (Kal n) a0 m2 = some r), CallsD Try.prog 60 [Kw a0, .ptr o0 0, .ptr o3 0] [(o0, Blk.cells [.fn (.func 47) [] [.ptr o1 0]] T0), (o1, Blk.cells [.fn (.func 43) [] [.ptr o2 0]] T1), (o2, Blk.cells [.v (SL z2_0)] T2), (o3, Blk.cells [.fn (.func 60) [] [.ptr o0 0, .ptr o3 0]] T3), (0, Blk.row 1 (m2.gL.map eStr) (SL z2_0))] [] (fun d h k => ∃ y0, d = .tup [] ∧ h = [(o0, Blk.cells [.fn (.func 47) [] [.ptr o1 0]] T0), (o1, Blk.cells [.fn (.func 43) [] [.ptr o2 0]] T1), (o2, Blk.cells [.v (SL y0)] T2), (o3, Blk.cells [.fn (.func 60) [] [.ptr o0 0, .ptr o3 0]] T3), (0, Blk.row 1 (r.gL.map eStr) (SL y0))] ∧ k = []))
  | 0 => fun _ _ _ _ _ _ _ _ _ _ _ _ h0 => by cases h0
  | n + 1 => by
    have ih := Kdk n
    exact Kfg (Kal n) ih
theorem Kdl : ∀ n, (∀ (a0 : Kl) (m2 : Kg), Le ((Kal n) a0 m2) ((Kal (n + 1)) a0 m2))
  | 0 => fun _ _ => Le.none _
  | n + 1 => by
    have ih := Kdl n
    exact fun a0 m2 => by show Le (KaR ((Kal n)) a0 m2) (KaR ((Kal (n + 1))) a0 m2); unfold KaR; repeat (first | exact Le.refl _ | exact ih _ _ | assumption | (refine Le.bind ?_ (fun _ => ?_)) | (refine Le.cond ?_ ?_) | (refine Le.loop (fun _ => ?_)) | (refine Le.elim (fun _ => ?_) (fun _ => ?_)))
noncomputable def KcH (a0 : Kl) (m2 : Kg) : Option (Kg) := anyN fun n => (Kal n) a0 m2
theorem Kgk (a0 : Kl) (m2 : Kg) {r : Kg} (n : Nat) (h : (Kal n) a0 m2 = some r) : KcH a0 m2 = some r := Kfx (fun m => (Kdl m) a0 m2) h
theorem Kgl (a0 : Kl) (m2 : Kg) (o0 : Nat) (T0 : TypeId) (o1 : Nat) (T1 : TypeId) (o2 : Nat) (T2 : TypeId) (z2_0 : Z3) (o3 : Nat) (T3 : TypeId) (r : Kg) (h0 : KcH a0 m2 = some r) : CallsD Try.prog 60 [Kw a0, .ptr o0 0, .ptr o3 0] [(o0, Blk.cells [.fn (.func 47) [] [.ptr o1 0]] T0), (o1, Blk.cells [.fn (.func 43) [] [.ptr o2 0]] T1), (o2, Blk.cells [.v (SL z2_0)] T2), (o3, Blk.cells [.fn (.func 60) [] [.ptr o0 0, .ptr o3 0]] T3), (0, Blk.row 1 (m2.gL.map eStr) (SL z2_0))] [] (fun d h k => ∃ y0, d = .tup [] ∧ h = [(o0, Blk.cells [.fn (.func 47) [] [.ptr o1 0]] T0), (o1, Blk.cells [.fn (.func 43) [] [.ptr o2 0]] T1), (o2, Blk.cells [.v (SL y0)] T2), (o3, Blk.cells [.fn (.func 60) [] [.ptr o0 0, .ptr o3 0]] T3), (0, Blk.row 1 (r.gL.map eStr) (SL y0))] ∧ k = []) :=
 let ⟨n, hn⟩ := KeI h0; (Kdk n) a0 m2 o0 T0 o1 T1 o2 T2 z2_0 o3 T3 r hn
end Go.Proofs.Ytnfkijcmakgkmaa.Ab
namespace Go.Proofs.Ytnfkijcmakgkmaa.Ab
open Go
set_option linter.all false
noncomputable def Kbc (g0 : (List Kf) → (Kg) → Option (Kg)) (a0 : List Kf) (m1 : Kg) : Option (Kg) :=
 (Option.bind (α := List ByteArray) (loopM (fun (s242 : Int × List ByteArray) => (bif (decide (s242.1 < (a0.length : Int))) then ((idx a0 s242.1).bind fun x421 => ((KbW x421 (⟨s242.2⟩ : Kg)).bind fun x424 => (Option.bind (α := List ByteArray) (loopM (fun (s450 : Int × List ByteArray) => (bif (decide (s450.1 < (x421.gExps.length : Int))) then ((idx x421.gExps s450.1).bind fun x470 => ((KcH x470 (⟨s450.2⟩ : Kg)).bind fun x473 => some (.next ((IntKind.i64.wrap (s450.1 + (1 : Int))), x473.gL)))) else some (.done s450.2))) ((0 : Int), x424.gL)) fun y449 => ((g0 x421.gKids (⟨y449⟩ : Kg)).bind fun x475 => ((g0 x421.gElse x475).bind fun x477 => some (.next ((IntKind.i64.wrap (s242.1 + (1 : Int))), x477.gL))))))) else some (.done s242.2))) ((0 : Int), m1.gL)) fun y241 => some (⟨y241⟩ : Kg))
theorem Kgm (g0 : (List Kf) → (Kg) → Option (Kg)) (hg0 : ∀ (a0 : List Kf) (m1 : Kg) (o0 : Nat) (T0 : TypeId) (o1 : Nat) (T1 : TypeId) (z1_0 : Z3) (r : Kg) (h0 : g0 a0 m1 = some r), CallsD Try.prog 45 [.lst 7 (a0.map Km) .no, .fn (.func 46) [] [.ptr o0 0], .fn (.func 47) [] [.ptr o0 0]] [(o0, Blk.cells [.fn (.func 43) [] [.ptr o1 0]] T0), (o1, Blk.cells [.v (SL z1_0)] T1), (0, Blk.row 1 (m1.gL.map eStr) (SL z1_0))] [] (fun d h k => ∃ y0, d = .tup [] ∧ h = [(o0, Blk.cells [.fn (.func 43) [] [.ptr o1 0]] T0), (o1, Blk.cells [.v (SL y0)] T1), (0, Blk.row 1 (r.gL.map eStr) (SL y0))] ∧ k = [])) (a0 : List Kf) (m1 : Kg) (o0 : Nat) (T0 : TypeId) (o1 : Nat) (T1 : TypeId) (z1_0 : Z3) (r : Kg) (h0 : Kbc g0 a0 m1 = some r) : CallsD Try.prog 45 [.lst 7 (a0.map Km) .no, .fn (.func 46) [] [.ptr o0 0], .fn (.func 47) [] [.ptr o0 0]] [(o0, Blk.cells [.fn (.func 43) [] [.ptr o1 0]] T0), (o1, Blk.cells [.v (SL z1_0)] T1), (0, Blk.row 1 (m1.gL.map eStr) (SL z1_0))] [] (fun d h k => ∃ y0, d = .tup [] ∧ h = [(o0, Blk.cells [.fn (.func 43) [] [.ptr o1 0]] T0), (o1, Blk.cells [.v (SL y0)] T1), (0, Blk.row 1 (r.gL.map eStr) (SL y0))] ∧ k = []) := by
 have hm := KF h0
 unfold Kbc at hm
 clear h0
 refine KX htab Try.func45 rfl rfl rfl rfl rfl (fun C => ?_)
 refine Kk ?_
 refine p_box rfl rfl rfl rfl rfl rfl rfl (fun b1 => ?_)
 refine KM ?_
 refine K5 htab rfl rfl rfl rfl rfl rfl rfl (fun b2 => ?_)
 refine KM ?_
 refine pu ?_
 refine pS4 (ds' := [.fn (.func 60) [] [.ptr b1 0, .ptr b2 0]]) ?_
 refine KM ?_
 refine pu ?_
 refine Kaw htab rfl rfl rfl rfl rfl rfl rfl (by first | exact K7 | rfl) ?_
 refine pu ?_
 refine Kj ?_
 obtain ⟨y241, q241, ho241⟩ := Kh hm
 refine KaI (Y := Z3) (fun z241 => (⟨[], [(0, Blk.row 1 (y241.map eStr) (SL z241)), (o0, Blk.cells [.fn (.func 43) [] [.ptr o1 0]] T0), (o1, Blk.cells [.v (SL z241)] T1)], []⟩ : S)) ?_ ?_
 ·clear hm; have hm := KF q241
  refine KN ?_
  obtain ⟨u242, hl242, hq242⟩ := yes_m hm
  refine KaM (Y := Z3) hl242 (fun s242 z242 => (⟨[(1, .fn (.func 46) [] [.ptr o0 0]), (5, .ptr b1 0), (6, .ptr b2 0), (12, .lst 7 (a0.map Km) .no), (13, .v (.int .i64 (a0.length : Int))), (14, .v (.int .i64 s242.1))], [(0, Blk.row 1 (s242.2.map eStr) (SL z242)), (o0, Blk.cells [.fn (.func 43) [] [.ptr o1 0]] T0), (o1, Blk.cells [.v (SL z242)] T1), (b1, Blk.cells [.fn (.func 47) [] [.ptr o0 0]] 96), (b2, Blk.cells [.fn (.func 60) [] [.ptr b1 0, .ptr b2 0]] 96)], []⟩ : S)) ?_ ?_
  ·skip
   exact WkX.of z1_0 (WkS.perm (WkS.cons rfl (Wk.refl _) (WkS.cons rfl (Wk.refl _) (WkS.cons rfl (Wk.refl _) (WkS.cons rfl (Wk.refl _) (WkS.cons rfl (Wk.refl _) (WkS.cons rfl (Wk.refl _) (WkS.nil))))))) ((Kv (j := 2) rfl).trans (List.Perm.cons _ ((Kv (j := 0) rfl).trans (List.Perm.cons _ ((Kv (j := 0) rfl).trans (List.Perm.cons _ ((Kv (j := 0) rfl).trans (List.Perm.cons _ ((Kv (j := 0) rfl).trans (List.Perm.cons _ Pf)))))))))) Pf)
  ·intro G242 s242 z242 hm
   refine Kk ?_
   refine pu ?_
   refine Kj ?_
   refine Ks ?_
   refine KH rfl (fun hc420 => ?_) (fun hc420 => ?_)
   ·replace hm := yes_t hc420 hm
    refine KI ?_
    refine Ke ?_
    refine Ks ?_
    refine KN ?_
    refine Kk ?_
    obtain ⟨x421, q421, hm⟩ := Kh hm
    refine Kaz htab rfl rfl rfl rfl rfl rfl rfl rfl rfl rfl (KV q421) (K9 q421) ?_
    refine p_eq (i := 16) rfl (Wk.of_eq (congrArg D.el (KaF x421))) ?_
    refine Kad (d := .agg [.v (.int .i64 x421.gOp), .v (.string x421.gName), .v (.string x421.gFunc), .lst 5 (x421.gExps.map Kw) .no, .lst 7 (x421.gKids.map Km) .no, .lst 7 (x421.gElse.map Km) .no, .v (.int .i64 x421.gAt)]) htab rfl rfl rfl rfl rfl rfl rfl rfl ?_
    refine K5 htab rfl rfl rfl rfl rfl rfl rfl (fun b422 => ?_)
    refine pS5 (ds' := [.v (.int .i64 x421.gOp), .v (.string x421.gName), .v (.string x421.gFunc), .lst 5 (x421.gExps.map Kw) .no, .lst 7 (x421.gKids.map Km) .no, .lst 7 (x421.gElse.map Km) .no, .v (.int .i64 x421.gAt)]) ?_
    refine KM ?_
    refine pu ?_
    refine Kav (d := .agg [.v (.int .i64 x421.gOp), .v (.string x421.gName), .v (.string x421.gFunc), .lst 5 (x421.gExps.map Kw) .no, .lst 7 (x421.gKids.map Km) .no, .lst 7 (x421.gElse.map Km) .no, .v (.int .i64 x421.gAt)]) 5 htab rfl rfl rfl rfl rfl rfl rfl rfl ?_
    obtain ⟨x424, q424, hm⟩ := Kh hm
    refine Kca (KfG x421 (⟨s242.2⟩ : Kg) o0 T0 o1 T1 z242 x424 q424) rfl rfl rfl rfl rfl rfl rfl (WkL.cons (Wk.trans (Wk.agg (WkR.refl _)) (Wk.of_eq (KaF x421).symm)) (WkL.cons (Wk.refl _) Wl)) ((Kv (j := 1) rfl).trans (List.Perm.cons _ ((Kv (j := 1) rfl).trans (List.Perm.cons _ ((Kv (j := 0) rfl).trans (List.Perm.cons _ Pf)))))) Pf ?_
    rintro _ _ _ ⟨w423, rfl, rfl, rfl⟩
    refine Kj ?_
    refine Ks ?_
    refine Kk ?_
    refine pu ?_
    refine pL 5 ?_
    refine Kaw htab rfl rfl rfl rfl rfl rfl rfl (by first | exact K7 | rfl) ?_
    refine pu ?_
    refine Kj ?_
    obtain ⟨y449, q449, ho449⟩ := Kh hm
    refine KaI (Y := Z3) (fun z449 => (⟨[(1, .fn (.func 46) [] [.ptr o0 0]), (5, .ptr b1 0), (6, .ptr b2 0), (8, .ptr b422 0), (12, .lst 7 (a0.map Km) .no), (13, .v (.int .i64 (a0.length : Int))), (14, .v (.int .i64 s242.1))], [(0, Blk.row 1 (y449.map eStr) (SL z449)), (o0, Blk.cells [.fn (.func 43) [] [.ptr o1 0]] T0), (o1, Blk.cells [.v (SL z449)] T1), (b1, Blk.cells [.fn (.func 47) [] [.ptr o0 0]] 96), (b2, Blk.cells [.fn (.func 60) [] [.ptr b1 0, .ptr b2 0]] 96), (b422, Blk.cells [.v (.int .i64 x421.gOp), .v (.string x421.gName), .v (.string x421.gFunc), .lst 5 (x421.gExps.map Kw) .no, .lst 7 (x421.gKids.map Km) .no, .lst 7 (x421.gElse.map Km) .no, .v (.int .i64 x421.gAt)] 92)], []⟩ : S)) ?_ ?_
    ·clear hm; have hm := KF q449
     refine KN ?_
     obtain ⟨u450, hl450, hq450⟩ := yes_m hm
     refine KaM (Y := Z3) hl450 (fun s450 z450 => (⟨[(1, .fn (.func 46) [] [.ptr o0 0]), (5, .ptr b1 0), (6, .ptr b2 0), (8, .ptr b422 0), (12, .lst 7 (a0.map Km) .no), (13, .v (.int .i64 (a0.length : Int))), (14, .v (.int .i64 s242.1)), (22, .lst 5 (x421.gExps.map Kw) .no), (23, .v (.int .i64 (x421.gExps.length : Int))), (24, .v (.int .i64 s450.1))], [(0, Blk.row 1 (s450.2.map eStr) (SL z450)), (o0, Blk.cells [.fn (.func 43) [] [.ptr o1 0]] T0), (o1, Blk.cells [.v (SL z450)] T1), (b1, Blk.cells [.fn (.func 47) [] [.ptr o0 0]] 96), (b2, Blk.cells [.fn (.func 60) [] [.ptr b1 0, .ptr b2 0]] 96), (b422, Blk.cells [.v (.int .i64 x421.gOp), .v (.string x421.gName), .v (.string x421.gFunc), .lst 5 (x421.gExps.map Kw) .no, .lst 7 (x421.gKids.map Km) .no, .lst 7 (x421.gElse.map Km) .no, .v (.int .i64 x421.gAt)] 92)], []⟩ : S)) ?_ ?_
     ·skip
      exact WkX.of w423 (WkS.perm (WkS.cons rfl (Wk.refl _) (WkS.cons rfl (Wk.refl _) (WkS.cons rfl (Wk.refl _) (WkS.cons rfl (Wk.refl _) (WkS.cons rfl (Wk.refl _) (WkS.cons rfl (Wk.refl _) (WkS.cons rfl (Wk.refl _) (WkS.cons rfl (Wk.refl _) (WkS.cons rfl (Wk.refl _) (WkS.cons rfl (Wk.refl _) (WkS.nil))))))))))) ((Kv (j := 2) rfl).trans (List.Perm.cons _ ((Kv (j := 0) rfl).trans (List.Perm.cons _ ((Kv (j := 0) rfl).trans (List.Perm.cons _ ((Kv (j := 0) rfl).trans (List.Perm.cons _ ((Kv (j := 0) rfl).trans (List.Perm.cons _ ((Kv (j := 0) rfl).trans (List.Perm.cons _ Pf)))))))))))) Pf)
     ·intro G450 s450 z450 hm
      refine Kk ?_
      refine pu ?_
      refine Kj ?_
      refine Ks ?_
      refine KH rfl (fun hc469 => ?_) (fun hc469 => ?_)
      ·replace hm := yes_t hc469 hm
       refine KI ?_
       refine Ke ?_
       refine Ks ?_
       refine KN ?_
       refine Kk ?_
       obtain ⟨x470, q470, hm⟩ := Kh hm
       refine Kaz htab rfl rfl rfl rfl rfl rfl rfl rfl rfl rfl (KV q470) (K9 q470) ?_
       refine p_eq (i := 26) rfl (Wk.of_eq (congrArg D.el (Kah x470))) ?_
       refine Kad (d := .agg [.v (.int .i64 x470.gOp), .v (.int .i64 x470.gN), .v (.string x470.gName), .lst 5 (x470.gKids.map Kw) .no, .v (.int .i64 x470.gAt)]) htab rfl rfl rfl rfl rfl rfl rfl rfl ?_
       refine K5 htab rfl rfl rfl rfl rfl rfl rfl (fun b471 => ?_)
       refine pS6 (ds' := [.v (.int .i64 x470.gOp), .v (.int .i64 x470.gN), .v (.string x470.gName), .lst 5 (x470.gKids.map Kw) .no, .v (.int .i64 x470.gAt)]) ?_
       refine Kj ?_
       refine Kz ?_
       refine pL 4 ?_
       refine Kav (d := .agg [.v (.int .i64 x470.gOp), .v (.int .i64 x470.gN), .v (.string x470.gName), .lst 5 (x470.gKids.map Kw) .no, .v (.int .i64 x470.gAt)]) 6 htab rfl rfl rfl rfl rfl rfl rfl rfl ?_
       obtain ⟨x473, q473, hm⟩ := Kh hm
       refine Kca (Kgl x470 (⟨s450.2⟩ : Kg) b1 96 o0 T0 o1 T1 z450 b2 96 x473 q473) rfl rfl rfl rfl rfl rfl rfl (WkL.cons (Wk.trans (Wk.agg (WkR.refl _)) (Wk.of_eq (Kah x470).symm)) (WkL.cons (Wk.refl _) (WkL.cons (Wk.refl _) Wl))) ((Kv (j := 3) rfl).trans (List.Perm.cons _ ((Kv (j := 1) rfl).trans (List.Perm.cons _ ((Kv (j := 1) rfl).trans (List.Perm.cons _ ((Kv (j := 1) rfl).trans (List.Perm.cons _ ((Kv (j := 0) rfl).trans (List.Perm.cons _ Pf)))))))))) Pf ?_
       rintro _ _ _ ⟨w472, rfl, rfl, rfl⟩
       refine KG ?_
       refine KR ?_
       refine Ke ?_
       refine Kz ?_
       refine pu ?_
       refine pu ?_
       refine KG ?_
       refine Ke ⟨_, Kab hm, ?_⟩
       exact WkX.of w472 (WkS.perm (WkS.cons rfl (Wk.refl _) (WkS.cons rfl (Wk.refl _) (WkS.cons rfl (Wk.refl _) (WkS.cons rfl (Wk.refl _) (WkS.cons rfl (Wk.refl _) (WkS.cons rfl (Wk.refl _) (WkS.cons rfl (Wk.refl _) (WkS.cons rfl (Wk.refl _) (WkS.cons rfl (Wk.refl _) (WkS.cons rfl (Wk.refl _) (WkS.nil))))))))))) ((Kv (j := 4) rfl).trans (List.Perm.cons _ ((Kv (j := 1) rfl).trans (List.Perm.cons _ ((Kv (j := 1) rfl).trans (List.Perm.cons _ ((Kv (j := 0) rfl).trans (List.Perm.cons _ ((Kv (j := 0) rfl).trans (List.Perm.cons _ ((Kv (j := 0) rfl).trans (List.Perm.cons _ Pf)))))))))))) Pf)
      ·replace hm := yes_f hc469 hm
       refine Kak ?_
       refine KO ?_
       have e450 := Kaa hm; subst e450; clear hm; have hm := hq450
       refine KO ?_
       refine Kae ?_
       have e449 := Ko hm; subst e449
       refine ⟨rfl, ?_⟩
       exact WkX.of z450 (WkS.perm (WkS.cons rfl (Wk.refl _) (WkS.cons rfl (Wk.refl _) (WkS.cons rfl (Wk.refl _) (WkS.cons rfl (Wk.refl _) (WkS.cons rfl (Wk.refl _) (WkS.cons rfl (Wk.refl _) (WkS.cons rfl (Wk.refl _) (WkS.nil)))))))) Pf Pf)
    ·intro s449 hw449; clear hm; have hm := ho449; clear q449 ho449
     refine Ke ?_
     refine K8 hw449 (fun z449 => ?_)
     refine Kk ?_
     refine pu ?_
     refine pL 5 ?_
     refine pu ?_
     refine pL 3 ?_
     obtain ⟨x475, q475, hm⟩ := Kh hm
     refine pG (hg0 x421.gKids (⟨y449⟩ : Kg) o0 T0 o1 T1 z449 x475 q475) Wl ((Kv (j := 1) rfl).trans (List.Perm.cons _ ((Kv (j := 1) rfl).trans (List.Perm.cons _ ((Kv (j := 0) rfl).trans (List.Perm.cons _ Pf)))))) Pf ?_
     rintro _ _ _ ⟨w474, rfl, rfl, rfl⟩
     refine Kj ?_
     refine Kz ?_
     refine pu ?_
     refine pL 5 ?_
     refine pu ?_
     refine pL 3 ?_
     obtain ⟨x477, q477, hm⟩ := Kh hm
     refine pG (hg0 x421.gElse x475 o0 T0 o1 T1 w474 x477 q477) Wl Pf Pf ?_
     rintro _ _ _ ⟨w476, rfl, rfl, rfl⟩
     refine KG ?_
     refine KR ?_
     refine Ke ?_
     refine Kz ?_
     refine pu ?_
     refine pu ?_
     refine KG ?_
     refine Ke ⟨_, Kab hm, ?_⟩
     exact WkX.of w476 (WkS.perm (WkS.cons rfl (Wk.refl _) (WkS.cons rfl (Wk.refl _) (WkS.cons rfl (Wk.refl _) (WkS.cons rfl (Wk.refl _) (WkS.cons rfl (Wk.refl _) (WkS.cons rfl (Wk.refl _) (WkS.nil))))))) ((Kv (j := 2) rfl).trans (List.Perm.cons _ ((Kv (j := 0) rfl).trans (List.Perm.cons _ ((Kv (j := 0) rfl).trans (List.Perm.cons _ ((Kv (j := 0) rfl).trans (List.Perm.cons _ ((Kv (j := 0) rfl).trans (List.Perm.cons _ Pf)))))))))) Pf)
   ·replace hm := yes_f hc420 hm
    refine Kak ?_
    refine KO ?_
    have e242 := Kaa hm; subst e242; clear hm; have hm := hq242
    refine KO ?_
    refine Kae ?_
    have e241 := Ko hm; subst e241
    refine ⟨rfl, ?_⟩
    exact WkX.of z242 (WkS.perm (WkS.nil) Pf Pf)
 ·intro s241 hw241; clear hm; have hm := ho241; clear q241 ho241
  refine retX.wkX hw241 (fun z241 => ?_)
  have er478 := Ko hm; subst er478
  refine rP (t' := []) [1,1,0] [] 3 wN lN ?_
  exact ⟨z241, rfl, rfl, rfl⟩
noncomputable def KaA : Nat → ((List Kf) → (Kg) → Option (Kg))
 | 0 => (fun _ _ => none)
 | n + 1 => (Kbc ((KaA n)))
theorem KdV : ∀ n, (∀ (a0 : List Kf) (m1 : Kg) (o0 : Nat) (T0 : TypeId) (o1 : Nat) (T1 : TypeId) (z1_0 : Z3) (r : Kg) (h0 : (KaA n) a0 m1 = some r), CallsD Try.prog 45 [.lst 7 (a0.map Km) .no, .fn (.func 46) [] [.ptr o0 0], .fn (.func 47) [] [.ptr o0 0]] [(o0, Blk.cells [.fn (.func 43) [] [.ptr o1 0]] T0), (o1, Blk.cells [.v (SL z1_0)] T1), (0, Blk.row 1 (m1.gL.map eStr) (SL z1_0))] [] (fun d h k => ∃ y0, d = .tup [] ∧ h = [(o0, Blk.cells [.fn (.func 43) [] [.ptr o1 0]] T0), (o1, Blk.cells [.v (SL y0)] T1), (0, Blk.row 1 (r.gL.map eStr) (SL y0))] ∧ k = []))
  | 0 => fun _ _ _ _ _ _ _ _ h0 => by cases h0
  | n + 1 => by
    have ih := KdV n
    exact Kgm (KaA n) ih
theorem KdW : ∀ n, (∀ (a0 : List Kf) (m1 : Kg), Le ((KaA n) a0 m1) ((KaA (n + 1)) a0 m1))
  | 0 => fun _ _ => Le.none _
  | n + 1 => by
    have ih := KdW n
    exact fun a0 m1 => by show Le (Kbc ((KaA n)) a0 m1) (Kbc ((KaA (n + 1))) a0 m1); unfold Kbc; repeat (first | exact Le.refl _ | exact ih _ _ | assumption | (refine Le.bind ?_ (fun _ => ?_)) | (refine Le.cond ?_ ?_) | (refine Le.loop (fun _ => ?_)) | (refine Le.elim (fun _ => ?_) (fun _ => ?_)))
noncomputable def Kdf (a0 : List Kf) (m1 : Kg) : Option (Kg) := anyN fun n => (KaA n) a0 m1
theorem KgO (a0 : List Kf) (m1 : Kg) {r : Kg} (n : Nat) (h : (KaA n) a0 m1 = some r) : Kdf a0 m1 = some r := Kfx (fun m => (KdW m) a0 m1) h
theorem KgP (a0 : List Kf) (m1 : Kg) (o0 : Nat) (T0 : TypeId) (o1 : Nat) (T1 : TypeId) (z1_0 : Z3) (r : Kg) (h0 : Kdf a0 m1 = some r) : CallsD Try.prog 45 [.lst 7 (a0.map Km) .no, .fn (.func 46) [] [.ptr o0 0], .fn (.func 47) [] [.ptr o0 0]] [(o0, Blk.cells [.fn (.func 43) [] [.ptr o1 0]] T0), (o1, Blk.cells [.v (SL z1_0)] T1), (0, Blk.row 1 (m1.gL.map eStr) (SL z1_0))] [] (fun d h k => ∃ y0, d = .tup [] ∧ h = [(o0, Blk.cells [.fn (.func 43) [] [.ptr o1 0]] T0), (o1, Blk.cells [.v (SL y0)] T1), (0, Blk.row 1 (r.gL.map eStr) (SL y0))] ∧ k = []) :=
 let ⟨n, hn⟩ := KeI h0; (KdV n) a0 m1 o0 T0 o1 T1 z1_0 r hn
noncomputable def Ka4 (m0 : Kg) : Option (List ByteArray × Kg) :=
 ((need (Kb8 m0.gL)).bind fun x1 => ((need (Kb8 (sortB m0.gL))).bind fun x3 => some ((KcI (sortB m0.gL)), (⟨[]⟩ : Kg))))
theorem KdX (m0 : Kg) (o0 : Nat) (T0 : TypeId) (z0_0 : Z3) (r : List ByteArray × Kg) (h0 : Ka4 m0 = some r) : CallsD Try.prog 48 [.ptr o0 0] [(o0, Blk.cells [.v (SL z0_0)] T0), (0, Blk.row 1 (m0.gL.map eStr) (SL z0_0))] [] (fun d h k => ∃ y0, d = .v (SL y0) ∧ h = [(o0, Blk.cells [.any] T0), (0, Blk.row 1 (r.1.map eStr) (SL y0))] ∧ k = []) := by
 have hm := KF h0
 unfold Ka4 at hm
 clear h0
 refine KX htab Try.func48 rfl rfl rfl rfl rfl (fun C => ?_)
 refine Kk ?_
 refine pu ?_
 refine KM ?_
 iterate 3 refine pu ?_
 refine pL 0 ?_
 obtain ⟨x1, q1, hm⟩ := Kh hm
 refine pG (sortB_ok m0.gL z0_0 (KcM q1)) Wl ((Kv (j := 1) rfl).trans (List.Perm.cons _ Pf)) Pf ?_
 rintro _ _ _ ⟨rfl, rfl, rfl⟩
 refine KM ?_
 iterate 3 refine pu ?_
 refine pL 1 ?_
 obtain ⟨x3, q3, hm⟩ := Kh hm
 refine pG (KfQ (sortB m0.gL) z0_0 (KcM q3)) Wl Pf Pf ?_
 rintro _ _ _ ⟨w2, rfl, rfl, rfl⟩
 refine pu ?_
 refine Kj ?_
 refine KA ?_
 have er4 := Ko hm; subst er4
 refine retX.wk (WkS.bl1 (ds' := [.any]) (WkR.cons (WkC.any) rfl WkR.nil)) ?_
 refine rP (t' := [(2, .v (SL w2))]) [1,0] [] 2 (wC wN) (lT lN) ?_
 exact ⟨w2, rfl, rfl, rfl⟩
noncomputable def KaY (a0 : List ByteArray) (a1 : ByteArray) : Option (Int) :=
 (Option.bind (α := (Unit) ⊕ (Int)) (loopM (fun (s15 : Int) => (bif (decide (s15 < (a0.length : Int))) then ((idx a0 s15).bind fun x25 => (bif (decide (a1 = x25)) then some (.done (.inr s15)) else some (.next (IntKind.i64.wrap (s15 + (1 : Int)))))) else some (.done (.inl ())))) (0 : Int)) (Sum.elim (fun y14 => some (-1 : Int)) (fun r => some r)))
theorem Kc2 (a0 : List ByteArray) (a1 : ByteArray) (r : Int) (h0 : KaY a0 a1 = some r) : CallsD Try.prog 34 [.lst 1 (a0.map eStr) .no, .v (.string a1)] [] [] (fun d h k => d = .v (.int .i64 r) ∧ h = [] ∧ k = []) := by
 have hm := KF h0
 unfold KaY at hm
 clear h0
 refine KX htab Try.func34 rfl rfl rfl rfl rfl (fun C => ?_)
 refine Kk ?_
 refine pu ?_
 refine Kj ?_
 refine Ks ?_
 refine Kk ?_
 refine pu ?_
 refine Kaw htab rfl rfl rfl rfl rfl rfl rfl (by first | exact K7 | rfl) ?_
 refine pu ?_
 refine Kj ?_
 obtain ⟨x14, q14, ho14⟩ := Kh hm
 refine Kci (τ := Unit) (Y := Unit) (fun y14 z14 => (⟨[], [], []⟩ : S)) x14 ?_ ?_
 ·clear hm; have hm := KF q14
  refine KN ?_
  obtain ⟨u15, hl15, hq15⟩ := yes_m hm
  refine KaM (Y := Unit) hl15 (fun s15 z15 => (⟨[(0, .lst 1 (a0.map eStr) .no), (1, .v (.string a1)), (7, .v (.int .i64 (a0.length : Int))), (8, .v (.int .i64 s15))], [], []⟩ : S)) ?_ ?_
  ·skip
   exact WkX.of () (WkS.perm (WkS.cons rfl (Wk.refl _) (WkS.cons rfl (Wk.refl _) (WkS.cons rfl (Wk.refl _) (WkS.cons rfl (Wk.refl _) (WkS.nil))))) Pf Pf)
  ·intro G15 s15 z15 hm
   refine Kk ?_
   refine pu ?_
   refine Kj ?_
   refine Ks ?_
   refine KH rfl (fun hc24 => ?_) (fun hc24 => ?_)
   ·replace hm := yes_t hc24 hm
    refine KI ?_
    refine Ke ?_
    refine Ks ?_
    refine KN ?_
    refine Kk ?_
    refine pu ?_
    refine pu ?_
    refine KM ?_
    iterate 3 refine pu ?_
    obtain ⟨x25, q25, hm⟩ := Kh hm
    refine Kaz htab rfl rfl rfl rfl rfl rfl rfl rfl rfl rfl (KV q25) (K9 q25) ?_
    refine Kad htab rfl rfl rfl rfl rfl rfl rfl rfl ?_
    refine pu ?_
    refine Kj ?_
    refine KH rfl (fun hc26 => ?_) (fun hc26 => ?_)
    ·replace hm := yes_t hc26 hm
     refine Kk ?_
     refine pu ?_
     refine pu ?_
     refine Kj ?_
     refine KA ?_
     refine KaD ?_
     refine KT ?_
     have e15 := Kaa hm; subst e15; clear hm; have hm := hq15
     refine KT ?_
     refine KaD ?_
     have e14 := Ko hm; subst e14; refine Kck ?_; clear hm; have hm := ho14; simp only [Sum.elim_inr] at hm
     refine KT ?_
     have er27 := Ko hm; subst er27
     refine rP (t' := [(4, .v (.int .i64 s15))]) [] [] 0 (wC wN) (lT lN) ?_
     exact ⟨rfl, rfl, rfl⟩
    ·replace hm := yes_f hc26 hm
     refine KI ?_
     refine KR ?_
     refine Ke ?_
     refine Kz ?_
     refine pu ?_
     refine pu ?_
     refine KG ?_
     refine Ke ⟨_, Kab hm, ?_⟩
     exact WkX.of () (WkS.perm (WkS.cons rfl (Wk.refl _) (WkS.cons rfl (Wk.refl _) (WkS.cons rfl (Wk.refl _) (WkS.cons rfl (Wk.refl _) (WkS.nil))))) Pf Pf)
   ·replace hm := yes_f hc24 hm
    refine Kak ?_
    refine KO ?_
    have e15 := Kaa hm; subst e15; clear hm; have hm := hq15
    refine KO ?_
    refine Kae ?_
    have e14 := Ko hm; subst e14
    refine Kcj ?_
    exact WkX.of () (WkS.perm (WkS.nil) Pf Pf)
 ·intro y14 s14 hx14 hw14; subst hx14; clear hm; have hm := ho14; simp only [Sum.elim_inl] at hm; clear q14 ho14
  refine Ke ?_
  refine K8 hw14 (fun z14 => ?_)
  refine Kk ?_
  refine pu ?_
  refine Kj ?_
  refine KA ?_
  have er28 := Ko hm; subst er28
  refine rP (t' := [(4, .v (.int .i64 (-1 : Int)))]) [] [] 0 (wC wN) (lT lN) ?_
  exact ⟨rfl, rfl, rfl⟩
noncomputable def K4 (a0 : List ByteArray) (a1 : ByteArray) : Option (Bool) :=
 ((KaY a0 a1).bind fun x1 => some (decide ((0 : Int) ≤ x1)))
theorem KaZ (a0 : List ByteArray) (a1 : ByteArray) (r : Bool) (h0 : K4 a0 a1 = some r) : CallsD Try.prog 20 [.lst 1 (a0.map eStr) .no, .v (.string a1)] [] [] (fun d h k => d = .v (.bool r) ∧ h = [] ∧ k = []) := by
 have hm := KF h0
 unfold K4 at hm
 clear h0
 refine KX htab Try.func20 rfl rfl rfl rfl rfl (fun C => ?_)
 refine Kk ?_
 refine pu ?_
 refine KM ?_
 refine pu ?_
 refine pu ?_
 obtain ⟨x1, q1, hm⟩ := Kh hm
 refine Kai (Kc2 a0 a1 x1 q1) rfl rfl rfl rfl rfl Wl ?_
 rintro _ rfl
 refine pu ?_
 refine pu ?_
 refine Kj ?_
 refine KA ?_
 have er2 := Ko hm; subst er2
 refine rP (t' := [(4, .v (.bool (decide ((0 : Int) ≤ x1))))]) [] [] 0 (wC wN) (lT lN) ?_
 exact ⟨rfl, rfl, rfl⟩
noncomputable def KbF (a0 : ByteArray) (m0 : List ByteArray) : Option (Bool) :=
 ((K4 m0 a0).bind fun x1 => some x1)
theorem KeZ (a0 : ByteArray) (m0 : List ByteArray) (o0 : Nat) (T0 : TypeId) (c0_0 : Cap) (r : Bool) (h0 : KbF a0 m0 = some r) : CallsD Try.prog 29 [.v (.string a0), .ptr o0 0] [(o0, Blk.cells [.lst 1 (m0.map eStr) c0_0] T0)] [] (fun d h k => d = .v (.bool r) ∧ h = [(o0, Blk.cells [.lst 1 (m0.map eStr) c0_0] T0)] ∧ k = []) := by
 have hm := KF h0
 unfold KbF at hm
 clear h0
 refine KX htab Try.func29 rfl rfl rfl rfl rfl (fun C => ?_)
 refine Kk ?_
 refine pu ?_
 refine KM ?_
 refine pL 0 ?_
 refine pu ?_
 obtain ⟨x1, q1, hm⟩ := Kh hm
 refine Kai (KaZ m0 a0 x1 q1) rfl rfl rfl rfl rfl (WkL.cons (Wk.no) (WkL.cons (Wk.refl _) Wl)) ?_
 rintro _ rfl
 refine pu ?_
 refine Kj ?_
 refine KA ?_
 have er2 := Ko hm; subst er2
 refine rP (t' := [(3, .v (.bool x1))]) [0] [] 1 (wC wN) (lT lN) ?_
 exact ⟨rfl, rfl, rfl⟩
noncomputable def Kcw (a0 : Kr) (a1 : Kr) : Option (List ByteArray) :=
 ((K0 ([a0.gFuncs, a1.gFuncs] : List (List KB))).bind fun x4 => (Option.bind (α := List ByteArray) (loopM (fun (s85 : List ByteArray × Int) => (bif (decide (s85.2 < (x4.length : Int))) then ((idx x4 s85.2).bind fun x118 => ((Kbb a0 x118.gName).bind fun x120 => ((Kbb a1 x118.gName).bind fun x122 => (Option.bind (α := Bool) (bif (!(x120.2 == x122.2)) then some true else ((KaX x120.1 x122.1).bind fun x128 => some (!x128))) fun y126 => (bif y126 then ((app 16 s85.1 ([x118.gName] : List ByteArray)).bind fun x130 => some (.next (x130, (IntKind.i64.wrap (s85.2 + (1 : Int)))))) else some (.next (s85.1, (IntKind.i64.wrap (s85.2 + (1 : Int)))))))))) else some (.done s85.1))) (([] : List ByteArray), (0 : Int))) fun y68 => ((Ka8 y68).bind fun x132 => some x132)))
theorem KfI (a0 : Kr) (a1 : Kr) (r : List ByteArray) (h0 : Kcw a0 a1 = some r) : CallsD Try.prog 31 [Ku a0, Ku a1] [] [] (fun d h k => ∃ y0, d = .v (SL y0) ∧ h = [(0, Blk.row 1 (r.map eStr) (SL y0))] ∧ k = []) := by
 have hm := KF h0
 unfold Kcw at hm
 clear h0
 refine KX htab Try.func31 rfl rfl rfl rfl rfl (fun C => ?_)
 refine Kk ?_
 refine p_box rfl rfl rfl rfl rfl rfl rfl (fun b1 => ?_)
 refine p_box rfl rfl rfl rfl rfl rfl rfl (fun b2 => ?_)
 refine pu ?_
 refine KM ?_
 refine pu ?_
 refine Kj ?_
 refine Ks ?_
 refine Kk ?_
 refine pu ?_
 refine pL 0 ?_
 refine pu ?_
 refine pL 1 ?_
 refine p_lit htab rfl rfl rfl rfl rfl rfl rfl rfl rfl rfl rfl rfl rfl rfl ?_
 refine p_eq (i := 16) (d' := .lst 1 (([a0.gFuncs, a1.gFuncs] : List (List KB)).map (eList 5 Kp)) .full) rfl (Wk.lst0 (.cons (WkC.refl _) (.cons (WkC.refl _) (.nil)))) ?_
 obtain ⟨x4, q4, hm⟩ := Kh hm
 refine Kct (KaG ([a0.gFuncs, a1.gFuncs] : List (List KB)) x4 q4) rfl rfl rfl rfl rfl (WkL.cons (Wk.no) Wl) Pf Pf ?_
 rintro _ _ _ ⟨w3, rfl, rfl, rfl⟩
 refine p_lenR 0 htab rfl rfl rfl rfl rfl rfl rfl rfl (by first | exact K7 | rfl) ?_
 refine pu ?_
 refine Kj ?_
 obtain ⟨y68, q68, ho68⟩ := Kh hm
 refine KaI (Y := Z3) (fun z68 => (⟨[(5, .v (SL z68))], [(0, Blk.row 1 (y68.map eStr) (SL z68))], []⟩ : S)) ?_ ?_
 ·clear hm; have hm := KF q68
  refine KN ?_
  refine K8 (Y := Unit) (S1 := fun _ => (⟨[(2, .ptr b1 0), (3, .ptr b2 0), (5, .lst 1 [] .full), (17, .lst 5 (x4.map Kp) (.cur (SL w3))), (18, .v (.int .i64 (x4.length : Int))), (19, .v (.int .i64 (0 : Int)))], [(b1, Blk.cells [.lst 4 (a0.gGlobals.map Kq) .no, .lst 5 (a0.gFuncs.map Kp) .no] 25), (b2, Blk.cells [.lst 4 (a1.gGlobals.map Kq) .no, .lst 5 (a1.gFuncs.map Kp) .no] 25)], [(5, (SL w3))]⟩ : S)) ?_ (fun _ => ?_)
  ·skip
   refine WkX.wk (WkS.frz 0 rfl rfl) ?_
   refine WkX.wk (WkS.tld 17 0 rfl rfl) ?_
   refine WkX.wk (WkS.drop 0 rfl) ?_
   exact WkX.of () (WkS.perm (WkS.cons rfl (Wk.refl _) (WkS.cons rfl (Wk.refl _) (WkS.cons rfl (Wk.refl _) (WkS.cons rfl (Wk.refl _) (WkS.cons rfl (Wk.refl _) (WkS.cons rfl (Wk.refl _) (WkS.nil))))))) Pf Pf)
  ·skip
   obtain ⟨u85, hl85, hq85⟩ := yes_m hm
   refine KaM (Y := Z3) hl85 (fun s85 z85 => (⟨[(2, .ptr b1 0), (3, .ptr b2 0), (5, .v (SL z85)), (17, .lst 5 (x4.map Kp) (.cur (SL w3))), (18, .v (.int .i64 (x4.length : Int))), (19, .v (.int .i64 s85.2))], [(0, Blk.row 1 (s85.1.map eStr) (SL z85)), (b1, Blk.cells [.lst 4 (a0.gGlobals.map Kq) .no, .lst 5 (a0.gFuncs.map Kp) .no] 25), (b2, Blk.cells [.lst 4 (a1.gGlobals.map Kq) .no, .lst 5 (a1.gFuncs.map Kp) .no] 25)], [(5, (SL w3))]⟩ : S)) ?_ ?_
   ·skip
    refine WkX.rowN (i := 5) 1 rfl (fun w116 => ?_)
    exact WkX.of w116 (WkS.perm (WkS.cons rfl (Wk.refl _) (WkS.cons rfl (Wk.refl _) (WkS.cons rfl (Wk.refl _) (WkS.cons rfl (Wk.refl _) (WkS.cons rfl (Wk.refl _) (WkS.cons rfl (Wk.refl _) (WkS.nil))))))) Pf Pf)
   ·intro G85 s85 z85 hm
    refine Kk ?_
    refine pu ?_
    refine Kj ?_
    refine Ks ?_
    refine KH rfl (fun hc117 => ?_) (fun hc117 => ?_)
    ·replace hm := yes_t hc117 hm
     refine KI ?_
     refine Ke ?_
     refine Ks ?_
     refine KN ?_
     refine Kk ?_
     obtain ⟨x118, q118, hm⟩ := Kh hm
     refine Kaz htab rfl rfl rfl rfl rfl rfl rfl rfl rfl rfl (KV q118) (K9 q118) ?_
     refine Kad (d := Kp x118) htab rfl rfl rfl rfl rfl rfl rfl rfl ?_
     refine K5 htab rfl rfl rfl rfl rfl rfl rfl (fun b119 => ?_)
     refine pS3 (ds' := [.v (.string x118.gName), .lst 2 (x118.gParams.map KW) .no, .lst 2 (x118.gLocals.map KW) .no, .lst 7 (x118.gBody.map Km) .no, .v (.int .i64 x118.gAt)]) ?_
     refine KM ?_
     refine Kav (d := Ku a0) 1 htab rfl rfl rfl rfl rfl rfl rfl rfl ?_
     refine pu ?_
     refine pL 3 ?_
     obtain ⟨x120, q120, hm⟩ := Kh hm
     refine Kai (Kb4 a0 x118.gName x120 q120) rfl rfl rfl rfl rfl Wl ?_
     rintro _ rfl
     iterate 3 refine pu ?_
     refine K5 htab rfl rfl rfl rfl rfl rfl rfl (fun b121 => ?_)
     refine pS4 (ds' := [.v (.string x120.1.gName), .lst 2 (x120.1.gParams.map KW) .no, .lst 2 (x120.1.gLocals.map KW) .no, .lst 7 (x120.1.gBody.map Km) .no, .v (.int .i64 x120.1.gAt)]) ?_
     refine pu ?_
     refine KM ?_
     refine Kav (d := Ku a1) 2 htab rfl rfl rfl rfl rfl rfl rfl rfl ?_
     refine pu ?_
     refine pL 3 ?_
     obtain ⟨x122, q122, hm⟩ := Kh hm
     refine Kai (Kb4 a1 x118.gName x122 q122) rfl rfl rfl rfl rfl Wl ?_
     rintro _ rfl
     iterate 3 refine pu ?_
     refine K5 htab rfl rfl rfl rfl rfl rfl rfl (fun b123 => ?_)
     refine pS5 (ds' := [.v (.string x122.1.gName), .lst 2 (x122.1.gParams.map KW) .no, .lst 2 (x122.1.gLocals.map KW) .no, .lst 7 (x122.1.gBody.map Km) .no, .v (.int .i64 x122.1.gAt)]) ?_
     refine pu ?_
     refine Kj ?_
     refine Ks ?_
     obtain ⟨y126, q126, ho126⟩ := Kh hm
     refine KaI (Y := Unit) (fun z126 => (⟨[(2, .ptr b1 0), (3, .ptr b2 0), (5, .v (SL z85)), (7, .ptr b119 0), (17, .lst 5 (x4.map Kp) (.cur (SL w3))), (18, .v (.int .i64 (x4.length : Int))), (19, .v (.int .i64 s85.2)), (45, .v (.bool y126))], [(0, Blk.row 1 (s85.1.map eStr) (SL z85)), (b1, Blk.cells [.lst 4 (a0.gGlobals.map Kq) .no, .lst 5 (a0.gFuncs.map Kp) .no] 25), (b2, Blk.cells [.lst 4 (a1.gGlobals.map Kq) .no, .lst 5 (a1.gFuncs.map Kp) .no] 25), (b119, Blk.cells [.v (.string x118.gName), .lst 2 (x118.gParams.map KW) .no, .lst 2 (x118.gLocals.map KW) .no, .lst 7 (x118.gBody.map Km) .no, .v (.int .i64 x118.gAt)] 49)], [(5, (SL w3))]⟩ : S)) ?_ ?_
     ·clear hm; have hm := KF q126
      refine Kz ?_
      iterate 4 refine pu ?_
      refine Ka0 (i := 40) rfl (fun hg127 => ?_) (fun hg127 => ?_)
      ·replace hm := yes_t hg127 hm
       iterate 4 refine pK ?_
       refine KaE rfl rfl rfl rfl rfl rfl ?_
       refine KG ?_
       have e126 := Ko hm; subst e126
       refine ⟨rfl, ?_⟩
       exact WkX.of () (WkS.perm (WkS.cons rfl (Wk.refl _) (WkS.cons rfl (Wk.refl _) (WkS.cons rfl (Wk.refl _) (WkS.cons rfl (Wk.refl _) (WkS.cons rfl (Wk.refl _) (WkS.cons rfl (Wk.refl _) (WkS.cons rfl (Wk.refl _) (WkS.cons rfl (Wk.refl _) (WkS.nil))))))))) Pf Pf)
      ·replace hm := yes_f hg127 hm
       refine Kav (d := Kp x120.1) 4 htab rfl rfl rfl rfl rfl rfl rfl rfl ?_
       refine Kav (d := Kp x122.1) 5 htab rfl rfl rfl rfl rfl rfl rfl rfl ?_
       obtain ⟨x128, q128, hm⟩ := Kh hm
       refine Kai (KdT x120.1 x122.1 x128 q128) rfl rfl rfl rfl rfl Wl ?_
       rintro _ rfl
       refine pu ?_
       refine Kan rfl rfl rfl rfl rfl rfl ?_
       refine KG ?_
       have e126 := Ko hm; subst e126
       refine ⟨rfl, ?_⟩
       exact WkX.of () (WkS.perm (WkS.cons rfl (Wk.refl _) (WkS.cons rfl (Wk.refl _) (WkS.cons rfl (Wk.refl _) (WkS.cons rfl (Wk.refl _) (WkS.cons rfl (Wk.refl _) (WkS.cons rfl (Wk.refl _) (WkS.cons rfl (Wk.refl _) (WkS.cons rfl (Wk.refl _) (WkS.nil))))))))) Pf Pf)
     ·intro s126 hw126; clear hm; have hm := ho126; clear q126 ho126
      refine Ke ?_
      refine K8 hw126 (fun z126 => ?_)
      refine KH rfl (fun hc129 => ?_) (fun hc129 => ?_)
      ·replace hm := yes_t hc129 hm
       refine Kz ?_
       refine pu ?_
       refine pu ?_
       refine pL 3 ?_
       refine p_lit htab rfl rfl rfl rfl rfl rfl rfl rfl rfl rfl rfl rfl rfl rfl ?_
       refine p_eq (i := 49) (d' := .lst 1 (([x118.gName] : List ByteArray).map eStr) .full) rfl (Wk.lst0 (.cons (WkC.refl _) (.nil))) ?_
       obtain ⟨x130, q130, hm⟩ := Kh hm
       refine KcN 0 htab rfl rfl rfl rfl rfl rfl rfl rfl rfl rfl rfl rfl rfl rfl rfl rfl (Kbx q130) (Kcs q130) (fun v130 => ?_)
       refine pu ?_
       refine KG ?_
       refine KR ?_
       refine Ke ?_
       refine Kz ?_
       refine pu ?_
       refine pu ?_
       refine KG ?_
       refine Ke ⟨_, Kab hm, ?_⟩
       exact WkX.of v130 (WkS.perm (WkS.cons rfl (Wk.refl _) (WkS.cons rfl (Wk.refl _) (WkS.cons rfl (Wk.refl _) (WkS.cons rfl (Wk.refl _) (WkS.cons rfl (Wk.refl _) (WkS.cons rfl (Wk.refl _) (WkS.nil))))))) Pf Pf)
      ·replace hm := yes_f hc129 hm
       refine KI ?_
       refine KR ?_
       refine Ke ?_
       refine Kz ?_
       refine pu ?_
       refine pu ?_
       refine KG ?_
       refine Ke ⟨_, Kab hm, ?_⟩
       exact WkX.of z85 (WkS.perm (WkS.cons rfl (Wk.refl _) (WkS.cons rfl (Wk.refl _) (WkS.cons rfl (Wk.refl _) (WkS.cons rfl (Wk.refl _) (WkS.cons rfl (Wk.refl _) (WkS.cons rfl (Wk.refl _) (WkS.nil))))))) Pf Pf)
    ·replace hm := yes_f hc117 hm
     refine Kak ?_
     refine KO ?_
     have e85 := Kaa hm; subst e85; clear hm; have hm := hq85
     refine KO ?_
     refine Kae ?_
     have e68 := Ko hm; subst e68
     refine ⟨rfl, ?_⟩
     exact WkX.of z85 (WkS.perm (WkS.cons rfl (Wk.refl _) (WkS.nil)) Pf Pf)
 ·intro s68 hw68; clear hm; have hm := ho68; clear q68 ho68
  refine Ke ?_
  refine K8 hw68 (fun z68 => ?_)
  refine Kk ?_
  refine pu ?_
  obtain ⟨x132, q132, hm⟩ := Kh hm
  refine pG (KbN y68 z68 x132 q132) Wl Pf Pf ?_
  rintro _ _ _ ⟨w131, rfl, rfl, rfl⟩
  refine pu ?_
  refine Kj ?_
  refine KA ?_
  have er133 := Ko hm; subst er133
  refine rP (t' := [(4, .v (SL w131))]) [0] [] 1 (wC wN) (lT lN) ?_
  exact ⟨w131, rfl, rfl, rfl⟩
noncomputable def Kb5 (a0 : Kr) (a1 : Kr) : Option (List ByteArray) :=
 ((K2 ([a0.gGlobals, a1.gGlobals] : List (List KS))).bind fun x4 => (Option.bind (α := List ByteArray) (loopM (fun (s85 : List ByteArray × Int) => (bif (decide (s85.2 < (x4.length : Int))) then ((idx x4 s85.2).bind fun x118 => ((KaQ a0 x118.gName).bind fun x120 => ((KaQ a1 x118.gName).bind fun x122 => (Option.bind (α := Bool) (bif (!(x120.2 == x122.2)) then some true else (bif (!(x120.1.gPtr == x122.1.gPtr)) then some true else some (x120.1.gSize != x122.1.gSize))) fun y126 => (bif y126 then ((app 16 s85.1 ([x118.gName] : List ByteArray)).bind fun x130 => some (.next (x130, (IntKind.i64.wrap (s85.2 + (1 : Int)))))) else some (.next (s85.1, (IntKind.i64.wrap (s85.2 + (1 : Int)))))))))) else some (.done s85.1))) (([] : List ByteArray), (0 : Int))) fun y68 => ((Ka8 y68).bind fun x132 => some x132)))
theorem Ke0 (a0 : Kr) (a1 : Kr) (r : List ByteArray) (h0 : Kb5 a0 a1 = some r) : CallsD Try.prog 32 [Ku a0, Ku a1] [] [] (fun d h k => ∃ y0, d = .v (SL y0) ∧ h = [(0, Blk.row 1 (r.map eStr) (SL y0))] ∧ k = []) := by
 have hm := KF h0
 unfold Kb5 at hm
 clear h0
 refine KX htab Try.func32 rfl rfl rfl rfl rfl (fun C => ?_)
 refine Kk ?_
 refine p_box rfl rfl rfl rfl rfl rfl rfl (fun b1 => ?_)
 refine p_box rfl rfl rfl rfl rfl rfl rfl (fun b2 => ?_)
 refine pu ?_
 refine KM ?_
 refine pu ?_
 refine Kj ?_
 refine Ks ?_
 refine Kk ?_
 refine pu ?_
 refine pL 0 ?_
 refine pu ?_
 refine pL 1 ?_
 refine p_lit htab rfl rfl rfl rfl rfl rfl rfl rfl rfl rfl rfl rfl rfl rfl ?_
 refine p_eq (i := 16) (d' := .lst 1 (([a0.gGlobals, a1.gGlobals] : List (List KS)).map (eList 4 Kq)) .full) rfl (Wk.lst0 (.cons (WkC.refl _) (.cons (WkC.refl _) (.nil)))) ?_
 obtain ⟨x4, q4, hm⟩ := Kh hm
 refine Kct (Ka9 ([a0.gGlobals, a1.gGlobals] : List (List KS)) x4 q4) rfl rfl rfl rfl rfl (WkL.cons (Wk.no) Wl) Pf Pf ?_
 rintro _ _ _ ⟨w3, rfl, rfl, rfl⟩
 refine p_lenR 0 htab rfl rfl rfl rfl rfl rfl rfl rfl (by first | exact K7 | rfl) ?_
 refine pu ?_
 refine Kj ?_
 obtain ⟨y68, q68, ho68⟩ := Kh hm
 refine KaI (Y := Z3) (fun z68 => (⟨[(5, .v (SL z68))], [(0, Blk.row 1 (y68.map eStr) (SL z68))], []⟩ : S)) ?_ ?_
 ·clear hm; have hm := KF q68
  refine KN ?_
  refine K8 (Y := Unit) (S1 := fun _ => (⟨[(2, .ptr b1 0), (3, .ptr b2 0), (5, .lst 1 [] .full), (17, .lst 4 (x4.map Kq) (.cur (SL w3))), (18, .v (.int .i64 (x4.length : Int))), (19, .v (.int .i64 (0 : Int)))], [(b1, Blk.cells [.lst 4 (a0.gGlobals.map Kq) .no, .lst 5 (a0.gFuncs.map Kp) .no] 25), (b2, Blk.cells [.lst 4 (a1.gGlobals.map Kq) .no, .lst 5 (a1.gFuncs.map Kp) .no] 25)], [(4, (SL w3))]⟩ : S)) ?_ (fun _ => ?_)
  ·skip
   refine WkX.wk (WkS.frz 0 rfl rfl) ?_
   refine WkX.wk (WkS.tld 17 0 rfl rfl) ?_
   refine WkX.wk (WkS.drop 0 rfl) ?_
   exact WkX.of () (WkS.perm (WkS.cons rfl (Wk.refl _) (WkS.cons rfl (Wk.refl _) (WkS.cons rfl (Wk.refl _) (WkS.cons rfl (Wk.refl _) (WkS.cons rfl (Wk.refl _) (WkS.cons rfl (Wk.refl _) (WkS.nil))))))) Pf Pf)
  ·skip
   obtain ⟨u85, hl85, hq85⟩ := yes_m hm
   refine KaM (Y := Z3) hl85 (fun s85 z85 => (⟨[(2, .ptr b1 0), (3, .ptr b2 0), (5, .v (SL z85)), (17, .lst 4 (x4.map Kq) (.cur (SL w3))), (18, .v (.int .i64 (x4.length : Int))), (19, .v (.int .i64 s85.2))], [(0, Blk.row 1 (s85.1.map eStr) (SL z85)), (b1, Blk.cells [.lst 4 (a0.gGlobals.map Kq) .no, .lst 5 (a0.gFuncs.map Kp) .no] 25), (b2, Blk.cells [.lst 4 (a1.gGlobals.map Kq) .no, .lst 5 (a1.gFuncs.map Kp) .no] 25)], [(4, (SL w3))]⟩ : S)) ?_ ?_
   ·skip
    refine WkX.rowN (i := 5) 1 rfl (fun w116 => ?_)
    exact WkX.of w116 (WkS.perm (WkS.cons rfl (Wk.refl _) (WkS.cons rfl (Wk.refl _) (WkS.cons rfl (Wk.refl _) (WkS.cons rfl (Wk.refl _) (WkS.cons rfl (Wk.refl _) (WkS.cons rfl (Wk.refl _) (WkS.nil))))))) Pf Pf)
   ·intro G85 s85 z85 hm
    refine Kk ?_
    refine pu ?_
    refine Kj ?_
    refine Ks ?_
    refine KH rfl (fun hc117 => ?_) (fun hc117 => ?_)
    ·replace hm := yes_t hc117 hm
     refine KI ?_
     refine Ke ?_
     refine Ks ?_
     refine KN ?_
     refine Kk ?_
     obtain ⟨x118, q118, hm⟩ := Kh hm
     refine Kaz htab rfl rfl rfl rfl rfl rfl rfl rfl rfl rfl (KV q118) (K9 q118) ?_
     refine Kad (d := Kq x118) htab rfl rfl rfl rfl rfl rfl rfl rfl ?_
     refine K5 htab rfl rfl rfl rfl rfl rfl rfl (fun b119 => ?_)
     refine pS3 (ds' := [.v (.string x118.gName), .v (.bool x118.gPtr), .v (.int .i64 x118.gSize), .v (.int .i64 x118.gAt)]) ?_
     refine KM ?_
     refine Kav (d := Ku a0) 1 htab rfl rfl rfl rfl rfl rfl rfl rfl ?_
     refine pu ?_
     refine pL 3 ?_
     obtain ⟨x120, q120, hm⟩ := Kh hm
     refine Kai (KbO a0 x118.gName x120 q120) rfl rfl rfl rfl rfl Wl ?_
     rintro _ rfl
     iterate 3 refine pu ?_
     refine K5 htab rfl rfl rfl rfl rfl rfl rfl (fun b121 => ?_)
     refine pS4 (ds' := [.v (.string x120.1.gName), .v (.bool x120.1.gPtr), .v (.int .i64 x120.1.gSize), .v (.int .i64 x120.1.gAt)]) ?_
     refine pu ?_
     refine KM ?_
     refine Kav (d := Ku a1) 2 htab rfl rfl rfl rfl rfl rfl rfl rfl ?_
     refine pu ?_
     refine pL 3 ?_
     obtain ⟨x122, q122, hm⟩ := Kh hm
     refine Kai (KbO a1 x118.gName x122 q122) rfl rfl rfl rfl rfl Wl ?_
     rintro _ rfl
     iterate 3 refine pu ?_
     refine K5 htab rfl rfl rfl rfl rfl rfl rfl (fun b123 => ?_)
     refine pS5 (ds' := [.v (.string x122.1.gName), .v (.bool x122.1.gPtr), .v (.int .i64 x122.1.gSize), .v (.int .i64 x122.1.gAt)]) ?_
     refine pu ?_
     refine Kj ?_
     refine Ks ?_
     obtain ⟨y126, q126, ho126⟩ := Kh hm
     refine KaI (Y := Unit) (fun z126 => (⟨[(2, .ptr b1 0), (3, .ptr b2 0), (5, .v (SL z85)), (7, .ptr b119 0), (17, .lst 4 (x4.map Kq) (.cur (SL w3))), (18, .v (.int .i64 (x4.length : Int))), (19, .v (.int .i64 s85.2)), (53, .v (.bool y126))], [(0, Blk.row 1 (s85.1.map eStr) (SL z85)), (b1, Blk.cells [.lst 4 (a0.gGlobals.map Kq) .no, .lst 5 (a0.gFuncs.map Kp) .no] 25), (b2, Blk.cells [.lst 4 (a1.gGlobals.map Kq) .no, .lst 5 (a1.gFuncs.map Kp) .no] 25), (b119, Blk.cells [.v (.string x118.gName), .v (.bool x118.gPtr), .v (.int .i64 x118.gSize), .v (.int .i64 x118.gAt)] 105)], [(4, (SL w3))]⟩ : S)) ?_ ?_
     ·clear hm; have hm := KF q126
      refine Kz ?_
      iterate 4 refine pu ?_
      refine Ka0 (i := 40) rfl (fun hg127 => ?_) (fun hg127 => ?_)
      ·replace hm := yes_t hg127 hm
       iterate 5 refine pK ?_
       refine KaE rfl rfl rfl rfl rfl rfl ?_
       refine pu ?_
       iterate 5 refine pK ?_
       refine KaE rfl rfl rfl rfl rfl rfl ?_
       refine KG ?_
       have e126 := Ko hm; subst e126
       refine ⟨rfl, ?_⟩
       exact WkX.of () (WkS.perm (WkS.cons rfl (Wk.refl _) (WkS.cons rfl (Wk.refl _) (WkS.cons rfl (Wk.refl _) (WkS.cons rfl (Wk.refl _) (WkS.cons rfl (Wk.refl _) (WkS.cons rfl (Wk.refl _) (WkS.cons rfl (Wk.refl _) (WkS.cons rfl (Wk.refl _) (WkS.nil))))))))) Pf Pf)
      ·replace hm := yes_f hg127 hm
       refine pu ?_
       refine pL 4 ?_
       refine pu ?_
       refine pL 5 ?_
       refine pu ?_
       refine Kan rfl rfl rfl rfl rfl rfl ?_
       refine pu ?_
       refine Ka0 (i := 47) rfl (fun hg128 => ?_) (fun hg128 => ?_)
       ·replace hm := yes_t hg128 hm
        iterate 5 refine pK ?_
        refine KaE rfl rfl rfl rfl rfl rfl ?_
        refine KG ?_
        have e126 := Ko hm; subst e126
        refine ⟨rfl, ?_⟩
        exact WkX.of () (WkS.perm (WkS.cons rfl (Wk.refl _) (WkS.cons rfl (Wk.refl _) (WkS.cons rfl (Wk.refl _) (WkS.cons rfl (Wk.refl _) (WkS.cons rfl (Wk.refl _) (WkS.cons rfl (Wk.refl _) (WkS.cons rfl (Wk.refl _) (WkS.cons rfl (Wk.refl _) (WkS.nil))))))))) Pf Pf)
       ·replace hm := yes_f hg128 hm
        refine pu ?_
        refine pL 4 ?_
        refine pu ?_
        refine pL 5 ?_
        refine pu ?_
        refine Kan rfl rfl rfl rfl rfl rfl ?_
        refine KG ?_
        have e126 := Ko hm; subst e126
        refine ⟨rfl, ?_⟩
        exact WkX.of () (WkS.perm (WkS.cons rfl (Wk.refl _) (WkS.cons rfl (Wk.refl _) (WkS.cons rfl (Wk.refl _) (WkS.cons rfl (Wk.refl _) (WkS.cons rfl (Wk.refl _) (WkS.cons rfl (Wk.refl _) (WkS.cons rfl (Wk.refl _) (WkS.cons rfl (Wk.refl _) (WkS.nil))))))))) Pf Pf)
     ·intro s126 hw126; clear hm; have hm := ho126; clear q126 ho126
      refine Ke ?_
      refine K8 hw126 (fun z126 => ?_)
      refine KH rfl (fun hc129 => ?_) (fun hc129 => ?_)
      ·replace hm := yes_t hc129 hm
       refine Kz ?_
       refine pu ?_
       refine pu ?_
       refine pL 3 ?_
       refine p_lit htab rfl rfl rfl rfl rfl rfl rfl rfl rfl rfl rfl rfl rfl rfl ?_
       refine p_eq (i := 57) (d' := .lst 1 (([x118.gName] : List ByteArray).map eStr) .full) rfl (Wk.lst0 (.cons (WkC.refl _) (.nil))) ?_
       obtain ⟨x130, q130, hm⟩ := Kh hm
       refine KcN 0 htab rfl rfl rfl rfl rfl rfl rfl rfl rfl rfl rfl rfl rfl rfl rfl rfl (Kbx q130) (Kcs q130) (fun v130 => ?_)
       refine pu ?_
       refine KG ?_
       refine KR ?_
       refine Ke ?_
       refine Kz ?_
       refine pu ?_
       refine pu ?_
       refine KG ?_
       refine Ke ⟨_, Kab hm, ?_⟩
       exact WkX.of v130 (WkS.perm (WkS.cons rfl (Wk.refl _) (WkS.cons rfl (Wk.refl _) (WkS.cons rfl (Wk.refl _) (WkS.cons rfl (Wk.refl _) (WkS.cons rfl (Wk.refl _) (WkS.cons rfl (Wk.refl _) (WkS.nil))))))) Pf Pf)
      ·replace hm := yes_f hc129 hm
       refine KI ?_
       refine KR ?_
       refine Ke ?_
       refine Kz ?_
       refine pu ?_
       refine pu ?_
       refine KG ?_
       refine Ke ⟨_, Kab hm, ?_⟩
       exact WkX.of z85 (WkS.perm (WkS.cons rfl (Wk.refl _) (WkS.cons rfl (Wk.refl _) (WkS.cons rfl (Wk.refl _) (WkS.cons rfl (Wk.refl _) (WkS.cons rfl (Wk.refl _) (WkS.cons rfl (Wk.refl _) (WkS.nil))))))) Pf Pf)
    ·replace hm := yes_f hc117 hm
     refine Kak ?_
     refine KO ?_
     have e85 := Kaa hm; subst e85; clear hm; have hm := hq85
     refine KO ?_
     refine Kae ?_
     have e68 := Ko hm; subst e68
     refine ⟨rfl, ?_⟩
     exact WkX.of z85 (WkS.perm (WkS.cons rfl (Wk.refl _) (WkS.nil)) Pf Pf)
 ·intro s68 hw68; clear hm; have hm := ho68; clear q68 ho68
  refine Ke ?_
  refine K8 hw68 (fun z68 => ?_)
  refine Kk ?_
  refine pu ?_
  obtain ⟨x132, q132, hm⟩ := Kh hm
  refine pG (KbN y68 z68 x132 q132) Wl Pf Pf ?_
  rintro _ _ _ ⟨w131, rfl, rfl, rfl⟩
  refine pu ?_
  refine Kj ?_
  refine KA ?_
  have er133 := Ko hm; subst er133
  refine rP (t' := [(4, .v (SL w131))]) [0] [] 1 (wC wN) (lT lN) ?_
  exact ⟨w131, rfl, rfl, rfl⟩
noncomputable def KcG (a0 : Kr) (a1 : Kr) : Option (Kbz) :=
 ((Kcw a0 a1).bind fun x5 => ((Kb5 a0 a1).bind fun x11 => some (⟨x5, x11⟩ : Kbz)))
theorem KgQ (a0 : Kr) (a1 : Kr) (r : Kbz) (h0 : KcG a0 a1 = some r) : CallsD Try.prog 16 [Ku a0, Ku a1] [] [] (fun d h k => ∃ y0 y1, d = .agg [.v (SL y0), .v (SL y1)] ∧ h = [(0, Blk.row 1 (r.gFuncs.map eStr) (SL y0)), (0, Blk.row 1 (r.gGlobals.map eStr) (SL y1))] ∧ k = []) := by
 have hm := KF h0
 unfold KcG at hm
 clear h0
 refine KX htab Try.func16 rfl rfl rfl rfl rfl (fun C => ?_)
 refine Kk ?_
 refine p_box rfl rfl rfl rfl rfl rfl rfl (fun b1 => ?_)
 refine p_box rfl rfl rfl rfl rfl rfl rfl (fun b2 => ?_)
 refine K5 htab rfl rfl rfl rfl rfl rfl rfl (fun b3 => ?_)
 refine Kj ?_
 refine Ks ?_
 obtain ⟨x5, q5, hm⟩ := Kh hm
 refine wpD_drawsR 5 [] [(2, 1, x5.map eStr)] [[],[],[0,1],[],[]] [0,1,2,3,4] [[],[],[0,1],[],[],[0,1,2,3,4],[0,1,2,3,4,5],[0,1,2,3,4,5,6]] (by kernel_rfl) (by kernel_rfl) (by kernel_rfl) (by rfl) (by rfl) (by kernel_rfl) ?_
 apply Exists.intro
 apply Exists.intro
 refine ⟨.any, ?_⟩
 apply Exists.intro
 apply Exists.intro
 intro bs
 refine zr_eM rfl rfl (Kat (d := Ku a0) 0 htab rfl rfl rfl rfl rfl) rfl rfl rfl rfl rfl rfl rfl ?_
 refine zr_eM rfl rfl (Kat (d := Ku a1) 1 htab rfl rfl rfl rfl rfl) rfl rfl rfl rfl rfl rfl rfl ?_
 refine zr_callR rfl rfl (KfI a0 a1 x5 q5) rfl rfl Wl rfl rfl rfl rfl rfl (by simp) (by simp) ?_
 refine zr_eM rfl rfl (Kat (d := Ku a0) 0 htab rfl rfl rfl rfl rfl) rfl rfl rfl rfl rfl rfl rfl ?_
 refine zr_eM rfl rfl (Kat (d := Ku a1) 1 htab rfl rfl rfl rfl rfl) rfl rfl rfl rfl rfl rfl rfl ?_
 refine zr_nil (fun e he => by simp [isR] at he; subst he; rfl) rfl (by simp only [List.map_cons, List.map_nil, List.nil_append, List.append_nil, List.cons_append]; exact rfl) (fun e he => by simp [isAl] at he) (fun hz => ?_)
 obtain ⟨w9, hw9⟩ := hz 2 rfl
 simp only [hw9]
 clear hz hw9
 obtain ⟨x11, q11, hm⟩ := Kh hm
 refine pG (Ke0 a0 a1 x11 q11) Wl Pf Pf ?_
 rintro _ _ _ ⟨w10, rfl, rfl, rfl⟩
 refine KbJ (r := [.v (SL w9), .v (SL w10)]) htab rfl rfl rfl rfl rfl rfl rfl rfl rfl ?_
 refine pS3 (ds' := [.v (SL w9), .v (SL w10)]) ?_
 refine Kj ?_
 refine KA ?_
 have er12 := Ko hm; subst er12
 refine rP (t' := [(4, .ptr b3 0)]) [4,0,2] [] 2 (wC wN) (lC 2 lN) ?_
 exact ⟨w9, w10, rfl, rfl, rfl⟩
noncomputable def Kco (a0 : List Kf) : Option (List ByteArray) :=
 ((Kdf a0 (⟨[]⟩ : Kg)).bind fun x5 => ((Ka4 x5).bind fun x7 => some x7.1))
theorem KgJ (a0 : List Kf) (r : List ByteArray) (h0 : Kco a0 = some r) : CallsD Try.prog 27 [.lst 7 (a0.map Km) .no] [] [] (fun d h k => ∃ y0, d = .v (SL y0) ∧ h = [(0, Blk.row 1 (r.map eStr) (SL y0))] ∧ k = []) := by
 have hm := KF h0
 unfold Kco at hm
 clear h0
 refine KX htab Try.func27 rfl rfl rfl rfl rfl (fun C => ?_)
 refine Kk ?_
 refine pu ?_
 refine KM ?_
 refine K5 htab rfl rfl rfl rfl rfl rfl rfl (fun b1 => ?_)
 refine KM ?_
 refine pu ?_
 refine K5 htab rfl rfl rfl rfl rfl rfl rfl (fun b2 => ?_)
 refine pS1 (ds' := [.fn (.func 43) [] [.ptr b1 0]]) ?_
 refine KM ?_
 iterate 3 refine pu ?_
 refine o_rowC (off := 0) 1 0 rfl rfl (fun w3 => ?_)
 obtain ⟨x5, q5, hm⟩ := Kh hm
 refine pG (KgP a0 (⟨[]⟩ : Kg) b2 88 b1 87 w3 x5 q5) Wl ((Kv (j := 2) rfl).trans (List.Perm.cons _ ((Kv (j := 1) rfl).trans (List.Perm.cons _ ((Kv (j := 0) rfl).trans (List.Perm.cons _ Pf)))))) Pf ?_
 rintro _ _ _ ⟨w4, rfl, rfl, rfl⟩
 refine KM ?_
 obtain ⟨x7, q7, hm⟩ := Kh hm
 refine pG (KdX x5 b1 87 w4 x7 q7) Wl ((Kv (j := 1) rfl).trans (List.Perm.cons _ ((Kv (j := 1) rfl).trans (List.Perm.cons _ Pf)))) Pf ?_
 rintro _ _ _ ⟨w6, rfl, rfl, rfl⟩
 refine pu ?_
 refine Kj ?_
 refine KA ?_
 have er8 := Ko hm; subst er8
 refine rP (t' := [(2, .v (SL w6))]) [1] [] 1 (wC wN) (lT lN) ?_
 exact ⟨w6, rfl, rfl, rfl⟩
noncomputable def Kay (a0 : List ByteArray) (m0 : List ByteArray) : Option (Int × List ByteArray) :=
 (Option.bind (α := (List ByteArray) ⊕ (Int × List ByteArray)) (loopM (fun (s25 : Int × List ByteArray) => (bif (decide (s25.1 < (a0.length : Int))) then ((idx a0 s25.1).bind fun x44 => ((KbF x44 s25.2).bind fun x45 => (bif x45 then some (.done (.inr (s25.1, s25.2))) else some (.next ((IntKind.i64.wrap (s25.1 + (1 : Int))), s25.2))))) else some (.done (.inl s25.2)))) ((0 : Int), m0)) (Sum.elim (fun y24 => some ((-1 : Int), y24)) (fun r => some r)))
theorem Kcx (a0 : List ByteArray) (m0 : List ByteArray) (o0 : Nat) (T0 : TypeId) (z0_0 : Z3) (r : Int × List ByteArray) (h0 : Kay a0 m0 = some r) : CallsD Try.prog 49 [.lst 1 (a0.map eStr) .no, .fn (.func 29) [] [.ptr o0 0]] [(o0, Blk.cells [.v (SL z0_0)] T0), (0, Blk.row 1 (m0.map eStr) (SL z0_0))] [] (fun d h k => ∃ y0, d = .v (.int .i64 r.1) ∧ h = [(o0, Blk.cells [.lst 1 (r.2.map eStr) (.cur y0)] T0)] ∧ k = [(1, y0)]) := by
 have hm := KF h0
 unfold Kay at hm
 clear h0
 refine KX htab Try.func49 rfl rfl rfl rfl rfl (fun C => ?_)
 refine Kk ?_
 refine pu ?_
 refine Kj ?_
 refine Ks ?_
 refine Kk ?_
 refine pu ?_
 refine Kaw htab rfl rfl rfl rfl rfl rfl rfl (by first | exact K7 | rfl) ?_
 refine pu ?_
 refine Kj ?_
 obtain ⟨x24, q24, ho24⟩ := Kh hm
 refine Kci (τ := List ByteArray) (Y := Value) (fun y24 z24 => (⟨[], [(o0, Blk.cells [.lst 1 (y24.map eStr) (.cur z24)] T0)], [(1, z24)]⟩ : S)) x24 ?_ ?_
 ·clear hm; have hm := KF q24
  refine KN ?_
  obtain ⟨u25, hl25, hq25⟩ := yes_m hm
  refine KaM (Y := Value) hl25 (fun s25 z25 => (⟨[(0, .lst 1 (a0.map eStr) .no), (1, .fn (.func 29) [] [.ptr o0 0]), (7, .v (.int .i64 (a0.length : Int))), (8, .v (.int .i64 s25.1))], [(o0, Blk.cells [.lst 1 (s25.2.map eStr) (.cur z25)] T0)], [(1, z25)]⟩ : S)) ?_ ?_
  ·skip
   refine WkX.wk (WkS.frz 1 rfl rfl) ?_
   refine WkX.wk (WkS.tldC (off := 0) 0 1 rfl rfl rfl rfl) ?_
   refine WkX.wk (WkS.drop 1 rfl) ?_
   exact WkX.of (SL z0_0) (WkS.perm (WkS.cons rfl (Wk.refl _) (WkS.cons rfl (Wk.refl _) (WkS.cons rfl (Wk.refl _) (WkS.cons rfl (Wk.refl _) (WkS.nil))))) Pf Pf)
  ·intro G25 s25 z25 hm
   refine Kk ?_
   refine pu ?_
   refine Kj ?_
   refine Ks ?_
   refine KH rfl (fun hc43 => ?_) (fun hc43 => ?_)
   ·replace hm := yes_t hc43 hm
    refine KI ?_
    refine Ke ?_
    refine Ks ?_
    refine KN ?_
    refine Kk ?_
    refine pu ?_
    refine pu ?_
    refine KM ?_
    iterate 3 refine pu ?_
    obtain ⟨x44, q44, hm⟩ := Kh hm
    refine Kaz htab rfl rfl rfl rfl rfl rfl rfl rfl rfl rfl (KV q44) (K9 q44) ?_
    refine Kad htab rfl rfl rfl rfl rfl rfl rfl rfl ?_
    obtain ⟨x45, q45, hm⟩ := Kh hm
    refine Kca (KeZ x44 s25.2 o0 T0 (.cur z25) x45 q45) rfl rfl rfl rfl rfl rfl rfl Wl Pf Pf ?_
    rintro _ _ _ ⟨rfl, rfl, rfl⟩
    refine Kj ?_
    refine KH rfl (fun hc46 => ?_) (fun hc46 => ?_)
    ·replace hm := yes_t hc46 hm
     refine Kk ?_
     refine pu ?_
     refine pu ?_
     refine Kj ?_
     refine KA ?_
     refine KaD ?_
     refine KT ?_
     have e25 := Kaa hm; subst e25; clear hm; have hm := hq25
     refine KT ?_
     refine KaD ?_
     have e24 := Ko hm; subst e24; refine Kck ?_; clear hm; have hm := ho24; simp only [Sum.elim_inr] at hm
     refine KT ?_
     have er47 := Ko hm; subst er47
     refine rP (t' := [(4, .v (.int .i64 s25.1))]) [0] [0] 1 (wC wN) (lT lN) ?_
     exact ⟨z25, rfl, rfl, rfl⟩
    ·replace hm := yes_f hc46 hm
     refine KI ?_
     refine KR ?_
     refine Ke ?_
     refine Kz ?_
     refine pu ?_
     refine pu ?_
     refine KG ?_
     refine Ke ⟨_, Kab hm, ?_⟩
     exact WkX.of z25 (WkS.perm (WkS.cons rfl (Wk.refl _) (WkS.cons rfl (Wk.refl _) (WkS.cons rfl (Wk.refl _) (WkS.cons rfl (Wk.refl _) (WkS.nil))))) Pf Pf)
   ·replace hm := yes_f hc43 hm
    refine Kak ?_
    refine KO ?_
    have e25 := Kaa hm; subst e25; clear hm; have hm := hq25
    refine KO ?_
    refine Kae ?_
    have e24 := Ko hm; subst e24
    refine Kcj ?_
    exact WkX.of z25 (WkS.perm (WkS.nil) Pf Pf)
 ·intro y24 s24 hx24 hw24; subst hx24; clear hm; have hm := ho24; simp only [Sum.elim_inl] at hm; clear q24 ho24
  refine Ke ?_
  refine K8 hw24 (fun z24 => ?_)
  refine Kk ?_
  refine pu ?_
  refine Kj ?_
  refine KA ?_
  have er48 := Ko hm; subst er48
  refine rP (t' := [(4, .v (.int .i64 (-1 : Int)))]) [0] [0] 1 (wC wN) (lT lN) ?_
  exact ⟨z24, rfl, rfl, rfl⟩
noncomputable def Kac (a0 : List ByteArray) (m0 : List ByteArray) : Option (Bool × List ByteArray) :=
 ((Kay a0 m0).bind fun x2 => some ((decide ((0 : Int) ≤ x2.1)), x2.2))
theorem Kcd (a0 : List ByteArray) (m0 : List ByteArray) (o0 : Nat) (T0 : TypeId) (z0_0 : Z3) (r : Bool × List ByteArray) (h0 : Kac a0 m0 = some r) : CallsD Try.prog 28 [.lst 1 (a0.map eStr) .no, .fn (.func 29) [] [.ptr o0 0]] [(o0, Blk.cells [.v (SL z0_0)] T0), (0, Blk.row 1 (m0.map eStr) (SL z0_0))] [] (fun d h k => ∃ y0, d = .v (.bool r.1) ∧ h = [(o0, Blk.cells [.lst 1 (r.2.map eStr) (.cur y0)] T0)] ∧ k = [(1, y0)]) := by
 have hm := KF h0
 unfold Kac at hm
 clear h0
 refine KX htab Try.func28 rfl rfl rfl rfl rfl (fun C => ?_)
 refine Kk ?_
 refine pu ?_
 refine KM ?_
 refine pu ?_
 refine pu ?_
 obtain ⟨x2, q2, hm⟩ := Kh hm
 refine pG (Kcx a0 m0 o0 T0 z0_0 x2 q2) Wl Pf Pf ?_
 rintro _ _ _ ⟨w1, rfl, rfl, rfl⟩
 refine pu ?_
 refine pu ?_
 refine Kj ?_
 refine KA ?_
 have er3 := Ko hm; subst er3
 refine rP (t' := [(4, .v (.bool (decide ((0 : Int) ≤ x2.1))))]) [0] [0] 1 (wC wN) (lT lN) ?_
 exact ⟨w1, rfl, rfl, rfl⟩
noncomputable def KbD (a0 : Kr) (a1 : Kr) : Option (List ByteArray) :=
 ((KcG a0 a1).bind fun x5 => ((K0 ([a0.gFuncs, a1.gFuncs] : List (List KB))).bind fun x8 => (Option.bind (α := List ByteArray) (loopM (fun (s79 : Int × List ByteArray) => (bif (decide (s79.1 < (x8.length : Int))) then ((idx x8 s79.1).bind fun x114 => ((Kco x114.gBody).bind fun x117 => ((Kac x5.gGlobals x117).bind fun x120 => (bif x120.1 then ((app 16 s79.2 ([x114.gName] : List ByteArray)).bind fun x122 => some (.next ((IntKind.i64.wrap (s79.1 + (1 : Int))), x122))) else some (.next ((IntKind.i64.wrap (s79.1 + (1 : Int))), s79.2)))))) else some (.done s79.2))) ((0 : Int), x5.gFuncs)) fun y66 => ((Ka8 y66).bind fun x124 => some x124))))
theorem KfJ (a0 : Kr) (a1 : Kr) (r : List ByteArray) (h0 : KbD a0 a1 = some r) : CallsD Try.prog 15 [Ku a0, Ku a1] [] [] (fun d h k => ∃ y0, d = .lst 1 (r.map eStr) (.cur y0) ∧ h = [] ∧ k = [(1, y0)]) := by
 have hm := KF h0
 unfold KbD at hm
 clear h0
 refine KX htab Try.func15 rfl rfl rfl rfl rfl (fun C => ?_)
 refine Kk ?_
 refine p_box rfl rfl rfl rfl rfl rfl rfl (fun b1 => ?_)
 refine p_box rfl rfl rfl rfl rfl rfl rfl (fun b2 => ?_)
 refine pu ?_
 refine KM ?_
 refine Kav (d := Ku a0) 0 htab rfl rfl rfl rfl rfl rfl rfl rfl ?_
 refine Kav (d := Ku a1) 1 htab rfl rfl rfl rfl rfl rfl rfl rfl ?_
 obtain ⟨x5, q5, hm⟩ := Kh hm
 refine pG (KgQ a0 a1 x5 q5) Wl Pf Pf ?_
 rintro _ _ _ ⟨w3, w4, rfl, rfl, rfl⟩
 refine K5 htab rfl rfl rfl rfl rfl rfl rfl (fun b6 => ?_)
 refine pS4 (ds' := [.v (SL w3), .v (SL w4)]) ?_
 refine KM ?_
 refine pu ?_
 refine pL 4 ?_
 refine pu ?_
 refine Kj ?_
 refine Ks ?_
 refine Kk ?_
 refine pu ?_
 refine pL 2 ?_
 refine pu ?_
 refine pL 3 ?_
 refine p_lit htab rfl rfl rfl rfl rfl rfl rfl rfl rfl rfl rfl rfl rfl rfl ?_
 refine p_eq (i := 19) (d' := .lst 1 (([a0.gFuncs, a1.gFuncs] : List (List KB)).map (eList 5 Kp)) .full) rfl (Wk.lst0 (.cons (WkC.refl _) (.cons (WkC.refl _) (.nil)))) ?_
 obtain ⟨x8, q8, hm⟩ := Kh hm
 refine Kct (KaG ([a0.gFuncs, a1.gFuncs] : List (List KB)) x8 q8) rfl rfl rfl rfl rfl (WkL.cons (Wk.no) Wl) Pf Pf ?_
 rintro _ _ _ ⟨w7, rfl, rfl, rfl⟩
 refine p_lenR 0 htab rfl rfl rfl rfl rfl rfl rfl rfl (by first | exact K7 | rfl) ?_
 refine pu ?_
 refine Kj ?_
 obtain ⟨y66, q66, ho66⟩ := Kh hm
 refine KaI (Y := Z3) (fun z66 => (⟨[(6, .v (SL z66))], [(0, Blk.row 1 (y66.map eStr) (SL z66))], []⟩ : S)) ?_ ?_
 ·clear hm; have hm := KF q66
  refine KN ?_
  refine K8 (Y := Unit) (S1 := fun _ => (⟨[(5, .ptr b6 0), (6, .v (SL w3)), (20, .lst 5 (x8.map Kp) (.cur (SL w7))), (21, .v (.int .i64 (x8.length : Int))), (22, .v (.int .i64 (0 : Int)))], [(0, Blk.row 1 (x5.gFuncs.map eStr) (SL w3)), (b1, Blk.cells [.lst 4 (a0.gGlobals.map Kq) .no, .lst 5 (a0.gFuncs.map Kp) .no] 25), (b2, Blk.cells [.lst 4 (a1.gGlobals.map Kq) .no, .lst 5 (a1.gFuncs.map Kp) .no] 25), (b6, Blk.cells [.v (SL w3), .lst 1 (x5.gGlobals.map eStr) (.cur (SL w4))] 58)], [(5, (SL w7)), (1, (SL w4))]⟩ : S)) ?_ (fun _ => ?_)
  ·skip
   refine WkX.wk (WkS.frz 0 rfl rfl) ?_
   refine WkX.wk (WkS.tld 20 0 rfl rfl) ?_
   refine WkX.wk (WkS.drop 0 rfl) ?_
   refine WkX.wk (WkS.frz 1 rfl rfl) ?_
   refine WkX.wk (WkS.tldC (off := 1) 4 1 rfl rfl rfl rfl) ?_
   refine WkX.wk (WkS.drop 1 rfl) ?_
   exact WkX.of () (WkS.perm (WkS.cons rfl (Wk.refl _) (WkS.cons rfl (Wk.refl _) (WkS.cons rfl (Wk.refl _) (WkS.cons rfl (Wk.refl _) (WkS.cons rfl (Wk.refl _) (WkS.nil)))))) Pf ((Kv (j := 1) rfl).trans (List.Perm.cons _ ((Kv (j := 0) rfl).trans (List.Perm.cons _ Pf)))))
  ·skip
   obtain ⟨u79, hl79, hq79⟩ := yes_m hm
   refine KaM (Y := Z3) hl79 (fun s79 z79 => (⟨[(5, .ptr b6 0), (6, .v (SL z79)), (20, .lst 5 (x8.map Kp) (.cur (SL w7))), (21, .v (.int .i64 (x8.length : Int))), (22, .v (.int .i64 s79.1))], [(0, Blk.row 1 (s79.2.map eStr) (SL z79)), (b6, Blk.cells [.any, .lst 1 (x5.gGlobals.map eStr) (.cur (SL w4))] 58)], [(5, (SL w7)), (1, (SL w4))]⟩ : S)) ?_ ?_
   ·skip
    refine WkX.wk (WkS.bl3 (ds' := [.any, .lst 1 (x5.gGlobals.map eStr) (.cur (SL w4))]) (WkR.cons (WkC.any) rfl (rC WkR.nil))) ?_
    exact WkX.of w3 (WkS.perm (WkS.cons rfl (Wk.refl _) (WkS.cons rfl (Wk.refl _) (WkS.cons rfl (Wk.refl _) (WkS.cons rfl (Wk.refl _) (WkS.cons rfl (Wk.refl _) (WkS.nil)))))) ((Kv (j := 0) rfl).trans (List.Perm.cons _ ((Kv (j := 2) rfl).trans (List.Perm.cons _ Pf)))) Pf)
   ·intro G79 s79 z79 hm
    refine Kk ?_
    refine pu ?_
    refine Kj ?_
    refine Ks ?_
    refine KH rfl (fun hc113 => ?_) (fun hc113 => ?_)
    ·replace hm := yes_t hc113 hm
     refine KI ?_
     refine Ke ?_
     refine Ks ?_
     refine KN ?_
     refine Kk ?_
     obtain ⟨x114, q114, hm⟩ := Kh hm
     refine Kaz htab rfl rfl rfl rfl rfl rfl rfl rfl rfl rfl (KV q114) (K9 q114) ?_
     refine Kad (d := Kp x114) htab rfl rfl rfl rfl rfl rfl rfl rfl ?_
     refine K5 htab rfl rfl rfl rfl rfl rfl rfl (fun b115 => ?_)
     refine pS2 (ds' := [.v (.string x114.gName), .lst 2 (x114.gParams.map KW) .no, .lst 2 (x114.gLocals.map KW) .no, .lst 7 (x114.gBody.map Km) .no, .v (.int .i64 x114.gAt)]) ?_
     refine KM ?_
     refine pu ?_
     refine pL 2 ?_
     obtain ⟨x117, q117, hm⟩ := Kh hm
     refine pG (KgJ x114.gBody x117 q117) Wl Pf Pf ?_
     rintro _ _ _ ⟨w116, rfl, rfl, rfl⟩
     refine K5 htab rfl rfl rfl rfl rfl rfl rfl (fun b118 => ?_)
     refine pS4 (ds' := [.v (SL w116)]) ?_
     refine KM ?_
     refine pu ?_
     refine pL 2 ?_
     refine pu ?_
     obtain ⟨x120, q120, hm⟩ := Kh hm
     refine Kct (Kcd x5.gGlobals x117 b118 55 w116 x120 q120) rfl rfl rfl rfl rfl (WkL.cons (Wk.no) (WkL.cons (Wk.refl _) Wl)) ((Kv (j := 4) rfl).trans (List.Perm.cons _ ((Kv (j := 0) rfl).trans (List.Perm.cons _ Pf)))) Pf ?_
     rintro _ _ _ ⟨w119, rfl, rfl, rfl⟩
     refine Kj ?_
     refine KH rfl (fun hc121 => ?_) (fun hc121 => ?_)
     ·replace hm := yes_t hc121 hm
      refine Kz ?_
      refine pu ?_
      refine pu ?_
      refine pL 3 ?_
      refine p_lit htab rfl rfl rfl rfl rfl rfl rfl rfl rfl rfl rfl rfl rfl rfl ?_
      refine p_eq (i := 36) (d' := .lst 1 (([x114.gName] : List ByteArray).map eStr) .full) rfl (Wk.lst0 (.cons (WkC.refl _) (.nil))) ?_
      obtain ⟨x122, q122, hm⟩ := Kh hm
      refine KcN 1 htab rfl rfl rfl rfl rfl rfl rfl rfl rfl rfl rfl rfl rfl rfl rfl rfl (Kbx q122) (Kcs q122) (fun v122 => ?_)
      refine pu ?_
      refine KG ?_
      refine KR ?_
      refine Ke ?_
      refine Kz ?_
      refine pu ?_
      refine pu ?_
      refine KG ?_
      refine Ke ⟨_, Kab hm, ?_⟩
      exact WkX.of v122 (WkS.perm (WkS.cons rfl (Wk.refl _) (WkS.cons rfl (Wk.refl _) (WkS.cons rfl (Wk.refl _) (WkS.cons rfl (Wk.refl _) (WkS.cons rfl (Wk.refl _) (WkS.nil)))))) ((Kv (j := 1) rfl).trans (List.Perm.cons _ ((Kv (j := 1) rfl).trans (List.Perm.cons _ Pf)))) ((Kv (j := 1) rfl).trans (List.Perm.cons _ ((Kv (j := 1) rfl).trans (List.Perm.cons _ Pf)))))
     ·replace hm := yes_f hc121 hm
      refine KI ?_
      refine KR ?_
      refine Ke ?_
      refine Kz ?_
      refine pu ?_
      refine pu ?_
      refine KG ?_
      refine Ke ⟨_, Kab hm, ?_⟩
      exact WkX.of z79 (WkS.perm (WkS.cons rfl (Wk.refl _) (WkS.cons rfl (Wk.refl _) (WkS.cons rfl (Wk.refl _) (WkS.cons rfl (Wk.refl _) (WkS.cons rfl (Wk.refl _) (WkS.nil)))))) ((Kv (j := 1) rfl).trans (List.Perm.cons _ ((Kv (j := 1) rfl).trans (List.Perm.cons _ Pf)))) ((Kv (j := 1) rfl).trans (List.Perm.cons _ ((Kv (j := 1) rfl).trans (List.Perm.cons _ Pf)))))
    ·replace hm := yes_f hc113 hm
     refine Kak ?_
     refine KO ?_
     have e79 := Kaa hm; subst e79; clear hm; have hm := hq79
     refine KO ?_
     refine Kae ?_
     have e66 := Ko hm; subst e66
     refine ⟨rfl, ?_⟩
     exact WkX.of z79 (WkS.perm (WkS.cons rfl (Wk.refl _) (WkS.nil)) Pf Pf)
 ·intro s66 hw66; clear hm; have hm := ho66; clear q66 ho66
  refine Ke ?_
  refine K8 hw66 (fun z66 => ?_)
  refine Kk ?_
  refine pu ?_
  obtain ⟨x124, q124, hm⟩ := Kh hm
  refine pG (KbN y66 z66 x124 q124) Wl Pf Pf ?_
  rintro _ _ _ ⟨w123, rfl, rfl, rfl⟩
  refine pu ?_
  refine Kj ?_
  refine KA ?_
  have er125 := Ko hm; subst er125
  refine retX.wk (WkS.frz 0 rfl rfl) ?_
  refine retX.wk (WkS.tld 4 0 rfl rfl) ?_
  refine retX.wk (WkS.tld 40 0 rfl rfl) ?_
  refine retX.wk (WkS.drop 0 rfl) ?_
  refine rP (t' := [(4, .lst 1 (x124.map eStr) (.cur (SL w123)))]) [] [0] 0 (wC wN) (lT lN) ?_
  exact ⟨(SL w123), rfl, rfl, rfl⟩
theorem Kfh (a0 : Kr) (a1 : Kr) (r : List ByteArray) (h0 : KbD a0 a1 = some r) : CallsD Try.prog 15 [Ku a0, Ku a1] [] [] (fun d h k => d = .lst 1 (r.map eStr) .no ∧ h = [] ∧ k = []) :=
 (KfJ a0 a1 r h0).drop fun d h k ⟨y0, e, _, _⟩ => by subst e; exact Wk.no
noncomputable def KcP (a0 : Ka) : Option (Ka) :=
 (bif (decide (a0.gNode < (0 : Int))) then some (⟨a0.gName, (-1 : Int)⟩ : Ka) else some a0)
theorem Kfi (a0 : Ka) (r : Ka) (h0 : KcP a0 = some r) : CallsD Try.prog 14 [Kb a0] [] [] (fun d h k => d = Kb r ∧ h = [] ∧ k = []) := by
 have hm := KF h0
 unfold KcP at hm
 clear h0
 refine KX htab Try.func14 rfl rfl rfl rfl rfl (fun C => ?_)
 refine Kk ?_
 refine p_box rfl rfl rfl rfl rfl rfl rfl (fun b1 => ?_)
 refine K5 htab rfl rfl rfl rfl rfl rfl rfl (fun b2 => ?_)
 refine Kj ?_
 refine Ks ?_
 refine Kk ?_
 refine pu ?_
 refine pL 0 ?_
 refine pu ?_
 refine Kj ?_
 refine KH rfl (fun hc3 => ?_) (fun hc3 => ?_)
 ·replace hm := yes_t hc3 hm
  refine Kk ?_
  refine pu ?_
  refine pL 0 ?_
  refine KbJ (r := [.v (.string a0.gName), .v (.int .i64 (-1 : Int))]) htab rfl rfl rfl rfl rfl rfl rfl rfl rfl ?_
  refine pS1 (ds' := [.v (.string a0.gName), .v (.int .i64 (-1 : Int))]) ?_
  refine Kj ?_
  refine KA ?_
  refine KT ?_
  have er4 := Ko hm; subst er4
  refine rP (t' := [(2, .ptr b2 0)]) [1] [] 0 (wC wN) (lC 0 lN) ?_
  exact ⟨rfl, rfl, rfl⟩
 ·replace hm := yes_f hc3 hm
  refine KI ?_
  refine Ke ?_
  refine Kk ?_
  refine Kav (d := Kb a0) 0 htab rfl rfl rfl rfl rfl rfl rfl rfl ?_
  refine pS1 (ds' := [.v (.string a0.gName), .v (.int .i64 a0.gNode)]) ?_
  refine Kj ?_
  refine KA ?_
  have er5 := Ko hm; subst er5
  refine rP (t' := [(2, .ptr b2 0)]) [1] [] 0 (wC wN) (lC 0 lN) ?_
  exact ⟨rfl, rfl, rfl⟩
structure KE where
 gX : Ka
 gY : Ka
def KJ (x : KE) : D := .agg [.v (.string x.gX.gName), .v (.int .i64 x.gX.gNode), .v (.string x.gY.gName), .v (.int .i64 x.gY.gNode)]
noncomputable def KfA (a0 : List KE) (a1 : Ka) (a2 : Ka) : Option (List KE) :=
 ((KcP a1).bind fun x3 => ((KcP a2).bind fun x4 => (Option.bind (α := List KE) (loopM (fun (s27 : List KE × Int) => (bif (decide (s27.2 < (a0.length : Int))) then ((idx a0 s27.2).bind fun x42 => (bif (!((decide (x42.gX.gName = x3.gName) && (x42.gX.gNode == x3.gNode && true)) && ((decide (x42.gY.gName = x4.gName) && (x42.gY.gNode == x4.gNode && true)) && true))) then ((idx a0 s27.2).bind fun x44 => ((app 48 s27.1 ([x44] : List KE)).bind fun x45 => some (.next (x45, (IntKind.i64.wrap (s27.2 + (1 : Int))))))) else some (.next (s27.1, (IntKind.i64.wrap (s27.2 + (1 : Int))))))) else some (.done s27.1))) (([] : List KE), (0 : Int))) fun y26 => ((app 48 y26 ([(⟨x3, x4⟩ : KE)] : List KE)).bind fun x46 => some x46))))
theorem r29_Add_ok (a0 : List KE) (a1 : Ka) (a2 : Ka) (r : List KE) (h0 : KfA a0 a1 a2 = some r) : CallsD Try.prog 9 [.lst 4 (a0.map KJ) .no, Kb a1, Kb a2] [] [] (fun d h k => ∃ y0, d = .lst 4 (r.map KJ) (.cur y0) ∧ h = [] ∧ k = [(4, y0)]) := by
 have hm := KF h0
 unfold KfA at hm
 clear h0
 refine KX htab Try.func9 rfl rfl rfl rfl rfl (fun C => ?_)
 refine Kk ?_
 refine p_box rfl rfl rfl rfl rfl rfl rfl (fun b1 => ?_)
 refine p_box rfl rfl rfl rfl rfl rfl rfl (fun b2 => ?_)
 refine pu ?_
 refine Kj ?_
 refine Ks ?_
 obtain ⟨x3, q3, hm⟩ := Kh hm
 obtain ⟨x4, q4, hm⟩ := Kh hm
 refine Kb0 6 [(5, [.v (.string ByteArray.empty), .v (.int .i64 (0 : Int)), .v (.string ByteArray.empty), .v (.int .i64 (0 : Int))], 41)] [[],[0],[],[0,1,2],[0,1,2,3],[]] [0,1,2,3,4,5] [[],[0],[],[0,1,2],[0,1,2,3],[],[0,1,2,3,4,5]] (by kernel_rfl) (by kernel_rfl) (by kernel_rfl) (by rfl) (by rfl) (by kernel_rfl) ?_
 iterate 5 apply Exists.intro
 refine ⟨.any, ?_⟩
 intro bs
 refine z_eM rfl rfl (Kat (d := Kb a1) 0 htab rfl rfl rfl rfl rfl) rfl rfl rfl rfl rfl rfl ?_
 refine z_call rfl rfl (Kfi a1 x3 q3) rfl rfl Wl rfl rfl rfl rfl rfl rfl ?_
 refine z_eM rfl rfl (Kat (d := Kb a2) 1 htab rfl rfl rfl rfl rfl) rfl rfl rfl rfl rfl rfl ?_
 refine z_call rfl rfl (Kfi a2 x4 q4) rfl rfl Wl rfl rfl rfl rfl rfl rfl ?_
 refine z_e rfl rfl (x_build (r := [.v (.string x3.gName), .v (.int .i64 x3.gNode), .v (.string x4.gName), .v (.int .i64 x4.gNode)]) htab rfl rfl rfl rfl rfl rfl) rfl rfl rfl rfl rfl rfl ?_
 refine z_alloc rfl htab rfl rfl rfl rfl rfl rfl rfl rfl (by simp [dOf, eI64]) (by simp) ?_
 refine z_nil rfl (by simp only [List.map_cons, List.map_nil]; exact rfl) (fun e he => by simp [isAl] at he; subst he; rfl) ?_
 obtain ⟨b5, hb5⟩ : ∃ b, bs 5 = b := ⟨_, rfl⟩
 simp only [hb5]
 clear hb5
 refine pS2 (ds' := [.v (.string x3.gName), .v (.int .i64 x3.gNode), .v (.string x4.gName), .v (.int .i64 x4.gNode)]) ?_
 refine KM ?_
 refine pu ?_
 refine Kj ?_
 refine Ks ?_
 refine Kk ?_
 refine pu ?_
 refine Kj ?_
 obtain ⟨y26, q26, ho26⟩ := Kh hm
 refine KaI (Y := Value) (fun z26 => (⟨[(7, .ptr b5 0), (8, .lst 4 (y26.map KJ) (.cur z26))], [(b5, Blk.cells [.v (.string x3.gName), .v (.int .i64 x3.gNode), .v (.string x4.gName), .v (.int .i64 x4.gNode)] 41)], [(4, z26)]⟩ : S)) ?_ ?_
 ·clear hm; have hm := KF q26
  refine KN ?_
  obtain ⟨u27, hl27, hq27⟩ := yes_m hm
  refine KaM (Y := Value) hl27 (fun s27 z27 => (⟨[(0, .lst 4 (a0.map KJ) .no), (7, .ptr b5 0), (8, .lst 4 (s27.1.map KJ) (.cur z27)), (9, .v (.int .i64 s27.2))], [(b5, Blk.cells [.v (.string x3.gName), .v (.int .i64 x3.gNode), .v (.string x4.gName), .v (.int .i64 x4.gNode)] 41)], [(4, z27)]⟩ : S)) ?_ ?_
  ·skip
   refine WkX.tokN (i := 8) 4 rfl (fun w40 => ?_)
   exact WkX.of w40 (WkS.perm (WkS.cons rfl (Wk.refl _) (WkS.cons rfl (Wk.refl _) (WkS.cons rfl (Wk.refl _) (WkS.cons rfl (Wk.refl _) (WkS.nil))))) ((Kv (j := 2) rfl).trans (List.Perm.cons _ Pf)) Pf)
  ·intro G27 s27 z27 hm
   refine Ks ?_
   refine Kk ?_
   refine pu ?_
   refine pu ?_
   refine Kaw htab rfl rfl rfl rfl rfl rfl rfl (by first | exact K7 | rfl) ?_
   refine pu ?_
   refine Kj ?_
   refine KH rfl (fun hc41 => ?_) (fun hc41 => ?_)
   ·replace hm := yes_t hc41 hm
    refine KI ?_
    refine Ke ?_
    refine Ks ?_
    refine KN ?_
    refine Ks ?_
    obtain ⟨x42, q42, hm⟩ := Kh hm
    refine Kb0 5 [] [[],[],[0],[0,2],[]] [0,2,3,4] [[],[],[0,1],[0,1,2],[],[0,1,2,3,4]] (by kernel_rfl) (by kernel_rfl) (by kernel_rfl) (by rfl) (by rfl) (by kernel_rfl) ?_
    iterate 4 apply Exists.intro
    intro bs
    refine zep ?_
    refine zqp ?_
    refine z_e rfl rfl (Kem htab rfl rfl rfl rfl rfl rfl rfl (KV q42) (K9 q42)) rfl rfl rfl rfl rfl rfl ?_
    refine z_eM rfl rfl (Kdi (d := KJ x42) htab rfl rfl rfl rfl rfl) rfl rfl rfl rfl rfl rfl ?_
    refine z_eM rfl rfl (Kat (d := KJ (⟨x3, x4⟩ : KE)) 0 htab rfl rfl rfl rfl rfl) rfl rfl rfl rfl rfl rfl ?_
    refine z_nil rfl rfl (fun e he => by simp [isAl] at he) ?_
    refine p_eqC eqn41 htab rfl rfl rfl rfl rfl eqs41 eqg41 rfl rfl rfl rfl ?_
    refine Kj ?_
    refine KH rfl (fun hc43 => ?_) (fun hc43 => ?_)
    ·replace hm := yes_t hc43 hm
     refine Kz ?_
     iterate 3 refine pu ?_
     obtain ⟨x44, q44, hm⟩ := Kh hm
     refine Kaz htab rfl rfl rfl rfl rfl rfl rfl rfl rfl rfl (KV q44) (K9 q44) ?_
     refine Kad (d := KJ x44) htab rfl rfl rfl rfl rfl rfl rfl rfl ?_
     refine p_lit htab rfl rfl rfl rfl rfl rfl rfl rfl rfl rfl rfl rfl rfl rfl ?_
     refine p_eq (i := 32) (d' := .lst 4 (([x44] : List KE).map KJ) .full) rfl (Wk.lst0 (.cons (WkC.refl _) (.nil))) ?_
     obtain ⟨x45, q45, hm⟩ := Kh hm
     refine p_appC 0 htab rfl rfl rfl rfl rfl rfl rfl rfl rfl rfl rfl rfl rfl rfl rfl rfl rfl (Kbx q45) (fun v45 => ?_)
     refine p_mapD (i := 33) q45 rfl ?_
     refine pu ?_
     refine KG ?_
     refine KR ?_
     refine Ke ?_
     refine Kz ?_
     iterate 3 refine pu ?_
     refine KG ?_
     refine Ke ⟨_, Kab hm, ?_⟩
     exact WkX.of v45 (WkS.perm (WkS.cons rfl (Wk.refl _) (WkS.cons rfl (Wk.refl _) (WkS.cons rfl (Wk.refl _) (WkS.cons rfl (Wk.refl _) (WkS.nil))))) Pf Pf)
    ·replace hm := yes_f hc43 hm
     refine KI ?_
     refine KR ?_
     refine Ke ?_
     refine Kz ?_
     iterate 3 refine pu ?_
     refine KG ?_
     refine Ke ⟨_, Kab hm, ?_⟩
     exact WkX.of z27 (WkS.perm (WkS.cons rfl (Wk.refl _) (WkS.cons rfl (Wk.refl _) (WkS.cons rfl (Wk.refl _) (WkS.cons rfl (Wk.refl _) (WkS.nil))))) Pf Pf)
   ·replace hm := yes_f hc41 hm
    refine Kak ?_
    refine KO ?_
    have e27 := Kaa hm; subst e27; clear hm; have hm := hq27
    refine KO ?_
    refine Kae ?_
    have e26 := Ko hm; subst e26
    refine ⟨rfl, ?_⟩
    exact WkX.of z27 (WkS.perm (WkS.cons rfl (Wk.refl _) (WkS.cons rfl (Wk.refl _) (WkS.nil))) Pf Pf)
 ·intro s26 hw26; clear hm; have hm := ho26; clear q26 ho26
  refine Ke ?_
  refine K8 hw26 (fun z26 => ?_)
  refine Kk ?_
  refine pu ?_
  refine Kav (d := KJ (⟨x3, x4⟩ : KE)) 0 htab rfl rfl rfl rfl rfl rfl rfl rfl ?_
  refine p_lit htab rfl rfl rfl rfl rfl rfl rfl rfl rfl rfl rfl rfl rfl rfl ?_
  refine p_eq (i := 36) (d' := .lst 4 (([(⟨x3, x4⟩ : KE)] : List KE).map KJ) .full) rfl (Wk.lst0 (.cons (WkC.refl _) (.nil))) ?_
  obtain ⟨x46, q46, hm⟩ := Kh hm
  refine p_appC 0 htab rfl rfl rfl rfl rfl rfl rfl rfl rfl rfl rfl rfl rfl rfl rfl rfl rfl (Kbx q46) (fun v46 => ?_)
  refine p_mapD (i := 37) q46 rfl ?_
  refine pu ?_
  refine Kj ?_
  refine KA ?_
  have er47 := Ko hm; subst er47
  refine rP (t' := [(6, .lst 4 (x46.map KJ) (.cur v46))]) [] [0] 0 (wC wN) (lT lN) ?_
  exact ⟨v46, rfl, rfl, rfl⟩
structure KaO where
 gP : Kr
 gQ : Kr
 gReads : List KE
 gAdds : List KE
 gKnown : List Ka
def KaH (x : KaO) : D := .agg [.lst 4 (x.gP.gGlobals.map Kq) .no, .lst 5 (x.gP.gFuncs.map Kp) .no, .lst 4 (x.gQ.gGlobals.map Kq) .no, .lst 5 (x.gQ.gFuncs.map Kp) .no, .lst 4 (x.gReads.map KJ) .no, .lst 4 (x.gAdds.map KJ) .no, .lst 2 (x.gKnown.map Kb) .no]
def KdY (x : KS) : Prop := x.gName.size ≤ maxLen ∧ (Lit.int .i64 x.gSize).wf = true ∧ (Lit.int .i64 x.gAt).wf = true
theorem KgR {n : Nat} {d : D} (g : GoodT tab n 105 d) : ∃ x : KS, d = Kq x ∧ KdY x := by
  obtain ⟨n', ds, _, rfl, hl, h⟩ := Kbn ti105 rfl g
  match ds, hl with
  | [d0, d1, d2, d3], _ =>
    obtain ⟨x1, rfl, w1⟩ := KcJ ti9 rfl (h 0 _ _ rfl rfl)
    obtain ⟨x2, rfl⟩ := Kha ti4 rfl (h 1 _ _ rfl rfl)
    obtain ⟨x3, rfl, w3⟩ := Kb3 ti3 rfl (h 2 _ _ rfl rfl)
    obtain ⟨x4, rfl, w4⟩ := Kb3 ti3 rfl (h 3 _ _ rfl rfl)
    exact ⟨⟨x1, x2, x3, x4⟩, rfl, w1, w3, w4⟩
def Kdm (x : Kbl) : Prop := x.gName.size ≤ maxLen
theorem KfV {n : Nat} {d : D} (g : GoodT tab n 118 d) : ∃ x : Kbl, d = KW x ∧ Kdm x := by
  obtain ⟨n', ds, _, rfl, hl, h⟩ := Kbn ti118 rfl g
  match ds, hl with
  | [d0, d1], _ =>
    obtain ⟨x1, rfl, w1⟩ := KcJ ti9 rfl (h 0 _ _ rfl rfl)
    obtain ⟨x2, rfl⟩ := Kha ti4 rfl (h 1 _ _ rfl rfl)
    exact ⟨⟨x1, x2⟩, rfl, w1⟩
def KdA (_ : Kl) : Prop := True
theorem Kes : ∀ (n : Nat) {d : D} (g : GoodT tab n 95 d), ∃ x : Kl, d = Kw x ∧ KdA x
  | 0, d, g => by simp [GoodT] at g
  | n + 1, d, g => by
    obtain ⟨n', ds, hn, rfl, hl, h⟩ := Kbn ti95 rfl g
    obtain rfl : n' = n := by omega
    match ds, hl with
    | [d0, d1, d2, d3, d4], _ =>
      obtain ⟨x1, rfl, w1⟩ := Kb3 ti3 rfl (h 0 _ _ rfl rfl)
      obtain ⟨x2, rfl, w2⟩ := Kb3 ti3 rfl (h 1 _ _ rfl rfl)
      obtain ⟨x3, rfl, w3⟩ := KcJ ti9 rfl (h 2 _ _ rfl rfl)
      obtain ⟨n4, zs4, hn4, rfl, hl4, hz4⟩ := KaW ti90 rfl ti95 (h 3 _ _ rfl rfl)
      obtain ⟨x4, rfl, w4⟩ := Ka1 (f := Kw) (K := (fun y => KdA y)) (p := fun x => GoodT tab n4 95 x) (fun x hx => by obtain ⟨x5, rfl, w5⟩ := Kes _ (hx); exact ⟨x5, rfl, w5⟩) zs4 hz4
      obtain ⟨x6, rfl, w6⟩ := Kb3 ti3 rfl (h 4 _ _ rfl rfl)
      exact ⟨⟨x1, x2, x3, x4, x6⟩, by rw [Kah]; rfl, trivial⟩
theorem KhE {n : Nat} {d : D} (g : GoodT tab n 95 d) : ∃ x : Kl, d = Kw x ∧ KdA x := Kes n g
def Kcy (_ : Kf) : Prop := True
theorem Kdd : ∀ (n : Nat) {d : D} (g : GoodT tab n 92 d), ∃ x : Kf, d = Km x ∧ Kcy x
  | 0, d, g => by simp [GoodT] at g
  | n + 1, d, g => by
    obtain ⟨n', ds, hn, rfl, hl, h⟩ := Kbn ti92 rfl g
    obtain rfl : n' = n := by omega
    match ds, hl with
    | [d0, d1, d2, d3, d4, d5, d6], _ =>
      obtain ⟨x1, rfl, w1⟩ := Kb3 ti3 rfl (h 0 _ _ rfl rfl)
      obtain ⟨x2, rfl, w2⟩ := KcJ ti9 rfl (h 1 _ _ rfl rfl)
      obtain ⟨x3, rfl, w3⟩ := KcJ ti9 rfl (h 2 _ _ rfl rfl)
      obtain ⟨n4, zs4, hn4, rfl, hl4, hz4⟩ := KaW ti90 rfl ti95 (h 3 _ _ rfl rfl)
      obtain ⟨x4, rfl, w4⟩ := Ka1 (f := Kw) (K := (fun y => KdA y)) (p := fun x => GoodT tab n4 95 x) (fun x hx => by obtain ⟨x5, rfl, w5⟩ := KhE (hx); exact ⟨x5, rfl, w5⟩) zs4 hz4
      obtain ⟨n6, zs6, hn6, rfl, hl6, hz6⟩ := KaW ti47 rfl ti92 (h 4 _ _ rfl rfl)
      obtain ⟨x6, rfl, w6⟩ := Ka1 (f := Km) (K := (fun y => Kcy y)) (p := fun x => GoodT tab n6 92 x) (fun x hx => by obtain ⟨x7, rfl, w7⟩ := Kdd _ (hx); exact ⟨x7, rfl, w7⟩) zs6 hz6
      obtain ⟨n8, zs8, hn8, rfl, hl8, hz8⟩ := KaW ti47 rfl ti92 (h 5 _ _ rfl rfl)
      obtain ⟨x8, rfl, w8⟩ := Ka1 (f := Km) (K := (fun y => Kcy y)) (p := fun x => GoodT tab n8 92 x) (fun x hx => by obtain ⟨x9, rfl, w9⟩ := Kdd _ (hx); exact ⟨x9, rfl, w9⟩) zs8 hz8
      obtain ⟨x10, rfl, w10⟩ := Kb3 ti3 rfl (h 6 _ _ rfl rfl)
      exact ⟨⟨x1, x2, x3, x4, x6, x8, x10⟩, by rw [KaF]; rfl, trivial⟩
theorem KhF {n : Nat} {d : D} (g : GoodT tab n 92 d) : ∃ x : Kf, d = Km x ∧ Kcy x := Kdd n g
def KeR (x : KB) : Prop := x.gName.size ≤ maxLen ∧ (x.gParams.length ≤ maxLen ∧ ∀ y ∈ x.gParams, Kdm y) ∧ (x.gLocals.length ≤ maxLen ∧ ∀ y ∈ x.gLocals, Kdm y) ∧ (x.gBody.length ≤ maxLen ∧ ∀ y ∈ x.gBody, Kcy y) ∧ (Lit.int .i64 x.gAt).wf = true
theorem KhG {n : Nat} {d : D} (g : GoodT tab n 49 d) : ∃ x : KB, d = Kp x ∧ KeR x := by
  obtain ⟨n', ds, _, rfl, hl, h⟩ := Kbn ti49 rfl g
  match ds, hl with
  | [d0, d1, d2, d3, d4], _ =>
    obtain ⟨x1, rfl, w1⟩ := KcJ ti9 rfl (h 0 _ _ rfl rfl)
    obtain ⟨n2, zs2, _, rfl, hl2, hz2⟩ := KaW ti46 rfl ti118 (h 1 _ _ rfl rfl)
    obtain ⟨x2, rfl, w2⟩ := Ka1 (f := KW) (K := (fun y => Kdm y)) (p := fun x => GoodT tab n2 118 x) (fun x hx => by obtain ⟨x3, rfl, w3⟩ := KfV (hx); exact ⟨x3, rfl, w3⟩) zs2 hz2
    obtain ⟨n4, zs4, _, rfl, hl4, hz4⟩ := KaW ti46 rfl ti118 (h 2 _ _ rfl rfl)
    obtain ⟨x4, rfl, w4⟩ := Ka1 (f := KW) (K := (fun y => Kdm y)) (p := fun x => GoodT tab n4 118 x) (fun x hx => by obtain ⟨x5, rfl, w5⟩ := KfV (hx); exact ⟨x5, rfl, w5⟩) zs4 hz4
    obtain ⟨n6, zs6, _, rfl, hl6, hz6⟩ := KaW ti47 rfl ti92 (h 3 _ _ rfl rfl)
    obtain ⟨x6, rfl, w6⟩ := Ka1 (f := Km) (K := (fun y => Kcy y)) (p := fun x => GoodT tab n6 92 x) (fun x hx => by obtain ⟨x7, rfl, w7⟩ := KhF (hx); exact ⟨x7, rfl, w7⟩) zs6 hz6
    obtain ⟨x8, rfl, w8⟩ := Kb3 ti3 rfl (h 4 _ _ rfl rfl)
    exact ⟨⟨x1, x2, x4, x6, x8⟩, rfl, w1, ⟨by simpa using hl2, w2⟩, ⟨by simpa using hl4, w4⟩, ⟨by simpa using hl6, w6⟩, w8⟩
def Kdp (x : Kr) : Prop := (x.gGlobals.length ≤ maxLen ∧ ∀ y ∈ x.gGlobals, KdY y) ∧ (x.gFuncs.length ≤ maxLen ∧ ∀ y ∈ x.gFuncs, KeR y)
theorem Kd8 {n : Nat} {d : D} (g : GoodT tab n 25 d) : ∃ x : Kr, d = Ku x ∧ Kdp x := by
  obtain ⟨n', ds, _, rfl, hl, h⟩ := Kbn ti25 rfl g
  match ds, hl with
  | [d0, d1], _ =>
    obtain ⟨n1, zs1, _, rfl, hl1, hz1⟩ := KaW ti22 rfl ti105 (h 0 _ _ rfl rfl)
    obtain ⟨x1, rfl, w1⟩ := Ka1 (f := Kq) (K := (fun y => KdY y)) (p := fun x => GoodT tab n1 105 x) (fun x hx => by obtain ⟨x2, rfl, w2⟩ := KgR (hx); exact ⟨x2, rfl, w2⟩) zs1 hz1
    obtain ⟨n3, zs3, _, rfl, hl3, hz3⟩ := KaW ti23 rfl ti49 (h 1 _ _ rfl rfl)
    obtain ⟨x3, rfl, w3⟩ := Ka1 (f := Kp) (K := (fun y => KeR y)) (p := fun x => GoodT tab n3 49 x) (fun x hx => by obtain ⟨x4, rfl, w4⟩ := KhG (hx); exact ⟨x4, rfl, w4⟩) zs3 hz3
    exact ⟨⟨x1, x3⟩, rfl, ⟨by simpa using hl1, w1⟩, ⟨by simpa using hl3, w3⟩⟩
def Kdn (x : Ka) : Prop := x.gName.size ≤ maxLen ∧ (Lit.int .i64 x.gNode).wf = true
theorem Keg {n : Nat} {d : D} (g : GoodT tab n 39 d) : ∃ x : Ka, d = Kb x ∧ Kdn x := by
  obtain ⟨n', ds, _, rfl, hl, h⟩ := Kbn ti39 rfl g
  match ds, hl with
  | [d0, d1], _ =>
    obtain ⟨x1, rfl, w1⟩ := KcJ ti9 rfl (h 0 _ _ rfl rfl)
    obtain ⟨x2, rfl, w2⟩ := Kb3 ti3 rfl (h 1 _ _ rfl rfl)
    exact ⟨⟨x1, x2⟩, rfl, w1, w2⟩
def Kbh (x : KE) : Prop := Kdn x.gX ∧ Kdn x.gY
theorem KcQ {n : Nat} {d : D} (g : GoodT tab n 41 d) : ∃ x : KE, d = KJ x ∧ Kbh x := by
  obtain ⟨n', ds, _, rfl, hl, h⟩ := Kbn ti41 rfl g
  match ds, hl with
  | [d0, d1], _ =>
    obtain ⟨x1, rfl, w1⟩ := Keg (h 0 _ _ rfl rfl)
    obtain ⟨x2, rfl, w2⟩ := Keg (h 1 _ _ rfl rfl)
    exact ⟨⟨x1, x2⟩, rfl, w1, w2⟩
def Kc3 (x : KaO) : Prop := Kdp x.gP ∧ Kdp x.gQ ∧ (x.gReads.length ≤ maxLen ∧ ∀ y ∈ x.gReads, Kbh y) ∧ (x.gAdds.length ≤ maxLen ∧ ∀ y ∈ x.gAdds, Kbh y) ∧ (x.gKnown.length ≤ maxLen ∧ ∀ y ∈ x.gKnown, Kdn y)
theorem goodTSondagelaw32Case {n : Nat} {d : D} (g : GoodT tab n 29 d) : ∃ x : KaO, d = KaH x ∧ Kc3 x := by
  obtain ⟨n', ds, _, rfl, hl, h⟩ := Kbn ti29 rfl g
  match ds, hl with
  | [d0, d1, d2, d3, d4], _ =>
    obtain ⟨x1, rfl, w1⟩ := Kd8 (h 0 _ _ rfl rfl)
    obtain ⟨x2, rfl, w2⟩ := Kd8 (h 1 _ _ rfl rfl)
    obtain ⟨n3, zs3, _, rfl, hl3, hz3⟩ := KaW ti26 rfl ti41 (h 2 _ _ rfl rfl)
    obtain ⟨x3, rfl, w3⟩ := Ka1 (f := KJ) (K := (fun y => Kbh y)) (p := fun x => GoodT tab n3 41 x) (fun x hx => by obtain ⟨x4, rfl, w4⟩ := KcQ (hx); exact ⟨x4, rfl, w4⟩) zs3 hz3
    obtain ⟨n5, zs5, _, rfl, hl5, hz5⟩ := KaW ti26 rfl ti41 (h 3 _ _ rfl rfl)
    obtain ⟨x5, rfl, w5⟩ := Ka1 (f := KJ) (K := (fun y => Kbh y)) (p := fun x => GoodT tab n5 41 x) (fun x hx => by obtain ⟨x6, rfl, w6⟩ := KcQ (hx); exact ⟨x6, rfl, w6⟩) zs5 hz5
    obtain ⟨n7, zs7, _, rfl, hl7, hz7⟩ := KaW ti27 rfl ti39 (h 4 _ _ rfl rfl)
    obtain ⟨x7, rfl, w7⟩ := Ka1 (f := Kb) (K := (fun y => Kdn y)) (p := fun x => GoodT tab n7 39 x) (fun x hx => by obtain ⟨x8, rfl, w8⟩ := Keg (hx); exact ⟨x8, rfl, w8⟩) zs7 hz7
    exact ⟨⟨x1, x2, x3, x5, x7⟩, rfl, w1, w2, ⟨by simpa using hl3, w3⟩, ⟨by simpa using hl5, w5⟩, ⟨by simpa using hl7, w7⟩⟩
end Go.Proofs.Ytnfkijcmakgkmaa.Ab
namespace Go.Proofs.Ytnfkijcmakgkmaa.Ab
open Go
set_option linter.all false
mutual
def szE : Kl → Nat
 | ⟨_, _, _, ks, _⟩ => 1 + szEs ks
def szEs : List Kl → Nat
 | [] => 0
 | e :: l => szE e + szEs l
end
mutual
def dpE : Kl → Nat
 | ⟨_, _, _, ks, _⟩ => 1 + dpEs ks
def dpEs : List Kl → Nat
 | [] => 0
 | e :: l => max (dpE e) (dpEs l)
end
theorem szE_eq (e : Kl) : szE e = 1 + szEs e.gKids := by cases e; simp only [szE]
theorem dpE_eq (e : Kl) : dpE e = 1 + dpEs e.gKids := by cases e; simp only [dpE]
theorem KfW : ∀ l m, szEs (l ++ m) = szEs l + szEs m
 | [], m => by simp [szEs]
 | e :: l, m => by simp only [List.cons_append, szEs, KfW l m]; omega
theorem dpE_mem : ∀ {l : List Kl} {e : Kl}, e ∈ l → dpE e ≤ dpEs l
  | x :: l, e, h => by
    simp only [dpEs]
    rcases List.mem_cons.1 h with rfl | h
    · omega
    · have := dpE_mem h; omega
theorem szE_mem : ∀ {l : List Kl} {e : Kl}, e ∈ l → szE e ≤ szEs l
  | x :: l, e, h => by
    simp only [szEs]
    rcases List.mem_cons.1 h with rfl | h
    · omega
    · have := szE_mem h; omega
def wE (e : Kl) : Nat := wt (Kw e)
def wEs (l : List Kl) : Nat := wts (l.map Kw)
theorem wE_eq (e : Kl) : wE e = e.gName.size + wEs e.gKids + 5 := by
 unfold wE wEs
 rw [Kah]
 simp only [wt, wts, wtv]; omega
theorem wEs_cons (e : Kl) (l : List Kl) : wEs (e :: l) = wE e + wEs l := by unfold wEs wE; simp only [List.map_cons, wts]
mutual
theorem szE_le : ∀ e, szE e ≤ wE e
  | ⟨a, b, c, ks, d⟩ => by
    have := szEs_le ks
    rw [wE_eq]
    simp only [szE]; omega
theorem szEs_le : ∀ l, szEs l ≤ wEs l
  | [] => by simp [szEs]
  | e :: l => by
    have h1 := szE_le e
    have h2 := szEs_le l
    rw [wEs_cons]
    simp only [szEs]; omega
end
theorem KeS : ∀ l, l.length ≤ szEs l
  | [] => by simp
  | e :: l => by
    have := KeS l
    have h := szE_eq e
    simp only [szEs, List.length_cons]; omega
theorem kids_mem {e k : Kl} (h : k ∈ e.gKids) : dpE k < dpE e ∧ szE k < szE e := by
 have h1 := dpE_mem h
 have h2 := szE_mem h
 rw [dpE_eq e, szE_eq e]; omega
theorem szEs_pre {l pre : List Kl} {x : Kl} {post : List Kl} (h : l = pre ++ x :: post) : szEs pre + szE x ≤ szEs l := by
 subst h; rw [KfW]; simp only [szEs]; omega
mutual
def eqE (p : Bool) : Kl → Kl → Bool
  | ⟨a, b, c, ks, d⟩, f => a == f.gOp && (b == f.gN && (decide (c = f.gName) && ((!p || d == f.gAt) && eqEs p ks f.gKids)))
def eqEs (p : Bool) : List Kl → List Kl → Bool
  | [], m => m.isEmpty
  | e :: l, m => match m with
    | [] => false
    | f :: m => eqE p e f && eqEs p l m
end
theorem eqE_eq (p : Bool) (e f : Kl) : eqE p e f = (e.gOp == f.gOp && (e.gN == f.gN && (decide (e.gName = f.gName) && ((!p || e.gAt == f.gAt) && eqEs p e.gKids f.gKids)))) := by cases e; simp only [eqE]
theorem eqEs_eq (p : Bool) : ∀ l m, eqEs p l m = all2 (eqE p) l m
 | [], [] => by simp [eqEs, all2]
 | [], _ :: _ => by simp [eqEs, all2]
 | _ :: _, [] => by simp [eqEs, all2]
 | x :: l, y :: m => by simp only [eqEs, all2, eqEs_eq p l m]
mutual
theorem eqE_refl (p : Bool) : ∀ e, eqE p e e = true
  | ⟨a, b, c, ks, d⟩ => by
    rw [eqE_eq]
    simp [Kfj p ks]
theorem Kfj (p : Bool) : ∀ l, eqEs p l l = true
  | [] => by simp [eqEs]
  | e :: l => by simp only [eqEs, eqE_refl p e, Kfj p l, Bool.and_self]
end
end Go.Proofs.Ytnfkijcmakgkmaa.Ab
namespace Go.Proofs.Ytnfkijcmakgkmaa.Ab
open Go
set_option linter.all false
mutual
def allE : Kl → List Kl
 | ⟨a, b, c, ks, d⟩ => ⟨a, b, c, ks, d⟩ :: allEs ks
def allEs : List Kl → List Kl
 | [] => []
 | e :: l => allE e ++ allEs l
end
theorem allE_eq (e : Kl) : allE e = e :: allEs e.gKids := by cases e; simp only [allE]
theorem KdZ : ∀ l m, allEs (l ++ m) = allEs l ++ allEs m
 | [], m => by simp [allEs]
 | e :: l, m => by simp only [List.cons_append, allEs, KdZ l m, List.append_assoc]
mutual
theorem allE_len : ∀ e, (allE e).length = szE e
 | ⟨_, _, _, ks, _⟩ => by simp only [allE, szE, List.length_cons, KcR ks]; omega
theorem KcR : ∀ l, (allEs l).length = szEs l
 | [] => rfl
 | e :: l => by simp only [allEs, szEs, List.length_append, allE_len e, KcR l]
end
mutual
def flS : Kf → List Kf
 | ⟨a, b, c, es, ks, ls, d⟩ => ⟨a, b, c, es, ks, ls, d⟩ :: (flSs ks ++ flSs ls)
def flSs : List Kf → List Kf
 | [] => []
 | s :: l => flS s ++ flSs l
end
mutual
def szS : Kf → Nat
 | ⟨_, _, _, es, ks, ls, _⟩ => 1 + szSs ks + szSs ls + szEs es
def szSs : List Kf → Nat
 | [] => 0
 | s :: l => szS s + szSs l
end
mutual
def hS : Kf → Nat
 | ⟨_, _, _, _, ks, ls, _⟩ => 1 + max (hSs ks) (hSs ls)
def hSs : List Kf → Nat
 | [] => 1
 | s :: l => max (hS s) (hSs l)
end
def exOf (l : List Kf) : List Kl := l.flatMap fun s => allEs s.gExps
theorem flS_eq (s : Kf) : flS s = s :: (flSs s.gKids ++ flSs s.gElse) := by cases s; simp only [flS]
theorem szS_eq (s : Kf) : szS s = 1 + szSs s.gKids + szSs s.gElse + szEs s.gExps := by cases s; simp only [szS]
theorem hS_eq (s : Kf) : hS s = 1 + max (hSs s.gKids) (hSs s.gElse) := by cases s; simp only [hS]
theorem KfX : ∀ l m, flSs (l ++ m) = flSs l ++ flSs m
 | [], m => by simp [flSs]
 | e :: l, m => by simp only [List.cons_append, flSs, KfX l m, List.append_assoc]
theorem KfY : ∀ l m, szSs (l ++ m) = szSs l + szSs m
 | [], m => by simp [szSs]
 | e :: l, m => by simp only [List.cons_append, szSs, KfY l m]; omega
theorem KhT (l m : List Kf) : exOf (l ++ m) = exOf l ++ exOf m := by simp [exOf]
theorem hS_mem : ∀ {l : List Kf} {s : Kf}, s ∈ l → hS s ≤ hSs l
  | x :: l, e, h => by
    simp only [hSs]
    rcases List.mem_cons.1 h with rfl | h
    · omega
    · have := hS_mem h; omega
theorem szS_mem : ∀ {l : List Kf} {s : Kf}, s ∈ l → szS s ≤ szSs l
  | x :: l, e, h => by
    simp only [szSs]
    rcases List.mem_cons.1 h with rfl | h
    · omega
    · have := szS_mem h; omega
theorem Ket : ∀ l, 1 ≤ hSs l
 | [] => by simp [hSs]
 | s :: l => by have := Ket l; simp only [hSs]; omega
mutual
theorem szS_fl : ∀ s, szS s = (flS s).length + (exOf (flS s)).length
  | ⟨a, b, c, es, ks, ls, d⟩ => by
    have h1 := Keu ks
    have h2 := Keu ls
    simp only [szS, flS, List.length_cons, List.length_append, exOf, List.flatMap_cons, List.flatMap_append, KcR] at h1 h2 ⊢
    omega
theorem Keu : ∀ l, szSs l = (flSs l).length + (exOf (flSs l)).length
  | [] => rfl
  | s :: l => by
    have h1 := szS_fl s
    have h2 := Keu l
    simp only [szSs, flSs, List.length_append, KhT]; omega
end
theorem Kgn : ∀ l, l.length ≤ szSs l
  | [] => by simp
  | e :: l => by
    have := Kgn l
    have h := szS_eq e
    simp only [szSs, List.length_cons]; omega
theorem szSs_pre {l pre : List Kf} {x : Kf} {post : List Kf} (h : l = pre ++ x :: post) : szSs pre + szS x ≤ szSs l := by
 subst h; rw [KfY]; simp only [szSs]; omega
def wS (s : Kf) : Nat := wt (Km s)
def wSs (l : List Kf) : Nat := wts (l.map Km)
theorem wS_eq (s : Kf) : wS s = s.gName.size + s.gFunc.size + wEs s.gExps + wSs s.gKids + wSs s.gElse + 7 := by
 unfold wS wSs wEs
 rw [KaF]
 simp only [wt, wts, wtv]; omega
theorem wSs_cons (s : Kf) (l : List Kf) : wSs (s :: l) = wS s + wSs l := by unfold wSs wS; simp only [List.map_cons, wts]
mutual
theorem szS_le : ∀ s, szS s ≤ wS s
  | ⟨a, b, c, es, ks, ls, d⟩ => by
    have h1 := KfB ks
    have h2 := KfB ls
    have h3 := szEs_le es
    rw [wS_eq]
    simp only [szS]; omega
theorem KfB : ∀ l, szSs l ≤ wSs l
  | [] => by simp [szSs]
  | s :: l => by
    have h1 := szS_le s
    have h2 := KfB l
    rw [wSs_cons]
    simp only [szSs]; omega
end
theorem fuel {l : List Kf} {n : Nat} {x : Kf} (h : hSs l ≤ n + 1) (hx : x ∈ l) : hSs x.gKids ≤ n ∧ hSs x.gElse ≤ n := by
 have h1 := hS_mem hx
 have h2 := hS_eq x
 omega
end Go.Proofs.Ytnfkijcmakgkmaa.Ab
namespace Go.Proofs.Ytnfkijcmakgkmaa.Ab
open Go
set_option linter.all false
theorem same_b {g0 g1} {e f : Kl} (h : g0 e.gKids f.gKids = some (eqEs false e.gKids f.gKids)) : Kby g0 g1 e f = some (eqE false e f) := by
 unfold Kby
 rw [h, eqE_eq]
 cases e.gOp == f.gOp <;> cases e.gN == f.gN <;> cases decide (e.gName = f.gName) <;> rfl
theorem same_g : ∀ (n : Nat), (∀ l m, 2 * dpEs l + 1 ≤ n → szEs l ≤ 1048576 → (Kc n).1 l m = some (eqEs false l m)) ∧ (∀ e f, 2 * dpE e ≤ n → szE e ≤ 1048576 → (Kc n).2 e f = some (eqE false e f))
  | 0 => ⟨fun l m h => by omega, fun e f h _ => by rw [dpE_eq] at h; omega⟩
  | n + 1 => by
    obtain ⟨h2, h1⟩ := same_g n
    refine ⟨fun l m h hb => ?_, fun e f h hb => ?_⟩
    · show KC (Kc n).1 (Kc n).2 l m = _
      unfold KC
      have hl := KeS l
      rw [eqEs_eq]
      refine pairs _ l m (fun p x q p' y q' e e' hp => ?_) ?_
      · have hx := Kc9 e
        have hd := dpE_mem hx
        have hz := szE_mem hx
        rw [Kbd e, cond_true, Kam e rfl, Option.bind_some, Kam e' hp, Option.bind_some, h1 x y (by omega) (by omega), Option.bind_some, KaT e (by omega)]
        cases eqE false x y <;> rfl
      · rw [Kbe, cond_false]
    · have he := dpE_eq e
      have hs := szE_eq e
      exact same_b (g1 := (Kc n).2) (h2 _ _ (by omega) (by omega))
theorem eqf_eq {l m : List Kl} (hb : szEs l ≤ 1048576) : K1 l m = some (eqEs false l m) := Kbo l m (2 * dpEs l + 1) ((same_g _).1 l m (Nat.le_refl _) hb)
mutual
def eqS (p : Bool) : Kf → Kf → Bool
  | ⟨a, b, c, es, ks, ls, d⟩, f => a == f.gOp && (decide (b = f.gName) && (decide (c = f.gFunc) && ((!p || d == f.gAt) && (eqEs p es f.gExps && (eqSs p ks f.gKids && eqSs p ls f.gElse)))))
def eqSs (p : Bool) : List Kf → List Kf → Bool
  | [], m => m.isEmpty
  | e :: l, m => match m with
    | [] => false
    | f :: m => eqS p e f && eqSs p l m
end
theorem eqS_eq (p : Bool) (e f : Kf) : eqS p e f = (e.gOp == f.gOp && (decide (e.gName = f.gName) && (decide (e.gFunc = f.gFunc) && ((!p || e.gAt == f.gAt) && (eqEs p e.gExps f.gExps && (eqSs p e.gKids f.gKids && eqSs p e.gElse f.gElse)))))) := by cases e; simp only [eqS]
theorem eqSs_eq (p : Bool) : ∀ l m, eqSs p l m = all2 (eqS p) l m
 | [], [] => by simp [eqSs, all2]
 | [], _ :: _ => by simp [eqSs, all2]
 | _ :: _, [] => by simp [eqSs, all2]
 | x :: l, y :: m => by simp only [eqSs, all2, eqSs_eq p l m]
mutual
theorem eqS_refl (p : Bool) : ∀ e, eqS p e e = true
  | ⟨a, b, c, es, ks, ls, d⟩ => by
    rw [eqS_eq]
    simp [Kfj p es, Kd9 p ks, Kd9 p ls]
theorem Kd9 (p : Bool) : ∀ l, eqSs p l l = true
  | [] => by simp [eqSs]
  | e :: l => by simp only [eqSs, eqS_refl p e, Kd9 p l, Bool.and_self]
end
theorem sameS_g : ∀ (n : Nat), (∀ l m, 3 * hSs l ≤ n → szSs l ≤ 1048576 → (Kn n).1 l m = some (eqSs false l m)) ∧ (∀ l m, 3 * hSs l ≤ n + 1 → szSs l ≤ 1048576 → (Kn n).2.1 l m = some (eqSs false l m)) ∧ (∀ s t, 3 * hS s ≤ n + 2 → szS s ≤ 1048576 → (Kn n).2.2 s t = some (eqS false s t))
  | 0 => by
    refine ⟨fun l m h _ => ?_, fun l m h _ => ?_, fun s t h _ => ?_⟩
    · have := Ket l; omega
    · have := Ket l; omega
    · have := Ket s.gKids; rw [hS_eq] at h; omega
  | n + 1 => by
    obtain ⟨h1, h2, h3⟩ := sameS_g n
    refine ⟨fun l m h hb => ?_, fun l m h hb => ?_, fun s t h hb => ?_⟩
    · show Ka2 (Kn n).1 (Kn n).2.1 (Kn n).2.2 l m = _
      unfold Ka2
      rw [h2 l m (by omega) hb]; rfl
    · show KD (Kn n).1 (Kn n).2.1 (Kn n).2.2 l m = _
      unfold KD
      have hl := Kgn l
      rw [eqSs_eq]
      refine pairs _ l m (fun p x q p' y q' e e' hp => ?_) ?_
      · have hx := Kc9 e
        have hd := hS_mem hx
        have hz := szS_mem hx
        rw [Kbd e, cond_true, Kam e rfl, Option.bind_some, Kam e' hp, Option.bind_some, h3 x y (by omega) (by omega), Option.bind_some, KaT e (by omega)]
        cases eqS false x y <;> rfl
      · rw [Kbe, cond_false]
    · show KaP (Kn n).1 (Kn n).2.1 (Kn n).2.2 s t = _
      unfold KaP
      have hh := hS_eq s
      have hz := szS_eq s
      rw [eqf_eq (by omega), h1 _ _ (by omega) (by omega), h1 _ _ (by omega) (by omega), eqS_eq]
      simp only [Option.bind_some, bne]
      cases s.gOp == t.gOp <;> cases decide (s.gName = t.gName) <;> cases decide (s.gFunc = t.gFunc) <;> cases eqEs false s.gExps t.gExps <;> cases eqSs false s.gKids t.gKids <;> cases eqSs false s.gElse t.gElse <;> rfl
theorem sameS_eq {l m : List Kf} (hb : szSs l ≤ 1048576) : Kc1 l m = some (eqSs false l m) := KgG l m (3 * hSs l) ((sameS_g _).1 l m (Nat.le_refl _) hb)
def eqVar (a b : Kbl) : Bool := decide (a.gName = b.gName) && (a.gPtr == b.gPtr && true)
theorem Khg {l m : List Kbl} (hb : l.length ≤ 1048576) : Kag l m = some (all2 eqVar l m) := by
 unfold Kag
 refine pairs _ l m (fun p x q p' y q' e e' hp => ?_) ?_
 ·rw [Kbd e, cond_true, Kam e rfl, Option.bind_some, Kam e' hp, Option.bind_some, KaT e (by omega)]
  show (bif !eqVar x y then _ else _) = _
  cases eqVar x y <;> rfl
 ·rw [Kbe, cond_false]
theorem KgK (v : Kbl) : eqVar v v = true := by simp [eqVar]
def eqF (a b : KB) : Bool := decide (a.gName = b.gName) && (all2 eqVar a.gParams b.gParams && (all2 eqVar a.gLocals b.gLocals && eqSs false a.gBody b.gBody))
theorem sameF_eq {a b : KB} (h1 : a.gParams.length ≤ 1048576) (h2 : a.gLocals.length ≤ 1048576) (h3 : szSs a.gBody ≤ 1048576) : KaX a b = some (eqF a b) := by
 unfold KaX eqF
 rw [Khg h1, Khg h2, sameS_eq h3]
 simp only [Option.bind_some]
 cases decide (a.gName = b.gName) <;> cases all2 eqVar a.gParams b.gParams <;> cases all2 eqVar a.gLocals b.gLocals <;> cases eqSs false a.gBody b.gBody <;> rfl
theorem eqF_refl (a : KB) : eqF a a = true := by
 unfold eqF
 rw [Ke6 fun x _ => KgK x, Ke6 fun x _ => KgK x, Kd9]; simp
end Go.Proofs.Ytnfkijcmakgkmaa.Ab
namespace Go.Proofs.Ytnfkijcmakgkmaa.Ab
open Go
set_option linter.all false
def one1 (b : ByteArray) : List ByteArray := if b = ByteArray.mk #[] then [] else [b]
theorem one1_len (b : ByteArray) : (one1 b).length ≤ 1 := by unfold one1; split <;> simp
def fm {β : Type} (f : β → List ByteArray) (l : List β) : List ByteArray := l.flatMap f
theorem Kd0 {β : Type} {f : β → List ByteArray} (h : ∀ x, (f x).length ≤ 1) : ∀ l : List β, (fm f l).length ≤ l.length
  | [] => by simp [fm]
  | x :: l => by
    have h1 := h x
    have h2 := Kd0 h l
    simp only [fm, List.flatMap_cons, List.length_append, List.length_cons] at h2 ⊢
    omega
def nmS (c : Bool) (s : Kf) : List ByteArray := one1 (bif c then s.gFunc else s.gName)
def nmX (c : Bool) (e : Kl) : List ByteArray := bif c then [] else one1 e.gName
theorem nmS_len (c : Bool) (s : Kf) : (nmS c s).length ≤ 1 := one1_len _
theorem KdF (c : Bool) (e : Kl) : (nmX c e).length ≤ 1 := by
 unfold nmX; cases c
 ·exact one1_len _
 ·simp
def KcS (c : Bool) (l : List Kf) : List ByteArray := fm (nmS c) (flSs l) ++ fm (nmX c) (exOf (flSs l))
theorem add_eq {m : Kg} {b : ByteArray} (h : m.gL.length ≤ 1048576) : Ka3 m b = some ⟨m.gL ++ [b]⟩ := by
 unfold Ka3
 rw [Kcu (by omega) (by simp; omega)]; rfl
theorem Khh {m : Kg} {b : ByteArray} (h : m.gL.length ≤ 1048576) : KbC b m = some ⟨m.gL ++ one1 b⟩ := by
 unfold KbC one1
 by_cases h1 : b = ByteArray.mk #[]
 ·rw [decide_eq_true h1, if_pos h1, List.append_nil]; rfl
 ·rw [decide_eq_false h1, if_neg h1, Bool.not_false, cond_true, add_eq h]; rfl
theorem names2_eq {m : Kg} {s : Kf} (h : m.gL.length ≤ 1048576) : KbW s m = some ⟨m.gL ++ nmS false s⟩ := by
 unfold KbW; rw [Khh h]; rfl
theorem names3_eq {m : Kg} {s : Kl} (h : m.gL.length ≤ 1048576) : KbX s m = some ⟨m.gL ++ nmX false s⟩ := by
 unfold KbX; rw [Khh h]; rfl
theorem walkX_g : ∀ (n : Nat) (e : Kl) (m : Kg), dpE e ≤ n → szE e ≤ 1048576 → m.gL.length + szE e ≤ 1048576 → Kal n e m = some ⟨m.gL ++ fm (nmX false) (allE e)⟩
  | 0, e, m, h, _, _ => by rw [dpE_eq] at h; omega
  | n + 1, e, m, h, hb, hm => by
    show KaR (Kal n) e m = _
    unfold KaR
    have hs := szE_eq e
    have hl := KeS e.gKids
    rw [names3_eq (by omega), Option.bind_some]
    have hn := KdF false e
    refine Kbr e.gKids (fun pre => m.gL ++ nmX false e ++ fm (nmX false) (allEs pre)) (fun a n => ((n : Nat), a)) (fun a => a) (by simp [allEs, fm]) (fun pre x post hp => ?_) ?_ ?_
    · have hk := kids_mem (Kc9 hp)
      have hsp := szEs_pre hp
      have hln := Kd0 (KdF false) (allEs pre)
      rw [KcR] at hln
      simp only [Kbd hp, cond_true]
      rw [KaT hp (by omega)]
      rw [Kam hp rfl, Option.bind_some, walkX_g n x _ (by omega) (by omega) (by simp; omega), Option.bind_some]
      rw [KdZ]
      simp only [allEs, List.append_nil, List.append_assoc, fm, List.flatMap_append]
    · simp only [Kbe, cond_false]
    · rw [allE_eq]; simp [fm]
theorem walkX_eq {e : Kl} {m : Kg} (hb : szE e ≤ 1048576) (hm : m.gL.length + szE e ≤ 1048576) : KcH e m = some ⟨m.gL ++ fm (nmX false) (allE e)⟩ := Kgk e m (dpE e) (walkX_g _ e m (Nat.le_refl _) hb hm)
def colS (c : Bool) (s : Kf) : List ByteArray := nmS c s ++ fm (nmX c) (allEs s.gExps)
theorem colS_len (c : Bool) (l : List Kf) : (fm (colS c) l).length ≤ l.length + (exOf l).length := by
  induction l with
  | nil => simp [fm]
  | cons s l ih =>
    have h1 := nmS_len c s
    have h2 := Kd0 (KdF c) (allEs s.gExps)
    simp only [fm, exOf, List.flatMap_cons, List.length_append, List.length_cons, colS] at ih h2 ⊢
    omega
theorem colS_fl (c : Bool) (l : List Kf) : (fm (colS c) (flSs l)).length ≤ szSs l := by
 have := colS_len c (flSs l)
 have h := Keu l
 omega
theorem fm_app {β : Type} (f : β → List ByteArray) (l m : List β) : fm f (l ++ m) = fm f l ++ fm f m := by simp [fm]
theorem fm_one (c : Bool) (x : Kf) : fm (colS c) (flS x) = nmS c x ++ (fm (nmX c) (allEs x.gExps) ++ (fm (colS c) (flSs x.gKids) ++ fm (colS c) (flSs x.gElse))) := by
 rw [flS_eq]; simp [fm, colS]
theorem walkN_g : ∀ (n : Nat) (l : List Kf) (m : Kg), hSs l ≤ n → szSs l ≤ 1048576 → m.gL.length + szSs l ≤ 1048576 → KaA n l m = some ⟨m.gL ++ fm (colS false) (flSs l)⟩
  | 0, l, m, h, _, _ => by have := Ket l; omega
  | n + 1, l, m, h, hb, hm => by
    show Kbc (KaA n) l m = _
    unfold Kbc
    have hl := Kgn l
    refine Kbr l (fun pre => m.gL ++ fm (colS false) (flSs pre)) (fun a n => ((n : Nat), a)) (fun a => a) (by simp [flSs, fm]) (fun pre x post hp => ?_) ?_ ?_
    · have hx := Kc9 hp
      have hk := fuel h hx
      have hsp := szSs_pre hp
      have hsx := szS_eq x
      have hel := KeS x.gExps
      have l1 := colS_fl false pre
      have l2 := colS_fl false x.gKids
      have l3 := Kd0 (KdF false) (allEs x.gExps)
      have l5 := nmS_len false x
      rw [KcR] at l3
      simp only [Kbd hp, cond_true]
      rw [KaT hp (by omega)]
      rw [Kam hp rfl, Option.bind_some, names2_eq (by simp; omega), Option.bind_some]
      refine Kbr x.gExps (fun q => m.gL ++ fm (colS false) (flSs pre) ++ nmS false x ++ fm (nmX false) (allEs q)) (fun a n => ((n : Nat), a)) (fun a => a) (by simp [allEs, fm]) (fun q y post2 hq => ?_) ?_ ?_
      · have hy := szEs_pre hq
        have l4 := Kd0 (KdF false) (allEs q)
        rw [KcR] at l4
        simp only [Kbd hq, cond_true]
        rw [KaT hq (by omega)]
        rw [Kam hq rfl, Option.bind_some, walkX_eq (by omega) (by simp; omega), Option.bind_some]
        rw [KdZ, fm_app]
        simp only [allEs, List.append_nil, List.append_assoc]
      · simp only [Kbe, cond_false]
      · rw [walkN_g n _ _ hk.1 (by omega) (by simp; omega), Option.bind_some, walkN_g n _ _ hk.2 (by omega) (by simp; omega), Option.bind_some]
        rw [KfX, fm_app]
        simp only [flSs, List.append_nil, fm_one, List.append_assoc]
    · simp only [Kbe, cond_false]
    · rfl
theorem walkN_eq {l : List Kf} {m : Kg} (hb : szSs l ≤ 1048576) (hm : m.gL.length + szSs l ≤ 1048576) : Kdf l m = some ⟨m.gL ++ fm (colS false) (flSs l)⟩ := KgO l m (hSs l) (walkN_g _ l m (Nat.le_refl _) hb hm)
theorem col_mem (c : Bool) (l : List Kf) (x : ByteArray) : x ∈ fm (colS c) l ↔ x ∈ fm (nmS c) l ++ fm (nmX c) (exOf l) := by
 simp only [fm, colS, exOf, List.mem_append, List.mem_flatMap]
 constructor
 ·rintro ⟨s, hs, h | ⟨e, he, h⟩⟩
  ·exact .inl ⟨s, hs, h⟩
  ·exact .inr ⟨e, ⟨s, hs, he⟩, h⟩
 ·rintro (⟨s, hs, h⟩ | ⟨e, ⟨s, hs, he⟩, h⟩)
  ·exact ⟨s, hs, .inl h⟩
  ·exact ⟨s, hs, .inr ⟨e, he, h⟩⟩
theorem Khi (l : List ByteArray) : (sortB l).length = l.length := by
 unfold sortB; rw [List.length_map, List.length_mergeSort, List.length_map]
theorem col_all {c : Bool} {l : List Kf} (hb : szSs l ≤ 1048576) : Ka4 ⟨fm (colS c) (flSs l)⟩ = some (insA ltB (KcS c l), ⟨[]⟩) := by
 have h1 := colS_fl c l
 unfold Ka4
 rw [Kb1 (by simp [Kb8]; omega), Kb1 (by simp [Kb8, Khi]; omega)]
 have h2 := Kdc (KcS c l)
 rw [KfT h2.1 fun x => (h2.2.1 x).trans (col_mem c (flSs l) x).symm]
theorem names_eq {l : List Kf} (hb : szSs l ≤ 1048576) : Kco l = some (insA ltB (KcS false l)) := by
 unfold Kco
 rw [walkN_eq hb (by simpa using hb), Option.bind_some]
 simp only [List.nil_append]
 rw [col_all hb]; rfl
theorem KhU (c : Bool) (l : List Kf) : (KcS c l).length ≤ szSs l := by
 have h1 := Kd0 (nmS_len c) (flSs l)
 have h2 := Kd0 (KdF c) (exOf (flSs l))
 have h3 := Keu l
 unfold KcS
 rw [List.length_append]; omega
end Go.Proofs.Ytnfkijcmakgkmaa.Ab
namespace Go.Proofs.Ytnfkijcmakgkmaa.Ab.Pq
open Go
set_option linter.all false
theorem Kfk {α : Type} (t : α → Bool) {l : List α} {f : Int → Option (Step Int (Unit ⊕ Int))}
    (h1 : ∀ p x q, l = p ++ x :: q → f (p.length : Int) = some (bif t x then .done (.inr ((p.length : Nat) : Int)) else .next ((p.length + 1 : Nat) : Int)))
    (h2 : f (l.length : Int) = some (.done (.inl ()))) : ∃ i : Int, Option.bind (α := Unit ⊕ Int) (loopM f (0 : Int)) (Sum.elim (fun _ => some (-1)) (fun r => some r)) = some i ∧ ((i = -1 ∧ l.find? t = none) ∨ ∃ (n : Nat) (x : α), i = n ∧ n < l.length ∧ l[n]? = some x ∧ l.find? t = some x) := by
  have key : ∀ (q p : List α), l = p ++ q → (∀ y ∈ p, t y = false) → ∃ i : Int, Option.bind (α := Unit ⊕ Int) (loopM f (p.length : Int)) (Sum.elim (fun _ => some (-1)) (fun r => some r)) = some i ∧ ((i = -1 ∧ l.find? t = none) ∨ ∃ (n : Nat) (x : α), i = n ∧ n < l.length ∧ l[n]? = some x ∧ l.find? t = some x) := by
    intro q
    induction q with
    | nil =>
      intro p e hp
      rw [List.append_nil] at e; subst e
      refine ⟨-1, by rw [Ka7 h2]; rfl, .inl ⟨rfl, List.find?_eq_none.2 fun y hy => by rw [hp y hy]; simp⟩⟩
    | cons x q ih =>
      intro p e hp
      have h := h1 p x q e
      cases ht : t x
      · rw [ht, cond_false] at h
        rw [Kb2 h]
        have := ih (p ++ [x]) (by simp [e]) (fun y hy => by
          rcases List.mem_append.1 hy with hy | hy
          · exact hp y hy
          · rw [List.mem_singleton] at hy; subst hy; exact ht)
        simpa using this
      · rw [ht, cond_true] at h
        refine ⟨(p.length : Int), by rw [Ka7 h]; rfl, .inr ⟨p.length, x, rfl, by subst e; simp, by subst e; simp, ?_⟩⟩
        subst e
        rw [List.find?_append, List.find?_eq_none.2 fun y hy => by rw [hp y hy]; simp]
        simp [ht]
  have := key l [] rfl (by simp)
  simpa using this
def fnF (l : List KB) (s : ByteArray) : Option KB := l.find? fun x => decide (x.gName = s)
def fnG (l : List KS) (s : ByteArray) : Option KS := l.find? fun x => decide (x.gName = s)
abbrev Pg := Kr
def noF : KB := ⟨ByteArray.empty, [], [], [], 0⟩
def noG : KS := ⟨ByteArray.empty, false, 0, 0⟩
theorem indexF_eq {l : List KB} (s : ByteArray) (hb : l.length ≤ 1048576) : ∃ i : Int, Kaf l s = some i ∧ ((i = -1 ∧ fnF l s = none) ∨ ∃ (n : Nat) (x : KB), i = n ∧ n < l.length ∧ l[n]? = some x ∧ fnF l s = some x) := by
 unfold Kaf
 refine Kfk (fun x : KB => decide (x.gName = s)) (fun p x q h => ?_) ?_
 ·rw [Kbd h, cond_true, Kam h rfl, Option.bind_some]
  unfold Kce
  rw [Option.bind_some, KaT h (by omega)]
  cases decide (x.gName = s) <;> rfl
 ·rw [Kbe, cond_false]
theorem indexG_eq {l : List KS} (s : ByteArray) (hb : l.length ≤ 1048576) : ∃ i : Int, K6 l s = some i ∧ ((i = -1 ∧ fnG l s = none) ∨ ∃ (n : Nat) (x : KS), i = n ∧ n < l.length ∧ l[n]? = some x ∧ fnG l s = some x) := by
 unfold K6
 refine Kfk (fun x : KS => decide (x.gName = s)) (fun p x q h => ?_) ?_
 ·rw [Kbd h, cond_true, Kam h rfl, Option.bind_some]
  unfold KbS
  rw [Option.bind_some, KaT h (by omega)]
  cases decide (x.gName = s) <;> rfl
 ·rw [Kbe, cond_false]
theorem idx_some {α : Type} {l : List α} {n : Nat} {x : α} (h : l[n]? = some x) : idx l (n : Int) = some x := by rw [Kfw]; exact h
theorem Khj {p : Pg} (s : ByteArray) (hb : p.gFuncs.length ≤ 1048576) : Kbb p s = some ((fnF p.gFuncs s).getD noF, (fnF p.gFuncs s).isSome) := by
 unfold Kbb
 obtain ⟨i, h1, h2⟩ := indexF_eq (l := p.gFuncs) s hb
 rw [h1, Option.bind_some]
 rcases h2 with ⟨rfl, h⟩ | ⟨n, x, rfl, _, h, h'⟩
 ·rw [h]; rfl
 ·rw [h', decide_eq_false (by omega), cond_false, idx_some h]; rfl
theorem KfZ {p : Pg} (s : ByteArray) (hb : p.gGlobals.length ≤ 1048576) : KaQ p s = some ((fnG p.gGlobals s).getD noG, (fnG p.gGlobals s).isSome) := by
 unfold KaQ
 obtain ⟨i, h1, h2⟩ := indexG_eq (l := p.gGlobals) s hb
 rw [h1, Option.bind_some]
 rcases h2 with ⟨rfl, h⟩ | ⟨n, x, rfl, _, h, h'⟩
 ·rw [h]; rfl
 ·rw [h', decide_eq_false (by omega), cond_false, idx_some h]; rfl
def FB (f : KB) : Prop := f.gParams.length ≤ 1048576 ∧ f.gLocals.length ≤ 1048576 ∧ szSs f.gBody ≤ 1048576
structure PB (p : Pg) : Prop where
 f : p.gFuncs.length ≤ 262144
 g : p.gGlobals.length ≤ 262144
 b : ∀ x ∈ p.gFuncs, FB x
def chF (p q : Pg) (s : ByteArray) : Bool :=
 match fnF p.gFuncs s, fnF q.gFuncs s with
 | some a, some b => !eqF a b
 | _, _ => true
def neG (a b : KS) : Bool := (!(a.gPtr == b.gPtr)) || a.gSize != b.gSize
def chG (p q : Pg) (s : ByteArray) : Bool :=
 match fnG p.gGlobals s, fnG q.gGlobals s with
 | some a, some b => neG a b
 | _, _ => true
theorem fnF_mem {l : List KB} {s : ByteArray} {x : KB} (h : fnF l s = some x) : x ∈ l := List.mem_of_find?_eq_some h
theorem Kgo {l : List KB} {x : KB} (h : x ∈ l) : (fnF l x.gName).isSome = true := by
 unfold fnF; rw [List.find?_isSome]; exact ⟨x, h, by simp⟩
theorem Kgp {l : List KS} {x : KS} (h : x ∈ l) : (fnG l x.gName).isSome = true := by
 unfold fnG; rw [List.find?_isSome]; exact ⟨x, h, by simp⟩
def nmsF (p : Pg) : List ByteArray := p.gFuncs.map (·.gName)
def nmsG (p : Pg) : List ByteArray := p.gGlobals.map (·.gName)
theorem flatten2 {α : Type} (a b : List α) : [a, b].flatten = a ++ b := by simp
theorem KfC {α : Type} {l : List (List α)} {p : List (List α)} {x : List α} {q : List (List α)} (h : l = p ++ x :: q) : p.flatten.length + x.length ≤ l.flatten.length := by subst h; simp
theorem concatF {a b : List KB} (ha : a.length ≤ 262144) (hb : b.length ≤ 262144) : K0 [a, b] = some (a ++ b) := by
 have hl : [a, b].flatten.length ≤ 524288 := by simp; omega
 unfold K0
 rw [← flatten2]
 refine Kbr [a, b] (fun pre => pre.flatten.length) (fun x n => ((x : Int), (n : Int))) (fun x => (x : Int)) (by simp) (fun p x q hp => ?_) ?_ ?_
 ·have := KfC hp
  simp only [Kbd hp, cond_true]
  rw [Kam hp rfl, Option.bind_some, KaT hp (by simp), wrap_id (by omega) (by omega), decide_eq_false (by omega), cond_false]
  simp
 ·simp only [Kbe, cond_false]
 ·rw [Kb1 (by unfold Kd6; rw [Bool.and_eq_true, decide_eq_true_iff, decide_eq_true_iff]; omega)]
  refine Kbr [a, b] (fun pre => pre.flatten) (fun x n => ((n : Int), x)) (fun x => x) (by simp [growF42]) (fun p x q hp => ?_) ?_ ?_
  ·have := KfC hp
   simp only [Kbd hp, cond_true]
   rw [Kam hp rfl, Option.bind_some, KaT hp (by simp), Kcu (by omega) (by omega), Option.bind_some]
   simp
  ·simp only [Kbe, cond_false]
  ·rfl
theorem concatG {a b : List KS} (ha : a.length ≤ 262144) (hb : b.length ≤ 262144) : K2 [a, b] = some (a ++ b) := by
 have hl : [a, b].flatten.length ≤ 524288 := by simp; omega
 unfold K2
 rw [← flatten2]
 refine Kbr [a, b] (fun pre => pre.flatten.length) (fun x n => ((x : Int), (n : Int))) (fun x => (x : Int)) (by simp) (fun p x q hp => ?_) ?_ ?_
 ·have := KfC hp
  simp only [Kbd hp, cond_true]
  rw [Kam hp rfl, Option.bind_some, KaT hp (by simp), wrap_id (by omega) (by omega), decide_eq_false (by omega), cond_false]
  simp
 ·simp only [Kbe, cond_false]
 ·rw [Kb1 (by unfold Kd7; rw [Bool.and_eq_true, decide_eq_true_iff, decide_eq_true_iff]; omega)]
  refine Kbr [a, b] (fun pre => pre.flatten) (fun x n => ((n : Int), x)) (fun x => x) (by simp [growF67]) (fun p x q hp => ?_) ?_ ?_
  ·have := KfC hp
   simp only [Kbd hp, cond_true]
   rw [Kam hp rfl, Option.bind_some, KaT hp (by simp), Kcu (by omega) (by omega), Option.bind_some]
   simp
  ·simp only [Kbe, cond_false]
  ·rfl
theorem row_eq {l : List ByteArray} (h : l.length ≤ 1048576) : Ka8 l = some (insA ltB l) := by
 unfold Ka8
 have h2 := Kdc l
 rw [Kb1 (by simp [Kb8]; omega), Kb1 (by simp [Kb8, Khi]; omega), KfT h2.1 h2.2.1]
theorem pre_len {α : Type} {l p : List α} {x : α} {q : List α} (h : l = p ++ x :: q) : p.length < l.length := by subst h; simp
theorem funcs_eq {p q : Pg} (hp : PB p) (hq : PB q) : KbV p q = some (insA ltB ((nmsF p ++ nmsF q).filter (chF p q))) := by
  have h1 := hp.f
  have h2 := hq.f
  unfold KbV
  rw [concatF h1 h2, Option.bind_some]
  refine Kbr (p.gFuncs ++ q.gFuncs) (fun pre => (pre.map (·.gName)).filter (chF p q)) (fun a n => (a, (n : Int))) (fun a => a) (by simp) (fun pre x post hpp => ?_) ?_ ?_
  · have hl := pre_len hpp
    have hfl := List.length_filter_le (chF p q) (pre.map (·.gName))
    rw [List.length_append] at hl
    rw [List.length_map] at hfl
    have hx : x ∈ p.gFuncs ∨ x ∈ q.gFuncs := List.mem_append.1 (Kc9 hpp)
    simp only [Kbd hpp, cond_true]
    rw [Kam hpp rfl, Option.bind_some, Khj _ (by omega), Option.bind_some, Khj _ (by omega), Option.bind_some, KaT hpp (by simp; omega)]
    have hc : (Option.bind (α := Bool) (bif (!((fnF p.gFuncs x.gName).isSome == (fnF q.gFuncs x.gName).isSome)) then some true else ((KaX ((fnF p.gFuncs x.gName).getD noF) ((fnF q.gFuncs x.gName).getD noF)).bind fun x128 => some (!x128))) fun y126 => some y126) = some (chF p q x.gName) := by
      unfold chF
      cases ha : fnF p.gFuncs x.gName with
      | none =>
        cases hb : fnF q.gFuncs x.gName with
        | none =>
          rcases hx with hx | hx
          · have := Kgo hx; rw [ha] at this; cases this
          · have := Kgo hx; rw [hb] at this; cases this
        | some b => rfl
      | some a =>
        cases hb : fnF q.gFuncs x.gName with
        | none => rfl
        | some b =>
          obtain ⟨k1, k2, k3⟩ := hp.b a (fnF_mem ha)
          simp only [Option.isSome_some, beq_self_eq_true, Bool.not_true, cond_false, Option.getD_some]
          rw [sameF_eq k1 k2 k3]; rfl
    have hc' : (bif (!((fnF p.gFuncs x.gName).isSome == (fnF q.gFuncs x.gName).isSome)) then some true else ((KaX ((fnF p.gFuncs x.gName).getD noF) ((fnF q.gFuncs x.gName).getD noF)).bind fun x128 => some (!x128))) = some (chF p q x.gName) := by
      rw [← hc]
      generalize (bif (!((fnF p.gFuncs x.gName).isSome == (fnF q.gFuncs x.gName).isSome)) then some true else ((KaX ((fnF p.gFuncs x.gName).getD noF) ((fnF q.gFuncs x.gName).getD noF)).bind fun x128 => some (!x128))) = m
      cases m <;> rfl
    simp only []
    rw [hc', Option.bind_some, List.map_append, List.filter_append]
    cases hch : chF p q x.gName
    · simp [hch]
    · simp only [cond_true]
      rw [Kcu (by omega) (by simp; omega), Option.bind_some]
      simp [hch]
  · simp only [Kbe, cond_false]
  · have hfl := List.length_filter_le (chF p q) ((p.gFuncs ++ q.gFuncs).map (·.gName))
    rw [List.length_map, List.length_append] at hfl
    rw [row_eq (by omega), Option.bind_some, List.map_append]; rfl
theorem funcs_r : Kcw = KbV := rfl
theorem KgL {p q : Pg} (hp : PB p) (hq : PB q) : KbB p q = some (insA ltB ((nmsG p ++ nmsG q).filter (chG p q))) := by
  have h1 := hp.g
  have h2 := hq.g
  unfold KbB
  rw [concatG h1 h2, Option.bind_some]
  refine Kbr (p.gGlobals ++ q.gGlobals) (fun pre => (pre.map (·.gName)).filter (chG p q)) (fun a n => (a, (n : Int))) (fun a => a) (by simp) (fun pre x post hpp => ?_) ?_ ?_
  · have hl := pre_len hpp
    have hfl := List.length_filter_le (chG p q) (pre.map (·.gName))
    rw [List.length_append] at hl
    rw [List.length_map] at hfl
    have hx : x ∈ p.gGlobals ∨ x ∈ q.gGlobals := List.mem_append.1 (Kc9 hpp)
    simp only [Kbd hpp, cond_true]
    rw [Kam hpp rfl, Option.bind_some, KfZ _ (by omega), Option.bind_some, KfZ _ (by omega), Option.bind_some, KaT hpp (by simp; omega)]
    have hc' : (bif (!((fnG p.gGlobals x.gName).isSome == (fnG q.gGlobals x.gName).isSome)) then some true else (bif (!(((fnG p.gGlobals x.gName).getD noG).gPtr == ((fnG q.gGlobals x.gName).getD noG).gPtr)) then some true else some (((fnG p.gGlobals x.gName).getD noG).gSize != ((fnG q.gGlobals x.gName).getD noG).gSize))) = some (chG p q x.gName) := by
      unfold chG
      cases ha : fnG p.gGlobals x.gName with
      | none =>
        cases hb : fnG q.gGlobals x.gName with
        | none =>
          rcases hx with hx | hx
          · have := Kgp hx; rw [ha] at this; cases this
          · have := Kgp hx; rw [hb] at this; cases this
        | some b => rfl
      | some a =>
        cases hb : fnG q.gGlobals x.gName with
        | none => rfl
        | some b =>
          simp only [Option.isSome_some, beq_self_eq_true, Bool.not_true, cond_false, Option.getD_some, neG]
          cases (a.gPtr == b.gPtr) <;> rfl
    simp only []
    rw [hc', Option.bind_some, List.map_append, List.filter_append]
    cases hch : chG p q x.gName
    · simp [hch]
    · simp only [cond_true]
      rw [Kcu (by omega) (by simp; omega), Option.bind_some]
      simp [hch]
  · simp only [Kbe, cond_false]
  · have hfl := List.length_filter_le (chG p q) ((p.gGlobals ++ q.gGlobals).map (·.gName))
    rw [List.length_map, List.length_append] at hfl
    rw [row_eq (by omega), Option.bind_some, List.map_append]; rfl
theorem globals_r : Kb5 = KbB := rfl
def dF (p q : Pg) : List ByteArray := insA ltB ((nmsF p ++ nmsF q).filter (chF p q))
def dG (p q : Pg) : List ByteArray := insA ltB ((nmsG p ++ nmsG q).filter (chG p q))
theorem of_eq {p q : Pg} (hp : PB p) (hq : PB q) : KcO p q = some ⟨dF p q, dG p q⟩ := by
 unfold KcO
 rw [funcs_eq hp hq, Option.bind_some, KgL hp hq]; rfl
theorem of_r {p q : Pg} (hp : PB p) (hq : PB q) : KcG p q = some ⟨dF p q, dG p q⟩ := by
 unfold KcG
 rw [funcs_r, globals_r, funcs_eq hp hq, Option.bind_some, KgL hp hq]; rfl
theorem d_len {p q : Pg} (hp : PB p) (hq : PB q) : (dF p q).length ≤ 524288 ∧ (dG p q).length ≤ 524288 := by
 have h1 := hp.f
 have h2 := hp.g
 have h3 := hq.f
 have h4 := hq.g
 have k1 := (Kdc ((nmsF p ++ nmsF q).filter (chF p q))).2.2
 have k2 := List.length_filter_le (chF p q) (nmsF p ++ nmsF q)
 have k3 := (Kdc ((nmsG p ++ nmsG q).filter (chG p q))).2.2
 have k4 := List.length_filter_le (chG p q) (nmsG p ++ nmsG q)
 have e1 : (nmsF p).length = p.gFuncs.length := by simp [nmsF]
 have e2 : (nmsF q).length = q.gFuncs.length := by simp [nmsF]
 have e3 : (nmsG p).length = p.gGlobals.length := by simp [nmsG]
 have e4 : (nmsG q).length = q.gGlobals.length := by simp [nmsG]
 rw [List.length_append] at k2 k4
 exact ⟨by unfold dF; omega, by unfold dG; omega⟩
end Go.Proofs.Ytnfkijcmakgkmaa.Ab.Pq
namespace Go.Proofs.Ytnfkijcmakgkmaa.Ab.Pq
open Go
set_option linter.all false
theorem dF_self (p : Pg) : dF p p = [] := by
 have : (nmsF p ++ nmsF p).filter (chF p p) = [] := by
  rw [List.filter_eq_nil_iff]
  intro s hs
  have hs' : s ∈ nmsF p := by rcases List.mem_append.1 hs with h | h <;> exact h
  obtain ⟨x, hx, rfl⟩ := List.mem_map.1 hs'
  have := Kgo hx
  unfold chF
  cases h : fnF p.gFuncs x.gName with
  | none => rw [h] at this; cases this
  | some a => simp [eqF_refl]
 unfold dF; rw [this]; rfl
theorem dG_self (p : Pg) : dG p p = [] := by
 have : (nmsG p ++ nmsG p).filter (chG p p) = [] := by
  rw [List.filter_eq_nil_iff]
  intro s hs
  have hs' : s ∈ nmsG p := by rcases List.mem_append.1 hs with h | h <;> exact h
  obtain ⟨x, hx, rfl⟩ := List.mem_map.1 hs'
  have := Kgp hx
  unfold chG
  cases h : fnG p.gGlobals x.gName with
  | none => rw [h] at this; cases this
  | some a => simp [neG]
 unfold dG; rw [this]; rfl
def hasS (s : ByteArray) (l : List ByteArray) : Bool := l.any fun x => decide (s = x)
theorem Keh (s : ByteArray) {l : List ByteArray} (hl : l.length ≤ 4000000) : K4 l s = some (hasS s l) := by
 unfold K4 KaY
 obtain ⟨i, h1, h2⟩ := Kfk (fun x => decide (s = x)) (l := l) (f := fun (s15 : Int) => (bif (decide (s15 < (l.length : Int))) then ((idx l s15).bind fun x25 => (bif (decide (s = x25)) then some (.done (.inr s15)) else some (.next (IntKind.i64.wrap (s15 + (1 : Int)))))) else some (.done (.inl ())))) (fun p x q h => by
  rw [Kbd h, cond_true, Kam h rfl, Option.bind_some, KaT h (by omega)]
  cases decide (s = x) <;> rfl) (by rw [Kbe, cond_false])
 rw [h1, Option.bind_some]
 unfold hasS
 rcases h2 with ⟨rfl, h⟩ | ⟨n, x, rfl, _, h, h'⟩
 ·have : l.any (fun x => decide (s = x)) = false := by
   rw [List.find?_eq_none] at h
   rw [List.any_eq_false]; exact fun x hx => h x hx
  rw [this]; rfl
 ·have : l.any (fun x => decide (s = x)) = true := List.any_eq_true.2 ⟨x, List.mem_of_find?_eq_some h', List.find?_some (p := fun x => decide (s = x)) h'⟩
  rw [this, decide_eq_true (by omega)]
theorem find_loop2 {α β : Type} (t : α → Bool) {l : List α} {m : β} {f : Int × β → Option (Step (Int × β) (β ⊕ (Int × β)))}
    (h1 : ∀ p x q, l = p ++ x :: q → f ((p.length : Int), m) = some (bif t x then .done (.inr (((p.length : Nat) : Int), m)) else .next (((p.length + 1 : Nat) : Int), m)))
    (h2 : f ((l.length : Int), m) = some (.done (.inl m))) : ∃ i : Int, Option.bind (α := β ⊕ (Int × β)) (loopM f ((0 : Int), m)) (Sum.elim (fun y => some ((-1 : Int), y)) (fun r => some r)) = some (i, m) ∧ ((i = -1 ∧ l.find? t = none) ∨ ∃ (n : Nat) (x : α), i = n ∧ n < l.length ∧ l[n]? = some x ∧ l.find? t = some x) := by
  have key : ∀ (q p : List α), l = p ++ q → (∀ y ∈ p, t y = false) → ∃ i : Int, Option.bind (α := β ⊕ (Int × β)) (loopM f ((p.length : Int), m)) (Sum.elim (fun y => some ((-1 : Int), y)) (fun r => some r)) = some (i, m) ∧ ((i = -1 ∧ l.find? t = none) ∨ ∃ (n : Nat) (x : α), i = n ∧ n < l.length ∧ l[n]? = some x ∧ l.find? t = some x) := by
    intro q
    induction q with
    | nil =>
      intro p e hp
      rw [List.append_nil] at e; subst e
      refine ⟨-1, by rw [Ka7 h2]; rfl, .inl ⟨rfl, List.find?_eq_none.2 fun y hy => by rw [hp y hy]; simp⟩⟩
    | cons x q ih =>
      intro p e hp
      have h := h1 p x q e
      cases ht : t x
      · rw [ht, cond_false] at h
        rw [Kb2 h]
        have := ih (p ++ [x]) (by simp [e]) (fun y hy => by
          rcases List.mem_append.1 hy with hy | hy
          · exact hp y hy
          · rw [List.mem_singleton] at hy; subst hy; exact ht)
        simpa using this
      · rw [ht, cond_true] at h
        refine ⟨(p.length : Int), by rw [Ka7 h]; rfl, .inr ⟨p.length, x, rfl, by subst e; simp, by subst e; simp, ?_⟩⟩
        subst e
        rw [List.find?_append, List.find?_eq_none.2 fun y hy => by rw [hp y hy]; simp]
        simp [ht]
  have := key l [] rfl (by simp)
  simpa using this
theorem KhH {l m : List ByteArray} (hl : l.length ≤ 4000000) (hm : m.length ≤ 4000000) : Kac l m = some (l.any fun g => hasS g m, m) := by
 unfold Kac Kay
 obtain ⟨i, h1, h2⟩ := find_loop2 (m := m) (fun x => hasS x m) (l := l) (f := fun (s18 : Int × List ByteArray) => (bif (decide (s18.1 < (l.length : Int))) then ((idx l s18.1).bind fun x30 => ((KbF x30 s18.2).bind fun x31 => (bif x31 then some (.done (.inr (s18.1, s18.2))) else some (.next ((IntKind.i64.wrap (s18.1 + (1 : Int))), s18.2))))) else some (.done (.inl s18.2)))) (fun p x q h => by
  rw [Kbd h, cond_true, Kam h rfl, Option.bind_some, KaT h (by omega)]
  unfold KbF
  rw [Keh _ hm]
  simp only [Option.bind_some]
  cases hasS x m <;> rfl) (by rw [Kbe, cond_false])
 rw [h1, Option.bind_some]
 rcases h2 with ⟨rfl, h⟩ | ⟨n, x, rfl, _, h, h'⟩
 ·have : l.any (fun g => hasS g m) = false := by
   rw [List.find?_eq_none] at h
   rw [List.any_eq_false]; exact fun x hx => h x hx
  rw [this]; rfl
 ·have : l.any (fun g => hasS g m) = true := List.any_eq_true.2 ⟨x, List.mem_of_find?_eq_some h', List.find?_some (p := fun g => hasS g m) h'⟩
  rw [this, decide_eq_true (by omega)]
def tch (d : List ByteArray) (f : KB) : Bool := d.any fun g => hasS g (insA ltB (KcS false f.gBody))
def tou (p q : Pg) : List ByteArray := insA ltB (dF p q ++ ((p.gFuncs ++ q.gFuncs).filter (tch (dG p q))).map (·.gName))
theorem touched_eq {p q : Pg} (hp : PB p) (hq : PB q) : KbD p q = some (tou p q) ∧ (tou p q).length ≤ 1048576 := by
 have h1 := hp.f
 have h2 := hq.f
 have hd := d_len hp hq
 have hfl := List.length_filter_le (tch (dG p q)) (p.gFuncs ++ q.gFuncs)
 rw [List.length_append] at hfl
 have hil := (Kdc (dF p q ++ ((p.gFuncs ++ q.gFuncs).filter (tch (dG p q))).map (·.gName))).2.2
 rw [List.length_append, List.length_map] at hil
 refine ⟨?_, by unfold tou; omega⟩
 unfold KbD
 rw [of_r hp hq, Option.bind_some, concatF h1 h2, Option.bind_some]
 refine Kbr (p.gFuncs ++ q.gFuncs) (fun pre => dF p q ++ (pre.filter (tch (dG p q))).map (·.gName)) (fun a n => ((n : Int), a)) (fun a => a) (by simp) (fun pre x post hpp => ?_) ?_ ?_
 ·have hl := pre_len hpp
  have hfl := List.length_filter_le (tch (dG p q)) pre
  rw [List.length_append] at hl
  have hx : FB x := by
   rcases List.mem_append.1 (Kc9 hpp) with hx | hx
   ·exact hp.b x hx
   ·exact hq.b x hx
  have hn := KhU false x.gBody
  have hni := (Kdc (KcS false x.gBody)).2.2
  have hx3 := hx.2.2
  simp only [Kbd hpp, cond_true]
  rw [Kam hpp rfl, Option.bind_some, names_eq hx.2.2, Option.bind_some, KhH (by omega) (by omega), Option.bind_some, KaT hpp (by simp; omega), List.filter_append, List.map_append]
  rw [show (dG p q).any (fun g => hasS g (insA ltB (KcS false x.gBody))) = tch (dG p q) x from rfl]
  cases ht : tch (dG p q) x
  ·simp [ht]
  ·simp only [cond_true]
   rw [Kcu (by omega) (by simp; omega), Option.bind_some]
   simp [ht]
 ·simp only [Kbe, cond_false]
 ·rw [row_eq (by rw [List.length_append, List.length_map]; omega), Option.bind_some]; rfl
theorem tou_self (p : Pg) : tou p p = [] := by
 unfold tou
 rw [dF_self, dG_self]
 have : (p.gFuncs ++ p.gFuncs).filter (tch []) = [] := by
  rw [List.filter_eq_nil_iff]; intro x _; simp [tch]
 rw [this]; rfl
end Go.Proofs.Ytnfkijcmakgkmaa.Ab.Pq
namespace Go.Proofs.Ytnfkijcmakgkmaa.Ab
open Go Go.RowKit Go.Shelf Go.Proofs Go.Proofs.Ytnfkijcmakgkmaa.Ab.Pq
set_option linter.all false
theorem keKey (a b : Ka) : (decide (a.gName = b.gName) && (a.gNode == b.gNode && true)) = decide (b = a) := by
 rw [Bool.eq_iff_iff, decide_eq_true_iff]
 obtain ⟨a0, a1⟩ := a
 obtain ⟨b0, b1⟩ := b
 simp only [Bool.and_eq_true, decide_eq_true_eq, beq_iff_eq, and_true, Ka.mk.injEq]
 constructor <;> intro h <;> simp_all
theorem mkK : KeyOK Try.prog 39 (fun a : Ka => Value.agg (kc2 a).toArray) := struct_key (g := kc2) htab eqt39 rfl rfl (fun _ => rfl) (fun _ => rfl) (fun a b => (show eqL tab _ _ _ = some (decide (a.gName = b.gName) && (a.gNode == b.gNode && true)) from rfl).trans (congrArg some (keKey a b)))
abbrev Ties := List (Ka × (List Ka × Z3))
def tieM (es : Ties) : List (Value × D) := es.map fun p => (Value.agg (kc2 p.1).toArray, (fun q : List Ka × Z3 => D.v (SL q.2)) p.2)
def tieR (es : Ties) : List (Nat × Blk) := es.map fun p => (0, Blk.row 2 (p.2.1.map Kb) (SL p.2.2))
def tieH (b : Nat) (es : Ties) : List (Nat × Blk) := (b, .mp (tieM es)) :: tieR es
def tieL (es : Ties) : List (Ka × List Ka) := es.map fun p => (p.1, p.2.1)
abbrev zr0 : List Ka × Z3 := ([], (none, 0, 0))
theorem KdB {β : Type} : ∀ {l : List (Ka × β)} {k : Ka}, (mget l k = none ∧ (∀ u, mput l k u = l ++ [(k, u)]) ∧ ∀ p ∈ l, p.1 ≠ k) ∨ ∃ l1 l2 v, mget l k = some v ∧ l = l1 ++ (k, v) :: l2 ∧ (∀ u, mput l k u = l1 ++ (k, u) :: l2) ∧ ∀ p ∈ l1, p.1 ≠ k
  | [], k => .inl ⟨rfl, fun _ => rfl, by simp⟩
  | (a, b) :: l, k => by
    by_cases q : a = k
    · subst q
      exact .inr ⟨[], l, b, by simp [mget], rfl, fun u => by simp [mput], by simp⟩
    · rcases KdB (l := l) (k := k) with ⟨h1, h2, h3⟩ | ⟨l1, l2, v, h1, h2, h3, h4⟩
      · exact .inl ⟨by simp [mget, q, h1], fun u => by simp [mput, q, h2], by intro p hp; rcases List.mem_cons.1 hp with rfl | hp; exact q; exact h3 p hp⟩
      · exact .inr ⟨(a, b) :: l1, l2, v, by simp [mget, q, h1], by simp [h2], fun u => by simp [mput, q, h3], by intro p hp; rcases List.mem_cons.1 hp with rfl | hp; exact q; exact h4 p hp⟩
theorem mgetL (es : Ties) (k : Ka) : mgetD (tieL es) k [] = (mgetD es k zr0).1 := by
  unfold mgetD tieL
  induction es with
  | nil => rfl
  | cons p es ih =>
    obtain ⟨a, v⟩ := p
    simp only [List.map_cons, mget]
    by_cases q : a = k
    · simp [q]
    · simp only [q, if_false]; exact ih
theorem mputL (es : Ties) (k : Ka) (v : List Ka × Z3) : tieL (mput es k v) = mput (tieL es) k v.1 := by
  unfold tieL
  induction es with
  | nil => rfl
  | cons p es ih =>
    obtain ⟨a, u⟩ := p
    simp only [List.map_cons, mput]
    by_cases q : a = k
    · simp [q]
    · simp only [q, if_false, List.map_cons]; rw [ih]
theorem run_lkp {H : Hp} {w : World} {b : Nat} {es : Ties} (hb : BlkOK H w (b, .mp (tieM es))) (k : Ka) :
  (Instr.lookup 51 (.map (some b)) (.agg #[.string k.gName, .int .i64 k.gNode]) false).run Try.prog w = .ok (SL (mgetD es k zr0).2) w := by
 obtain ⟨dd, h1, h2⟩ := run_underlying (P := Try.prog) (w := w) (ti_ok htab (t := 51) rfl)
 have hd : tdOf dd = .map 39 27 := h2
 have := td_map hd; subst this
 obtain ⟨me, ck, g1, g2, g3⟩ := hb
 have hfk := mkK.find w k me.toList (es.map (·.1)) (Kfa (f := fun a : Ka => Value.agg (kc2 a).toArray) (e := fun q : List Ka × Z3 => D.v (SL q.2)) g2)
 have hz : (Try.prog.info? 27).bind (·.zero) = some (.slice none 0 0) := by kernel_rfl
 unfold Instr.lookup mgetD
 rcases Kfb (f := fun a : Ka => Value.agg (kc2 a).toArray) (e := fun q : List Ka × Z3 => D.v (SL q.2)) k 0 g2 with ⟨q1, q2, _⟩ | ⟨j', b', m, q1, q2, q3, _⟩
 ·rw [q2] at hfk
  simp only [run_bind, h1, Result.andThen, MapKept.run_getObj_map g1, run_pure, mkK.check, show (Value.agg #[.string k.gName, .int .i64 k.gNode]) = Value.agg (kc2 k).toArray from rfl, hfk, run_zv hz]
  rw [q1]; simp
 ·rw [q2] at hfk
  simp only [run_bind, h1, Result.andThen, MapKept.run_getObj_map g1, run_pure, mkK.check, show (Value.agg #[.string k.gName, .int .i64 k.gNode]) = Value.agg (kc2 k).toArray from rfl, hfk]
  rw [q1, KP q3]; simp
theorem run_upd {H : Hp} {w : World} {b : Nat} {es : Ties} (hb : BlkOK H w (b, .mp (tieM es))) (k : Ka) (v : List Ka × Z3) :
  ∃ me ck, (Instr.mapUpdate 51 (.map (some b)) (.agg #[.string k.gName, .int .i64 k.gNode]) (SL v.2)).run Try.prog w = .ok () { w with heap := w.heap.setIfInBounds b (.map me ck) } ∧ MapR H (tieM (mput es k v)) me.toList := by
 obtain ⟨dd, h1, h2⟩ := run_underlying (P := Try.prog) (w := w) (ti_ok htab (t := 51) rfl)
 have hd : tdOf dd = .map 39 27 := h2
 have := td_map hd; subst this
 obtain ⟨me, ck, g1, g2, g3⟩ := hb
 have hfk := mkK.find w k me.toList (es.map (·.1)) (Kfa (f := fun a : Ka => Value.agg (kc2 a).toArray) (e := fun q : List Ka × Z3 => D.v (SL q.2)) g2)
 have hyv : Rep H ((fun q : List Ka × Z3 => D.v (SL q.2)) v) (SL v.2) := rep_v rfl
 unfold Instr.mapUpdate
 rcases Kfb (f := fun a : Ka => Value.agg (kc2 a).toArray) (e := fun q : List Ka × Z3 => D.v (SL q.2)) k 0 g2 with ⟨q1, q2, q3⟩ | ⟨j', b', m, q1, q2, q3, q4, q5, q6⟩
 ·refine ⟨me.push ⟨Value.agg (kc2 k).toArray, SL v.2, ck⟩, ck + 1, ?_, by rw [Array.toList_push]; exact q3 v _ ck hyv⟩
  rw [q2] at hfk
  simp only [run_bind, h1, Result.andThen, MapKept.run_getObj_map g1, run_pure, mkK.check, show (Value.agg #[.string k.gName, .int .i64 k.gNode]) = Value.agg (kc2 k).toArray from rfl, hfk, MapKept.run_setObj_map _ g1]
 ·refine ⟨me.modify j' fun x => { x with key := Value.agg (kc2 k).toArray, val := SL v.2 }, ck, ?_, by rw [Array.toList_modify]; exact q6 v _ hyv⟩
  rw [q2] at hfk
  have hm : me[j']? = some m := by rw [← Array.getElem?_toList]; exact q4
  rw [Nat.zero_add] at hfk
  simp only [run_bind, h1, Result.andThen, MapKept.run_getObj_map g1, run_pure, mkK.check, show (Value.agg #[.string k.gName, .int .i64 k.gNode]) = Value.agg (kc2 k).toArray from rfl, hfk, hm, Option.map_some, Option.getD_some, q5, mkK.stays, MapKept.run_setObj_map _ g1]
theorem blk_bel {H : Hp} {w w' : World} (hA : Ag H w) (hb : Below w.heap.size w w') {p : Nat × Blk} (h : BlkOK H w p) : BlkOK H w' p :=
 BlkOK.later (KaC hA hb) h (by simp)
theorem Kea {H : Hp} {w w' : World} {h : List (Nat × Blk)} (hA : Ag H w) (hB : ∀ p ∈ h, BlkOK H w p) (nd : (Ki h []).Nodup) (hb : Below w.heap.size w w') : Core ⟨H, w, Ki h []⟩ H h [] w' :=
 ⟨fun a v e => by rw [hb.cell (p := a) (hA.lt e)]; exact hA a v e, Hp.le_refl H, fun _ _ x => .inl x, fun b hl _ => hb.block b hl, hb.size, fun p hp => blk_bel hA hb (hB p hp), by simp, nd, fun b hx => .inl hx, ⟨hb.os, hb.tape, hb.output, Nat.le_refl _⟩⟩
theorem core_empty {C : Ctx} {H : Hp} {h : List (Nat × Blk)} {W : World} (c : Core C H h [] W) : Core C H ((0, .row 2 ([].map Kb) (SL (none, 0, 0))) :: h) [] W := by
 refine ⟨c.ag, c.le, c.new, c.same, c.size, ?_, by simp, ?_, ?_, c.env⟩
 ·intro p hp
  rcases List.mem_cons.1 hp with rfl | hp
  ·exact .inl ⟨none, rfl, rfl⟩
  ·exact c.blks p hp
 ·have := c.nd; simpa [Ki, Kt, KK] using this
 ·have := c.own; simpa [Ki, Kt, KK] using this
theorem tie_split {C : Ctx} {H : Hp} {W : World} {b : Nat} {es : Ties} {ex : List (Nat × Blk)} (x : Ka) (c : Core C H (tieH b es ++ ex) [] W) : ∃ rest : List (Nat × Blk), (∀ p ∈ ex, p ∈ rest) ∧
  Core C H ((0, .row 2 ((mgetD es x zr0).1.map Kb) (SL (mgetD es x zr0).2)) :: (b, .mp (tieM es)) :: rest) [] W ∧
  ∀ (xs' : List Ka) (z' : Z3) (C' : Ctx) (W' : World), Core C' H ((0, .row 2 (xs'.map Kb) (SL z')) :: (b, .mp (tieM (mput es x (xs', z')))) :: rest) [] W' → Core C' H (tieH b (mput es x (xs', z')) ++ ex) [] W' := by
 rcases KdB (l := es) (k := x) with ⟨h1, h2, _⟩ | ⟨l1, l2, v, h1, h2, h3, _⟩
 ·refine ⟨tieR es ++ ex, fun p hp => List.mem_append_right _ hp, ?_, fun xs' z' C' W' c' => ?_⟩
  ·have : mgetD es x zr0 = zr0 := by unfold mgetD; rw [h1]; rfl
   rw [this]; exact core_empty c
  ·rw [h2] at c' ⊢
   refine c'.perm ?_ (List.Perm.refl _)
   unfold tieH
   refine (List.Perm.swap _ _ _).trans (List.Perm.cons _ ?_)
   simp only [tieR, List.map_append, List.map_cons, List.map_nil]
   rw [← List.cons_append]
   exact List.Perm.append_right _ (List.perm_append_singleton _ _).symm
 ·refine ⟨(tieR l1 ++ tieR l2) ++ ex, fun p hp => List.mem_append_right _ hp, ?_, fun xs' z' C' W' c' => ?_⟩
  ·have : mgetD es x zr0 = v := by unfold mgetD; rw [h1]; rfl
   rw [this]
   refine c.perm ?_ (List.Perm.refl _)
   unfold tieH
   refine List.Perm.trans ?_ (List.Perm.swap _ _ _)
   refine List.Perm.cons _ ?_
   rw [h2]
   simp only [tieR, List.map_append, List.map_cons]
   rw [← List.cons_append]
   exact List.Perm.append_right _ List.perm_middle
  ·rw [h3] at c' ⊢
   refine c'.perm ?_ (List.Perm.refl _)
   unfold tieH
   refine (List.Perm.swap _ _ _).trans (List.Perm.cons _ ?_)
   simp only [tieR, List.map_append, List.map_cons]
   rw [← List.cons_append]
   exact List.Perm.append_right _ List.perm_middle.symm
theorem KaJ {H : Hp} {W : World} {b : Nat} {T : TypeId} {x : Ka} (h : BlkOK H W (b, .cells ((kc2 x).map .v) T)) : W.cell? ⟨b, 0, none⟩ = some (.string x.gName) ∧ W.cell? ⟨b, 1, none⟩ = some (.int .i64 x.gNode) := by
 obtain ⟨us, h1, h2, _⟩ := h
 have := KbM h2; subst this
 simp [World.cell?, h1, kc2]
def tieF (m : List (Ka × List Ka)) (x y : Ka) : List (Ka × List Ka) := if y ∈ mgetD m x [] then m else mput m x (insT ltK y (mgetD m x []))
theorem tie_one {C : Ctx} {H : Hp} {W W3 W4 : World} {b : Nat} {rest : List (Nat × Blk)} {es : Ties} {x y : Ka} {xs xs' : List Ka} {z z' : Z3} {me : Array MapEntry} {ck : Nat} (hrest : Core C H ((0, .row 2 (xs.map Kb) (SL z)) :: (b, .mp (tieM es)) :: rest) [] W)
  (hW3 : W3 = W.alloc (.cells (kc2 y).toArray 39)) (c4 : Core ⟨H, W3, Ki [(0, Blk.row 2 (xs.map Kb) (SL z)), (0, Blk.row 2 ([y].map Kb) (SL (some ⟨W.heap.size, 0, none⟩, 1, 1)))] []⟩ H [(0, .row 2 (xs'.map Kb) (SL z'))] [] W4) :
  Core C H ((0, .row 2 (xs'.map Kb) (SL z')) :: (b, .mp (tieM es)) :: rest) [] W4 ∧ (MapR H (tieM (mput es x (xs', z'))) me.toList → Core C H ((0, .row 2 (xs'.map Kb) (SL z')) :: (b, .mp (tieM (mput es x (xs', z')))) :: rest) [] { W4 with heap := W4.heap.setIfInBounds b (.map me ck) }) := by
 subst hW3
 have c3 := Core.newRow hrest (xs := [y].map Kb) (us := kc2 y) (rest := []) (kk := 2) (m := 1) (T := 39) (Kb9 [y]) (by simp) (by simp [kc2]) (by simp)
 simp only [List.append_nil, List.length_map, List.length_cons, List.length_nil] at c3
 have c3' : Core C H ([(0, .row 2 (xs.map Kb) (SL z)), (0, .row 2 ([y].map Kb) (SL (some ⟨W.heap.size, 0, none⟩, 1, 1)))] ++ ((b, .mp (tieM es)) :: rest)) ([] ++ []) (W.alloc (.cells (kc2 y).toArray 39)) :=
  c3.perm (List.Perm.swap _ _ _) (List.Perm.refl _)
 have c5 := Core.call c3' c4
 refine ⟨c5, fun hm => ?_⟩
 exact Core.setMap (j := 1) (es' := tieM (mput es x (xs', z'))) (me := me) (ck := ck) c5 rfl hm
theorem tie_pre {C : Ctx} {H : Hp} {W : World} {b : Nat} {rest : List (Nat × Blk)} {es : Ties} {y : Ka} {xs : List Ka} {z : Z3} {i : Nat} (hrest : Core C H ((0, .row 2 (xs.map Kb) (SL z)) :: (b, .mp (tieM es)) :: rest) [] W) (hi : i ≤ xs.length) (hl : xs.length < 4398046511104) :
    Calls Try.prog 25 #[SL z, .int .i64 i, SL (some ⟨W.heap.size, 0, none⟩, 1, 1)] (W.alloc (.cells (kc2 y).toArray 39)) fun e w' => ∃ z' : Z3, e = .returned (SL z') ∧ Core ⟨H, W.alloc (.cells (kc2 y).toArray 39), Ki [(0, Blk.row 2 (xs.map Kb) (SL z)), (0, Blk.row 2 ([y].map Kb) (SL (some ⟨W.heap.size, 0, none⟩, 1, 1)))] []⟩ H [(0, .row 2 ((insAt xs i y).map Kb) (SL z'))] [] w' := by
  have c3 := Core.newRow hrest (xs := [y].map Kb) (us := kc2 y) (rest := []) (kk := 2) (m := 1) (T := 39) (Kb9 [y]) (by simp) (by simp [kc2]) (by simp)
  simp only [List.append_nil, List.length_map, List.length_cons, List.length_nil] at c3
  have c3' : Core C H ([(0, .row 2 (xs.map Kb) (SL z)), (0, .row 2 ([y].map Kb) (SL (some ⟨W.heap.size, 0, none⟩, 1, 1)))] ++ ((b, .mp (tieM es)) :: rest)) ([] ++ []) (W.alloc (.cells (kc2 y).toArray 39)) :=
    c3.perm (List.Perm.swap _ _ _) (List.Perm.refl _)
  exact KdS y i hi hl c3'.ag (c3'.blks (0, .row 2 (xs.map Kb) (SL z)) (by simp)) (c3'.blks (0, .row 2 ([y].map Kb) (SL (some ⟨W.heap.size, 0, none⟩, 1, 1))) (by simp)) (by
        have := (KaU [(0, Blk.row 2 (xs.map Kb) (SL z)), (0, Blk.row 2 ([y].map Kb) (SL (some ⟨W.heap.size, 0, none⟩, 1, 1)))] ((b, .mp (tieM es)) :: rest) [] []).nodup_iff.1 c3'.nd
        exact (List.nodup_append.1 this).1)
theorem tie_ins {C : Ctx} {H : Hp} {W : World} {b : Nat} {rest : List (Nat × Blk)} {es : Ties} {x y : Ka} {xs : List Ka} {z : Z3} {i : Nat} (hrest : Core C H ((0, .row 2 (xs.map Kb) (SL z)) :: (b, .mp (tieM es)) :: rest) [] W) (hi : i ≤ xs.length) (hl : xs.length < 4398046511104) :
  Calls Try.prog 25 #[SL z, .int .i64 i, .slice (some ⟨W.heap.size, 0, none⟩) 1 1] (W.alloc (.cells #[Value.string y.gName, Value.int IntKind.i64 y.gNode] 39)).drew fun e w' => ∃ (z' : Z3) (w5 : World), e = .returned (SL z') ∧ Core C H ((0, .row 2 ((insAt xs i y).map Kb) (SL z')) :: (b, .mp (tieM es)) :: rest) [] w' ∧
   (Instr.mapUpdate 51 (.map (some b)) (.agg #[.string x.gName, .int .i64 x.gNode]) (SL z')).run Try.prog w' = .ok () w5 ∧
   Core C H ((0, .row 2 ((insAt xs i y).map Kb) (SL z')) :: (b, .mp (tieM (mput es x (insAt xs i y, z')))) :: rest) [] w5 := by
 refine (tie_pre (y := y) (Core.drew hrest) hi hl).mono ?_
 rintro e w' ⟨z', he, c4⟩
 obtain ⟨c6, _⟩ := tie_one (x := x) (me := #[]) (ck := 0) (Core.drew hrest) rfl c4
 obtain ⟨me, ck, hup, hmr⟩ := run_upd (c6.blks (b, .mp (tieM es)) (by simp)) x (insAt xs i y, z')
 obtain ⟨_, hset⟩ := tie_one (x := x) (me := me) (ck := ck) (Core.drew hrest) rfl c4
 exact ⟨z', _, he, c6, hup, hset hmr⟩
theorem Khk (H : Hp) (w : World) (hA : Ag H w) (b : Nat) (es : Ties) (x y : Ka) (hb : ∀ p ∈ tieH b es, BlkOK H w p) (nd : (Ki (tieH b es) []).Nodup) (hy : clK y = y) (hr : RowC (mgetD es x zr0).1) (hl : (mgetD es x zr0).1.length < 4398046511104) :
  Calls Try.prog 13 #[.map (some b), encK x, encK y] w fun e w' => ∃ es', e = .returned (.tuple #[]) ∧ Core ⟨H, w, Ki (tieH b es) []⟩ H (tieH b es') [] w' ∧ tieL es' = tieF (tieL es) x y := by
 have mixed : Try.prog.follows .mixedOrders = true := by kernel_rfl
 obtain ⟨W1, hW1⟩ : ∃ W1, W1 = (w.alloc (Obj.cells #[Value.string x.gName, Value.int IntKind.i64 x.gNode] 39)).alloc (Obj.cells #[Value.string y.gName, Value.int IntKind.i64 y.gNode] 39) := ⟨_, rfl⟩
 have hs1 : W1.heap.size = w.heap.size + 2 := by rw [hW1]; simp
 have c1 : Core ⟨H, w, Ki (tieH b es) []⟩ H (tieH b es ++ [(w.heap.size, .cells ((kc2 x).map .v) 39), (w.heap.size + 1, .cells ((kc2 y).map .v) 39)]) [] W1 := by
  rw [hW1]
  have q := Core.alloc (Core.alloc (Kea hA hb nd (Below.refl _ w)) (ds := (kc2 x).map .v) (us := kc2 x) 39 (Kbv H (kc2 x) rfl)) (ds := (kc2 y).map .v) (us := kc2 y) 39 (Kbv H (kc2 y) rfl)
  simp only [List.append_assoc, List.singleton_append, World.size_alloc] at q
  exact q
 have hlk := run_lkp (c1.blks (b, .mp (tieM es)) (by simp [tieH])) x
 obtain ⟨rest, hex, c1s, hback⟩ := tie_split x c1
 obtain ⟨i, hi, h3, h4, hbs⟩ := Kgh y c1s.ag (c1s.blks _ (List.mem_cons_self ..)) hy hr hl
 have box : ∀ (W : World) (p : Nat × Blk) (hs : List (Nat × Blk)) (C' : Ctx), p ∈ rest → Core C' H (hs ++ rest) [] W → BlkOK H W p := fun W p hs C' hp c => c.blks p (List.mem_append_right _ hp)
 obtain ⟨hx0, hx1⟩ := KaJ (box W1 _ [_, _] _ (hex (w.heap.size, .cells ((kc2 x).map .v) 39) (by simp)) c1s)
 obtain ⟨hy0, hy1⟩ := KaJ (box W1 _ [_, _] _ (hex (w.heap.size + 1, .cells ((kc2 y).map .v) 39) (by simp)) c1s)
 unfold encK
 simp only [encK] at hbs
 go_enter Try.func13, Try.ntmps13
 go_wp2
 rw [← hW1, hlk]
 clear hW1
 by_cases hm : y ∈ (mgetD es x zr0).1
 ·rw [decide_eq_true hm] at hbs
  go_wp2_with fail
  refine hbs.mono ?_
  rintro e W2 ⟨rfl, hb2⟩
  go_wp2
  go_end0
  have c2 : Core ⟨H, w, Ki (tieH b es) []⟩ H (tieH b es ++ [(w.heap.size, .cells ((kc2 x).map .v) 39), (w.heap.size + 1, .cells ((kc2 y).map .v) 39)]) [] W2 := Core.call (h1 := []) (k1 := []) c1 (KaC c1.ag hb2)
  refine ⟨es, rfl, c2.drop (List.sublist_append_left _ _) (List.Sublist.refl _), ?_⟩
  unfold tieF
  rw [mgetL, if_pos hm]
 ·rw [decide_eq_false hm] at hbs
  go_wp2_with fail
  refine hbs.mono ?_
  rintro e W2 ⟨rfl, hb2⟩
  have c2s : Core ⟨H, w, Ki (tieH b es) []⟩ H ((0, .row 2 ((mgetD es x zr0).1.map Kb) (SL (mgetD es x zr0).2)) :: (b, .mp (tieM es)) :: rest) [] W2 := Core.call (h1 := []) (k1 := []) c1s (KaC c1s.ag hb2)
  have hins := tie_ins (x := x) (y := y) c2s hi hl
  have hlt1 : w.heap.size < W2.heap.size := by have := hb2.size; omega
  have hlt2 : w.heap.size + 1 < W2.heap.size := by have := hb2.size; omega
  have hne1 : ¬ (w.heap.size = W2.heap.size) := by omega
  have hne2 : ¬ (W2.heap.size = w.heap.size) := by omega
  obtain ⟨hx0', hx1'⟩ := KaJ (box W2 _ [_, _] _ (hex (w.heap.size, .cells ((kc2 x).map .v) 39) (by simp)) c2s)
  obtain ⟨hy0', hy1'⟩ := KaJ (box W2 _ [_, _] _ (hex (w.heap.size + 1, .cells ((kc2 y).map .v) 39) (by simp)) c2s)
  clear hlk hx0 hx1 hy0 hy1
  go_wp2
  go_region_with_o (
   go_at_call 25
   refine hins.mono ?_
   rintro e W4 ⟨z', W5, rfl, c4, hup, c5⟩
   obtain ⟨hx0'', hx1''⟩ := KaJ (box W4 _ [_, _] _ (hex (w.heap.size, .cells ((kc2 x).map .v) 39) (by simp)) c4))
  all_goals
   go_end0
   refine ⟨_, rfl, (hback _ _ _ _ c5).drop (List.sublist_append_left _ _) (List.Sublist.refl _), ?_⟩
   unfold tieF
   rw [mputL, mgetL, if_neg hm, ins_eq hi h3 h4 hm]
end Go.Proofs.Ytnfkijcmakgkmaa.Ab
