/- The texts that spreadRestsUpto_holds leans on, part 4. -/
import Derived.Test.YtnfkijcmakgkmaaGreatQr3
set_option maxRecDepth 100000
set_option maxHeartbeats 80000000
namespace Go.Proofs.YtnfkijcmakgkmaaGreat.Ab
open Go
set_option linter.all false
structure Ka3 where
 gName : ByteArray
 gPtr : Bool
def Kaf (x : Ka3) : D := .agg [.v (.string x.gName), .v (.bool x.gPtr)]
structure Kn where
 gOp : Int
 gN : Int
 gName : ByteArray
 gKids : List Kn
 gAt : Int
mutual
def Kx : Kn → D
 | ⟨f0, f1, f2, f3, f4⟩ => .agg [.v (.int .i64 f0), .v (.int .i64 f1), .v (.string f2), .lst 5 (Kdd f3) .no, .v (.int .i64 f4)]
def Kdd : List Kn → List D
 | [] => []
 | x :: l => Kx x :: Kdd l
end
theorem KfZ : ∀ l, Kdd l = l.map Kx
 | [] => by simp [Kdd]
 | x :: l => by simp only [Kdd, List.map_cons, KfZ l]
theorem KK (x : Kn) : Kx x = .agg [.v (.int .i64 x.gOp), .v (.int .i64 x.gN), .v (.string x.gName), .lst 5 (x.gKids.map Kx) .no, .v (.int .i64 x.gAt)] := by
 cases x
 simp only [Kx, KfZ]
structure Kg where
 gOp : Int
 gName : ByteArray
 gFunc : ByteArray
 gExps : List Kn
 gKids : List Kg
 gElse : List Kg
 gAt : Int
mutual
def Kr : Kg → D
 | ⟨f0, f1, f2, f3, f4, f5, f6⟩ => .agg [.v (.int .i64 f0), .v (.string f1), .v (.string f2), .lst 5 (f3.map Kx) .no, .lst 7 (KcE f4) .no, .lst 7 (KcE f5) .no, .v (.int .i64 f6)]
def KcE : List Kg → List D
 | [] => []
 | x :: l => Kr x :: KcE l
end
theorem Kf0 : ∀ l, KcE l = l.map Kr
 | [] => by simp [KcE]
 | x :: l => by simp only [KcE, List.map_cons, Kf0 l]
theorem Kp (x : Kg) : Kr x = .agg [.v (.int .i64 x.gOp), .v (.string x.gName), .v (.string x.gFunc), .lst 5 (x.gExps.map Kx) .no, .lst 7 (x.gKids.map Kr) .no, .lst 7 (x.gElse.map Kr) .no, .v (.int .i64 x.gAt)] := by
 cases x
 simp only [Kr, Kf0]
structure KQ where
 gName : ByteArray
 gParams : List Ka3
 gLocals : List Ka3
 gBody : List Kg
 gAt : Int
def KA (x : KQ) : D := .agg [.v (.string x.gName), .lst 2 (x.gParams.map Kaf) .no, .lst 2 (x.gLocals.map Kaf) .no, .lst 7 (x.gBody.map Kr) .no, .v (.int .i64 x.gAt)]
structure K8 where
 gName : ByteArray
 gPtr : Bool
 gSize : Int
 gAt : Int
def KJ (x : K8) : D := .agg [.v (.string x.gName), .v (.bool x.gPtr), .v (.int .i64 x.gSize), .v (.int .i64 x.gAt)]
def growF53 (n : Int) : List KQ := []
def Ke3 (n : Int) : Bool := decide (0 ≤ n) && decide (n * 96 ≤ 140737488355328)
open Go.RowKit Go.Shelf Go.Proofs.YtnfkijcmakgkmaaGreat in
theorem growOk53 (n : Int) {k0 : Nat} (h : Ke3 n = true) : CallsD Tryz.prog 53 [.lst k0 [] .full, .v (.int .i64 n)] [] [] (fun d h k => ∃ y0, d = .v (SL y0) ∧ h = [(0, .row 5 ((growF53 n).map KA) (SL y0))] ∧ k = []) := by
 simp only [Ke3, Bool.and_eq_true, decide_eq_true_eq] at h
 exact grow_nil (e := 63) (bb := 96) ⟨_, Tryz.func53, rfl, rfl⟩ ⟨_, _, rfl, rfl, rfl, rfl, rfl⟩ (by decide)
  (fun a w => Any8.slices_Grow_room Tryz.grow53 a 0 0 0 w (by omega) (by omega) (by omega) (by omega))
  (fun i0 z hi0 hz0 hs0 a m w h0 hb h62 => by
   have := Any8.slices_Grow_grow Tryz.grow53 i0 z hi0 hz0 hs0 a 0 0 m [] w (by omega) (by omega) (by simpa using hb) (by omega) (by simp) (fun _ => rfl) (fun _ _ j v hj => by simp at hj)
   simpa [Tryz.grow53_ren] using this) n h.1 h.2 (by omega)
def growF86 (n : Int) : List K8 := []
def Ke4 (n : Int) : Bool := decide (0 ≤ n) && decide (n * 40 ≤ 140737488355328)
open Go.RowKit Go.Shelf Go.Proofs.YtnfkijcmakgkmaaGreat in
theorem growOk86 (n : Int) {k0 : Nat} (h : Ke4 n = true) : CallsD Tryz.prog 86 [.lst k0 [] .full, .v (.int .i64 n)] [] [] (fun d h k => ∃ y0, d = .v (SL y0) ∧ h = [(0, .row 4 ((growF86 n).map KJ) (SL y0))] ∧ k = []) := by
 simp only [Ke4, Bool.and_eq_true, decide_eq_true_eq] at h
 exact grow_nil (e := 110) (bb := 40) ⟨_, Tryz.func86, rfl, rfl⟩ ⟨_, _, rfl, rfl, rfl, rfl, rfl⟩ (by decide)
  (fun a w => Any8.slices_Grow_room Tryz.grow86 a 0 0 0 w (by omega) (by omega) (by omega) (by omega))
  (fun i0 z hi0 hz0 hs0 a m w h0 hb h62 => by
   have := Any8.slices_Grow_grow Tryz.grow86 i0 z hi0 hz0 hs0 a 0 0 m [] w (by omega) (by omega) (by simpa using hb) (by omega) (by simp) (fun _ => rfl) (fun _ _ j v hj => by simp at hj)
   simpa [Tryz.grow86_ren] using this) n h.1 h.2 (by omega)
noncomputable def KcJ (a0 : KQ) (m0 : ByteArray) : Option (Bool) :=
 some (decide (a0.gName = m0))
theorem Kgi (a0 : KQ) (m0 : ByteArray) (o0 : Nat) (T0 : TypeId) (r : Bool) (h0 : KcJ a0 m0 = some r) : CallsD Tryz.prog 83 [KA a0, .ptr o0 0] [(o0, Blk.cells [.v (.string m0)] T0)] [] (fun d h k => d = .v (.bool r) ∧ h = [(o0, Blk.cells [.v (.string m0)] T0)] ∧ k = []) := by
 have hm := KI h0
 unfold KcJ at hm
 clear h0
 refine K3 htab Tryz.func83 rfl rfl rfl rfl rfl (fun C => ?_)
 refine Kh ?_
 refine p_box rfl rfl rfl rfl rfl rfl rfl (fun b1 => ?_)
 refine pu ?_
 refine KP ?_
 refine pu ?_
 refine pL 1 ?_
 refine pL 0 ?_
 refine pu ?_
 refine pu ?_
 refine Ke ?_
 refine KE ?_
 have er2 := Kj hm; subst er2
 refine rP (t' := [(3, .v (.bool (decide (a0.gName = m0))))]) [0] [] 1 (wC wN) (lT lN) ?_
 exact ⟨rfl, rfl, rfl⟩
noncomputable def KaG (a0 : List KQ) (m0 : ByteArray) : Option (Int) :=
 (Option.bind (α := (Unit) ⊕ (Int)) (loopM (fun (s18 : Int) => (bif (decide (s18 < (a0.length : Int))) then ((idx a0 s18).bind fun x30 => ((KcJ x30 m0).bind fun x31 => (bif x31 then some (.done (.inr s18)) else some (.next (IntKind.i64.wrap (s18 + (1 : Int))))))) else some (.done (.inl ())))) (0 : Int)) (Sum.elim (fun y17 => some (-1 : Int)) (fun r => some r)))
theorem KcK (a0 : List KQ) (m0 : ByteArray) (o0 : Nat) (T0 : TypeId) (r : Int) (h0 : KaG a0 m0 = some r) : CallsD Tryz.prog 82 [.lst 5 (a0.map KA) .no, .fn (.func 83) [] [.ptr o0 0]] [(o0, Blk.cells [.v (.string m0)] T0)] [] (fun d h k => d = .v (.int .i64 r) ∧ h = [(o0, Blk.cells [.v (.string m0)] T0)] ∧ k = []) := by
 have hm := KI h0
 unfold KaG at hm
 clear h0
 refine K3 htab Tryz.func82 rfl rfl rfl rfl rfl (fun C => ?_)
 refine Kh ?_
 refine pu ?_
 refine Ke ?_
 refine Km ?_
 refine Kh ?_
 refine pu ?_
 refine Kag htab rfl rfl rfl rfl rfl rfl rfl (by first | exact KY | rfl) ?_
 refine pu ?_
 refine Ke ?_
 obtain ⟨x17, q17, ho17⟩ := Kc hm
 refine Kbi (τ := Unit) (Y := Unit) (fun y17 z17 => (⟨[], [(o0, Blk.cells [.v (.string m0)] T0)], []⟩ : S)) x17 ?_ ?_
 ·clear hm; have hm := KI q17
  refine KG ?_
  obtain ⟨u18, hl18, hq18⟩ := yes_m hm
  refine Kao (Y := Unit) hl18 (fun s18 z18 => (⟨[(0, .lst 5 (a0.map KA) .no), (1, .fn (.func 83) [] [.ptr o0 0]), (7, .v (.int .i64 (a0.length : Int))), (8, .v (.int .i64 s18))], [(o0, Blk.cells [.v (.string m0)] T0)], []⟩ : S)) ?_ ?_
  ·skip
   exact WkX.of () (WkS.perm (WkS.cons rfl (Wk.refl _) (WkS.cons rfl (Wk.refl _) (WkS.cons rfl (Wk.refl _) (WkS.cons rfl (Wk.refl _) (WkS.nil))))) Pf Pf)
  ·intro G18 s18 z18 hm
   refine Kh ?_
   refine pu ?_
   refine Ke ?_
   refine Km ?_
   refine KC rfl (fun hc29 => ?_) (fun hc29 => ?_)
   ·replace hm := yes_t hc29 hm
    refine KB ?_
    refine Kb ?_
    refine Km ?_
    refine KG ?_
    refine Kh ?_
    refine pu ?_
    refine pu ?_
    refine KP ?_
    iterate 3 refine pu ?_
    obtain ⟨x30, q30, hm⟩ := Kc hm
    refine Kad htab rfl rfl rfl rfl rfl rfl rfl rfl rfl rfl (Kd q30) (Kk q30) ?_
    refine KW (d := KA x30) htab rfl rfl rfl rfl rfl rfl rfl rfl ?_
    obtain ⟨x31, q31, hm⟩ := Kc hm
    refine KcC (Kgi x30 m0 o0 T0 x31 q31) rfl rfl rfl rfl rfl rfl rfl Wl Pf Pf ?_
    rintro _ _ _ ⟨rfl, rfl, rfl⟩
    refine Ke ?_
    refine KC rfl (fun hc32 => ?_) (fun hc32 => ?_)
    ·replace hm := yes_t hc32 hm
     refine Kh ?_
     refine pu ?_
     refine pu ?_
     refine Ke ?_
     refine KE ?_
     refine Kan ?_
     refine KS ?_
     have e18 := K1 hm; subst e18; clear hm; have hm := hq18
     refine KS ?_
     refine Kan ?_
     have e17 := Kj hm; subst e17; refine Kbk ?_; clear hm; have hm := ho17; simp only [Sum.elim_inr] at hm
     refine KS ?_
     have er33 := Kj hm; subst er33
     refine rP (t' := [(4, .v (.int .i64 s18))]) [0] [] 1 (wC wN) (lT lN) ?_
     exact ⟨rfl, rfl, rfl⟩
    ·replace hm := yes_f hc32 hm
     refine KB ?_
     refine KM ?_
     refine Kb ?_
     refine Kt ?_
     refine pu ?_
     refine pu ?_
     refine Kv ?_
     refine Kb ⟨_, K0 hm, ?_⟩
     exact WkX.of () (WkS.perm (WkS.cons rfl (Wk.refl _) (WkS.cons rfl (Wk.refl _) (WkS.cons rfl (Wk.refl _) (WkS.cons rfl (Wk.refl _) (WkS.nil))))) Pf Pf)
   ·replace hm := yes_f hc29 hm
    refine Kaa ?_
    refine KH ?_
    have e18 := K1 hm; subst e18; clear hm; have hm := hq18
    refine KH ?_
    refine K5 ?_
    have e17 := Kj hm; subst e17
    refine Kbj ?_
    exact WkX.of () (WkS.perm (WkS.nil) Pf Pf)
 ·intro y17 s17 hx17 hw17; subst hx17; clear hm; have hm := ho17; simp only [Sum.elim_inl] at hm; clear q17 ho17
  refine Kb ?_
  refine KV hw17 (fun z17 => ?_)
  refine Kh ?_
  refine pu ?_
  refine Ke ?_
  refine KE ?_
  have er34 := Kj hm; subst er34
  refine rP (t' := [(4, .v (.int .i64 (-1 : Int)))]) [0] [] 1 (wC wN) (lT lN) ?_
  exact ⟨rfl, rfl, rfl⟩
structure Kw where
 gGlobals : List K8
 gFuncs : List KQ
def Ku (x : Kw) : D := .agg [.lst 4 (x.gGlobals.map KJ) .no, .lst 5 (x.gFuncs.map KA) .no]
noncomputable def Kbz (a0 : Kw) (a1 : ByteArray) : Option (KQ × Bool) :=
 ((KaG a0.gFuncs a1).bind fun x4 => (bif (decide (x4 < (0 : Int))) then some ((⟨ByteArray.empty, [], [], [], (0 : Int)⟩ : KQ), false) else ((idx a0.gFuncs x4).bind fun x8 => some (x8, true))))
theorem Kcv (a0 : Kw) (a1 : ByteArray) (r : KQ × Bool) (h0 : Kbz a0 a1 = some r) : CallsD Tryz.prog 63 [Ku a0, .v (.string a1)] [] [] (fun d h k => d = .tup [KA r.1, .v (.bool r.2)] ∧ h = [] ∧ k = []) := by
 have hm := KI h0
 unfold Kbz at hm
 clear h0
 refine K3 htab Tryz.func63 rfl rfl rfl rfl rfl (fun C => ?_)
 refine Kh ?_
 refine p_box rfl rfl rfl rfl rfl rfl rfl (fun b1 => ?_)
 refine p_box rfl rfl rfl rfl rfl rfl rfl (fun b2 => ?_)
 refine Kay htab rfl rfl rfl rfl rfl rfl rfl (fun b3 => ?_)
 refine pu ?_
 refine KP ?_
 refine pu ?_
 refine pL 0 ?_
 refine pu ?_
 obtain ⟨x4, q4, hm⟩ := Kc hm
 refine pG (KcK a0.gFuncs a1 b2 9 x4 q4) Wl ((KF (j := 1) rfl).trans (List.Perm.cons _ Pf)) Pf ?_
 rintro _ _ _ ⟨rfl, rfl, rfl⟩
 refine pu ?_
 refine Ke ?_
 refine Km ?_
 refine Kh ?_
 refine pu ?_
 refine pu ?_
 refine Ke ?_
 refine KC rfl (fun hc6 => ?_) (fun hc6 => ?_)
 ·replace hm := yes_t hc6 hm
  refine Kh ?_
  refine Kb8 (r := [.v (.string ByteArray.empty), .lst 1 [] .full, .lst 1 [] .full, .lst 1 [] .full, .v (.int .i64 (0 : Int))]) htab rfl rfl rfl rfl rfl rfl rfl rfl rfl ?_
  refine pS2 (ds' := [.v (.string ByteArray.empty), .lst 1 [] .full, .lst 1 [] .full, .lst 1 [] .full, .v (.int .i64 (0 : Int))]) ?_
  refine pu ?_
  refine Ke ?_
  refine KE ?_
  refine KS ?_
  have er7 := Kj hm; subst er7
  refine retX.wk (WkS.bl2 (ds' := [.v (.string ByteArray.empty), .lst 2 (([] : List Ka3).map Kaf) .no, .lst 2 (([] : List Ka3).map Kaf) .no, .lst 7 (([] : List Kg).map Kr) .no, .v (.int .i64 (0 : Int))]) (rC (WkR.cons (WkC.nil) rfl (WkR.cons (WkC.nil) rfl (WkR.cons (WkC.nil) rfl (rC WkR.nil)))))) ?_
  refine rP (t' := [(4, .ptr b3 0), (5, .v (.bool false))]) [2] [] 0 (wC (wC wN)) (lC 0 (lT lN)) ?_
  exact ⟨rfl, rfl, rfl⟩
 ·replace hm := yes_f hc6 hm
  refine KB ?_
  refine Kb ?_
  refine Kh ?_
  refine pu ?_
  refine pL 1 ?_
  refine pu ?_
  obtain ⟨x8, q8, hm⟩ := Kc hm
  refine Kad htab rfl rfl rfl rfl rfl rfl rfl rfl rfl rfl (Kd q8) (Kk q8) ?_
  refine KW (d := KA x8) htab rfl rfl rfl rfl rfl rfl rfl rfl ?_
  refine pS2 (ds' := [.v (.string x8.gName), .lst 2 (x8.gParams.map Kaf) .no, .lst 2 (x8.gLocals.map Kaf) .no, .lst 7 (x8.gBody.map Kr) .no, .v (.int .i64 x8.gAt)]) ?_
  refine pu ?_
  refine Ke ?_
  refine KE ?_
  have er9 := Kj hm; subst er9
  refine rP (t' := [(4, .ptr b3 0), (5, .v (.bool true))]) [2] [] 0 (wC (wC wN)) (lC 0 (lT lN)) ?_
  exact ⟨rfl, rfl, rfl⟩
noncomputable def KaQ (a0 : List Ka3) (a1 : List Ka3) : Option (Bool) :=
 (bif ((a0.length : Int) != (a1.length : Int)) then some false else (Option.bind (α := (Unit) ⊕ (Bool)) (loopM (fun (s21 : Int) => (bif (decide (s21 < (a0.length : Int))) then ((idx a0 s21).bind fun x33 => ((idx a1 s21).bind fun x34 => (bif (!(decide (x33.gName = x34.gName) && (x33.gPtr == x34.gPtr && true))) then some (.done (.inr false)) else some (.next (IntKind.i64.wrap (s21 + (1 : Int))))))) else some (.done (.inl ())))) (0 : Int)) (Sum.elim (fun y20 => some true) (fun r => some r))))
theorem Kb6 (a0 : List Ka3) (a1 : List Ka3) (r : Bool) (h0 : KaQ a0 a1 = some r) : CallsD Tryz.prog 84 [.lst 2 (a0.map Kaf) .no, .lst 2 (a1.map Kaf) .no] [] [] (fun d h k => d = .v (.bool r) ∧ h = [] ∧ k = []) := by
 have hm := KI h0
 unfold KaQ at hm
 clear h0
 refine K3 htab Tryz.func84 rfl rfl rfl rfl rfl (fun C => ?_)
 refine Kh ?_
 refine pu ?_
 refine Ke ?_
 refine Km ?_
 refine Kh ?_
 refine pu ?_
 refine Kag htab rfl rfl rfl rfl rfl rfl rfl (by first | exact KY | rfl) ?_
 refine pu ?_
 refine Kag htab rfl rfl rfl rfl rfl rfl rfl (by first | exact KY | rfl) ?_
 refine pu ?_
 refine Ke ?_
 refine KC rfl (fun hc2 => ?_) (fun hc2 => ?_)
 ·replace hm := yes_t hc2 hm
  refine Kh ?_
  refine pu ?_
  refine Ke ?_
  refine KE ?_
  refine KS ?_
  have er3 := Kj hm; subst er3
  refine rP (t' := [(4, .v (.bool false))]) [] [] 0 (wC wN) (lT lN) ?_
  exact ⟨rfl, rfl, rfl⟩
 ·replace hm := yes_f hc2 hm
  refine KB ?_
  refine Kb ?_
  refine Km ?_
  refine Kh ?_
  refine pu ?_
  refine Kag htab rfl rfl rfl rfl rfl rfl rfl (by first | exact KY | rfl) ?_
  refine pu ?_
  refine Ke ?_
  obtain ⟨x20, q20, ho20⟩ := Kc hm
  refine Kbi (τ := Unit) (Y := Unit) (fun y20 z20 => (⟨[], [], []⟩ : S)) x20 ?_ ?_
  ·clear hm; have hm := KI q20
   refine KG ?_
   obtain ⟨u21, hl21, hq21⟩ := yes_m hm
   refine Kao (Y := Unit) hl21 (fun s21 z21 => (⟨[(0, .lst 2 (a0.map Kaf) .no), (1, .lst 2 (a1.map Kaf) .no), (12, .v (.int .i64 (a0.length : Int))), (13, .v (.int .i64 s21))], [], []⟩ : S)) ?_ ?_
   ·skip
    exact WkX.of () (WkS.perm (WkS.cons rfl (Wk.refl _) (WkS.cons rfl (Wk.refl _) (WkS.cons rfl (Wk.refl _) (WkS.cons rfl (Wk.refl _) (WkS.nil))))) Pf Pf)
   ·intro G21 s21 z21 hm
    refine Kh ?_
    refine pu ?_
    refine Ke ?_
    refine Km ?_
    refine KC rfl (fun hc32 => ?_) (fun hc32 => ?_)
    ·replace hm := yes_t hc32 hm
     refine KB ?_
     refine Kb ?_
     refine Km ?_
     refine KG ?_
     refine Kh ?_
     refine pu ?_
     refine pu ?_
     refine Ke ?_
     refine Km ?_
     obtain ⟨x33, q33, hm⟩ := Kc hm
     obtain ⟨x34, q34, hm⟩ := Kc hm
     refine Kac 8 [] [[],[],[0],[0,2],[],[],[4],[4,6]] [0,2,3,4,6,7] [[],[],[0,1],[0,1,2],[],[],[4,5],[4,5,6],[0,1,2,3,4,5,6,7]] (by kernel_rfl) (by kernel_rfl) (by kernel_rfl) (by rfl) (by rfl) (by kernel_rfl) ?_
     iterate 6 apply Exists.intro
     intro bs
     refine zep ?_
     refine zqp ?_
     refine z_e rfl rfl (Kz htab rfl rfl rfl rfl rfl rfl rfl (Kd q33) (Kk q33)) rfl rfl rfl rfl rfl rfl ?_
     refine z_eM rfl rfl (Ko (d := Kaf x33) htab rfl rfl rfl rfl rfl) rfl rfl rfl rfl rfl rfl ?_
     refine zep ?_
     refine zqp ?_
     refine z_e rfl rfl (Kz htab rfl rfl rfl rfl rfl rfl rfl (Kd q34) (Kk q34)) rfl rfl rfl rfl rfl rfl ?_
     refine z_eM rfl rfl (Ko (d := Kaf x34) htab rfl rfl rfl rfl rfl) rfl rfl rfl rfl rfl rfl ?_
     refine z_nil rfl rfl (fun e he => by simp [isAl] at he) ?_
     refine p_eqS htab rfl rfl rfl rfl rfl eqt130 rfl rfl rfl rfl rfl ?_
     refine Ke ?_
     refine KC rfl (fun hc35 => ?_) (fun hc35 => ?_)
     ·replace hm := yes_t hc35 hm
      refine Kh ?_
      refine pu ?_
      refine Ke ?_
      refine KE ?_
      refine Kan ?_
      refine KS ?_
      have e21 := K1 hm; subst e21; clear hm; have hm := hq21
      refine KS ?_
      refine Kan ?_
      have e20 := Kj hm; subst e20; refine Kbk ?_; clear hm; have hm := ho20; simp only [Sum.elim_inr] at hm
      refine KS ?_
      have er36 := Kj hm; subst er36
      refine rP (t' := [(4, .v (.bool false))]) [] [] 0 (wC wN) (lT lN) ?_
      exact ⟨rfl, rfl, rfl⟩
     ·replace hm := yes_f hc35 hm
      refine KB ?_
      refine KM ?_
      refine Kb ?_
      refine Kt ?_
      refine pu ?_
      refine pu ?_
      refine Kv ?_
      refine Kb ⟨_, K0 hm, ?_⟩
      exact WkX.of () (WkS.perm (WkS.cons rfl (Wk.refl _) (WkS.cons rfl (Wk.refl _) (WkS.cons rfl (Wk.refl _) (WkS.cons rfl (Wk.refl _) (WkS.nil))))) Pf Pf)
    ·replace hm := yes_f hc32 hm
     refine Kaa ?_
     refine KH ?_
     have e21 := K1 hm; subst e21; clear hm; have hm := hq21
     refine KH ?_
     refine K5 ?_
     have e20 := Kj hm; subst e20
     refine Kbj ?_
     exact WkX.of () (WkS.perm (WkS.nil) Pf Pf)
  ·intro y20 s20 hx20 hw20; subst hx20; clear hm; have hm := ho20; simp only [Sum.elim_inl] at hm; clear q20 ho20
   refine Kb ?_
   refine KV hw20 (fun z20 => ?_)
   refine Kh ?_
   refine pu ?_
   refine Ke ?_
   refine KE ?_
   have er37 := Kj hm; subst er37
   refine rP (t' := [(4, .v (.bool true))]) [] [] 0 (wC wN) (lT lN) ?_
   exact ⟨rfl, rfl, rfl⟩
noncomputable def KT (g0 : (List Kn) → (List Kn) → Option (Bool)) (g1 : (Kn) → (Kn) → Option (Bool)) (a0 : List Kn) (a1 : List Kn) : Option (Bool) :=
 (bif ((a0.length : Int) != (a1.length : Int)) then some false else (Option.bind (α := (Unit) ⊕ (Bool)) (loopM (fun (s30 : Int) => (bif (decide (s30 < (a0.length : Int))) then ((idx a0 s30).bind fun x48 => ((idx a1 s30).bind fun x50 => ((g1 x48 x50).bind fun x52 => (bif (!x52) then some (.done (.inr false)) else some (.next (IntKind.i64.wrap (s30 + (1 : Int)))))))) else some (.done (.inl ())))) (0 : Int)) (Sum.elim (fun y29 => some true) (fun r => some r))))
theorem KbD (g0 : (List Kn) → (List Kn) → Option (Bool)) (g1 : (Kn) → (Kn) → Option (Bool)) (hg0 : ∀ (a0 : List Kn) (a1 : List Kn) (r : Bool) (h0 : g0 a0 a1 = some r), CallsD Tryz.prog 117 [.lst 5 (a0.map Kx) .no, .lst 5 (a1.map Kx) .no, .fn (.func 118) [] []] [] [] (fun d h k => d = .v (.bool r) ∧ h = [] ∧ k = [])) (hg1 : ∀ (a0 : Kn) (a1 : Kn) (r : Bool) (h0 : g1 a0 a1 = some r), CallsD Tryz.prog 118 [Kx a0, Kx a1] [] [] (fun d h k => d = .v (.bool r) ∧ h = [] ∧ k = [])) (a0 : List Kn) (a1 : List Kn) (r : Bool) (h0 : KT g0 g1 a0 a1 = some r) : CallsD Tryz.prog 117 [.lst 5 (a0.map Kx) .no, .lst 5 (a1.map Kx) .no, .fn (.func 118) [] []] [] [] (fun d h k => d = .v (.bool r) ∧ h = [] ∧ k = []) := by
 have hm := KI h0
 unfold KT at hm
 clear h0
 refine K3 htab Tryz.func117 rfl rfl rfl rfl rfl (fun C => ?_)
 refine Kh ?_
 refine pu ?_
 refine Ke ?_
 refine Km ?_
 refine Kh ?_
 refine pu ?_
 refine Kag htab rfl rfl rfl rfl rfl rfl rfl (by first | exact KY | rfl) ?_
 refine pu ?_
 refine Kag htab rfl rfl rfl rfl rfl rfl rfl (by first | exact KY | rfl) ?_
 refine pu ?_
 refine Ke ?_
 refine KC rfl (fun hc2 => ?_) (fun hc2 => ?_)
 ·replace hm := yes_t hc2 hm
  refine Kh ?_
  refine pu ?_
  refine Ke ?_
  refine KE ?_
  refine KS ?_
  have er3 := Kj hm; subst er3
  refine rP (t' := [(6, .v (.bool false))]) [] [] 0 (wC wN) (lT lN) ?_
  exact ⟨rfl, rfl, rfl⟩
 ·replace hm := yes_f hc2 hm
  refine KB ?_
  refine Kb ?_
  refine Km ?_
  refine Kh ?_
  refine pu ?_
  refine Kag htab rfl rfl rfl rfl rfl rfl rfl (by first | exact KY | rfl) ?_
  refine pu ?_
  refine Ke ?_
  obtain ⟨x29, q29, ho29⟩ := Kc hm
  refine Kbi (τ := Unit) (Y := Unit) (fun y29 z29 => (⟨[], [], []⟩ : S)) x29 ?_ ?_
  ·clear hm; have hm := KI q29
   refine KG ?_
   obtain ⟨u30, hl30, hq30⟩ := yes_m hm
   refine Kao (Y := Unit) hl30 (fun s30 z30 => (⟨[(1, .lst 5 (a1.map Kx) .no), (2, .fn (.func 118) [] []), (15, .lst 5 (a0.map Kx) .no), (16, .v (.int .i64 (a0.length : Int))), (17, .v (.int .i64 s30))], [], []⟩ : S)) ?_ ?_
   ·skip
    exact WkX.of () (WkS.perm (WkS.cons rfl (Wk.refl _) (WkS.cons rfl (Wk.refl _) (WkS.cons rfl (Wk.refl _) (WkS.cons rfl (Wk.refl _) (WkS.cons rfl (Wk.refl _) (WkS.nil)))))) Pf Pf)
   ·intro G30 s30 z30 hm
    refine Kh ?_
    refine pu ?_
    refine Ke ?_
    refine Km ?_
    refine KC rfl (fun hc47 => ?_) (fun hc47 => ?_)
    ·replace hm := yes_t hc47 hm
     refine KB ?_
     refine Kb ?_
     refine Km ?_
     refine KG ?_
     refine Kh ?_
     refine pu ?_
     obtain ⟨x48, q48, hm⟩ := Kc hm
     refine Kad htab rfl rfl rfl rfl rfl rfl rfl rfl rfl rfl (Kd q48) (Kk q48) ?_
     refine p_eq (i := 20) rfl (Wk.of_eq (congrArg D.el (KK x48))) ?_
     refine KW (d := .agg [.v (.int .i64 x48.gOp), .v (.int .i64 x48.gN), .v (.string x48.gName), .lst 5 (x48.gKids.map Kx) .no, .v (.int .i64 x48.gAt)]) htab rfl rfl rfl rfl rfl rfl rfl rfl ?_
     refine Kay htab rfl rfl rfl rfl rfl rfl rfl (fun b49 => ?_)
     refine pu ?_
     refine pS0 (ds' := [.v (.int .i64 x48.gOp), .v (.int .i64 x48.gN), .v (.string x48.gName), .lst 5 (x48.gKids.map Kx) .no, .v (.int .i64 x48.gAt)]) ?_
     refine KP ?_
     refine pu ?_
     refine pu ?_
     obtain ⟨x50, q50, hm⟩ := Kc hm
     refine Kad htab rfl rfl rfl rfl rfl rfl rfl rfl rfl rfl (Kd q50) (Kk q50) ?_
     refine p_eq (i := 24) rfl (Wk.of_eq (congrArg D.el (KK x50))) ?_
     refine KW (d := .agg [.v (.int .i64 x50.gOp), .v (.int .i64 x50.gN), .v (.string x50.gName), .lst 5 (x50.gKids.map Kx) .no, .v (.int .i64 x50.gAt)]) htab rfl rfl rfl rfl rfl rfl rfl rfl ?_
     refine Kay htab rfl rfl rfl rfl rfl rfl rfl (fun b51 => ?_)
     refine pS1 (ds' := [.v (.int .i64 x50.gOp), .v (.int .i64 x50.gN), .v (.string x50.gName), .lst 5 (x50.gKids.map Kx) .no, .v (.int .i64 x50.gAt)]) ?_
     refine KP ?_
     refine pu ?_
     refine KaD (d := .agg [.v (.int .i64 x48.gOp), .v (.int .i64 x48.gN), .v (.string x48.gName), .lst 5 (x48.gKids.map Kx) .no, .v (.int .i64 x48.gAt)]) 0 htab rfl rfl rfl rfl rfl rfl rfl rfl ?_
     refine KaD (d := .agg [.v (.int .i64 x50.gOp), .v (.int .i64 x50.gN), .v (.string x50.gName), .lst 5 (x50.gKids.map Kx) .no, .v (.int .i64 x50.gAt)]) 1 htab rfl rfl rfl rfl rfl rfl rfl rfl ?_
     obtain ⟨x52, q52, hm⟩ := Kc hm
     refine Kho (hg1 x48 x50 x52 q52) rfl rfl rfl rfl rfl rfl rfl (WkL.cons (Wk.trans (Wk.agg (WkR.refl _)) (Wk.of_eq (KK x48).symm)) (WkL.cons (Wk.trans (Wk.agg (WkR.refl _)) (Wk.of_eq (KK x50).symm)) Wl)) ?_
     rintro _ rfl
     refine pu ?_
     refine Ke ?_
     refine KC rfl (fun hc53 => ?_) (fun hc53 => ?_)
     ·replace hm := yes_t hc53 hm
      refine Kh ?_
      refine pu ?_
      refine Ke ?_
      refine KE ?_
      refine Kan ?_
      refine KS ?_
      have e30 := K1 hm; subst e30; clear hm; have hm := hq30
      refine KS ?_
      refine Kan ?_
      have e29 := Kj hm; subst e29; refine Kbk ?_; clear hm; have hm := ho29; simp only [Sum.elim_inr] at hm
      refine KS ?_
      have er54 := Kj hm; subst er54
      refine rP (t' := [(6, .v (.bool false))]) [] [] 0 (wC wN) (lT lN) ?_
      exact ⟨rfl, rfl, rfl⟩
     ·replace hm := yes_f hc53 hm
      refine KB ?_
      refine KM ?_
      refine Kb ?_
      refine Kt ?_
      refine pu ?_
      refine pu ?_
      refine Kv ?_
      refine Kb ⟨_, K0 hm, ?_⟩
      exact WkX.of () (WkS.perm (WkS.cons rfl (Wk.refl _) (WkS.cons rfl (Wk.refl _) (WkS.cons rfl (Wk.refl _) (WkS.cons rfl (Wk.refl _) (WkS.cons rfl (Wk.refl _) (WkS.nil)))))) Pf Pf)
    ·replace hm := yes_f hc47 hm
     refine Kaa ?_
     refine KH ?_
     have e30 := K1 hm; subst e30; clear hm; have hm := hq30
     refine KH ?_
     refine K5 ?_
     have e29 := Kj hm; subst e29
     refine Kbj ?_
     exact WkX.of () (WkS.perm (WkS.nil) Pf Pf)
  ·intro y29 s29 hx29 hw29; subst hx29; clear hm; have hm := ho29; simp only [Sum.elim_inl] at hm; clear q29 ho29
   refine Kb ?_
   refine KV hw29 (fun z29 => ?_)
   refine Kh ?_
   refine pu ?_
   refine Ke ?_
   refine KE ?_
   have er55 := Kj hm; subst er55
   refine rP (t' := [(6, .v (.bool true))]) [] [] 0 (wC wN) (lT lN) ?_
   exact ⟨rfl, rfl, rfl⟩
noncomputable def KbU (g0 : (List Kn) → (List Kn) → Option (Bool)) (g1 : (Kn) → (Kn) → Option (Bool)) (a0 : Kn) (a1 : Kn) : Option (Bool) :=
 (bif (a0.gOp == a1.gOp) then (bif (a0.gN == a1.gN) then (bif (decide (a0.gName = a1.gName)) then ((g0 a0.gKids a1.gKids).bind fun x6 => some x6) else some false) else some false) else some false)
theorem Kh8 (g0 : (List Kn) → (List Kn) → Option (Bool)) (g1 : (Kn) → (Kn) → Option (Bool)) (hg0 : ∀ (a0 : List Kn) (a1 : List Kn) (r : Bool) (h0 : g0 a0 a1 = some r), CallsD Tryz.prog 117 [.lst 5 (a0.map Kx) .no, .lst 5 (a1.map Kx) .no, .fn (.func 118) [] []] [] [] (fun d h k => d = .v (.bool r) ∧ h = [] ∧ k = [])) (hg1 : ∀ (a0 : Kn) (a1 : Kn) (r : Bool) (h0 : g1 a0 a1 = some r), CallsD Tryz.prog 118 [Kx a0, Kx a1] [] [] (fun d h k => d = .v (.bool r) ∧ h = [] ∧ k = [])) (a0 : Kn) (a1 : Kn) (r : Bool) (h0 : KbU g0 g1 a0 a1 = some r) : CallsD Tryz.prog 118 [Kx a0, Kx a1] [] [] (fun d h k => d = .v (.bool r) ∧ h = [] ∧ k = []) := by
 have hm := KI h0
 unfold KbU at hm
 clear h0
 refine K3 htab Tryz.func118 rfl rfl rfl rfl rfl (fun C => ?_)
 refine w_eq (i := 0) rfl (Wk.of_eq (KK a0)) ?_
 refine w_eq (i := 1) rfl (Wk.of_eq (KK a1)) ?_
 refine Kh ?_
 refine p_box rfl rfl rfl rfl rfl rfl rfl (fun b1 => ?_)
 refine p_box rfl rfl rfl rfl rfl rfl rfl (fun b2 => ?_)
 refine pu ?_
 refine KP ?_
 refine pu ?_
 refine pL 0 ?_
 refine pu ?_
 refine pL 1 ?_
 refine pu ?_
 refine pu ?_
 refine KaE (i := 10) rfl (fun hg3 => ?_) (fun hg3 => ?_)
 ·replace hm := yes_t hg3 hm
  refine pu ?_
  refine pL 0 ?_
  refine pu ?_
  refine pL 1 ?_
  refine pu ?_
  refine Kab rfl rfl rfl rfl rfl rfl ?_
  refine pu ?_
  refine KaE (i := 17) rfl (fun hg4 => ?_) (fun hg4 => ?_)
  ·replace hm := yes_t hg4 hm
   refine pu ?_
   refine pL 0 ?_
   refine pu ?_
   refine pL 1 ?_
   refine pu ?_
   refine Kab rfl rfl rfl rfl rfl rfl ?_
   refine pu ?_
   refine KaE (i := 24) rfl (fun hg5 => ?_) (fun hg5 => ?_)
   ·replace hm := yes_t hg5 hm
    refine pu ?_
    refine pL 0 ?_
    refine pu ?_
    refine pL 1 ?_
    obtain ⟨x6, q6, hm⟩ := Kc hm
    refine Kaj (hg0 a0.gKids a1.gKids x6 q6) rfl rfl rfl rfl rfl Wl ?_
    rintro _ rfl
    refine Kab rfl rfl rfl rfl rfl rfl ?_
    refine pu ?_
    refine Ke ?_
    refine KE ?_
    have er7 := Kj hm; subst er7
    refine rP (t' := [(4, .v (.bool x6))]) [] [] 0 (wC wN) (lT lN) ?_
    exact ⟨rfl, rfl, rfl⟩
   ·replace hm := yes_f hg5 hm
    iterate 5 refine pK ?_
    refine K9 rfl rfl rfl rfl rfl rfl ?_
    refine pu ?_
    refine Ke ?_
    refine KE ?_
    have er8 := Kj hm; subst er8
    refine rP (t' := [(4, .v (.bool false))]) [] [] 0 (wC wN) (lT lN) ?_
    exact ⟨rfl, rfl, rfl⟩
  ·replace hm := yes_f hg4 hm
   iterate 5 refine pK ?_
   refine K9 rfl rfl rfl rfl rfl rfl ?_
   refine pu ?_
   iterate 5 refine pK ?_
   refine K9 rfl rfl rfl rfl rfl rfl ?_
   refine pu ?_
   refine Ke ?_
   refine KE ?_
   have er9 := Kj hm; subst er9
   refine rP (t' := [(4, .v (.bool false))]) [] [] 0 (wC wN) (lT lN) ?_
   exact ⟨rfl, rfl, rfl⟩
 ·replace hm := yes_f hg3 hm
  iterate 5 refine pK ?_
  refine K9 rfl rfl rfl rfl rfl rfl ?_
  refine pu ?_
  iterate 5 refine pK ?_
  refine K9 rfl rfl rfl rfl rfl rfl ?_
  refine pu ?_
  iterate 5 refine pK ?_
  refine K9 rfl rfl rfl rfl rfl rfl ?_
  refine pu ?_
  refine Ke ?_
  refine KE ?_
  have er10 := Kj hm; subst er10
  refine rP (t' := [(4, .v (.bool false))]) [] [] 0 (wC wN) (lT lN) ?_
  exact ⟨rfl, rfl, rfl⟩
noncomputable def Ki : Nat → ((List Kn) → (List Kn) → Option (Bool)) × ((Kn) → (Kn) → Option (Bool))
 | 0 => (fun _ _ => none, fun _ _ => none)
 | n + 1 => (KT ((Ki n).1) ((Ki n).2), KbU ((Ki n).1) ((Ki n).2))
theorem KaL : ∀ n, (∀ (a0 : List Kn) (a1 : List Kn) (r : Bool) (h0 : (Ki n).1 a0 a1 = some r), CallsD Tryz.prog 117 [.lst 5 (a0.map Kx) .no, .lst 5 (a1.map Kx) .no, .fn (.func 118) [] []] [] [] (fun d h k => d = .v (.bool r) ∧ h = [] ∧ k = [])) ∧ (∀ (a0 : Kn) (a1 : Kn) (r : Bool) (h0 : (Ki n).2 a0 a1 = some r), CallsD Tryz.prog 118 [Kx a0, Kx a1] [] [] (fun d h k => d = .v (.bool r) ∧ h = [] ∧ k = []))
  | 0 => ⟨(fun _ _ _ h0 => by cases h0), (fun _ _ _ h0 => by cases h0)⟩
  | n + 1 => by
    have ih := KaL n
    exact ⟨KbD ((Ki n).1) ((Ki n).2) (ih.1) (ih.2), Kh8 ((Ki n).1) ((Ki n).2) (ih.1) (ih.2)⟩
theorem KaM : ∀ n, (∀ (a0 : List Kn) (a1 : List Kn), Le ((Ki n).1 a0 a1) ((Ki (n + 1)).1 a0 a1)) ∧ (∀ (a0 : Kn) (a1 : Kn), Le ((Ki n).2 a0 a1) ((Ki (n + 1)).2 a0 a1))
  | 0 => ⟨fun _ _ => Le.none _, fun _ _ => Le.none _⟩
  | n + 1 => by
    have ih := KaM n
    exact ⟨fun a0 a1 => by show Le (KT ((Ki n).1) ((Ki n).2) a0 a1) (KT ((Ki (n + 1)).1) ((Ki (n + 1)).2) a0 a1); unfold KT; repeat (first | exact Le.refl _ | exact ih.1 _ _ | exact ih.2 _ _ | assumption | (refine Le.bind ?_ (fun _ => ?_)) | (refine Le.cond ?_ ?_) | (refine Le.loop (fun _ => ?_)) | (refine Le.elim (fun _ => ?_) (fun _ => ?_))), fun a0 a1 => by show Le (KbU ((Ki n).1) ((Ki n).2) a0 a1) (KbU ((Ki (n + 1)).1) ((Ki (n + 1)).2) a0 a1); unfold KbU; repeat (first | exact Le.refl _ | exact ih.1 _ _ | exact ih.2 _ _ | assumption | (refine Le.bind ?_ (fun _ => ?_)) | (refine Le.cond ?_ ?_) | (refine Le.loop (fun _ => ?_)) | (refine Le.elim (fun _ => ?_) (fun _ => ?_)))⟩
noncomputable def Kas (a0 : List Kn) (a1 : List Kn) : Option (Bool) := anyN fun n => (Ki n).1 a0 a1
theorem KbJ (a0 : List Kn) (a1 : List Kn) {r : Bool} (n : Nat) (h : (Ki n).1 a0 a1 = some r) : Kas a0 a1 = some r := Kdo (fun m => (KaM m).1 a0 a1) h
theorem KbK (a0 : List Kn) (a1 : List Kn) (r : Bool) (h0 : Kas a0 a1 = some r) : CallsD Tryz.prog 117 [.lst 5 (a0.map Kx) .no, .lst 5 (a1.map Kx) .no, .fn (.func 118) [] []] [] [] (fun d h k => d = .v (.bool r) ∧ h = [] ∧ k = []) :=
 let ⟨n, hn⟩ := KcO h0; (KaL n).1 a0 a1  r hn
noncomputable def Kbo (g0 : (List Kg) → (List Kg) → Option (Bool)) (g1 : (List Kg) → (List Kg) → Option (Bool)) (g2 : (Kg) → (Kg) → Option (Bool)) (a0 : List Kg) (a1 : List Kg) : Option (Bool) :=
 ((g1 a0 a1).bind fun x1 => some x1)
theorem KgN (g0 : (List Kg) → (List Kg) → Option (Bool)) (g1 : (List Kg) → (List Kg) → Option (Bool)) (g2 : (Kg) → (Kg) → Option (Bool)) (hg0 : ∀ (a0 : List Kg) (a1 : List Kg) (r : Bool) (h0 : g0 a0 a1 = some r), CallsD Tryz.prog 85 [.lst 7 (a0.map Kr) .no, .lst 7 (a1.map Kr) .no] [] [] (fun d h k => d = .v (.bool r) ∧ h = [] ∧ k = [])) (hg1 : ∀ (a0 : List Kg) (a1 : List Kg) (r : Bool) (h0 : g1 a0 a1 = some r), CallsD Tryz.prog 106 [.lst 7 (a0.map Kr) .no, .lst 7 (a1.map Kr) .no, .fn (.func 107) [] []] [] [] (fun d h k => d = .v (.bool r) ∧ h = [] ∧ k = [])) (hg2 : ∀ (a0 : Kg) (a1 : Kg) (r : Bool) (h0 : g2 a0 a1 = some r), CallsD Tryz.prog 107 [Kr a0, Kr a1] [] [] (fun d h k => d = .v (.bool r) ∧ h = [] ∧ k = [])) (a0 : List Kg) (a1 : List Kg) (r : Bool) (h0 : Kbo g0 g1 g2 a0 a1 = some r) : CallsD Tryz.prog 85 [.lst 7 (a0.map Kr) .no, .lst 7 (a1.map Kr) .no] [] [] (fun d h k => d = .v (.bool r) ∧ h = [] ∧ k = []) := by
 have hm := KI h0
 unfold Kbo at hm
 clear h0
 refine K3 htab Tryz.func85 rfl rfl rfl rfl rfl (fun C => ?_)
 refine Kh ?_
 refine pu ?_
 refine KP ?_
 refine pu ?_
 refine pu ?_
 obtain ⟨x1, q1, hm⟩ := Kc hm
 refine Kaj (hg1 a0 a1 x1 q1) rfl rfl rfl rfl rfl Wl ?_
 rintro _ rfl
 refine pu ?_
 refine Ke ?_
 refine KE ?_
 have er2 := Kj hm; subst er2
 refine rP (t' := [(4, .v (.bool x1))]) [] [] 0 (wC wN) (lT lN) ?_
 exact ⟨rfl, rfl, rfl⟩
noncomputable def KU (g0 : (List Kg) → (List Kg) → Option (Bool)) (g1 : (List Kg) → (List Kg) → Option (Bool)) (g2 : (Kg) → (Kg) → Option (Bool)) (a0 : List Kg) (a1 : List Kg) : Option (Bool) :=
 (bif ((a0.length : Int) != (a1.length : Int)) then some false else (Option.bind (α := (Unit) ⊕ (Bool)) (loopM (fun (s30 : Int) => (bif (decide (s30 < (a0.length : Int))) then ((idx a0 s30).bind fun x48 => ((idx a1 s30).bind fun x50 => ((g2 x48 x50).bind fun x52 => (bif (!x52) then some (.done (.inr false)) else some (.next (IntKind.i64.wrap (s30 + (1 : Int)))))))) else some (.done (.inl ())))) (0 : Int)) (Sum.elim (fun y29 => some true) (fun r => some r))))
theorem KbE (g0 : (List Kg) → (List Kg) → Option (Bool)) (g1 : (List Kg) → (List Kg) → Option (Bool)) (g2 : (Kg) → (Kg) → Option (Bool)) (hg0 : ∀ (a0 : List Kg) (a1 : List Kg) (r : Bool) (h0 : g0 a0 a1 = some r), CallsD Tryz.prog 85 [.lst 7 (a0.map Kr) .no, .lst 7 (a1.map Kr) .no] [] [] (fun d h k => d = .v (.bool r) ∧ h = [] ∧ k = [])) (hg1 : ∀ (a0 : List Kg) (a1 : List Kg) (r : Bool) (h0 : g1 a0 a1 = some r), CallsD Tryz.prog 106 [.lst 7 (a0.map Kr) .no, .lst 7 (a1.map Kr) .no, .fn (.func 107) [] []] [] [] (fun d h k => d = .v (.bool r) ∧ h = [] ∧ k = [])) (hg2 : ∀ (a0 : Kg) (a1 : Kg) (r : Bool) (h0 : g2 a0 a1 = some r), CallsD Tryz.prog 107 [Kr a0, Kr a1] [] [] (fun d h k => d = .v (.bool r) ∧ h = [] ∧ k = [])) (a0 : List Kg) (a1 : List Kg) (r : Bool) (h0 : KU g0 g1 g2 a0 a1 = some r) : CallsD Tryz.prog 106 [.lst 7 (a0.map Kr) .no, .lst 7 (a1.map Kr) .no, .fn (.func 107) [] []] [] [] (fun d h k => d = .v (.bool r) ∧ h = [] ∧ k = []) := by
 have hm := KI h0
 unfold KU at hm
 clear h0
 refine K3 htab Tryz.func106 rfl rfl rfl rfl rfl (fun C => ?_)
 refine Kh ?_
 refine pu ?_
 refine Ke ?_
 refine Km ?_
 refine Kh ?_
 refine pu ?_
 refine Kag htab rfl rfl rfl rfl rfl rfl rfl (by first | exact KY | rfl) ?_
 refine pu ?_
 refine Kag htab rfl rfl rfl rfl rfl rfl rfl (by first | exact KY | rfl) ?_
 refine pu ?_
 refine Ke ?_
 refine KC rfl (fun hc2 => ?_) (fun hc2 => ?_)
 ·replace hm := yes_t hc2 hm
  refine Kh ?_
  refine pu ?_
  refine Ke ?_
  refine KE ?_
  refine KS ?_
  have er3 := Kj hm; subst er3
  refine rP (t' := [(6, .v (.bool false))]) [] [] 0 (wC wN) (lT lN) ?_
  exact ⟨rfl, rfl, rfl⟩
 ·replace hm := yes_f hc2 hm
  refine KB ?_
  refine Kb ?_
  refine Km ?_
  refine Kh ?_
  refine pu ?_
  refine Kag htab rfl rfl rfl rfl rfl rfl rfl (by first | exact KY | rfl) ?_
  refine pu ?_
  refine Ke ?_
  obtain ⟨x29, q29, ho29⟩ := Kc hm
  refine Kbi (τ := Unit) (Y := Unit) (fun y29 z29 => (⟨[], [], []⟩ : S)) x29 ?_ ?_
  ·clear hm; have hm := KI q29
   refine KG ?_
   obtain ⟨u30, hl30, hq30⟩ := yes_m hm
   refine Kao (Y := Unit) hl30 (fun s30 z30 => (⟨[(1, .lst 7 (a1.map Kr) .no), (2, .fn (.func 107) [] []), (15, .lst 7 (a0.map Kr) .no), (16, .v (.int .i64 (a0.length : Int))), (17, .v (.int .i64 s30))], [], []⟩ : S)) ?_ ?_
   ·skip
    exact WkX.of () (WkS.perm (WkS.cons rfl (Wk.refl _) (WkS.cons rfl (Wk.refl _) (WkS.cons rfl (Wk.refl _) (WkS.cons rfl (Wk.refl _) (WkS.cons rfl (Wk.refl _) (WkS.nil)))))) Pf Pf)
   ·intro G30 s30 z30 hm
    refine Kh ?_
    refine pu ?_
    refine Ke ?_
    refine Km ?_
    refine KC rfl (fun hc47 => ?_) (fun hc47 => ?_)
    ·replace hm := yes_t hc47 hm
     refine KB ?_
     refine Kb ?_
     refine Km ?_
     refine KG ?_
     refine Kh ?_
     refine pu ?_
     obtain ⟨x48, q48, hm⟩ := Kc hm
     refine Kad htab rfl rfl rfl rfl rfl rfl rfl rfl rfl rfl (Kd q48) (Kk q48) ?_
     refine p_eq (i := 20) rfl (Wk.of_eq (congrArg D.el (Kp x48))) ?_
     refine KW (d := .agg [.v (.int .i64 x48.gOp), .v (.string x48.gName), .v (.string x48.gFunc), .lst 5 (x48.gExps.map Kx) .no, .lst 7 (x48.gKids.map Kr) .no, .lst 7 (x48.gElse.map Kr) .no, .v (.int .i64 x48.gAt)]) htab rfl rfl rfl rfl rfl rfl rfl rfl ?_
     refine Kay htab rfl rfl rfl rfl rfl rfl rfl (fun b49 => ?_)
     refine pu ?_
     refine pS0 (ds' := [.v (.int .i64 x48.gOp), .v (.string x48.gName), .v (.string x48.gFunc), .lst 5 (x48.gExps.map Kx) .no, .lst 7 (x48.gKids.map Kr) .no, .lst 7 (x48.gElse.map Kr) .no, .v (.int .i64 x48.gAt)]) ?_
     refine KP ?_
     refine pu ?_
     refine pu ?_
     obtain ⟨x50, q50, hm⟩ := Kc hm
     refine Kad htab rfl rfl rfl rfl rfl rfl rfl rfl rfl rfl (Kd q50) (Kk q50) ?_
     refine p_eq (i := 24) rfl (Wk.of_eq (congrArg D.el (Kp x50))) ?_
     refine KW (d := .agg [.v (.int .i64 x50.gOp), .v (.string x50.gName), .v (.string x50.gFunc), .lst 5 (x50.gExps.map Kx) .no, .lst 7 (x50.gKids.map Kr) .no, .lst 7 (x50.gElse.map Kr) .no, .v (.int .i64 x50.gAt)]) htab rfl rfl rfl rfl rfl rfl rfl rfl ?_
     refine Kay htab rfl rfl rfl rfl rfl rfl rfl (fun b51 => ?_)
     refine pS1 (ds' := [.v (.int .i64 x50.gOp), .v (.string x50.gName), .v (.string x50.gFunc), .lst 5 (x50.gExps.map Kx) .no, .lst 7 (x50.gKids.map Kr) .no, .lst 7 (x50.gElse.map Kr) .no, .v (.int .i64 x50.gAt)]) ?_
     refine KP ?_
     refine pu ?_
     refine KaD (d := .agg [.v (.int .i64 x48.gOp), .v (.string x48.gName), .v (.string x48.gFunc), .lst 5 (x48.gExps.map Kx) .no, .lst 7 (x48.gKids.map Kr) .no, .lst 7 (x48.gElse.map Kr) .no, .v (.int .i64 x48.gAt)]) 0 htab rfl rfl rfl rfl rfl rfl rfl rfl ?_
     refine KaD (d := .agg [.v (.int .i64 x50.gOp), .v (.string x50.gName), .v (.string x50.gFunc), .lst 5 (x50.gExps.map Kx) .no, .lst 7 (x50.gKids.map Kr) .no, .lst 7 (x50.gElse.map Kr) .no, .v (.int .i64 x50.gAt)]) 1 htab rfl rfl rfl rfl rfl rfl rfl rfl ?_
     obtain ⟨x52, q52, hm⟩ := Kc hm
     refine Kho (hg2 x48 x50 x52 q52) rfl rfl rfl rfl rfl rfl rfl (WkL.cons (Wk.trans (Wk.agg (WkR.refl _)) (Wk.of_eq (Kp x48).symm)) (WkL.cons (Wk.trans (Wk.agg (WkR.refl _)) (Wk.of_eq (Kp x50).symm)) Wl)) ?_
     rintro _ rfl
     refine pu ?_
     refine Ke ?_
     refine KC rfl (fun hc53 => ?_) (fun hc53 => ?_)
     ·replace hm := yes_t hc53 hm
      refine Kh ?_
      refine pu ?_
      refine Ke ?_
      refine KE ?_
      refine Kan ?_
      refine KS ?_
      have e30 := K1 hm; subst e30; clear hm; have hm := hq30
      refine KS ?_
      refine Kan ?_
      have e29 := Kj hm; subst e29; refine Kbk ?_; clear hm; have hm := ho29; simp only [Sum.elim_inr] at hm
      refine KS ?_
      have er54 := Kj hm; subst er54
      refine rP (t' := [(6, .v (.bool false))]) [] [] 0 (wC wN) (lT lN) ?_
      exact ⟨rfl, rfl, rfl⟩
     ·replace hm := yes_f hc53 hm
      refine KB ?_
      refine KM ?_
      refine Kb ?_
      refine Kt ?_
      refine pu ?_
      refine pu ?_
      refine Kv ?_
      refine Kb ⟨_, K0 hm, ?_⟩
      exact WkX.of () (WkS.perm (WkS.cons rfl (Wk.refl _) (WkS.cons rfl (Wk.refl _) (WkS.cons rfl (Wk.refl _) (WkS.cons rfl (Wk.refl _) (WkS.cons rfl (Wk.refl _) (WkS.nil)))))) Pf Pf)
    ·replace hm := yes_f hc47 hm
     refine Kaa ?_
     refine KH ?_
     have e30 := K1 hm; subst e30; clear hm; have hm := hq30
     refine KH ?_
     refine K5 ?_
     have e29 := Kj hm; subst e29
     refine Kbj ?_
     exact WkX.of () (WkS.perm (WkS.nil) Pf Pf)
  ·intro y29 s29 hx29 hw29; subst hx29; clear hm; have hm := ho29; simp only [Sum.elim_inl] at hm; clear q29 ho29
   refine Kb ?_
   refine KV hw29 (fun z29 => ?_)
   refine Kh ?_
   refine pu ?_
   refine Ke ?_
   refine KE ?_
   have er55 := Kj hm; subst er55
   refine rP (t' := [(6, .v (.bool true))]) [] [] 0 (wC wN) (lT lN) ?_
   exact ⟨rfl, rfl, rfl⟩
noncomputable def Ka7 (g0 : (List Kg) → (List Kg) → Option (Bool)) (g1 : (List Kg) → (List Kg) → Option (Bool)) (g2 : (Kg) → (Kg) → Option (Bool)) (a0 : Kg) (a1 : Kg) : Option (Bool) :=
 (Option.bind (α := Bool) (bif (a0.gOp != a1.gOp) then some true else (bif (!decide (a0.gName = a1.gName)) then some true else some (!decide (a0.gFunc = a1.gFunc)))) fun y5 => (bif y5 then some false else ((Kas a0.gExps a1.gExps).bind fun x11 => (bif x11 then ((g0 a0.gKids a1.gKids).bind fun x13 => (bif x13 then ((g0 a0.gElse a1.gElse).bind fun x15 => some x15) else some false)) else some false))))
theorem Kgj (g0 : (List Kg) → (List Kg) → Option (Bool)) (g1 : (List Kg) → (List Kg) → Option (Bool)) (g2 : (Kg) → (Kg) → Option (Bool)) (hg0 : ∀ (a0 : List Kg) (a1 : List Kg) (r : Bool) (h0 : g0 a0 a1 = some r), CallsD Tryz.prog 85 [.lst 7 (a0.map Kr) .no, .lst 7 (a1.map Kr) .no] [] [] (fun d h k => d = .v (.bool r) ∧ h = [] ∧ k = [])) (hg1 : ∀ (a0 : List Kg) (a1 : List Kg) (r : Bool) (h0 : g1 a0 a1 = some r), CallsD Tryz.prog 106 [.lst 7 (a0.map Kr) .no, .lst 7 (a1.map Kr) .no, .fn (.func 107) [] []] [] [] (fun d h k => d = .v (.bool r) ∧ h = [] ∧ k = [])) (hg2 : ∀ (a0 : Kg) (a1 : Kg) (r : Bool) (h0 : g2 a0 a1 = some r), CallsD Tryz.prog 107 [Kr a0, Kr a1] [] [] (fun d h k => d = .v (.bool r) ∧ h = [] ∧ k = [])) (a0 : Kg) (a1 : Kg) (r : Bool) (h0 : Ka7 g0 g1 g2 a0 a1 = some r) : CallsD Tryz.prog 107 [Kr a0, Kr a1] [] [] (fun d h k => d = .v (.bool r) ∧ h = [] ∧ k = []) := by
 have hm := KI h0
 unfold Ka7 at hm
 clear h0
 refine K3 htab Tryz.func107 rfl rfl rfl rfl rfl (fun C => ?_)
 refine w_eq (i := 0) rfl (Wk.of_eq (Kp a0)) ?_
 refine w_eq (i := 1) rfl (Wk.of_eq (Kp a1)) ?_
 refine Kh ?_
 refine p_box rfl rfl rfl rfl rfl rfl rfl (fun b1 => ?_)
 refine p_box rfl rfl rfl rfl rfl rfl rfl (fun b2 => ?_)
 refine pu ?_
 refine Ke ?_
 refine Km ?_
 refine Km ?_
 obtain ⟨y5, q5, ho5⟩ := Kc hm
 refine Kah (Y := Unit) (fun z5 => (⟨[(2, .ptr b1 0), (3, .ptr b2 0), (23, .v (.bool y5))], [(b1, Blk.cells [.v (.int .i64 a0.gOp), .v (.string a0.gName), .v (.string a0.gFunc), .lst 5 (a0.gExps.map Kx) .no, .lst 7 (a0.gKids.map Kr) .no, .lst 7 (a0.gElse.map Kr) .no, .v (.int .i64 a0.gAt)] 97), (b2, Blk.cells [.v (.int .i64 a1.gOp), .v (.string a1.gName), .v (.string a1.gFunc), .lst 5 (a1.gExps.map Kx) .no, .lst 7 (a1.gKids.map Kr) .no, .lst 7 (a1.gElse.map Kr) .no, .v (.int .i64 a1.gAt)] 97)], []⟩ : S)) ?_ ?_
 ·clear hm; have hm := KI q5
  refine Kt ?_
  refine pu ?_
  refine pL 0 ?_
  refine pu ?_
  refine pL 1 ?_
  refine pu ?_
  refine pu ?_
  refine KaE (i := 10) rfl (fun hg6 => ?_) (fun hg6 => ?_)
  ·replace hm := yes_t hg6 hm
   iterate 5 refine pK ?_
   refine Kab rfl rfl rfl rfl rfl rfl ?_
   refine pu ?_
   iterate 5 refine pK ?_
   refine Kab rfl rfl rfl rfl rfl rfl ?_
   refine Kv ?_
   have e5 := Kj hm; subst e5
   refine ⟨rfl, ?_⟩
   exact WkX.of () (WkS.perm (WkS.cons rfl (Wk.refl _) (WkS.cons rfl (Wk.refl _) (WkS.cons rfl (Wk.refl _) (WkS.nil)))) Pf Pf)
  ·replace hm := yes_f hg6 hm
   refine pu ?_
   refine pL 0 ?_
   refine pu ?_
   refine pL 1 ?_
   refine pu ?_
   refine K9 rfl rfl rfl rfl rfl rfl ?_
   refine pu ?_
   refine KaE (i := 17) rfl (fun hg7 => ?_) (fun hg7 => ?_)
   ·replace hm := yes_t hg7 hm
    iterate 5 refine pK ?_
    refine Kab rfl rfl rfl rfl rfl rfl ?_
    refine Kv ?_
    have e5 := Kj hm; subst e5
    refine ⟨rfl, ?_⟩
    exact WkX.of () (WkS.perm (WkS.cons rfl (Wk.refl _) (WkS.cons rfl (Wk.refl _) (WkS.cons rfl (Wk.refl _) (WkS.nil)))) Pf Pf)
   ·replace hm := yes_f hg7 hm
    refine pu ?_
    refine pL 0 ?_
    refine pu ?_
    refine pL 1 ?_
    refine pu ?_
    refine K9 rfl rfl rfl rfl rfl rfl ?_
    refine Kv ?_
    have e5 := Kj hm; subst e5
    refine ⟨rfl, ?_⟩
    exact WkX.of () (WkS.perm (WkS.cons rfl (Wk.refl _) (WkS.cons rfl (Wk.refl _) (WkS.cons rfl (Wk.refl _) (WkS.nil)))) Pf Pf)
 ·intro s5 hw5; clear hm; have hm := ho5; clear q5 ho5
  refine Kb ?_
  refine KV hw5 (fun z5 => ?_)
  refine KC rfl (fun hc9 => ?_) (fun hc9 => ?_)
  ·replace hm := yes_t hc9 hm
   refine Kh ?_
   refine pu ?_
   refine Ke ?_
   refine KE ?_
   refine KS ?_
   have er10 := Kj hm; subst er10
   refine rP (t' := [(4, .v (.bool false))]) [] [] 0 (wC wN) (lT lN) ?_
   exact ⟨rfl, rfl, rfl⟩
  ·replace hm := yes_f hc9 hm
   refine KB ?_
   refine Kb ?_
   refine Kh ?_
   refine pu ?_
   refine pL 0 ?_
   refine pu ?_
   refine pL 1 ?_
   obtain ⟨x11, q11, hm⟩ := Kc hm
   refine Kaj (KbK a0.gExps a1.gExps x11 q11) rfl rfl rfl rfl rfl Wl ?_
   rintro _ rfl
   refine pu ?_
   refine KaE (i := 29) rfl (fun hg12 => ?_) (fun hg12 => ?_)
   ·replace hm := yes_t hg12 hm
    refine pu ?_
    refine pL 0 ?_
    refine pu ?_
    refine pL 1 ?_
    obtain ⟨x13, q13, hm⟩ := Kc hm
    refine Kaj (hg0 a0.gKids a1.gKids x13 q13) rfl rfl rfl rfl rfl Wl ?_
    rintro _ rfl
    refine Kab rfl rfl rfl rfl rfl rfl ?_
    refine pu ?_
    refine KaE (i := 36) rfl (fun hg14 => ?_) (fun hg14 => ?_)
    ·replace hm := yes_t hg14 hm
     refine pu ?_
     refine pL 0 ?_
     refine pu ?_
     refine pL 1 ?_
     obtain ⟨x15, q15, hm⟩ := Kc hm
     refine Kaj (hg0 a0.gElse a1.gElse x15 q15) rfl rfl rfl rfl rfl Wl ?_
     rintro _ rfl
     refine Kab rfl rfl rfl rfl rfl rfl ?_
     refine pu ?_
     refine Ke ?_
     refine KE ?_
     have er16 := Kj hm; subst er16
     refine rP (t' := [(4, .v (.bool x15))]) [] [] 0 (wC wN) (lT lN) ?_
     exact ⟨rfl, rfl, rfl⟩
    ·replace hm := yes_f hg14 hm
     iterate 5 refine pK ?_
     refine K9 rfl rfl rfl rfl rfl rfl ?_
     refine pu ?_
     refine Ke ?_
     refine KE ?_
     have er17 := Kj hm; subst er17
     refine rP (t' := [(4, .v (.bool false))]) [] [] 0 (wC wN) (lT lN) ?_
     exact ⟨rfl, rfl, rfl⟩
   ·replace hm := yes_f hg12 hm
    iterate 5 refine pK ?_
    refine K9 rfl rfl rfl rfl rfl rfl ?_
    refine pu ?_
    iterate 5 refine pK ?_
    refine K9 rfl rfl rfl rfl rfl rfl ?_
    refine pu ?_
    refine Ke ?_
    refine KE ?_
    have er18 := Kj hm; subst er18
    refine rP (t' := [(4, .v (.bool false))]) [] [] 0 (wC wN) (lT lN) ?_
    exact ⟨rfl, rfl, rfl⟩
noncomputable def KD : Nat → ((List Kg) → (List Kg) → Option (Bool)) × ((List Kg) → (List Kg) → Option (Bool)) × ((Kg) → (Kg) → Option (Bool))
 | 0 => (fun _ _ => none, fun _ _ => none, fun _ _ => none)
 | n + 1 => (Kbo ((KD n).1) ((KD n).2.1) ((KD n).2.2), KU ((KD n).1) ((KD n).2.1) ((KD n).2.2), Ka7 ((KD n).1) ((KD n).2.1) ((KD n).2.2))
theorem Kef : ∀ n, (∀ (a0 : List Kg) (a1 : List Kg) (r : Bool) (h0 : (KD n).1 a0 a1 = some r), CallsD Tryz.prog 85 [.lst 7 (a0.map Kr) .no, .lst 7 (a1.map Kr) .no] [] [] (fun d h k => d = .v (.bool r) ∧ h = [] ∧ k = [])) ∧ (∀ (a0 : List Kg) (a1 : List Kg) (r : Bool) (h0 : (KD n).2.1 a0 a1 = some r), CallsD Tryz.prog 106 [.lst 7 (a0.map Kr) .no, .lst 7 (a1.map Kr) .no, .fn (.func 107) [] []] [] [] (fun d h k => d = .v (.bool r) ∧ h = [] ∧ k = [])) ∧ (∀ (a0 : Kg) (a1 : Kg) (r : Bool) (h0 : (KD n).2.2 a0 a1 = some r), CallsD Tryz.prog 107 [Kr a0, Kr a1] [] [] (fun d h k => d = .v (.bool r) ∧ h = [] ∧ k = []))
  | 0 => ⟨(fun _ _ _ h0 => by cases h0), (fun _ _ _ h0 => by cases h0), (fun _ _ _ h0 => by cases h0)⟩
  | n + 1 => by
    have ih := Kef n
    exact ⟨KgN ((KD n).1) ((KD n).2.1) ((KD n).2.2) (ih.1) (ih.2.1) (ih.2.2), KbE ((KD n).1) ((KD n).2.1) ((KD n).2.2) (ih.1) (ih.2.1) (ih.2.2), Kgj ((KD n).1) ((KD n).2.1) ((KD n).2.2) (ih.1) (ih.2.1) (ih.2.2)⟩
theorem Keg : ∀ n, (∀ (a0 : List Kg) (a1 : List Kg), Le ((KD n).1 a0 a1) ((KD (n + 1)).1 a0 a1)) ∧ (∀ (a0 : List Kg) (a1 : List Kg), Le ((KD n).2.1 a0 a1) ((KD (n + 1)).2.1 a0 a1)) ∧ (∀ (a0 : Kg) (a1 : Kg), Le ((KD n).2.2 a0 a1) ((KD (n + 1)).2.2 a0 a1))
  | 0 => ⟨fun _ _ => Le.none _, fun _ _ => Le.none _, fun _ _ => Le.none _⟩
  | n + 1 => by
    have ih := Keg n
    exact ⟨fun a0 a1 => by show Le (Kbo ((KD n).1) ((KD n).2.1) ((KD n).2.2) a0 a1) (Kbo ((KD (n + 1)).1) ((KD (n + 1)).2.1) ((KD (n + 1)).2.2) a0 a1); unfold Kbo; repeat (first | exact Le.refl _ | exact ih.1 _ _ | exact ih.2.1 _ _ | exact ih.2.2 _ _ | assumption | (refine Le.bind ?_ (fun _ => ?_)) | (refine Le.cond ?_ ?_) | (refine Le.loop (fun _ => ?_)) | (refine Le.elim (fun _ => ?_) (fun _ => ?_))), fun a0 a1 => by show Le (KU ((KD n).1) ((KD n).2.1) ((KD n).2.2) a0 a1) (KU ((KD (n + 1)).1) ((KD (n + 1)).2.1) ((KD (n + 1)).2.2) a0 a1); unfold KU; repeat (first | exact Le.refl _ | exact ih.1 _ _ | exact ih.2.1 _ _ | exact ih.2.2 _ _ | assumption | (refine Le.bind ?_ (fun _ => ?_)) | (refine Le.cond ?_ ?_) | (refine Le.loop (fun _ => ?_)) | (refine Le.elim (fun _ => ?_) (fun _ => ?_))), fun a0 a1 => by show Le (Ka7 ((KD n).1) ((KD n).2.1) ((KD n).2.2) a0 a1) (Ka7 ((KD (n + 1)).1) ((KD (n + 1)).2.1) ((KD (n + 1)).2.2) a0 a1); unfold Ka7; repeat (first | exact Le.refl _ | exact ih.1 _ _ | exact ih.2.1 _ _ | exact ih.2.2 _ _ | assumption | (refine Le.bind ?_ (fun _ => ?_)) | (refine Le.cond ?_ ?_) | (refine Le.loop (fun _ => ?_)) | (refine Le.elim (fun _ => ?_) (fun _ => ?_)))⟩
noncomputable def KdA (a0 : List Kg) (a1 : List Kg) : Option (Bool) := anyN fun n => (KD n).1 a0 a1
theorem KhW (a0 : List Kg) (a1 : List Kg) {r : Bool} (n : Nat) (h : (KD n).1 a0 a1 = some r) : KdA a0 a1 = some r := Kdo (fun m => (Keg m).1 a0 a1) h
theorem KhX (a0 : List Kg) (a1 : List Kg) (r : Bool) (h0 : KdA a0 a1 = some r) : CallsD Tryz.prog 85 [.lst 7 (a0.map Kr) .no, .lst 7 (a1.map Kr) .no] [] [] (fun d h k => d = .v (.bool r) ∧ h = [] ∧ k = []) :=
 let ⟨n, hn⟩ := KcO h0; (Kef n).1 a0 a1  r hn
noncomputable def Kbg (a0 : KQ) (a1 : KQ) : Option (Bool) :=
 (bif (decide (a0.gName = a1.gName)) then ((KaQ a0.gParams a1.gParams).bind fun x4 => (bif x4 then ((KaQ a0.gLocals a1.gLocals).bind fun x6 => (bif x6 then ((KdA a0.gBody a1.gBody).bind fun x8 => some x8) else some false)) else some false)) else some false)
theorem KeL (a0 : KQ) (a1 : KQ) (r : Bool) (h0 : Kbg a0 a1 = some r) : CallsD Tryz.prog 64 [KA a0, KA a1] [] [] (fun d h k => d = .v (.bool r) ∧ h = [] ∧ k = []) := by
 have hm := KI h0
 unfold Kbg at hm
 clear h0
 refine K3 htab Tryz.func64 rfl rfl rfl rfl rfl (fun C => ?_)
 refine Kh ?_
 refine p_box rfl rfl rfl rfl rfl rfl rfl (fun b1 => ?_)
 refine p_box rfl rfl rfl rfl rfl rfl rfl (fun b2 => ?_)
 refine pu ?_
 refine KP ?_
 refine pu ?_
 refine pL 0 ?_
 refine pu ?_
 refine pL 1 ?_
 refine pu ?_
 refine pu ?_
 refine KaE (i := 10) rfl (fun hg3 => ?_) (fun hg3 => ?_)
 ·replace hm := yes_t hg3 hm
  refine pu ?_
  refine pL 0 ?_
  refine pu ?_
  refine pL 1 ?_
  obtain ⟨x4, q4, hm⟩ := Kc hm
  refine Kaj (Kb6 a0.gParams a1.gParams x4 q4) rfl rfl rfl rfl rfl Wl ?_
  rintro _ rfl
  refine Kab rfl rfl rfl rfl rfl rfl ?_
  refine pu ?_
  refine KaE (i := 17) rfl (fun hg5 => ?_) (fun hg5 => ?_)
  ·replace hm := yes_t hg5 hm
   refine pu ?_
   refine pL 0 ?_
   refine pu ?_
   refine pL 1 ?_
   obtain ⟨x6, q6, hm⟩ := Kc hm
   refine Kaj (Kb6 a0.gLocals a1.gLocals x6 q6) rfl rfl rfl rfl rfl Wl ?_
   rintro _ rfl
   refine Kab rfl rfl rfl rfl rfl rfl ?_
   refine pu ?_
   refine KaE (i := 24) rfl (fun hg7 => ?_) (fun hg7 => ?_)
   ·replace hm := yes_t hg7 hm
    refine pu ?_
    refine pL 0 ?_
    refine pu ?_
    refine pL 1 ?_
    obtain ⟨x8, q8, hm⟩ := Kc hm
    refine Kaj (KhX a0.gBody a1.gBody x8 q8) rfl rfl rfl rfl rfl Wl ?_
    rintro _ rfl
    refine Kab rfl rfl rfl rfl rfl rfl ?_
    refine pu ?_
    refine Ke ?_
    refine KE ?_
    have er9 := Kj hm; subst er9
    refine rP (t' := [(4, .v (.bool x8))]) [] [] 0 (wC wN) (lT lN) ?_
    exact ⟨rfl, rfl, rfl⟩
   ·replace hm := yes_f hg7 hm
    iterate 5 refine pK ?_
    refine K9 rfl rfl rfl rfl rfl rfl ?_
    refine pu ?_
    refine Ke ?_
    refine KE ?_
    have er10 := Kj hm; subst er10
    refine rP (t' := [(4, .v (.bool false))]) [] [] 0 (wC wN) (lT lN) ?_
    exact ⟨rfl, rfl, rfl⟩
  ·replace hm := yes_f hg5 hm
   iterate 5 refine pK ?_
   refine K9 rfl rfl rfl rfl rfl rfl ?_
   refine pu ?_
   iterate 5 refine pK ?_
   refine K9 rfl rfl rfl rfl rfl rfl ?_
   refine pu ?_
   refine Ke ?_
   refine KE ?_
   have er11 := Kj hm; subst er11
   refine rP (t' := [(4, .v (.bool false))]) [] [] 0 (wC wN) (lT lN) ?_
   exact ⟨rfl, rfl, rfl⟩
 ·replace hm := yes_f hg3 hm
  iterate 5 refine pK ?_
  refine K9 rfl rfl rfl rfl rfl rfl ?_
  refine pu ?_
  iterate 5 refine pK ?_
  refine K9 rfl rfl rfl rfl rfl rfl ?_
  refine pu ?_
  iterate 5 refine pK ?_
  refine K9 rfl rfl rfl rfl rfl rfl ?_
  refine pu ?_
  refine Ke ?_
  refine KE ?_
  have er12 := Kj hm; subst er12
  refine rP (t' := [(4, .v (.bool false))]) [] [] 0 (wC wN) (lT lN) ?_
  exact ⟨rfl, rfl, rfl⟩
noncomputable def Kar (a0 : List (List KQ)) : Option (List KQ) :=
 (Option.bind (α := Int) (loopM (fun (s15 : Int × Int) => (bif (decide (s15.2 < (a0.length : Int))) then ((idx a0 s15.2).bind fun x25 => (bif (decide ((IntKind.i64.wrap (s15.1 + (x25.length : Int))) < (0 : Int))) then none else some (.next ((IntKind.i64.wrap (s15.1 + (x25.length : Int))), (IntKind.i64.wrap (s15.2 + (1 : Int))))))) else some (.done s15.1))) ((0 : Int), (0 : Int))) fun y14 => ((need (Ke3 y14)).bind fun x28 => (Option.bind (α := List KQ) (loopM (fun (s47 : Int × List KQ) => (bif (decide (s47.1 < (a0.length : Int))) then ((idx a0 s47.1).bind fun x61 => ((app 96 s47.2 x61).bind fun x62 => some (.next ((IntKind.i64.wrap (s47.1 + (1 : Int))), x62)))) else some (.done s47.2))) ((0 : Int), (growF53 y14))) fun y46 => some y46)))
theorem KaY (a0 : List (List KQ)) (r : List KQ) (h0 : Kar a0 = some r) : CallsD Tryz.prog 32 [.lst 1 (a0.map (eList 5 KA)) .no] [] [] (fun d h k => ∃ y0, d = .v (SL y0) ∧ h = [(0, Blk.row 5 (r.map KA) (SL y0))] ∧ k = []) := by
 have hm := KI h0
 unfold Kar at hm
 clear h0
 refine K3 htab Tryz.func32 rfl rfl rfl rfl rfl (fun C => ?_)
 refine Kh ?_
 refine pu ?_
 refine KP ?_
 refine pu ?_
 refine Ke ?_
 refine Km ?_
 refine Kh ?_
 refine pu ?_
 refine Kag htab rfl rfl rfl rfl rfl rfl rfl (by first | exact KY | rfl) ?_
 refine pu ?_
 refine Ke ?_
 obtain ⟨y14, q14, ho14⟩ := Kc hm
 refine Kah (Y := Unit) (fun z14 => (⟨[(0, .lst 1 (a0.map (eList 5 KA)) .no), (3, .v (.int .i64 y14))], [], []⟩ : S)) ?_ ?_
 ·clear hm; have hm := KI q14
  refine KG ?_
  obtain ⟨u15, hl15, hq15⟩ := yes_m hm
  refine Kao (Y := Unit) hl15 (fun s15 z15 => (⟨[(0, .lst 1 (a0.map (eList 5 KA)) .no), (3, .v (.int .i64 s15.1)), (9, .lst 1 (a0.map (eList 5 KA)) .no), (10, .v (.int .i64 (a0.length : Int))), (11, .v (.int .i64 s15.2))], [], []⟩ : S)) ?_ ?_
  ·skip
   exact WkX.of () (WkS.perm (WkS.cons rfl (Wk.refl _) (WkS.cons rfl (Wk.refl _) (WkS.cons rfl (Wk.refl _) (WkS.cons rfl (Wk.refl _) (WkS.cons rfl (Wk.refl _) (WkS.nil)))))) Pf Pf)
  ·intro G15 s15 z15 hm
   refine Kh ?_
   refine pu ?_
   refine Ke ?_
   refine Km ?_
   refine KC rfl (fun hc24 => ?_) (fun hc24 => ?_)
   ·replace hm := yes_t hc24 hm
    refine KB ?_
    refine Kb ?_
    refine Km ?_
    refine KG ?_
    refine Kh ?_
    obtain ⟨x25, q25, hm⟩ := Kc hm
    refine Kad htab rfl rfl rfl rfl rfl rfl rfl rfl rfl rfl (Kd q25) (Kk q25) ?_
    refine KW htab rfl rfl rfl rfl rfl rfl rfl rfl ?_
    refine pu ?_
    refine KP ?_
    refine pu ?_
    refine pu ?_
    refine Kag htab rfl rfl rfl rfl rfl rfl rfl (by first | exact KY | rfl) ?_
    refine pu ?_
    refine pu ?_
    refine KP ?_
    refine pu ?_
    refine pu ?_
    refine Ke ?_
    refine KC rfl (fun hc26 => ?_) (fun hc26 => ?_)
    ·replace hm := yes_t hc26 hm
     exact (yes_none hm).elim
    ·replace hm := yes_f hc26 hm
     refine KB ?_
     refine KM ?_
     refine Kb ?_
     refine Kt ?_
     refine pu ?_
     refine pu ?_
     refine Kv ?_
     refine Kb ⟨_, K0 hm, ?_⟩
     exact WkX.of () (WkS.perm (WkS.cons rfl (Wk.refl _) (WkS.cons rfl (Wk.refl _) (WkS.cons rfl (Wk.refl _) (WkS.cons rfl (Wk.refl _) (WkS.cons rfl (Wk.refl _) (WkS.nil)))))) Pf Pf)
   ·replace hm := yes_f hc24 hm
    refine Kaa ?_
    refine KH ?_
    have e15 := K1 hm; subst e15; clear hm; have hm := hq15
    refine KH ?_
    refine K5 ?_
    have e14 := Kj hm; subst e14
    refine ⟨rfl, ?_⟩
    exact WkX.of () (WkS.perm (WkS.cons rfl (Wk.refl _) (WkS.cons rfl (Wk.refl _) (WkS.nil))) Pf Pf)
 ·intro s14 hw14; clear hm; have hm := ho14; clear q14 ho14
  refine Kb ?_
  refine KV hw14 (fun z14 => ?_)
  refine Kh ?_
  refine pu ?_
  obtain ⟨x28, q28, hm⟩ := Kc hm
  refine pG (growOk53 y14 (Kdn q28)) Wl Pf Pf ?_
  rintro _ _ _ ⟨w27, rfl, rfl, rfl⟩
  refine pu ?_
  refine Ke ?_
  refine Km ?_
  refine Kh ?_
  refine pu ?_
  refine Kag htab rfl rfl rfl rfl rfl rfl rfl (by first | exact KY | rfl) ?_
  refine pu ?_
  refine Ke ?_
  obtain ⟨y46, q46, ho46⟩ := Kc hm
  refine Kah (Y := Z3) (fun z46 => (⟨[(6, .v (SL z46))], [(0, Blk.row 5 (y46.map KA) (SL z46))], []⟩ : S)) ?_ ?_
  ·clear hm; have hm := KI q46
   refine KG ?_
   obtain ⟨u47, hl47, hq47⟩ := yes_m hm
   refine Kao (Y := Z3) hl47 (fun s47 z47 => (⟨[(6, .v (SL z47)), (25, .lst 1 (a0.map (eList 5 KA)) .no), (26, .v (.int .i64 (a0.length : Int))), (27, .v (.int .i64 s47.1))], [(0, Blk.row 5 (s47.2.map KA) (SL z47))], []⟩ : S)) ?_ ?_
   ·skip
    exact WkX.of w27 (WkS.perm (WkS.cons rfl (Wk.refl _) (WkS.cons rfl (Wk.refl _) (WkS.cons rfl (Wk.refl _) (WkS.cons rfl (Wk.refl _) (WkS.nil))))) Pf Pf)
   ·intro G47 s47 z47 hm
    refine Kh ?_
    refine pu ?_
    refine Ke ?_
    refine Km ?_
    refine KC rfl (fun hc60 => ?_) (fun hc60 => ?_)
    ·replace hm := yes_t hc60 hm
     refine KB ?_
     refine Kb ?_
     refine Km ?_
     refine KG ?_
     refine Kh ?_
     obtain ⟨x61, q61, hm⟩ := Kc hm
     refine Kad htab rfl rfl rfl rfl rfl rfl rfl rfl rfl rfl (Kd q61) (Kk q61) ?_
     refine KW htab rfl rfl rfl rfl rfl rfl rfl rfl ?_
     refine pu ?_
     refine Ke ?_
     refine Kt ?_
     refine pu ?_
     refine pu ?_
     obtain ⟨x62, q62, hm⟩ := Kc hm
     refine Kdp 0 htab rfl rfl rfl rfl rfl rfl rfl rfl rfl rfl rfl rfl rfl rfl rfl rfl (Kal q62) (Kc1 q62) (fun v62 => ?_)
     refine pu ?_
     refine Kv ?_
     refine KM ?_
     refine Kb ?_
     refine Kt ?_
     refine pu ?_
     refine pu ?_
     refine Kv ?_
     refine Kb ⟨_, K0 hm, ?_⟩
     exact WkX.of v62 (WkS.perm (WkS.cons rfl (Wk.refl _) (WkS.cons rfl (Wk.refl _) (WkS.cons rfl (Wk.refl _) (WkS.cons rfl (Wk.refl _) (WkS.nil))))) Pf Pf)
    ·replace hm := yes_f hc60 hm
     refine Kaa ?_
     refine KH ?_
     have e47 := K1 hm; subst e47; clear hm; have hm := hq47
     refine KH ?_
     refine K5 ?_
     have e46 := Kj hm; subst e46
     refine ⟨rfl, ?_⟩
     exact WkX.of z47 (WkS.perm (WkS.cons rfl (Wk.refl _) (WkS.nil)) Pf Pf)
  ·intro s46 hw46; clear hm; have hm := ho46; clear q46 ho46
   refine Kb ?_
   refine KV hw46 (fun z46 => ?_)
   refine Kh ?_
   refine pu ?_
   refine pu ?_
   refine Ke ?_
   refine KE ?_
   have er63 := Kj hm; subst er63
   refine rP (t' := [(2, .v (SL z46))]) [0] [] 1 (wC wN) (lT lN) ?_
   exact ⟨z46, rfl, rfl, rfl⟩
noncomputable def Kbv (a0 : List ByteArray) : Option (List ByteArray) :=
 ((need (Kcz a0)).bind fun x1 => ((need (Kcz (sortB a0))).bind fun x3 => some (Kdh (sortB a0))))
theorem Kcc (a0 : List ByteArray) (za0 : Z3) (r : List ByteArray) (h0 : Kbv a0 = some r) : CallsD Tryz.prog 36 [.v (SL za0)] [(0, Blk.row 1 (a0.map eStr) (SL za0))] [] (fun d h k => ∃ y0, d = .v (SL y0) ∧ h = [(0, Blk.row 1 (r.map eStr) (SL y0))] ∧ k = []) := by
 have hm := KI h0
 unfold Kbv at hm
 clear h0
 refine K3 htab Tryz.func36 rfl rfl rfl rfl rfl (fun C => ?_)
 refine Kh ?_
 refine pu ?_
 refine KP ?_
 refine pu ?_
 obtain ⟨x1, q1, hm⟩ := Kc hm
 refine pG (sortB_ok a0 za0 (Kdn q1)) Wl Pf Pf ?_
 rintro _ _ _ ⟨rfl, rfl, rfl⟩
 refine KP ?_
 refine pu ?_
 obtain ⟨x3, q3, hm⟩ := Kc hm
 refine pG (KgZ (sortB a0) za0 (Kdn q3)) Wl Pf Pf ?_
 rintro _ _ _ ⟨w2, rfl, rfl, rfl⟩
 refine pu ?_
 refine Ke ?_
 refine KE ?_
 have er4 := Kj hm; subst er4
 refine rP (t' := [(2, .v (SL w2))]) [0] [] 1 (wC wN) (lT lN) ?_
 exact ⟨w2, rfl, rfl, rfl⟩
noncomputable def Kcn (a0 : Kw) (a1 : Kw) : Option (List ByteArray) :=
 ((Kar ([a0.gFuncs, a1.gFuncs] : List (List KQ))).bind fun x4 => (Option.bind (α := List ByteArray) (loopM (fun (s85 : List ByteArray × Int) => (bif (decide (s85.2 < (x4.length : Int))) then ((idx x4 s85.2).bind fun x118 => ((Kbz a0 x118.gName).bind fun x120 => ((Kbz a1 x118.gName).bind fun x122 => (Option.bind (α := Bool) (bif (!(x120.2 == x122.2)) then some true else ((Kbg x120.1 x122.1).bind fun x128 => some (!x128))) fun y126 => (bif y126 then ((app 16 s85.1 ([x118.gName] : List ByteArray)).bind fun x130 => some (.next (x130, (IntKind.i64.wrap (s85.2 + (1 : Int)))))) else some (.next (s85.1, (IntKind.i64.wrap (s85.2 + (1 : Int)))))))))) else some (.done s85.1))) (([] : List ByteArray), (0 : Int))) fun y68 => ((Kbv y68).bind fun x132 => some x132)))
theorem KhY (a0 : Kw) (a1 : Kw) (r : List ByteArray) (h0 : Kcn a0 a1 = some r) : CallsD Tryz.prog 37 [Ku a0, Ku a1] [] [] (fun d h k => ∃ y0, d = .lst 1 (r.map eStr) (.cur y0) ∧ h = [] ∧ k = [(1, y0)]) := by
 have hm := KI h0
 unfold Kcn at hm
 clear h0
 refine K3 htab Tryz.func37 rfl rfl rfl rfl rfl (fun C => ?_)
 refine Kh ?_
 refine p_box rfl rfl rfl rfl rfl rfl rfl (fun b1 => ?_)
 refine p_box rfl rfl rfl rfl rfl rfl rfl (fun b2 => ?_)
 refine pu ?_
 refine KP ?_
 refine pu ?_
 refine Ke ?_
 refine Km ?_
 refine Kh ?_
 refine pu ?_
 refine pL 0 ?_
 refine pu ?_
 refine pL 1 ?_
 refine p_lit htab rfl rfl rfl rfl rfl rfl rfl rfl rfl rfl rfl rfl rfl rfl ?_
 refine p_eq (i := 16) (d' := .lst 1 (([a0.gFuncs, a1.gFuncs] : List (List KQ)).map (eList 5 KA)) .full) rfl (Wk.lst0 (.cons (WkC.refl _) (.cons (WkC.refl _) (.nil)))) ?_
 obtain ⟨x4, q4, hm⟩ := Kc hm
 refine Kby (KaY ([a0.gFuncs, a1.gFuncs] : List (List KQ)) x4 q4) rfl rfl rfl rfl rfl (WkL.cons (Wk.no) Wl) Pf Pf ?_
 rintro _ _ _ ⟨w3, rfl, rfl, rfl⟩
 refine p_lenR 0 htab rfl rfl rfl rfl rfl rfl rfl rfl (by first | exact KY | rfl) ?_
 refine pu ?_
 refine Ke ?_
 obtain ⟨y68, q68, ho68⟩ := Kc hm
 refine Kah (Y := Z3) (fun z68 => (⟨[(5, .v (SL z68))], [(0, Blk.row 1 (y68.map eStr) (SL z68))], []⟩ : S)) ?_ ?_
 ·clear hm; have hm := KI q68
  refine KG ?_
  refine KV (Y := Unit) (S1 := fun _ => (⟨[(2, .ptr b1 0), (3, .ptr b2 0), (5, .lst 1 [] .full), (17, .lst 5 (x4.map KA) (.cur (SL w3))), (18, .v (.int .i64 (x4.length : Int))), (19, .v (.int .i64 (0 : Int)))], [(b1, Blk.cells [.lst 4 (a0.gGlobals.map KJ) .no, .lst 5 (a0.gFuncs.map KA) .no] 25), (b2, Blk.cells [.lst 4 (a1.gGlobals.map KJ) .no, .lst 5 (a1.gFuncs.map KA) .no] 25)], [(5, (SL w3))]⟩ : S)) ?_ (fun _ => ?_)
  ·skip
   refine WkX.wk (WkS.frz 0 rfl rfl) ?_
   refine WkX.wk (WkS.tld 17 0 rfl rfl) ?_
   refine WkX.wk (WkS.drop 0 rfl) ?_
   exact WkX.of () (WkS.perm (WkS.cons rfl (Wk.refl _) (WkS.cons rfl (Wk.refl _) (WkS.cons rfl (Wk.refl _) (WkS.cons rfl (Wk.refl _) (WkS.cons rfl (Wk.refl _) (WkS.cons rfl (Wk.refl _) (WkS.nil))))))) Pf Pf)
  ·skip
   obtain ⟨u85, hl85, hq85⟩ := yes_m hm
   refine Kao (Y := Z3) hl85 (fun s85 z85 => (⟨[(2, .ptr b1 0), (3, .ptr b2 0), (5, .v (SL z85)), (17, .lst 5 (x4.map KA) (.cur (SL w3))), (18, .v (.int .i64 (x4.length : Int))), (19, .v (.int .i64 s85.2))], [(0, Blk.row 1 (s85.1.map eStr) (SL z85)), (b1, Blk.cells [.lst 4 (a0.gGlobals.map KJ) .no, .lst 5 (a0.gFuncs.map KA) .no] 25), (b2, Blk.cells [.lst 4 (a1.gGlobals.map KJ) .no, .lst 5 (a1.gFuncs.map KA) .no] 25)], [(5, (SL w3))]⟩ : S)) ?_ ?_
   ·skip
    refine WkX.rowN (i := 5) 1 rfl (fun w116 => ?_)
    exact WkX.of w116 (WkS.perm (WkS.cons rfl (Wk.refl _) (WkS.cons rfl (Wk.refl _) (WkS.cons rfl (Wk.refl _) (WkS.cons rfl (Wk.refl _) (WkS.cons rfl (Wk.refl _) (WkS.cons rfl (Wk.refl _) (WkS.nil))))))) Pf Pf)
   ·intro G85 s85 z85 hm
    refine Kh ?_
    refine pu ?_
    refine Ke ?_
    refine Km ?_
    refine KC rfl (fun hc117 => ?_) (fun hc117 => ?_)
    ·replace hm := yes_t hc117 hm
     refine KB ?_
     refine Kb ?_
     refine Km ?_
     refine KG ?_
     refine Kh ?_
     obtain ⟨x118, q118, hm⟩ := Kc hm
     refine Kad htab rfl rfl rfl rfl rfl rfl rfl rfl rfl rfl (Kd q118) (Kk q118) ?_
     refine KW (d := KA x118) htab rfl rfl rfl rfl rfl rfl rfl rfl ?_
     refine Kay htab rfl rfl rfl rfl rfl rfl rfl (fun b119 => ?_)
     refine pS3 (ds' := [.v (.string x118.gName), .lst 2 (x118.gParams.map Kaf) .no, .lst 2 (x118.gLocals.map Kaf) .no, .lst 7 (x118.gBody.map Kr) .no, .v (.int .i64 x118.gAt)]) ?_
     refine KP ?_
     refine KaD (d := Ku a0) 1 htab rfl rfl rfl rfl rfl rfl rfl rfl ?_
     refine pu ?_
     refine pL 3 ?_
     obtain ⟨x120, q120, hm⟩ := Kc hm
     refine Kaj (Kcv a0 x118.gName x120 q120) rfl rfl rfl rfl rfl Wl ?_
     rintro _ rfl
     iterate 3 refine pu ?_
     refine Kay htab rfl rfl rfl rfl rfl rfl rfl (fun b121 => ?_)
     refine pS4 (ds' := [.v (.string x120.1.gName), .lst 2 (x120.1.gParams.map Kaf) .no, .lst 2 (x120.1.gLocals.map Kaf) .no, .lst 7 (x120.1.gBody.map Kr) .no, .v (.int .i64 x120.1.gAt)]) ?_
     refine pu ?_
     refine KP ?_
     refine KaD (d := Ku a1) 2 htab rfl rfl rfl rfl rfl rfl rfl rfl ?_
     refine pu ?_
     refine pL 3 ?_
     obtain ⟨x122, q122, hm⟩ := Kc hm
     refine Kaj (Kcv a1 x118.gName x122 q122) rfl rfl rfl rfl rfl Wl ?_
     rintro _ rfl
     iterate 3 refine pu ?_
     refine Kay htab rfl rfl rfl rfl rfl rfl rfl (fun b123 => ?_)
     refine pS5 (ds' := [.v (.string x122.1.gName), .lst 2 (x122.1.gParams.map Kaf) .no, .lst 2 (x122.1.gLocals.map Kaf) .no, .lst 7 (x122.1.gBody.map Kr) .no, .v (.int .i64 x122.1.gAt)]) ?_
     refine pu ?_
     refine Ke ?_
     refine Km ?_
     obtain ⟨y126, q126, ho126⟩ := Kc hm
     refine Kah (Y := Unit) (fun z126 => (⟨[(2, .ptr b1 0), (3, .ptr b2 0), (5, .v (SL z85)), (7, .ptr b119 0), (17, .lst 5 (x4.map KA) (.cur (SL w3))), (18, .v (.int .i64 (x4.length : Int))), (19, .v (.int .i64 s85.2)), (45, .v (.bool y126))], [(0, Blk.row 1 (s85.1.map eStr) (SL z85)), (b1, Blk.cells [.lst 4 (a0.gGlobals.map KJ) .no, .lst 5 (a0.gFuncs.map KA) .no] 25), (b2, Blk.cells [.lst 4 (a1.gGlobals.map KJ) .no, .lst 5 (a1.gFuncs.map KA) .no] 25), (b119, Blk.cells [.v (.string x118.gName), .lst 2 (x118.gParams.map Kaf) .no, .lst 2 (x118.gLocals.map Kaf) .no, .lst 7 (x118.gBody.map Kr) .no, .v (.int .i64 x118.gAt)] 63)], [(5, (SL w3))]⟩ : S)) ?_ ?_
     ·clear hm; have hm := KI q126
      refine Kt ?_
      iterate 4 refine pu ?_
      refine KaE (i := 40) rfl (fun hg127 => ?_) (fun hg127 => ?_)
      ·replace hm := yes_t hg127 hm
       iterate 4 refine pK ?_
       refine Kab rfl rfl rfl rfl rfl rfl ?_
       refine Kv ?_
       have e126 := Kj hm; subst e126
       refine ⟨rfl, ?_⟩
       exact WkX.of () (WkS.perm (WkS.cons rfl (Wk.refl _) (WkS.cons rfl (Wk.refl _) (WkS.cons rfl (Wk.refl _) (WkS.cons rfl (Wk.refl _) (WkS.cons rfl (Wk.refl _) (WkS.cons rfl (Wk.refl _) (WkS.cons rfl (Wk.refl _) (WkS.cons rfl (Wk.refl _) (WkS.nil))))))))) Pf Pf)
      ·replace hm := yes_f hg127 hm
       refine KaD (d := KA x120.1) 4 htab rfl rfl rfl rfl rfl rfl rfl rfl ?_
       refine KaD (d := KA x122.1) 5 htab rfl rfl rfl rfl rfl rfl rfl rfl ?_
       obtain ⟨x128, q128, hm⟩ := Kc hm
       refine Kaj (KeL x120.1 x122.1 x128 q128) rfl rfl rfl rfl rfl Wl ?_
       rintro _ rfl
       refine pu ?_
       refine K9 rfl rfl rfl rfl rfl rfl ?_
       refine Kv ?_
       have e126 := Kj hm; subst e126
       refine ⟨rfl, ?_⟩
       exact WkX.of () (WkS.perm (WkS.cons rfl (Wk.refl _) (WkS.cons rfl (Wk.refl _) (WkS.cons rfl (Wk.refl _) (WkS.cons rfl (Wk.refl _) (WkS.cons rfl (Wk.refl _) (WkS.cons rfl (Wk.refl _) (WkS.cons rfl (Wk.refl _) (WkS.cons rfl (Wk.refl _) (WkS.nil))))))))) Pf Pf)
     ·intro s126 hw126; clear hm; have hm := ho126; clear q126 ho126
      refine Kb ?_
      refine KV hw126 (fun z126 => ?_)
      refine KC rfl (fun hc129 => ?_) (fun hc129 => ?_)
      ·replace hm := yes_t hc129 hm
       refine Kt ?_
       refine pu ?_
       refine pu ?_
       refine pL 3 ?_
       refine p_lit htab rfl rfl rfl rfl rfl rfl rfl rfl rfl rfl rfl rfl rfl rfl ?_
       refine p_eq (i := 49) (d' := .lst 1 (([x118.gName] : List ByteArray).map eStr) .full) rfl (Wk.lst0 (.cons (WkC.refl _) (.nil))) ?_
       obtain ⟨x130, q130, hm⟩ := Kc hm
       refine Kdp 0 htab rfl rfl rfl rfl rfl rfl rfl rfl rfl rfl rfl rfl rfl rfl rfl rfl (Kal q130) (Kc1 q130) (fun v130 => ?_)
       refine pu ?_
       refine Kv ?_
       refine KM ?_
       refine Kb ?_
       refine Kt ?_
       refine pu ?_
       refine pu ?_
       refine Kv ?_
       refine Kb ⟨_, K0 hm, ?_⟩
       exact WkX.of v130 (WkS.perm (WkS.cons rfl (Wk.refl _) (WkS.cons rfl (Wk.refl _) (WkS.cons rfl (Wk.refl _) (WkS.cons rfl (Wk.refl _) (WkS.cons rfl (Wk.refl _) (WkS.cons rfl (Wk.refl _) (WkS.nil))))))) Pf Pf)
      ·replace hm := yes_f hc129 hm
       refine KB ?_
       refine KM ?_
       refine Kb ?_
       refine Kt ?_
       refine pu ?_
       refine pu ?_
       refine Kv ?_
       refine Kb ⟨_, K0 hm, ?_⟩
       exact WkX.of z85 (WkS.perm (WkS.cons rfl (Wk.refl _) (WkS.cons rfl (Wk.refl _) (WkS.cons rfl (Wk.refl _) (WkS.cons rfl (Wk.refl _) (WkS.cons rfl (Wk.refl _) (WkS.cons rfl (Wk.refl _) (WkS.nil))))))) Pf Pf)
    ·replace hm := yes_f hc117 hm
     refine Kaa ?_
     refine KH ?_
     have e85 := K1 hm; subst e85; clear hm; have hm := hq85
     refine KH ?_
     refine K5 ?_
     have e68 := Kj hm; subst e68
     refine ⟨rfl, ?_⟩
     exact WkX.of z85 (WkS.perm (WkS.cons rfl (Wk.refl _) (WkS.nil)) Pf Pf)
 ·intro s68 hw68; clear hm; have hm := ho68; clear q68 ho68
  refine Kb ?_
  refine KV hw68 (fun z68 => ?_)
  refine Kh ?_
  refine pu ?_
  obtain ⟨x132, q132, hm⟩ := Kc hm
  refine pG (Kcc y68 z68 x132 q132) Wl Pf Pf ?_
  rintro _ _ _ ⟨w131, rfl, rfl, rfl⟩
  refine pu ?_
  refine Ke ?_
  refine KE ?_
  have er133 := Kj hm; subst er133
  refine retX.wk (WkS.frz 0 rfl rfl) ?_
  refine retX.wk (WkS.tld 4 0 rfl rfl) ?_
  refine retX.wk (WkS.tld 53 0 rfl rfl) ?_
  refine retX.wk (WkS.drop 0 rfl) ?_
  refine rP (t' := [(4, .lst 1 (x132.map eStr) (.cur (SL w131)))]) [] [0] 0 (wC wN) (lT lN) ?_
  exact ⟨(SL w131), rfl, rfl, rfl⟩
noncomputable def Kck (a0 : K8) (m0 : ByteArray) : Option (Bool) :=
 some (decide (a0.gName = m0))
theorem KfS (a0 : K8) (m0 : ByteArray) (o0 : Nat) (T0 : TypeId) (r : Bool) (h0 : Kck a0 m0 = some r) : CallsD Tryz.prog 88 [KJ a0, .ptr o0 0] [(o0, Blk.cells [.v (.string m0)] T0)] [] (fun d h k => d = .v (.bool r) ∧ h = [(o0, Blk.cells [.v (.string m0)] T0)] ∧ k = []) := by
 have hm := KI h0
 unfold Kck at hm
 clear h0
 refine K3 htab Tryz.func88 rfl rfl rfl rfl rfl (fun C => ?_)
 refine Kh ?_
 refine p_box rfl rfl rfl rfl rfl rfl rfl (fun b1 => ?_)
 refine pu ?_
 refine KP ?_
 refine pu ?_
 refine pL 1 ?_
 refine pL 0 ?_
 refine pu ?_
 refine pu ?_
 refine Ke ?_
 refine KE ?_
 have er2 := Kj hm; subst er2
 refine rP (t' := [(3, .v (.bool (decide (a0.gName = m0))))]) [0] [] 1 (wC wN) (lT lN) ?_
 exact ⟨rfl, rfl, rfl⟩
noncomputable def KaC (a0 : List K8) (m0 : ByteArray) : Option (Int) :=
 (Option.bind (α := (Unit) ⊕ (Int)) (loopM (fun (s18 : Int) => (bif (decide (s18 < (a0.length : Int))) then ((idx a0 s18).bind fun x30 => ((Kck x30 m0).bind fun x31 => (bif x31 then some (.done (.inr s18)) else some (.next (IntKind.i64.wrap (s18 + (1 : Int))))))) else some (.done (.inl ())))) (0 : Int)) (Sum.elim (fun y17 => some (-1 : Int)) (fun r => some r)))
theorem Kcq (a0 : List K8) (m0 : ByteArray) (o0 : Nat) (T0 : TypeId) (r : Int) (h0 : KaC a0 m0 = some r) : CallsD Tryz.prog 87 [.lst 4 (a0.map KJ) .no, .fn (.func 88) [] [.ptr o0 0]] [(o0, Blk.cells [.v (.string m0)] T0)] [] (fun d h k => d = .v (.int .i64 r) ∧ h = [(o0, Blk.cells [.v (.string m0)] T0)] ∧ k = []) := by
 have hm := KI h0
 unfold KaC at hm
 clear h0
 refine K3 htab Tryz.func87 rfl rfl rfl rfl rfl (fun C => ?_)
 refine Kh ?_
 refine pu ?_
 refine Ke ?_
 refine Km ?_
 refine Kh ?_
 refine pu ?_
 refine Kag htab rfl rfl rfl rfl rfl rfl rfl (by first | exact KY | rfl) ?_
 refine pu ?_
 refine Ke ?_
 obtain ⟨x17, q17, ho17⟩ := Kc hm
 refine Kbi (τ := Unit) (Y := Unit) (fun y17 z17 => (⟨[], [(o0, Blk.cells [.v (.string m0)] T0)], []⟩ : S)) x17 ?_ ?_
 ·clear hm; have hm := KI q17
  refine KG ?_
  obtain ⟨u18, hl18, hq18⟩ := yes_m hm
  refine Kao (Y := Unit) hl18 (fun s18 z18 => (⟨[(0, .lst 4 (a0.map KJ) .no), (1, .fn (.func 88) [] [.ptr o0 0]), (7, .v (.int .i64 (a0.length : Int))), (8, .v (.int .i64 s18))], [(o0, Blk.cells [.v (.string m0)] T0)], []⟩ : S)) ?_ ?_
  ·skip
   exact WkX.of () (WkS.perm (WkS.cons rfl (Wk.refl _) (WkS.cons rfl (Wk.refl _) (WkS.cons rfl (Wk.refl _) (WkS.cons rfl (Wk.refl _) (WkS.nil))))) Pf Pf)
  ·intro G18 s18 z18 hm
   refine Kh ?_
   refine pu ?_
   refine Ke ?_
   refine Km ?_
   refine KC rfl (fun hc29 => ?_) (fun hc29 => ?_)
   ·replace hm := yes_t hc29 hm
    refine KB ?_
    refine Kb ?_
    refine Km ?_
    refine KG ?_
    refine Kh ?_
    refine pu ?_
    refine pu ?_
    refine KP ?_
    iterate 3 refine pu ?_
    obtain ⟨x30, q30, hm⟩ := Kc hm
    refine Kad htab rfl rfl rfl rfl rfl rfl rfl rfl rfl rfl (Kd q30) (Kk q30) ?_
    refine KW (d := KJ x30) htab rfl rfl rfl rfl rfl rfl rfl rfl ?_
    obtain ⟨x31, q31, hm⟩ := Kc hm
    refine KcC (KfS x30 m0 o0 T0 x31 q31) rfl rfl rfl rfl rfl rfl rfl Wl Pf Pf ?_
    rintro _ _ _ ⟨rfl, rfl, rfl⟩
    refine Ke ?_
    refine KC rfl (fun hc32 => ?_) (fun hc32 => ?_)
    ·replace hm := yes_t hc32 hm
     refine Kh ?_
     refine pu ?_
     refine pu ?_
     refine Ke ?_
     refine KE ?_
     refine Kan ?_
     refine KS ?_
     have e18 := K1 hm; subst e18; clear hm; have hm := hq18
     refine KS ?_
     refine Kan ?_
     have e17 := Kj hm; subst e17; refine Kbk ?_; clear hm; have hm := ho17; simp only [Sum.elim_inr] at hm
     refine KS ?_
     have er33 := Kj hm; subst er33
     refine rP (t' := [(4, .v (.int .i64 s18))]) [0] [] 1 (wC wN) (lT lN) ?_
     exact ⟨rfl, rfl, rfl⟩
    ·replace hm := yes_f hc32 hm
     refine KB ?_
     refine KM ?_
     refine Kb ?_
     refine Kt ?_
     refine pu ?_
     refine pu ?_
     refine Kv ?_
     refine Kb ⟨_, K0 hm, ?_⟩
     exact WkX.of () (WkS.perm (WkS.cons rfl (Wk.refl _) (WkS.cons rfl (Wk.refl _) (WkS.cons rfl (Wk.refl _) (WkS.cons rfl (Wk.refl _) (WkS.nil))))) Pf Pf)
   ·replace hm := yes_f hc29 hm
    refine Kaa ?_
    refine KH ?_
    have e18 := K1 hm; subst e18; clear hm; have hm := hq18
    refine KH ?_
    refine K5 ?_
    have e17 := Kj hm; subst e17
    refine Kbj ?_
    exact WkX.of () (WkS.perm (WkS.nil) Pf Pf)
 ·intro y17 s17 hx17 hw17; subst hx17; clear hm; have hm := ho17; simp only [Sum.elim_inl] at hm; clear q17 ho17
  refine Kb ?_
  refine KV hw17 (fun z17 => ?_)
  refine Kh ?_
  refine pu ?_
  refine Ke ?_
  refine KE ?_
  have er34 := Kj hm; subst er34
  refine rP (t' := [(4, .v (.int .i64 (-1 : Int)))]) [0] [] 1 (wC wN) (lT lN) ?_
  exact ⟨rfl, rfl, rfl⟩
noncomputable def Ka8 (a0 : Kw) (a1 : ByteArray) : Option (K8 × Bool) :=
 ((KaC a0.gGlobals a1).bind fun x4 => (bif (decide (x4 < (0 : Int))) then some ((⟨ByteArray.empty, false, (0 : Int), (0 : Int)⟩ : K8), false) else ((idx a0.gGlobals x4).bind fun x8 => some (x8, true))))
theorem Kcd (a0 : Kw) (a1 : ByteArray) (r : K8 × Bool) (h0 : Ka8 a0 a1 = some r) : CallsD Tryz.prog 66 [Ku a0, .v (.string a1)] [] [] (fun d h k => d = .tup [KJ r.1, .v (.bool r.2)] ∧ h = [] ∧ k = []) := by
 have hm := KI h0
 unfold Ka8 at hm
 clear h0
 refine K3 htab Tryz.func66 rfl rfl rfl rfl rfl (fun C => ?_)
 refine Kh ?_
 refine p_box rfl rfl rfl rfl rfl rfl rfl (fun b1 => ?_)
 refine p_box rfl rfl rfl rfl rfl rfl rfl (fun b2 => ?_)
 refine Kay htab rfl rfl rfl rfl rfl rfl rfl (fun b3 => ?_)
 refine pu ?_
 refine KP ?_
 refine pu ?_
 refine pL 0 ?_
 refine pu ?_
 obtain ⟨x4, q4, hm⟩ := Kc hm
 refine pG (Kcq a0.gGlobals a1 b2 9 x4 q4) Wl ((KF (j := 1) rfl).trans (List.Perm.cons _ Pf)) Pf ?_
 rintro _ _ _ ⟨rfl, rfl, rfl⟩
 refine pu ?_
 refine Ke ?_
 refine Km ?_
 refine Kh ?_
 refine pu ?_
 refine pu ?_
 refine Ke ?_
 refine KC rfl (fun hc6 => ?_) (fun hc6 => ?_)
 ·replace hm := yes_t hc6 hm
  refine Kh ?_
  refine Kb8 (r := [.v (.string ByteArray.empty), .v (.bool false), .v (.int .i64 (0 : Int)), .v (.int .i64 (0 : Int))]) htab rfl rfl rfl rfl rfl rfl rfl rfl rfl ?_
  refine pS2 (ds' := [.v (.string ByteArray.empty), .v (.bool false), .v (.int .i64 (0 : Int)), .v (.int .i64 (0 : Int))]) ?_
  refine pu ?_
  refine Ke ?_
  refine KE ?_
  refine KS ?_
  have er7 := Kj hm; subst er7
  refine rP (t' := [(4, .ptr b3 0), (5, .v (.bool false))]) [2] [] 0 (wC (wC wN)) (lC 0 (lT lN)) ?_
  exact ⟨rfl, rfl, rfl⟩
 ·replace hm := yes_f hc6 hm
  refine KB ?_
  refine Kb ?_
  refine Kh ?_
  refine pu ?_
  refine pL 1 ?_
  refine pu ?_
  obtain ⟨x8, q8, hm⟩ := Kc hm
  refine Kad htab rfl rfl rfl rfl rfl rfl rfl rfl rfl rfl (Kd q8) (Kk q8) ?_
  refine KW (d := KJ x8) htab rfl rfl rfl rfl rfl rfl rfl rfl ?_
  refine pS2 (ds' := [.v (.string x8.gName), .v (.bool x8.gPtr), .v (.int .i64 x8.gSize), .v (.int .i64 x8.gAt)]) ?_
  refine pu ?_
  refine Ke ?_
  refine KE ?_
  have er9 := Kj hm; subst er9
  refine rP (t' := [(4, .ptr b3 0), (5, .v (.bool true))]) [2] [] 0 (wC (wC wN)) (lC 0 (lT lN)) ?_
  exact ⟨rfl, rfl, rfl⟩
noncomputable def Kat (a0 : List (List K8)) : Option (List K8) :=
 (Option.bind (α := Int) (loopM (fun (s15 : Int × Int) => (bif (decide (s15.2 < (a0.length : Int))) then ((idx a0 s15.2).bind fun x25 => (bif (decide ((IntKind.i64.wrap (s15.1 + (x25.length : Int))) < (0 : Int))) then none else some (.next ((IntKind.i64.wrap (s15.1 + (x25.length : Int))), (IntKind.i64.wrap (s15.2 + (1 : Int))))))) else some (.done s15.1))) ((0 : Int), (0 : Int))) fun y14 => ((need (Ke4 y14)).bind fun x28 => (Option.bind (α := List K8) (loopM (fun (s47 : Int × List K8) => (bif (decide (s47.1 < (a0.length : Int))) then ((idx a0 s47.1).bind fun x61 => ((app 40 s47.2 x61).bind fun x62 => some (.next ((IntKind.i64.wrap (s47.1 + (1 : Int))), x62)))) else some (.done s47.2))) ((0 : Int), (growF86 y14))) fun y46 => some y46)))
theorem Kbw (a0 : List (List K8)) (r : List K8) (h0 : Kat a0 = some r) : CallsD Tryz.prog 65 [.lst 1 (a0.map (eList 4 KJ)) .no] [] [] (fun d h k => ∃ y0, d = .v (SL y0) ∧ h = [(0, Blk.row 4 (r.map KJ) (SL y0))] ∧ k = []) := by
 have hm := KI h0
 unfold Kat at hm
 clear h0
 refine K3 htab Tryz.func65 rfl rfl rfl rfl rfl (fun C => ?_)
 refine Kh ?_
 refine pu ?_
 refine KP ?_
 refine pu ?_
 refine Ke ?_
 refine Km ?_
 refine Kh ?_
 refine pu ?_
 refine Kag htab rfl rfl rfl rfl rfl rfl rfl (by first | exact KY | rfl) ?_
 refine pu ?_
 refine Ke ?_
 obtain ⟨y14, q14, ho14⟩ := Kc hm
 refine Kah (Y := Unit) (fun z14 => (⟨[(0, .lst 1 (a0.map (eList 4 KJ)) .no), (3, .v (.int .i64 y14))], [], []⟩ : S)) ?_ ?_
 ·clear hm; have hm := KI q14
  refine KG ?_
  obtain ⟨u15, hl15, hq15⟩ := yes_m hm
  refine Kao (Y := Unit) hl15 (fun s15 z15 => (⟨[(0, .lst 1 (a0.map (eList 4 KJ)) .no), (3, .v (.int .i64 s15.1)), (9, .lst 1 (a0.map (eList 4 KJ)) .no), (10, .v (.int .i64 (a0.length : Int))), (11, .v (.int .i64 s15.2))], [], []⟩ : S)) ?_ ?_
  ·skip
   exact WkX.of () (WkS.perm (WkS.cons rfl (Wk.refl _) (WkS.cons rfl (Wk.refl _) (WkS.cons rfl (Wk.refl _) (WkS.cons rfl (Wk.refl _) (WkS.cons rfl (Wk.refl _) (WkS.nil)))))) Pf Pf)
  ·intro G15 s15 z15 hm
   refine Kh ?_
   refine pu ?_
   refine Ke ?_
   refine Km ?_
   refine KC rfl (fun hc24 => ?_) (fun hc24 => ?_)
   ·replace hm := yes_t hc24 hm
    refine KB ?_
    refine Kb ?_
    refine Km ?_
    refine KG ?_
    refine Kh ?_
    obtain ⟨x25, q25, hm⟩ := Kc hm
    refine Kad htab rfl rfl rfl rfl rfl rfl rfl rfl rfl rfl (Kd q25) (Kk q25) ?_
    refine KW htab rfl rfl rfl rfl rfl rfl rfl rfl ?_
    refine pu ?_
    refine KP ?_
    refine pu ?_
    refine pu ?_
    refine Kag htab rfl rfl rfl rfl rfl rfl rfl (by first | exact KY | rfl) ?_
    refine pu ?_
    refine pu ?_
    refine KP ?_
    refine pu ?_
    refine pu ?_
    refine Ke ?_
    refine KC rfl (fun hc26 => ?_) (fun hc26 => ?_)
    ·replace hm := yes_t hc26 hm
     exact (yes_none hm).elim
    ·replace hm := yes_f hc26 hm
     refine KB ?_
     refine KM ?_
     refine Kb ?_
     refine Kt ?_
     refine pu ?_
     refine pu ?_
     refine Kv ?_
     refine Kb ⟨_, K0 hm, ?_⟩
     exact WkX.of () (WkS.perm (WkS.cons rfl (Wk.refl _) (WkS.cons rfl (Wk.refl _) (WkS.cons rfl (Wk.refl _) (WkS.cons rfl (Wk.refl _) (WkS.cons rfl (Wk.refl _) (WkS.nil)))))) Pf Pf)
   ·replace hm := yes_f hc24 hm
    refine Kaa ?_
    refine KH ?_
    have e15 := K1 hm; subst e15; clear hm; have hm := hq15
    refine KH ?_
    refine K5 ?_
    have e14 := Kj hm; subst e14
    refine ⟨rfl, ?_⟩
    exact WkX.of () (WkS.perm (WkS.cons rfl (Wk.refl _) (WkS.cons rfl (Wk.refl _) (WkS.nil))) Pf Pf)
 ·intro s14 hw14; clear hm; have hm := ho14; clear q14 ho14
  refine Kb ?_
  refine KV hw14 (fun z14 => ?_)
  refine Kh ?_
  refine pu ?_
  obtain ⟨x28, q28, hm⟩ := Kc hm
  refine pG (growOk86 y14 (Kdn q28)) Wl Pf Pf ?_
  rintro _ _ _ ⟨w27, rfl, rfl, rfl⟩
  refine pu ?_
  refine Ke ?_
  refine Km ?_
  refine Kh ?_
  refine pu ?_
  refine Kag htab rfl rfl rfl rfl rfl rfl rfl (by first | exact KY | rfl) ?_
  refine pu ?_
  refine Ke ?_
  obtain ⟨y46, q46, ho46⟩ := Kc hm
  refine Kah (Y := Z3) (fun z46 => (⟨[(6, .v (SL z46))], [(0, Blk.row 4 (y46.map KJ) (SL z46))], []⟩ : S)) ?_ ?_
  ·clear hm; have hm := KI q46
   refine KG ?_
   obtain ⟨u47, hl47, hq47⟩ := yes_m hm
   refine Kao (Y := Z3) hl47 (fun s47 z47 => (⟨[(6, .v (SL z47)), (25, .lst 1 (a0.map (eList 4 KJ)) .no), (26, .v (.int .i64 (a0.length : Int))), (27, .v (.int .i64 s47.1))], [(0, Blk.row 4 (s47.2.map KJ) (SL z47))], []⟩ : S)) ?_ ?_
   ·skip
    exact WkX.of w27 (WkS.perm (WkS.cons rfl (Wk.refl _) (WkS.cons rfl (Wk.refl _) (WkS.cons rfl (Wk.refl _) (WkS.cons rfl (Wk.refl _) (WkS.nil))))) Pf Pf)
   ·intro G47 s47 z47 hm
    refine Kh ?_
    refine pu ?_
    refine Ke ?_
    refine Km ?_
    refine KC rfl (fun hc60 => ?_) (fun hc60 => ?_)
    ·replace hm := yes_t hc60 hm
     refine KB ?_
     refine Kb ?_
     refine Km ?_
     refine KG ?_
     refine Kh ?_
     obtain ⟨x61, q61, hm⟩ := Kc hm
     refine Kad htab rfl rfl rfl rfl rfl rfl rfl rfl rfl rfl (Kd q61) (Kk q61) ?_
     refine KW htab rfl rfl rfl rfl rfl rfl rfl rfl ?_
     refine pu ?_
     refine Ke ?_
     refine Kt ?_
     refine pu ?_
     refine pu ?_
     obtain ⟨x62, q62, hm⟩ := Kc hm
     refine Kdp 0 htab rfl rfl rfl rfl rfl rfl rfl rfl rfl rfl rfl rfl rfl rfl rfl rfl (Kal q62) (Kc1 q62) (fun v62 => ?_)
     refine pu ?_
     refine Kv ?_
     refine KM ?_
     refine Kb ?_
     refine Kt ?_
     refine pu ?_
     refine pu ?_
     refine Kv ?_
     refine Kb ⟨_, K0 hm, ?_⟩
     exact WkX.of v62 (WkS.perm (WkS.cons rfl (Wk.refl _) (WkS.cons rfl (Wk.refl _) (WkS.cons rfl (Wk.refl _) (WkS.cons rfl (Wk.refl _) (WkS.nil))))) Pf Pf)
    ·replace hm := yes_f hc60 hm
     refine Kaa ?_
     refine KH ?_
     have e47 := K1 hm; subst e47; clear hm; have hm := hq47
     refine KH ?_
     refine K5 ?_
     have e46 := Kj hm; subst e46
     refine ⟨rfl, ?_⟩
     exact WkX.of z47 (WkS.perm (WkS.cons rfl (Wk.refl _) (WkS.nil)) Pf Pf)
  ·intro s46 hw46; clear hm; have hm := ho46; clear q46 ho46
   refine Kb ?_
   refine KV hw46 (fun z46 => ?_)
   refine Kh ?_
   refine pu ?_
   refine pu ?_
   refine Ke ?_
   refine KE ?_
   have er63 := Kj hm; subst er63
   refine rP (t' := [(2, .v (SL z46))]) [0] [] 1 (wC wN) (lT lN) ?_
   exact ⟨z46, rfl, rfl, rfl⟩
noncomputable def KbZ (a0 : Kw) (a1 : Kw) : Option (List ByteArray) :=
 ((Kat ([a0.gGlobals, a1.gGlobals] : List (List K8))).bind fun x4 => (Option.bind (α := List ByteArray) (loopM (fun (s85 : List ByteArray × Int) => (bif (decide (s85.2 < (x4.length : Int))) then ((idx x4 s85.2).bind fun x118 => ((Ka8 a0 x118.gName).bind fun x120 => ((Ka8 a1 x118.gName).bind fun x122 => (Option.bind (α := Bool) (bif (!(x120.2 == x122.2)) then some true else (bif (!(x120.1.gPtr == x122.1.gPtr)) then some true else some (x120.1.gSize != x122.1.gSize))) fun y126 => (bif y126 then ((app 16 s85.1 ([x118.gName] : List ByteArray)).bind fun x130 => some (.next (x130, (IntKind.i64.wrap (s85.2 + (1 : Int)))))) else some (.next (s85.1, (IntKind.i64.wrap (s85.2 + (1 : Int)))))))))) else some (.done s85.1))) (([] : List ByteArray), (0 : Int))) fun y68 => ((Kbv y68).bind fun x132 => some x132)))
theorem KgO (a0 : Kw) (a1 : Kw) (r : List ByteArray) (h0 : KbZ a0 a1 = some r) : CallsD Tryz.prog 38 [Ku a0, Ku a1] [] [] (fun d h k => ∃ y0, d = .lst 1 (r.map eStr) (.cur y0) ∧ h = [] ∧ k = [(1, y0)]) := by
 have hm := KI h0
 unfold KbZ at hm
 clear h0
 refine K3 htab Tryz.func38 rfl rfl rfl rfl rfl (fun C => ?_)
 refine Kh ?_
 refine p_box rfl rfl rfl rfl rfl rfl rfl (fun b1 => ?_)
 refine p_box rfl rfl rfl rfl rfl rfl rfl (fun b2 => ?_)
 refine pu ?_
 refine KP ?_
 refine pu ?_
 refine Ke ?_
 refine Km ?_
 refine Kh ?_
 refine pu ?_
 refine pL 0 ?_
 refine pu ?_
 refine pL 1 ?_
 refine p_lit htab rfl rfl rfl rfl rfl rfl rfl rfl rfl rfl rfl rfl rfl rfl ?_
 refine p_eq (i := 16) (d' := .lst 1 (([a0.gGlobals, a1.gGlobals] : List (List K8)).map (eList 4 KJ)) .full) rfl (Wk.lst0 (.cons (WkC.refl _) (.cons (WkC.refl _) (.nil)))) ?_
 obtain ⟨x4, q4, hm⟩ := Kc hm
 refine Kby (Kbw ([a0.gGlobals, a1.gGlobals] : List (List K8)) x4 q4) rfl rfl rfl rfl rfl (WkL.cons (Wk.no) Wl) Pf Pf ?_
 rintro _ _ _ ⟨w3, rfl, rfl, rfl⟩
 refine p_lenR 0 htab rfl rfl rfl rfl rfl rfl rfl rfl (by first | exact KY | rfl) ?_
 refine pu ?_
 refine Ke ?_
 obtain ⟨y68, q68, ho68⟩ := Kc hm
 refine Kah (Y := Z3) (fun z68 => (⟨[(5, .v (SL z68))], [(0, Blk.row 1 (y68.map eStr) (SL z68))], []⟩ : S)) ?_ ?_
 ·clear hm; have hm := KI q68
  refine KG ?_
  refine KV (Y := Unit) (S1 := fun _ => (⟨[(2, .ptr b1 0), (3, .ptr b2 0), (5, .lst 1 [] .full), (17, .lst 4 (x4.map KJ) (.cur (SL w3))), (18, .v (.int .i64 (x4.length : Int))), (19, .v (.int .i64 (0 : Int)))], [(b1, Blk.cells [.lst 4 (a0.gGlobals.map KJ) .no, .lst 5 (a0.gFuncs.map KA) .no] 25), (b2, Blk.cells [.lst 4 (a1.gGlobals.map KJ) .no, .lst 5 (a1.gFuncs.map KA) .no] 25)], [(4, (SL w3))]⟩ : S)) ?_ (fun _ => ?_)
  ·skip
   refine WkX.wk (WkS.frz 0 rfl rfl) ?_
   refine WkX.wk (WkS.tld 17 0 rfl rfl) ?_
   refine WkX.wk (WkS.drop 0 rfl) ?_
   exact WkX.of () (WkS.perm (WkS.cons rfl (Wk.refl _) (WkS.cons rfl (Wk.refl _) (WkS.cons rfl (Wk.refl _) (WkS.cons rfl (Wk.refl _) (WkS.cons rfl (Wk.refl _) (WkS.cons rfl (Wk.refl _) (WkS.nil))))))) Pf Pf)
  ·skip
   obtain ⟨u85, hl85, hq85⟩ := yes_m hm
   refine Kao (Y := Z3) hl85 (fun s85 z85 => (⟨[(2, .ptr b1 0), (3, .ptr b2 0), (5, .v (SL z85)), (17, .lst 4 (x4.map KJ) (.cur (SL w3))), (18, .v (.int .i64 (x4.length : Int))), (19, .v (.int .i64 s85.2))], [(0, Blk.row 1 (s85.1.map eStr) (SL z85)), (b1, Blk.cells [.lst 4 (a0.gGlobals.map KJ) .no, .lst 5 (a0.gFuncs.map KA) .no] 25), (b2, Blk.cells [.lst 4 (a1.gGlobals.map KJ) .no, .lst 5 (a1.gFuncs.map KA) .no] 25)], [(4, (SL w3))]⟩ : S)) ?_ ?_
   ·skip
    refine WkX.rowN (i := 5) 1 rfl (fun w116 => ?_)
    exact WkX.of w116 (WkS.perm (WkS.cons rfl (Wk.refl _) (WkS.cons rfl (Wk.refl _) (WkS.cons rfl (Wk.refl _) (WkS.cons rfl (Wk.refl _) (WkS.cons rfl (Wk.refl _) (WkS.cons rfl (Wk.refl _) (WkS.nil))))))) Pf Pf)
   ·intro G85 s85 z85 hm
    refine Kh ?_
    refine pu ?_
    refine Ke ?_
    refine Km ?_
    refine KC rfl (fun hc117 => ?_) (fun hc117 => ?_)
    ·replace hm := yes_t hc117 hm
     refine KB ?_
     refine Kb ?_
     refine Km ?_
     refine KG ?_
     refine Kh ?_
     obtain ⟨x118, q118, hm⟩ := Kc hm
     refine Kad htab rfl rfl rfl rfl rfl rfl rfl rfl rfl rfl (Kd q118) (Kk q118) ?_
     refine KW (d := KJ x118) htab rfl rfl rfl rfl rfl rfl rfl rfl ?_
     refine Kay htab rfl rfl rfl rfl rfl rfl rfl (fun b119 => ?_)
     refine pS3 (ds' := [.v (.string x118.gName), .v (.bool x118.gPtr), .v (.int .i64 x118.gSize), .v (.int .i64 x118.gAt)]) ?_
     refine KP ?_
     refine KaD (d := Ku a0) 1 htab rfl rfl rfl rfl rfl rfl rfl rfl ?_
     refine pu ?_
     refine pL 3 ?_
     obtain ⟨x120, q120, hm⟩ := Kc hm
     refine Kaj (Kcd a0 x118.gName x120 q120) rfl rfl rfl rfl rfl Wl ?_
     rintro _ rfl
     iterate 3 refine pu ?_
     refine Kay htab rfl rfl rfl rfl rfl rfl rfl (fun b121 => ?_)
     refine pS4 (ds' := [.v (.string x120.1.gName), .v (.bool x120.1.gPtr), .v (.int .i64 x120.1.gSize), .v (.int .i64 x120.1.gAt)]) ?_
     refine pu ?_
     refine KP ?_
     refine KaD (d := Ku a1) 2 htab rfl rfl rfl rfl rfl rfl rfl rfl ?_
     refine pu ?_
     refine pL 3 ?_
     obtain ⟨x122, q122, hm⟩ := Kc hm
     refine Kaj (Kcd a1 x118.gName x122 q122) rfl rfl rfl rfl rfl Wl ?_
     rintro _ rfl
     iterate 3 refine pu ?_
     refine Kay htab rfl rfl rfl rfl rfl rfl rfl (fun b123 => ?_)
     refine pS5 (ds' := [.v (.string x122.1.gName), .v (.bool x122.1.gPtr), .v (.int .i64 x122.1.gSize), .v (.int .i64 x122.1.gAt)]) ?_
     refine pu ?_
     refine Ke ?_
     refine Km ?_
     obtain ⟨y126, q126, ho126⟩ := Kc hm
     refine Kah (Y := Unit) (fun z126 => (⟨[(2, .ptr b1 0), (3, .ptr b2 0), (5, .v (SL z85)), (7, .ptr b119 0), (17, .lst 4 (x4.map KJ) (.cur (SL w3))), (18, .v (.int .i64 (x4.length : Int))), (19, .v (.int .i64 s85.2)), (53, .v (.bool y126))], [(0, Blk.row 1 (s85.1.map eStr) (SL z85)), (b1, Blk.cells [.lst 4 (a0.gGlobals.map KJ) .no, .lst 5 (a0.gFuncs.map KA) .no] 25), (b2, Blk.cells [.lst 4 (a1.gGlobals.map KJ) .no, .lst 5 (a1.gFuncs.map KA) .no] 25), (b119, Blk.cells [.v (.string x118.gName), .v (.bool x118.gPtr), .v (.int .i64 x118.gSize), .v (.int .i64 x118.gAt)] 110)], [(4, (SL w3))]⟩ : S)) ?_ ?_
     ·clear hm; have hm := KI q126
      refine Kt ?_
      iterate 4 refine pu ?_
      refine KaE (i := 40) rfl (fun hg127 => ?_) (fun hg127 => ?_)
      ·replace hm := yes_t hg127 hm
       iterate 5 refine pK ?_
       refine Kab rfl rfl rfl rfl rfl rfl ?_
       refine pu ?_
       iterate 5 refine pK ?_
       refine Kab rfl rfl rfl rfl rfl rfl ?_
       refine Kv ?_
       have e126 := Kj hm; subst e126
       refine ⟨rfl, ?_⟩
       exact WkX.of () (WkS.perm (WkS.cons rfl (Wk.refl _) (WkS.cons rfl (Wk.refl _) (WkS.cons rfl (Wk.refl _) (WkS.cons rfl (Wk.refl _) (WkS.cons rfl (Wk.refl _) (WkS.cons rfl (Wk.refl _) (WkS.cons rfl (Wk.refl _) (WkS.cons rfl (Wk.refl _) (WkS.nil))))))))) Pf Pf)
      ·replace hm := yes_f hg127 hm
       refine pu ?_
       refine pL 4 ?_
       refine pu ?_
       refine pL 5 ?_
       refine pu ?_
       refine K9 rfl rfl rfl rfl rfl rfl ?_
       refine pu ?_
       refine KaE (i := 47) rfl (fun hg128 => ?_) (fun hg128 => ?_)
       ·replace hm := yes_t hg128 hm
        iterate 5 refine pK ?_
        refine Kab rfl rfl rfl rfl rfl rfl ?_
        refine Kv ?_
        have e126 := Kj hm; subst e126
        refine ⟨rfl, ?_⟩
        exact WkX.of () (WkS.perm (WkS.cons rfl (Wk.refl _) (WkS.cons rfl (Wk.refl _) (WkS.cons rfl (Wk.refl _) (WkS.cons rfl (Wk.refl _) (WkS.cons rfl (Wk.refl _) (WkS.cons rfl (Wk.refl _) (WkS.cons rfl (Wk.refl _) (WkS.cons rfl (Wk.refl _) (WkS.nil))))))))) Pf Pf)
       ·replace hm := yes_f hg128 hm
        refine pu ?_
        refine pL 4 ?_
        refine pu ?_
        refine pL 5 ?_
        refine pu ?_
        refine K9 rfl rfl rfl rfl rfl rfl ?_
        refine Kv ?_
        have e126 := Kj hm; subst e126
        refine ⟨rfl, ?_⟩
        exact WkX.of () (WkS.perm (WkS.cons rfl (Wk.refl _) (WkS.cons rfl (Wk.refl _) (WkS.cons rfl (Wk.refl _) (WkS.cons rfl (Wk.refl _) (WkS.cons rfl (Wk.refl _) (WkS.cons rfl (Wk.refl _) (WkS.cons rfl (Wk.refl _) (WkS.cons rfl (Wk.refl _) (WkS.nil))))))))) Pf Pf)
     ·intro s126 hw126; clear hm; have hm := ho126; clear q126 ho126
      refine Kb ?_
      refine KV hw126 (fun z126 => ?_)
      refine KC rfl (fun hc129 => ?_) (fun hc129 => ?_)
      ·replace hm := yes_t hc129 hm
       refine Kt ?_
       refine pu ?_
       refine pu ?_
       refine pL 3 ?_
       refine p_lit htab rfl rfl rfl rfl rfl rfl rfl rfl rfl rfl rfl rfl rfl rfl ?_
       refine p_eq (i := 57) (d' := .lst 1 (([x118.gName] : List ByteArray).map eStr) .full) rfl (Wk.lst0 (.cons (WkC.refl _) (.nil))) ?_
       obtain ⟨x130, q130, hm⟩ := Kc hm
       refine Kdp 0 htab rfl rfl rfl rfl rfl rfl rfl rfl rfl rfl rfl rfl rfl rfl rfl rfl (Kal q130) (Kc1 q130) (fun v130 => ?_)
       refine pu ?_
       refine Kv ?_
       refine KM ?_
       refine Kb ?_
       refine Kt ?_
       refine pu ?_
       refine pu ?_
       refine Kv ?_
       refine Kb ⟨_, K0 hm, ?_⟩
       exact WkX.of v130 (WkS.perm (WkS.cons rfl (Wk.refl _) (WkS.cons rfl (Wk.refl _) (WkS.cons rfl (Wk.refl _) (WkS.cons rfl (Wk.refl _) (WkS.cons rfl (Wk.refl _) (WkS.cons rfl (Wk.refl _) (WkS.nil))))))) Pf Pf)
      ·replace hm := yes_f hc129 hm
       refine KB ?_
       refine KM ?_
       refine Kb ?_
       refine Kt ?_
       refine pu ?_
       refine pu ?_
       refine Kv ?_
       refine Kb ⟨_, K0 hm, ?_⟩
       exact WkX.of z85 (WkS.perm (WkS.cons rfl (Wk.refl _) (WkS.cons rfl (Wk.refl _) (WkS.cons rfl (Wk.refl _) (WkS.cons rfl (Wk.refl _) (WkS.cons rfl (Wk.refl _) (WkS.cons rfl (Wk.refl _) (WkS.nil))))))) Pf Pf)
    ·replace hm := yes_f hc117 hm
     refine Kaa ?_
     refine KH ?_
     have e85 := K1 hm; subst e85; clear hm; have hm := hq85
     refine KH ?_
     refine K5 ?_
     have e68 := Kj hm; subst e68
     refine ⟨rfl, ?_⟩
     exact WkX.of z85 (WkS.perm (WkS.cons rfl (Wk.refl _) (WkS.nil)) Pf Pf)
 ·intro s68 hw68; clear hm; have hm := ho68; clear q68 ho68
  refine Kb ?_
  refine KV hw68 (fun z68 => ?_)
  refine Kh ?_
  refine pu ?_
  obtain ⟨x132, q132, hm⟩ := Kc hm
  refine pG (Kcc y68 z68 x132 q132) Wl Pf Pf ?_
  rintro _ _ _ ⟨w131, rfl, rfl, rfl⟩
  refine pu ?_
  refine Ke ?_
  refine KE ?_
  have er133 := Kj hm; subst er133
  refine retX.wk (WkS.frz 0 rfl rfl) ?_
  refine retX.wk (WkS.tld 4 0 rfl rfl) ?_
  refine retX.wk (WkS.tld 61 0 rfl rfl) ?_
  refine retX.wk (WkS.drop 0 rfl) ?_
  refine rP (t' := [(4, .lst 1 (x132.map eStr) (.cur (SL w131)))]) [] [0] 0 (wC wN) (lT lN) ?_
  exact ⟨(SL w131), rfl, rfl, rfl⟩
structure KbW where
 gFuncs : List ByteArray
 gGlobals : List ByteArray
def Ki5 (x : KbW) : D := .agg [.lst 1 (x.gFuncs.map eStr) .no, .lst 1 (x.gGlobals.map eStr) .no]
noncomputable def Kdq (a0 : Kw) (a1 : Kw) : Option (KbW) :=
 ((Kcn a0 a1).bind fun x5 => ((KbZ a0 a1).bind fun x11 => some (⟨x5, x11⟩ : KbW)))
theorem Ki6 (a0 : Kw) (a1 : Kw) (r : KbW) (h0 : Kdq a0 a1 = some r) : CallsD Tryz.prog 17 [Ku a0, Ku a1] [] [] (fun d h k => ∃ y0 y1, d = .agg [.lst 1 (r.gFuncs.map eStr) (.cur y0), .lst 1 (r.gGlobals.map eStr) (.cur y1)] ∧ h = [] ∧ k = [(1, y0), (1, y1)]) := by
 have hm := KI h0
 unfold Kdq at hm
 clear h0
 refine K3 htab Tryz.func17 rfl rfl rfl rfl rfl (fun C => ?_)
 refine Kh ?_
 refine p_box rfl rfl rfl rfl rfl rfl rfl (fun b1 => ?_)
 refine p_box rfl rfl rfl rfl rfl rfl rfl (fun b2 => ?_)
 refine Kay htab rfl rfl rfl rfl rfl rfl rfl (fun b3 => ?_)
 refine Ke ?_
 refine Km ?_
 obtain ⟨x5, q5, hm⟩ := Kc hm
 refine KfH 5 [] [(2, 1)] [[],[],[0,1],[],[]] [0,1,2,3,4] [[],[],[0,1],[],[],[0,1,2,3,4],[0,1,2,3,4,5],[0,1,2,3,4,5,6]] (by kernel_rfl) (by kernel_rfl) (by kernel_rfl) (by rfl) (by rfl) (by kernel_rfl) ?_
 iterate 5 apply Exists.intro
 intro bs
 refine zt_eM rfl rfl (Kai (d := Ku a0) 0 htab rfl rfl rfl rfl rfl) rfl rfl rfl rfl rfl rfl rfl ?_
 refine zt_eM rfl rfl (Kai (d := Ku a1) 1 htab rfl rfl rfl rfl rfl) rfl rfl rfl rfl rfl rfl rfl ?_
 refine Khm rfl rfl (KhY a0 a1 x5 q5) rfl rfl Wl rfl rfl rfl rfl rfl (by simp) (by decide) rfl ?_
 refine zt_eM rfl rfl (Kai (d := Ku a0) 0 htab rfl rfl rfl rfl rfl) rfl rfl rfl rfl rfl rfl rfl ?_
 refine zt_eM rfl rfl (Kai (d := Ku a1) 1 htab rfl rfl rfl rfl rfl) rfl rfl rfl rfl rfl rfl rfl ?_
 refine zt_nil (k' := [(1, (bs 2))]) rfl (fun e he => by simp [isT] at he; subst he; rfl) rfl rfl (fun e he => by simp [isAl] at he) ?_
 obtain ⟨w9, hw9⟩ : ∃ y, bs 2 = y := ⟨_, rfl⟩
 simp only [hw9]
 clear hw9
 obtain ⟨x11, q11, hm⟩ := Kc hm
 refine pG (KgO a0 a1 x11 q11) Wl Pf Pf ?_
 rintro _ _ _ ⟨w10, rfl, rfl, rfl⟩
 refine Kb8 (r := [.lst 1 (x5.map eStr) (.cur w9), .lst 1 (x11.map eStr) (.cur w10)]) htab rfl rfl rfl rfl rfl rfl rfl rfl rfl ?_
 refine pS2 (ds' := [.lst 1 (x5.map eStr) (.cur w9), .lst 1 (x11.map eStr) (.cur w10)]) ?_
 refine Ke ?_
 refine KE ?_
 have er12 := Kj hm; subst er12
 refine rP (t' := [(4, .ptr b3 0)]) [2] [1,0] 0 (wC wN) (lC 0 lN) ?_
 exact ⟨w9, w10, rfl, rfl, rfl⟩
theorem KiW (a0 : Kw) (a1 : Kw) (r : KbW) (h0 : Kdq a0 a1 = some r) : CallsD Tryz.prog 17 [Ku a0, Ku a1] [] [] (fun d h k => d = Ki5 r ∧ h = [] ∧ k = []) :=
 (Ki6 a0 a1 r h0).drop fun d h k ⟨y0, y1, e, _, _⟩ => by subst e; exact Wk.agg (WkR.cons (WkC.no) rfl (WkR.cons (WkC.no) rfl (WkR.nil)))
structure Kq where
 gL : List ByteArray
noncomputable def Kbp (m0 : Kq) (a1 : ByteArray) : Option (Kq) :=
 ((app 16 m0.gL ([a1] : List ByteArray)).bind fun x1 => some (⟨x1⟩ : Kq))
theorem KeM (m0 : Kq) (a1 : ByteArray) (o0 : Nat) (T0 : TypeId) (z0_0 : Z3) (r : Kq) (h0 : Kbp m0 a1 = some r) : CallsD Tryz.prog 55 [.ptr o0 0, .v (.string a1)] [(o0, Blk.cells [.v (SL z0_0)] T0), (0, Blk.row 1 (m0.gL.map eStr) (SL z0_0))] [] (fun d h k => ∃ y0, d = .tup [] ∧ h = [(o0, Blk.cells [.v (SL y0)] T0), (0, Blk.row 1 (r.gL.map eStr) (SL y0))] ∧ k = []) := by
 have hm := KI h0
 unfold Kbp at hm
 clear h0
 refine K3 htab Tryz.func55 rfl rfl rfl rfl rfl (fun C => ?_)
 refine Kt ?_
 iterate 4 refine pu ?_
 refine pL 0 ?_
 refine pu ?_
 refine p_lit htab rfl rfl rfl rfl rfl rfl rfl rfl rfl rfl rfl rfl rfl rfl ?_
 refine p_eq (i := 10) (d' := .lst 1 (([a1] : List ByteArray).map eStr) .full) rfl (Wk.lst0 (.cons (WkC.refl _) (.nil))) ?_
 obtain ⟨x1, q1, hm⟩ := Kc hm
 refine Kdp 1 htab rfl rfl rfl rfl rfl rfl rfl rfl rfl rfl rfl rfl rfl rfl rfl rfl (Kal q1) (Kc1 q1) (fun v1 => ?_)
 refine pu ?_
 refine pu ?_
 refine pS0 (ds' := [.v (SL v1)]) ?_
 refine Kv ?_
 have er2 := Kj hm; subst er2
 refine rP (t' := []) [0,0] [] 2 wN lN ?_
 exact ⟨v1, rfl, rfl, rfl⟩
noncomputable def Kb0 (a0 : ByteArray) (m0 : Kq) : Option (Kq) :=
 (bif (!decide (a0 = (ByteArray.mk #[]))) then ((Kbp m0 a0).bind fun x3 => some x3) else some m0)
theorem Keh (a0 : ByteArray) (m0 : Kq) (o0 : Nat) (T0 : TypeId) (z0_0 : Z3) (r : Kq) (h0 : Kb0 a0 m0 = some r) : CallsD Tryz.prog 54 [.v (.string a0), .ptr o0 0] [(o0, Blk.cells [.v (SL z0_0)] T0), (0, Blk.row 1 (m0.gL.map eStr) (SL z0_0))] [] (fun d h k => ∃ y0, d = .tup [] ∧ h = [(o0, Blk.cells [.v (SL y0)] T0), (0, Blk.row 1 (r.gL.map eStr) (SL y0))] ∧ k = []) := by
 have hm := KI h0
 unfold Kb0 at hm
 clear h0
 refine K3 htab Tryz.func54 rfl rfl rfl rfl rfl (fun C => ?_)
 refine Kh ?_
 refine pu ?_
 refine pu ?_
 refine Ke ?_
 refine KC rfl (fun hc1 => ?_) (fun hc1 => ?_)
 ·replace hm := yes_t hc1 hm
  refine Kt ?_
  refine pu ?_
  obtain ⟨x3, q3, hm⟩ := Kc hm
  refine pG (KeM m0 a0 o0 T0 z0_0 x3 q3) Wl Pf Pf ?_
  rintro _ _ _ ⟨w2, rfl, rfl, rfl⟩
  refine Kv ?_
  have er4 := Kj hm; subst er4
  refine rP (t' := []) [0,0] [] 2 wN lN ?_
  exact ⟨w2, rfl, rfl, rfl⟩
 ·replace hm := yes_f hc1 hm
  refine KB ?_
  have er5 := Kj hm; subst er5
  refine rP (t' := []) [0,0] [] 2 wN lN ?_
  exact ⟨z0_0, rfl, rfl, rfl⟩
noncomputable def Kco (a0 : Kg) (m1 : Kq) : Option (Kq) :=
 ((Kb0 a0.gName m1).bind fun x3 => some x3)
theorem KgP (a0 : Kg) (m1 : Kq) (o0 : Nat) (T0 : TypeId) (o1 : Nat) (T1 : TypeId) (z1_0 : Z3) (r : Kq) (h0 : Kco a0 m1 = some r) : CallsD Tryz.prog 57 [Kr a0, .ptr o0 0] [(o0, Blk.cells [.fn (.func 54) [] [.ptr o1 0]] T0), (o1, Blk.cells [.v (SL z1_0)] T1), (0, Blk.row 1 (m1.gL.map eStr) (SL z1_0))] [] (fun d h k => ∃ y0, d = .tup [] ∧ h = [(o0, Blk.cells [.fn (.func 54) [] [.ptr o1 0]] T0), (o1, Blk.cells [.v (SL y0)] T1), (0, Blk.row 1 (r.gL.map eStr) (SL y0))] ∧ k = []) := by
 have hm := KI h0
 unfold Kco at hm
 clear h0
 refine K3 htab Tryz.func57 rfl rfl rfl rfl rfl (fun C => ?_)
 refine w_eq (i := 0) rfl (Wk.of_eq (Kp a0)) ?_
 refine Kh ?_
 refine p_box rfl rfl rfl rfl rfl rfl rfl (fun b1 => ?_)
 refine Ke ?_
 refine Kt ?_
 refine pL 0 ?_
 refine pu ?_
 refine pL 3 ?_
 obtain ⟨x3, q3, hm⟩ := Kc hm
 refine KcC (Keh a0.gName m1 o1 T1 z1_0 x3 q3) rfl rfl rfl rfl rfl rfl rfl Wl ((KF (j := 1) rfl).trans (List.Perm.cons _ ((KF (j := 1) rfl).trans (List.Perm.cons _ Pf)))) Pf ?_
 rintro _ _ _ ⟨w2, rfl, rfl, rfl⟩
 refine Kv ?_
 have er4 := Kj hm; subst er4
 refine rP (t' := []) [2,0,0] [] 3 wN lN ?_
 exact ⟨w2, rfl, rfl, rfl⟩
noncomputable def Kcp (a0 : Kn) (m1 : Kq) : Option (Kq) :=
 ((Kb0 a0.gName m1).bind fun x3 => some x3)
theorem KgQ (a0 : Kn) (m1 : Kq) (o0 : Nat) (T0 : TypeId) (o1 : Nat) (T1 : TypeId) (z1_0 : Z3) (r : Kq) (h0 : Kcp a0 m1 = some r) : CallsD Tryz.prog 58 [Kx a0, .ptr o0 0] [(o0, Blk.cells [.fn (.func 54) [] [.ptr o1 0]] T0), (o1, Blk.cells [.v (SL z1_0)] T1), (0, Blk.row 1 (m1.gL.map eStr) (SL z1_0))] [] (fun d h k => ∃ y0, d = .tup [] ∧ h = [(o0, Blk.cells [.fn (.func 54) [] [.ptr o1 0]] T0), (o1, Blk.cells [.v (SL y0)] T1), (0, Blk.row 1 (r.gL.map eStr) (SL y0))] ∧ k = []) := by
 have hm := KI h0
 unfold Kcp at hm
 clear h0
 refine K3 htab Tryz.func58 rfl rfl rfl rfl rfl (fun C => ?_)
 refine w_eq (i := 0) rfl (Wk.of_eq (KK a0)) ?_
 refine Kh ?_
 refine p_box rfl rfl rfl rfl rfl rfl rfl (fun b1 => ?_)
 refine Ke ?_
 refine Kt ?_
 refine pL 0 ?_
 refine pu ?_
 refine pL 3 ?_
 obtain ⟨x3, q3, hm⟩ := Kc hm
 refine KcC (Keh a0.gName m1 o1 T1 z1_0 x3 q3) rfl rfl rfl rfl rfl rfl rfl Wl ((KF (j := 1) rfl).trans (List.Perm.cons _ ((KF (j := 1) rfl).trans (List.Perm.cons _ Pf)))) Pf ?_
 rintro _ _ _ ⟨w2, rfl, rfl, rfl⟩
 refine Kv ?_
 have er4 := Kj hm; subst er4
 refine rP (t' := []) [2,0,0] [] 3 wN lN ?_
 exact ⟨w2, rfl, rfl, rfl⟩
noncomputable def Ka9 (g0 : (Kn) → (Kq) → Option (Kq)) (a0 : Kn) (m2 : Kq) : Option (Kq) :=
 ((Kcp a0 m2).bind fun x3 => (Option.bind (α := List ByteArray) (loopM (fun (s30 : Int × List ByteArray) => (bif (decide (s30.1 < (a0.gKids.length : Int))) then ((idx a0.gKids s30.1).bind fun x50 => ((g0 x50 (⟨s30.2⟩ : Kq)).bind fun x53 => some (.next ((IntKind.i64.wrap (s30.1 + (1 : Int))), x53.gL)))) else some (.done s30.2))) ((0 : Int), x3.gL)) fun y29 => some (⟨y29⟩ : Kq)))
theorem Kgk (g0 : (Kn) → (Kq) → Option (Kq)) (hg0 : ∀ (a0 : Kn) (m2 : Kq) (o0 : Nat) (T0 : TypeId) (o1 : Nat) (T1 : TypeId) (o2 : Nat) (T2 : TypeId) (z2_0 : Z3) (o3 : Nat) (T3 : TypeId) (r : Kq) (h0 : g0 a0 m2 = some r), CallsD Tryz.prog 79 [Kx a0, .ptr o0 0, .ptr o3 0] [(o0, Blk.cells [.fn (.func 58) [] [.ptr o1 0]] T0), (o1, Blk.cells [.fn (.func 54) [] [.ptr o2 0]] T1), (o2, Blk.cells [.v (SL z2_0)] T2), (o3, Blk.cells [.fn (.func 79) [] [.ptr o0 0, .ptr o3 0]] T3), (0, Blk.row 1 (m2.gL.map eStr) (SL z2_0))] [] (fun d h k => ∃ y0, d = .tup [] ∧ h = [(o0, Blk.cells [.fn (.func 58) [] [.ptr o1 0]] T0), (o1, Blk.cells [.fn (.func 54) [] [.ptr o2 0]] T1), (o2, Blk.cells [.v (SL y0)] T2), (o3, Blk.cells [.fn (.func 79) [] [.ptr o0 0, .ptr o3 0]] T3), (0, Blk.row 1 (r.gL.map eStr) (SL y0))] ∧ k = [])) (a0 : Kn) (m2 : Kq) (o0 : Nat) (T0 : TypeId) (o1 : Nat) (T1 : TypeId) (o2 : Nat) (T2 : TypeId) (z2_0 : Z3) (o3 : Nat) (T3 : TypeId) (r : Kq) (h0 : Ka9 g0 a0 m2 = some r) : CallsD Tryz.prog 79 [Kx a0, .ptr o0 0, .ptr o3 0] [(o0, Blk.cells [.fn (.func 58) [] [.ptr o1 0]] T0), (o1, Blk.cells [.fn (.func 54) [] [.ptr o2 0]] T1), (o2, Blk.cells [.v (SL z2_0)] T2), (o3, Blk.cells [.fn (.func 79) [] [.ptr o0 0, .ptr o3 0]] T3), (0, Blk.row 1 (m2.gL.map eStr) (SL z2_0))] [] (fun d h k => ∃ y0, d = .tup [] ∧ h = [(o0, Blk.cells [.fn (.func 58) [] [.ptr o1 0]] T0), (o1, Blk.cells [.fn (.func 54) [] [.ptr o2 0]] T1), (o2, Blk.cells [.v (SL y0)] T2), (o3, Blk.cells [.fn (.func 79) [] [.ptr o0 0, .ptr o3 0]] T3), (0, Blk.row 1 (r.gL.map eStr) (SL y0))] ∧ k = []) := by
 have hm := KI h0
 unfold Ka9 at hm
 clear h0
 refine K3 htab Tryz.func79 rfl rfl rfl rfl rfl (fun C => ?_)
 refine w_eq (i := 0) rfl (Wk.of_eq (KK a0)) ?_
 refine Kh ?_
 refine p_box rfl rfl rfl rfl rfl rfl rfl (fun b1 => ?_)
 refine KP ?_
 refine pL 0 ?_
 refine KaD (d := .agg [.v (.int .i64 a0.gOp), .v (.int .i64 a0.gN), .v (.string a0.gName), .lst 5 (a0.gKids.map Kx) .no, .v (.int .i64 a0.gAt)]) 5 htab rfl rfl rfl rfl rfl rfl rfl rfl ?_
 obtain ⟨x3, q3, hm⟩ := Kc hm
 refine KcC (KgQ a0 m2 o1 T1 o2 T2 z2_0 x3 q3) rfl rfl rfl rfl rfl rfl rfl (WkL.cons (Wk.trans (Wk.agg (WkR.refl _)) (Wk.of_eq (KK a0).symm)) (WkL.cons (Wk.refl _) Wl)) ((KF (j := 1) rfl).trans (List.Perm.cons _ ((KF (j := 1) rfl).trans (List.Perm.cons _ ((KF (j := 2) rfl).trans (List.Perm.cons _ Pf)))))) Pf ?_
 rintro _ _ _ ⟨w2, rfl, rfl, rfl⟩
 refine KP ?_
 refine pu ?_
 refine pL 5 ?_
 refine Kag htab rfl rfl rfl rfl rfl rfl rfl (by first | exact KY | rfl) ?_
 refine pu ?_
 refine Ke ?_
 obtain ⟨y29, q29, ho29⟩ := Kc hm
 refine Kah (Y := Z3) (fun z29 => (⟨[], [(0, Blk.row 1 (y29.map eStr) (SL z29)), (o1, Blk.cells [.fn (.func 54) [] [.ptr o2 0]] T1), (o2, Blk.cells [.v (SL z29)] T2), (o0, Blk.cells [.fn (.func 58) [] [.ptr o1 0]] T0), (o3, Blk.cells [.fn (.func 79) [] [.ptr o0 0, .ptr o3 0]] T3)], []⟩ : S)) ?_ ?_
 ·clear hm; have hm := KI q29
  refine KG ?_
  obtain ⟨u30, hl30, hq30⟩ := yes_m hm
  refine Kao (Y := Z3) hl30 (fun s30 z30 => (⟨[(2, .ptr o3 0), (10, .lst 5 (a0.gKids.map Kx) .no), (11, .v (.int .i64 (a0.gKids.length : Int))), (12, .v (.int .i64 s30.1))], [(0, Blk.row 1 (s30.2.map eStr) (SL z30)), (o1, Blk.cells [.fn (.func 54) [] [.ptr o2 0]] T1), (o2, Blk.cells [.v (SL z30)] T2), (o0, Blk.cells [.fn (.func 58) [] [.ptr o1 0]] T0), (o3, Blk.cells [.fn (.func 79) [] [.ptr o0 0, .ptr o3 0]] T3)], []⟩ : S)) ?_ ?_
  ·skip
   exact WkX.of w2 (WkS.perm (WkS.cons rfl (Wk.refl _) (WkS.cons rfl (Wk.refl _) (WkS.cons rfl (Wk.refl _) (WkS.cons rfl (Wk.refl _) (WkS.nil))))) ((KF (j := 2) rfl).trans (List.Perm.cons _ ((KF (j := 0) rfl).trans (List.Perm.cons _ ((KF (j := 0) rfl).trans (List.Perm.cons _ ((KF (j := 0) rfl).trans (List.Perm.cons _ ((KF (j := 0) rfl).trans (List.Perm.cons _ Pf)))))))))) Pf)
  ·intro G30 s30 z30 hm
   refine Kh ?_
   refine pu ?_
   refine Ke ?_
   refine Km ?_
   refine KC rfl (fun hc49 => ?_) (fun hc49 => ?_)
   ·replace hm := yes_t hc49 hm
    refine KB ?_
    refine Kb ?_
    refine Km ?_
    refine KG ?_
    refine Kh ?_
    obtain ⟨x50, q50, hm⟩ := Kc hm
    refine Kad htab rfl rfl rfl rfl rfl rfl rfl rfl rfl rfl (Kd q50) (Kk q50) ?_
    refine p_eq (i := 14) rfl (Wk.of_eq (congrArg D.el (KK x50))) ?_
    refine KW (d := .agg [.v (.int .i64 x50.gOp), .v (.int .i64 x50.gN), .v (.string x50.gName), .lst 5 (x50.gKids.map Kx) .no, .v (.int .i64 x50.gAt)]) htab rfl rfl rfl rfl rfl rfl rfl rfl ?_
    refine Kay htab rfl rfl rfl rfl rfl rfl rfl (fun b51 => ?_)
    refine pS5 (ds' := [.v (.int .i64 x50.gOp), .v (.int .i64 x50.gN), .v (.string x50.gName), .lst 5 (x50.gKids.map Kx) .no, .v (.int .i64 x50.gAt)]) ?_
    refine Ke ?_
    refine Kt ?_
    refine pL 4 ?_
    refine KaD (d := .agg [.v (.int .i64 x50.gOp), .v (.int .i64 x50.gN), .v (.string x50.gName), .lst 5 (x50.gKids.map Kx) .no, .v (.int .i64 x50.gAt)]) 5 htab rfl rfl rfl rfl rfl rfl rfl rfl ?_
    obtain ⟨x53, q53, hm⟩ := Kc hm
    refine KcC (hg0 x50 (⟨s30.2⟩ : Kq) o0 T0 o1 T1 o2 T2 z30 o3 T3 x53 q53) rfl rfl rfl rfl rfl rfl rfl (WkL.cons (Wk.trans (Wk.agg (WkR.refl _)) (Wk.of_eq (KK x50).symm)) (WkL.cons (Wk.refl _) (WkL.cons (Wk.refl _) Wl))) ((KF (j := 3) rfl).trans (List.Perm.cons _ ((KF (j := 1) rfl).trans (List.Perm.cons _ ((KF (j := 1) rfl).trans (List.Perm.cons _ ((KF (j := 1) rfl).trans (List.Perm.cons _ ((KF (j := 0) rfl).trans (List.Perm.cons _ Pf)))))))))) Pf ?_
    rintro _ _ _ ⟨w52, rfl, rfl, rfl⟩
    refine Kv ?_
    refine KM ?_
    refine Kb ?_
    refine Kt ?_
    refine pu ?_
    refine pu ?_
    refine Kv ?_
    refine Kb ⟨_, K0 hm, ?_⟩
    exact WkX.of w52 (WkS.perm (WkS.cons rfl (Wk.refl _) (WkS.cons rfl (Wk.refl _) (WkS.cons rfl (Wk.refl _) (WkS.cons rfl (Wk.refl _) (WkS.nil))))) ((KF (j := 4) rfl).trans (List.Perm.cons _ ((KF (j := 1) rfl).trans (List.Perm.cons _ ((KF (j := 1) rfl).trans (List.Perm.cons _ ((KF (j := 0) rfl).trans (List.Perm.cons _ ((KF (j := 0) rfl).trans (List.Perm.cons _ Pf)))))))))) Pf)
   ·replace hm := yes_f hc49 hm
    refine Kaa ?_
    refine KH ?_
    have e30 := K1 hm; subst e30; clear hm; have hm := hq30
    refine KH ?_
    refine K5 ?_
    have e29 := Kj hm; subst e29
    refine ⟨rfl, ?_⟩
    exact WkX.of z30 (WkS.perm (WkS.nil) Pf Pf)
 ·intro s29 hw29; clear hm; have hm := ho29; clear q29 ho29
  refine retX.wkX hw29 (fun z29 => ?_)
  have er54 := Kj hm; subst er54
  refine rP (t' := []) [3,1,1,1,0] [] 5 wN lN ?_
  exact ⟨z29, rfl, rfl, rfl⟩
noncomputable def KaJ : Nat → ((Kn) → (Kq) → Option (Kq))
 | 0 => (fun _ _ => none)
 | n + 1 => (Ka9 ((KaJ n)))
theorem Kd1 : ∀ n, (∀ (a0 : Kn) (m2 : Kq) (o0 : Nat) (T0 : TypeId) (o1 : Nat) (T1 : TypeId) (o2 : Nat) (T2 : TypeId) (z2_0 : Z3) (o3 : Nat) (T3 : TypeId) (r : Kq) (h0 : (KaJ n) a0 m2 = some r), CallsD Tryz.prog 79 [Kx a0, .ptr o0 0, .ptr o3 0] [(o0, Blk.cells [.fn (.func 58) [] [.ptr o1 0]] T0), (o1, Blk.cells [.fn (.func 54) [] [.ptr o2 0]] T1), (o2, Blk.cells [.v (SL z2_0)] T2), (o3, Blk.cells [.fn (.func 79) [] [.ptr o0 0, .ptr o3 0]] T3), (0, Blk.row 1 (m2.gL.map eStr) (SL z2_0))] [] (fun d h k => ∃ y0, d = .tup [] ∧ h = [(o0, Blk.cells [.fn (.func 58) [] [.ptr o1 0]] T0), (o1, Blk.cells [.fn (.func 54) [] [.ptr o2 0]] T1), (o2, Blk.cells [.v (SL y0)] T2), (o3, Blk.cells [.fn (.func 79) [] [.ptr o0 0, .ptr o3 0]] T3), (0, Blk.row 1 (r.gL.map eStr) (SL y0))] ∧ k = []))
  | 0 => fun _ _ _ _ _ _ _ _ _ _ _ _ h0 => by cases h0
  | n + 1 => by
    have ih := Kd1 n
    exact Kgk (KaJ n) ih
theorem Kd2 : ∀ n, (∀ (a0 : Kn) (m2 : Kq), Le ((KaJ n) a0 m2) ((KaJ (n + 1)) a0 m2))
  | 0 => fun _ _ => Le.none _
  | n + 1 => by
    have ih := Kd2 n
    exact fun a0 m2 => by show Le (Ka9 ((KaJ n)) a0 m2) (Ka9 ((KaJ (n + 1))) a0 m2); unfold Ka9; repeat (first | exact Le.refl _ | exact ih _ _ | assumption | (refine Le.bind ?_ (fun _ => ?_)) | (refine Le.cond ?_ ?_) | (refine Le.loop (fun _ => ?_)) | (refine Le.elim (fun _ => ?_) (fun _ => ?_)))
noncomputable def Kdg (a0 : Kn) (m2 : Kq) : Option (Kq) := anyN fun n => (KaJ n) a0 m2
theorem Khy (a0 : Kn) (m2 : Kq) {r : Kq} (n : Nat) (h : (KaJ n) a0 m2 = some r) : Kdg a0 m2 = some r := Kdo (fun m => (Kd2 m) a0 m2) h
theorem Khz (a0 : Kn) (m2 : Kq) (o0 : Nat) (T0 : TypeId) (o1 : Nat) (T1 : TypeId) (o2 : Nat) (T2 : TypeId) (z2_0 : Z3) (o3 : Nat) (T3 : TypeId) (r : Kq) (h0 : Kdg a0 m2 = some r) : CallsD Tryz.prog 79 [Kx a0, .ptr o0 0, .ptr o3 0] [(o0, Blk.cells [.fn (.func 58) [] [.ptr o1 0]] T0), (o1, Blk.cells [.fn (.func 54) [] [.ptr o2 0]] T1), (o2, Blk.cells [.v (SL z2_0)] T2), (o3, Blk.cells [.fn (.func 79) [] [.ptr o0 0, .ptr o3 0]] T3), (0, Blk.row 1 (m2.gL.map eStr) (SL z2_0))] [] (fun d h k => ∃ y0, d = .tup [] ∧ h = [(o0, Blk.cells [.fn (.func 58) [] [.ptr o1 0]] T0), (o1, Blk.cells [.fn (.func 54) [] [.ptr o2 0]] T1), (o2, Blk.cells [.v (SL y0)] T2), (o3, Blk.cells [.fn (.func 79) [] [.ptr o0 0, .ptr o3 0]] T3), (0, Blk.row 1 (r.gL.map eStr) (SL y0))] ∧ k = []) :=
 let ⟨n, hn⟩ := KcO h0; (Kd1 n) a0 m2 o0 T0 o1 T1 o2 T2 z2_0 o3 T3 r hn
end Go.Proofs.YtnfkijcmakgkmaaGreat.Ab
namespace Go.Proofs.YtnfkijcmakgkmaaGreat.Ab
open Go
set_option linter.all false
noncomputable def KbA (g0 : (List Kg) → (Kq) → Option (Kq)) (a0 : List Kg) (m1 : Kq) : Option (Kq) :=
 (Option.bind (α := List ByteArray) (loopM (fun (s242 : Int × List ByteArray) => (bif (decide (s242.1 < (a0.length : Int))) then ((idx a0 s242.1).bind fun x421 => ((Kco x421 (⟨s242.2⟩ : Kq)).bind fun x424 => (Option.bind (α := List ByteArray) (loopM (fun (s450 : Int × List ByteArray) => (bif (decide (s450.1 < (x421.gExps.length : Int))) then ((idx x421.gExps s450.1).bind fun x470 => ((Kdg x470 (⟨s450.2⟩ : Kq)).bind fun x473 => some (.next ((IntKind.i64.wrap (s450.1 + (1 : Int))), x473.gL)))) else some (.done s450.2))) ((0 : Int), x424.gL)) fun y449 => ((g0 x421.gKids (⟨y449⟩ : Kq)).bind fun x475 => ((g0 x421.gElse x475).bind fun x477 => some (.next ((IntKind.i64.wrap (s242.1 + (1 : Int))), x477.gL))))))) else some (.done s242.2))) ((0 : Int), m1.gL)) fun y241 => some (⟨y241⟩ : Kq))
theorem KhA (g0 : (List Kg) → (Kq) → Option (Kq)) (hg0 : ∀ (a0 : List Kg) (m1 : Kq) (o0 : Nat) (T0 : TypeId) (o1 : Nat) (T1 : TypeId) (z1_0 : Z3) (r : Kq) (h0 : g0 a0 m1 = some r), CallsD Tryz.prog 56 [.lst 7 (a0.map Kr) .no, .fn (.func 57) [] [.ptr o0 0], .fn (.func 58) [] [.ptr o0 0]] [(o0, Blk.cells [.fn (.func 54) [] [.ptr o1 0]] T0), (o1, Blk.cells [.v (SL z1_0)] T1), (0, Blk.row 1 (m1.gL.map eStr) (SL z1_0))] [] (fun d h k => ∃ y0, d = .tup [] ∧ h = [(o0, Blk.cells [.fn (.func 54) [] [.ptr o1 0]] T0), (o1, Blk.cells [.v (SL y0)] T1), (0, Blk.row 1 (r.gL.map eStr) (SL y0))] ∧ k = [])) (a0 : List Kg) (m1 : Kq) (o0 : Nat) (T0 : TypeId) (o1 : Nat) (T1 : TypeId) (z1_0 : Z3) (r : Kq) (h0 : KbA g0 a0 m1 = some r) : CallsD Tryz.prog 56 [.lst 7 (a0.map Kr) .no, .fn (.func 57) [] [.ptr o0 0], .fn (.func 58) [] [.ptr o0 0]] [(o0, Blk.cells [.fn (.func 54) [] [.ptr o1 0]] T0), (o1, Blk.cells [.v (SL z1_0)] T1), (0, Blk.row 1 (m1.gL.map eStr) (SL z1_0))] [] (fun d h k => ∃ y0, d = .tup [] ∧ h = [(o0, Blk.cells [.fn (.func 54) [] [.ptr o1 0]] T0), (o1, Blk.cells [.v (SL y0)] T1), (0, Blk.row 1 (r.gL.map eStr) (SL y0))] ∧ k = []) := by
 have hm := KI h0
 unfold KbA at hm
 clear h0
 refine K3 htab Tryz.func56 rfl rfl rfl rfl rfl (fun C => ?_)
 refine Kh ?_
 refine p_box rfl rfl rfl rfl rfl rfl rfl (fun b1 => ?_)
 refine KP ?_
 refine Kay htab rfl rfl rfl rfl rfl rfl rfl (fun b2 => ?_)
 refine KP ?_
 refine pu ?_
 refine pS4 (ds' := [.fn (.func 79) [] [.ptr b1 0, .ptr b2 0]]) ?_
 refine KP ?_
 refine pu ?_
 refine Kag htab rfl rfl rfl rfl rfl rfl rfl (by first | exact KY | rfl) ?_
 refine pu ?_
 refine Ke ?_
 obtain ⟨y241, q241, ho241⟩ := Kc hm
 refine Kah (Y := Z3) (fun z241 => (⟨[], [(0, Blk.row 1 (y241.map eStr) (SL z241)), (o0, Blk.cells [.fn (.func 54) [] [.ptr o1 0]] T0), (o1, Blk.cells [.v (SL z241)] T1)], []⟩ : S)) ?_ ?_
 ·clear hm; have hm := KI q241
  refine KG ?_
  obtain ⟨u242, hl242, hq242⟩ := yes_m hm
  refine Kao (Y := Z3) hl242 (fun s242 z242 => (⟨[(1, .fn (.func 57) [] [.ptr o0 0]), (5, .ptr b1 0), (6, .ptr b2 0), (12, .lst 7 (a0.map Kr) .no), (13, .v (.int .i64 (a0.length : Int))), (14, .v (.int .i64 s242.1))], [(0, Blk.row 1 (s242.2.map eStr) (SL z242)), (o0, Blk.cells [.fn (.func 54) [] [.ptr o1 0]] T0), (o1, Blk.cells [.v (SL z242)] T1), (b1, Blk.cells [.fn (.func 58) [] [.ptr o0 0]] 101), (b2, Blk.cells [.fn (.func 79) [] [.ptr b1 0, .ptr b2 0]] 101)], []⟩ : S)) ?_ ?_
  ·skip
   exact WkX.of z1_0 (WkS.perm (WkS.cons rfl (Wk.refl _) (WkS.cons rfl (Wk.refl _) (WkS.cons rfl (Wk.refl _) (WkS.cons rfl (Wk.refl _) (WkS.cons rfl (Wk.refl _) (WkS.cons rfl (Wk.refl _) (WkS.nil))))))) ((KF (j := 2) rfl).trans (List.Perm.cons _ ((KF (j := 0) rfl).trans (List.Perm.cons _ ((KF (j := 0) rfl).trans (List.Perm.cons _ ((KF (j := 0) rfl).trans (List.Perm.cons _ ((KF (j := 0) rfl).trans (List.Perm.cons _ Pf)))))))))) Pf)
  ·intro G242 s242 z242 hm
   refine Kh ?_
   refine pu ?_
   refine Ke ?_
   refine Km ?_
   refine KC rfl (fun hc420 => ?_) (fun hc420 => ?_)
   ·replace hm := yes_t hc420 hm
    refine KB ?_
    refine Kb ?_
    refine Km ?_
    refine KG ?_
    refine Kh ?_
    obtain ⟨x421, q421, hm⟩ := Kc hm
    refine Kad htab rfl rfl rfl rfl rfl rfl rfl rfl rfl rfl (Kd q421) (Kk q421) ?_
    refine p_eq (i := 16) rfl (Wk.of_eq (congrArg D.el (Kp x421))) ?_
    refine KW (d := .agg [.v (.int .i64 x421.gOp), .v (.string x421.gName), .v (.string x421.gFunc), .lst 5 (x421.gExps.map Kx) .no, .lst 7 (x421.gKids.map Kr) .no, .lst 7 (x421.gElse.map Kr) .no, .v (.int .i64 x421.gAt)]) htab rfl rfl rfl rfl rfl rfl rfl rfl ?_
    refine Kay htab rfl rfl rfl rfl rfl rfl rfl (fun b422 => ?_)
    refine pS5 (ds' := [.v (.int .i64 x421.gOp), .v (.string x421.gName), .v (.string x421.gFunc), .lst 5 (x421.gExps.map Kx) .no, .lst 7 (x421.gKids.map Kr) .no, .lst 7 (x421.gElse.map Kr) .no, .v (.int .i64 x421.gAt)]) ?_
    refine KP ?_
    refine pu ?_
    refine KaD (d := .agg [.v (.int .i64 x421.gOp), .v (.string x421.gName), .v (.string x421.gFunc), .lst 5 (x421.gExps.map Kx) .no, .lst 7 (x421.gKids.map Kr) .no, .lst 7 (x421.gElse.map Kr) .no, .v (.int .i64 x421.gAt)]) 5 htab rfl rfl rfl rfl rfl rfl rfl rfl ?_
    obtain ⟨x424, q424, hm⟩ := Kc hm
    refine KcC (KgP x421 (⟨s242.2⟩ : Kq) o0 T0 o1 T1 z242 x424 q424) rfl rfl rfl rfl rfl rfl rfl (WkL.cons (Wk.trans (Wk.agg (WkR.refl _)) (Wk.of_eq (Kp x421).symm)) (WkL.cons (Wk.refl _) Wl)) ((KF (j := 1) rfl).trans (List.Perm.cons _ ((KF (j := 1) rfl).trans (List.Perm.cons _ ((KF (j := 0) rfl).trans (List.Perm.cons _ Pf)))))) Pf ?_
    rintro _ _ _ ⟨w423, rfl, rfl, rfl⟩
    refine Ke ?_
    refine Km ?_
    refine Kh ?_
    refine pu ?_
    refine pL 5 ?_
    refine Kag htab rfl rfl rfl rfl rfl rfl rfl (by first | exact KY | rfl) ?_
    refine pu ?_
    refine Ke ?_
    obtain ⟨y449, q449, ho449⟩ := Kc hm
    refine Kah (Y := Z3) (fun z449 => (⟨[(1, .fn (.func 57) [] [.ptr o0 0]), (5, .ptr b1 0), (6, .ptr b2 0), (8, .ptr b422 0), (12, .lst 7 (a0.map Kr) .no), (13, .v (.int .i64 (a0.length : Int))), (14, .v (.int .i64 s242.1))], [(0, Blk.row 1 (y449.map eStr) (SL z449)), (o0, Blk.cells [.fn (.func 54) [] [.ptr o1 0]] T0), (o1, Blk.cells [.v (SL z449)] T1), (b1, Blk.cells [.fn (.func 58) [] [.ptr o0 0]] 101), (b2, Blk.cells [.fn (.func 79) [] [.ptr b1 0, .ptr b2 0]] 101), (b422, Blk.cells [.v (.int .i64 x421.gOp), .v (.string x421.gName), .v (.string x421.gFunc), .lst 5 (x421.gExps.map Kx) .no, .lst 7 (x421.gKids.map Kr) .no, .lst 7 (x421.gElse.map Kr) .no, .v (.int .i64 x421.gAt)] 97)], []⟩ : S)) ?_ ?_
    ·clear hm; have hm := KI q449
     refine KG ?_
     obtain ⟨u450, hl450, hq450⟩ := yes_m hm
     refine Kao (Y := Z3) hl450 (fun s450 z450 => (⟨[(1, .fn (.func 57) [] [.ptr o0 0]), (5, .ptr b1 0), (6, .ptr b2 0), (8, .ptr b422 0), (12, .lst 7 (a0.map Kr) .no), (13, .v (.int .i64 (a0.length : Int))), (14, .v (.int .i64 s242.1)), (22, .lst 5 (x421.gExps.map Kx) .no), (23, .v (.int .i64 (x421.gExps.length : Int))), (24, .v (.int .i64 s450.1))], [(0, Blk.row 1 (s450.2.map eStr) (SL z450)), (o0, Blk.cells [.fn (.func 54) [] [.ptr o1 0]] T0), (o1, Blk.cells [.v (SL z450)] T1), (b1, Blk.cells [.fn (.func 58) [] [.ptr o0 0]] 101), (b2, Blk.cells [.fn (.func 79) [] [.ptr b1 0, .ptr b2 0]] 101), (b422, Blk.cells [.v (.int .i64 x421.gOp), .v (.string x421.gName), .v (.string x421.gFunc), .lst 5 (x421.gExps.map Kx) .no, .lst 7 (x421.gKids.map Kr) .no, .lst 7 (x421.gElse.map Kr) .no, .v (.int .i64 x421.gAt)] 97)], []⟩ : S)) ?_ ?_
     ·skip
      exact WkX.of w423 (WkS.perm (WkS.cons rfl (Wk.refl _) (WkS.cons rfl (Wk.refl _) (WkS.cons rfl (Wk.refl _) (WkS.cons rfl (Wk.refl _) (WkS.cons rfl (Wk.refl _) (WkS.cons rfl (Wk.refl _) (WkS.cons rfl (Wk.refl _) (WkS.cons rfl (Wk.refl _) (WkS.cons rfl (Wk.refl _) (WkS.cons rfl (Wk.refl _) (WkS.nil))))))))))) ((KF (j := 2) rfl).trans (List.Perm.cons _ ((KF (j := 0) rfl).trans (List.Perm.cons _ ((KF (j := 0) rfl).trans (List.Perm.cons _ ((KF (j := 0) rfl).trans (List.Perm.cons _ ((KF (j := 0) rfl).trans (List.Perm.cons _ ((KF (j := 0) rfl).trans (List.Perm.cons _ Pf)))))))))))) Pf)
     ·intro G450 s450 z450 hm
      refine Kh ?_
      refine pu ?_
      refine Ke ?_
      refine Km ?_
      refine KC rfl (fun hc469 => ?_) (fun hc469 => ?_)
      ·replace hm := yes_t hc469 hm
       refine KB ?_
       refine Kb ?_
       refine Km ?_
       refine KG ?_
       refine Kh ?_
       obtain ⟨x470, q470, hm⟩ := Kc hm
       refine Kad htab rfl rfl rfl rfl rfl rfl rfl rfl rfl rfl (Kd q470) (Kk q470) ?_
       refine p_eq (i := 26) rfl (Wk.of_eq (congrArg D.el (KK x470))) ?_
       refine KW (d := .agg [.v (.int .i64 x470.gOp), .v (.int .i64 x470.gN), .v (.string x470.gName), .lst 5 (x470.gKids.map Kx) .no, .v (.int .i64 x470.gAt)]) htab rfl rfl rfl rfl rfl rfl rfl rfl ?_
       refine Kay htab rfl rfl rfl rfl rfl rfl rfl (fun b471 => ?_)
       refine pS6 (ds' := [.v (.int .i64 x470.gOp), .v (.int .i64 x470.gN), .v (.string x470.gName), .lst 5 (x470.gKids.map Kx) .no, .v (.int .i64 x470.gAt)]) ?_
       refine Ke ?_
       refine Kt ?_
       refine pL 4 ?_
       refine KaD (d := .agg [.v (.int .i64 x470.gOp), .v (.int .i64 x470.gN), .v (.string x470.gName), .lst 5 (x470.gKids.map Kx) .no, .v (.int .i64 x470.gAt)]) 6 htab rfl rfl rfl rfl rfl rfl rfl rfl ?_
       obtain ⟨x473, q473, hm⟩ := Kc hm
       refine KcC (Khz x470 (⟨s450.2⟩ : Kq) b1 101 o0 T0 o1 T1 z450 b2 101 x473 q473) rfl rfl rfl rfl rfl rfl rfl (WkL.cons (Wk.trans (Wk.agg (WkR.refl _)) (Wk.of_eq (KK x470).symm)) (WkL.cons (Wk.refl _) (WkL.cons (Wk.refl _) Wl))) ((KF (j := 3) rfl).trans (List.Perm.cons _ ((KF (j := 1) rfl).trans (List.Perm.cons _ ((KF (j := 1) rfl).trans (List.Perm.cons _ ((KF (j := 1) rfl).trans (List.Perm.cons _ ((KF (j := 0) rfl).trans (List.Perm.cons _ Pf)))))))))) Pf ?_
       rintro _ _ _ ⟨w472, rfl, rfl, rfl⟩
       refine Kv ?_
       refine KM ?_
       refine Kb ?_
       refine Kt ?_
       refine pu ?_
       refine pu ?_
       refine Kv ?_
       refine Kb ⟨_, K0 hm, ?_⟩
       exact WkX.of w472 (WkS.perm (WkS.cons rfl (Wk.refl _) (WkS.cons rfl (Wk.refl _) (WkS.cons rfl (Wk.refl _) (WkS.cons rfl (Wk.refl _) (WkS.cons rfl (Wk.refl _) (WkS.cons rfl (Wk.refl _) (WkS.cons rfl (Wk.refl _) (WkS.cons rfl (Wk.refl _) (WkS.cons rfl (Wk.refl _) (WkS.cons rfl (Wk.refl _) (WkS.nil))))))))))) ((KF (j := 4) rfl).trans (List.Perm.cons _ ((KF (j := 1) rfl).trans (List.Perm.cons _ ((KF (j := 1) rfl).trans (List.Perm.cons _ ((KF (j := 0) rfl).trans (List.Perm.cons _ ((KF (j := 0) rfl).trans (List.Perm.cons _ ((KF (j := 0) rfl).trans (List.Perm.cons _ Pf)))))))))))) Pf)
      ·replace hm := yes_f hc469 hm
       refine Kaa ?_
       refine KH ?_
       have e450 := K1 hm; subst e450; clear hm; have hm := hq450
       refine KH ?_
       refine K5 ?_
       have e449 := Kj hm; subst e449
       refine ⟨rfl, ?_⟩
       exact WkX.of z450 (WkS.perm (WkS.cons rfl (Wk.refl _) (WkS.cons rfl (Wk.refl _) (WkS.cons rfl (Wk.refl _) (WkS.cons rfl (Wk.refl _) (WkS.cons rfl (Wk.refl _) (WkS.cons rfl (Wk.refl _) (WkS.cons rfl (Wk.refl _) (WkS.nil)))))))) Pf Pf)
    ·intro s449 hw449; clear hm; have hm := ho449; clear q449 ho449
     refine Kb ?_
     refine KV hw449 (fun z449 => ?_)
     refine Kh ?_
     refine pu ?_
     refine pL 5 ?_
     refine pu ?_
     refine pL 3 ?_
     obtain ⟨x475, q475, hm⟩ := Kc hm
     refine pG (hg0 x421.gKids (⟨y449⟩ : Kq) o0 T0 o1 T1 z449 x475 q475) Wl ((KF (j := 1) rfl).trans (List.Perm.cons _ ((KF (j := 1) rfl).trans (List.Perm.cons _ ((KF (j := 0) rfl).trans (List.Perm.cons _ Pf)))))) Pf ?_
     rintro _ _ _ ⟨w474, rfl, rfl, rfl⟩
     refine Ke ?_
     refine Kt ?_
     refine pu ?_
     refine pL 5 ?_
     refine pu ?_
     refine pL 3 ?_
     obtain ⟨x477, q477, hm⟩ := Kc hm
     refine pG (hg0 x421.gElse x475 o0 T0 o1 T1 w474 x477 q477) Wl Pf Pf ?_
     rintro _ _ _ ⟨w476, rfl, rfl, rfl⟩
     refine Kv ?_
     refine KM ?_
     refine Kb ?_
     refine Kt ?_
     refine pu ?_
     refine pu ?_
     refine Kv ?_
     refine Kb ⟨_, K0 hm, ?_⟩
     exact WkX.of w476 (WkS.perm (WkS.cons rfl (Wk.refl _) (WkS.cons rfl (Wk.refl _) (WkS.cons rfl (Wk.refl _) (WkS.cons rfl (Wk.refl _) (WkS.cons rfl (Wk.refl _) (WkS.cons rfl (Wk.refl _) (WkS.nil))))))) ((KF (j := 2) rfl).trans (List.Perm.cons _ ((KF (j := 0) rfl).trans (List.Perm.cons _ ((KF (j := 0) rfl).trans (List.Perm.cons _ ((KF (j := 0) rfl).trans (List.Perm.cons _ ((KF (j := 0) rfl).trans (List.Perm.cons _ Pf)))))))))) Pf)
   ·replace hm := yes_f hc420 hm
    refine Kaa ?_
    refine KH ?_
    have e242 := K1 hm; subst e242; clear hm; have hm := hq242
    refine KH ?_
    refine K5 ?_
    have e241 := Kj hm; subst e241
    refine ⟨rfl, ?_⟩
    exact WkX.of z242 (WkS.perm (WkS.nil) Pf Pf)
 ·intro s241 hw241; clear hm; have hm := ho241; clear q241 ho241
  refine retX.wkX hw241 (fun z241 => ?_)
  have er478 := Kj hm; subst er478
  refine rP (t' := []) [1,1,0] [] 3 wN lN ?_
  exact ⟨z241, rfl, rfl, rfl⟩
noncomputable def KaU : Nat → ((List Kg) → (Kq) → Option (Kq))
 | 0 => (fun _ _ => none)
 | n + 1 => (KbA ((KaU n)))
theorem KeN : ∀ n, (∀ (a0 : List Kg) (m1 : Kq) (o0 : Nat) (T0 : TypeId) (o1 : Nat) (T1 : TypeId) (z1_0 : Z3) (r : Kq) (h0 : (KaU n) a0 m1 = some r), CallsD Tryz.prog 56 [.lst 7 (a0.map Kr) .no, .fn (.func 57) [] [.ptr o0 0], .fn (.func 58) [] [.ptr o0 0]] [(o0, Blk.cells [.fn (.func 54) [] [.ptr o1 0]] T0), (o1, Blk.cells [.v (SL z1_0)] T1), (0, Blk.row 1 (m1.gL.map eStr) (SL z1_0))] [] (fun d h k => ∃ y0, d = .tup [] ∧ h = [(o0, Blk.cells [.fn (.func 54) [] [.ptr o1 0]] T0), (o1, Blk.cells [.v (SL y0)] T1), (0, Blk.row 1 (r.gL.map eStr) (SL y0))] ∧ k = []))
  | 0 => fun _ _ _ _ _ _ _ _ h0 => by cases h0
  | n + 1 => by
    have ih := KeN n
    exact KhA (KaU n) ih
theorem KeO : ∀ n, (∀ (a0 : List Kg) (m1 : Kq), Le ((KaU n) a0 m1) ((KaU (n + 1)) a0 m1))
  | 0 => fun _ _ => Le.none _
  | n + 1 => by
    have ih := KeO n
    exact fun a0 m1 => by show Le (KbA ((KaU n)) a0 m1) (KbA ((KaU (n + 1))) a0 m1); unfold KbA; repeat (first | exact Le.refl _ | exact ih _ _ | assumption | (refine Le.bind ?_ (fun _ => ?_)) | (refine Le.cond ?_ ?_) | (refine Le.loop (fun _ => ?_)) | (refine Le.elim (fun _ => ?_) (fun _ => ?_)))
noncomputable def KdU (a0 : List Kg) (m1 : Kq) : Option (Kq) := anyN fun n => (KaU n) a0 m1
theorem Kh9 (a0 : List Kg) (m1 : Kq) {r : Kq} (n : Nat) (h : (KaU n) a0 m1 = some r) : KdU a0 m1 = some r := Kdo (fun m => (KeO m) a0 m1) h
theorem Kia (a0 : List Kg) (m1 : Kq) (o0 : Nat) (T0 : TypeId) (o1 : Nat) (T1 : TypeId) (z1_0 : Z3) (r : Kq) (h0 : KdU a0 m1 = some r) : CallsD Tryz.prog 56 [.lst 7 (a0.map Kr) .no, .fn (.func 57) [] [.ptr o0 0], .fn (.func 58) [] [.ptr o0 0]] [(o0, Blk.cells [.fn (.func 54) [] [.ptr o1 0]] T0), (o1, Blk.cells [.v (SL z1_0)] T1), (0, Blk.row 1 (m1.gL.map eStr) (SL z1_0))] [] (fun d h k => ∃ y0, d = .tup [] ∧ h = [(o0, Blk.cells [.fn (.func 54) [] [.ptr o1 0]] T0), (o1, Blk.cells [.v (SL y0)] T1), (0, Blk.row 1 (r.gL.map eStr) (SL y0))] ∧ k = []) :=
 let ⟨n, hn⟩ := KcO h0; (KeN n) a0 m1 o0 T0 o1 T1 z1_0 r hn
noncomputable def Kbq (m0 : Kq) : Option (List ByteArray × Kq) :=
 ((need (Kcz m0.gL)).bind fun x1 => ((need (Kcz (sortB m0.gL))).bind fun x3 => some ((Kdh (sortB m0.gL)), (⟨[]⟩ : Kq))))
theorem KeP (m0 : Kq) (o0 : Nat) (T0 : TypeId) (z0_0 : Z3) (r : List ByteArray × Kq) (h0 : Kbq m0 = some r) : CallsD Tryz.prog 59 [.ptr o0 0] [(o0, Blk.cells [.v (SL z0_0)] T0), (0, Blk.row 1 (m0.gL.map eStr) (SL z0_0))] [] (fun d h k => ∃ y0, d = .v (SL y0) ∧ h = [(o0, Blk.cells [.any] T0), (0, Blk.row 1 (r.1.map eStr) (SL y0))] ∧ k = []) := by
 have hm := KI h0
 unfold Kbq at hm
 clear h0
 refine K3 htab Tryz.func59 rfl rfl rfl rfl rfl (fun C => ?_)
 refine Kh ?_
 refine pu ?_
 refine KP ?_
 iterate 3 refine pu ?_
 refine pL 0 ?_
 obtain ⟨x1, q1, hm⟩ := Kc hm
 refine pG (sortB_ok m0.gL z0_0 (Kdn q1)) Wl ((KF (j := 1) rfl).trans (List.Perm.cons _ Pf)) Pf ?_
 rintro _ _ _ ⟨rfl, rfl, rfl⟩
 refine KP ?_
 iterate 3 refine pu ?_
 refine pL 1 ?_
 obtain ⟨x3, q3, hm⟩ := Kc hm
 refine pG (KgZ (sortB m0.gL) z0_0 (Kdn q3)) Wl Pf Pf ?_
 rintro _ _ _ ⟨w2, rfl, rfl, rfl⟩
 refine pu ?_
 refine Ke ?_
 refine KE ?_
 have er4 := Kj hm; subst er4
 refine retX.wk (WkS.bl1 (ds' := [.any]) (WkR.cons (WkC.any) rfl WkR.nil)) ?_
 refine rP (t' := [(2, .v (SL w2))]) [1,0] [] 2 (wC wN) (lT lN) ?_
 exact ⟨w2, rfl, rfl, rfl⟩
noncomputable def Kbh (a0 : List ByteArray) (a1 : ByteArray) : Option (Int) :=
 (Option.bind (α := (Unit) ⊕ (Int)) (loopM (fun (s15 : Int) => (bif (decide (s15 < (a0.length : Int))) then ((idx a0 s15).bind fun x25 => (bif (decide (a1 = x25)) then some (.done (.inr s15)) else some (.next (IntKind.i64.wrap (s15 + (1 : Int)))))) else some (.done (.inl ())))) (0 : Int)) (Sum.elim (fun y14 => some (-1 : Int)) (fun r => some r)))
theorem KdC (a0 : List ByteArray) (a1 : ByteArray) (r : Int) (h0 : Kbh a0 a1 = some r) : CallsD Tryz.prog 40 [.lst 1 (a0.map eStr) .no, .v (.string a1)] [] [] (fun d h k => d = .v (.int .i64 r) ∧ h = [] ∧ k = []) := by
 have hm := KI h0
 unfold Kbh at hm
 clear h0
 refine K3 htab Tryz.func40 rfl rfl rfl rfl rfl (fun C => ?_)
 refine Kh ?_
 refine pu ?_
 refine Ke ?_
 refine Km ?_
 refine Kh ?_
 refine pu ?_
 refine Kag htab rfl rfl rfl rfl rfl rfl rfl (by first | exact KY | rfl) ?_
 refine pu ?_
 refine Ke ?_
 obtain ⟨x14, q14, ho14⟩ := Kc hm
 refine Kbi (τ := Unit) (Y := Unit) (fun y14 z14 => (⟨[], [], []⟩ : S)) x14 ?_ ?_
 ·clear hm; have hm := KI q14
  refine KG ?_
  obtain ⟨u15, hl15, hq15⟩ := yes_m hm
  refine Kao (Y := Unit) hl15 (fun s15 z15 => (⟨[(0, .lst 1 (a0.map eStr) .no), (1, .v (.string a1)), (7, .v (.int .i64 (a0.length : Int))), (8, .v (.int .i64 s15))], [], []⟩ : S)) ?_ ?_
  ·skip
   exact WkX.of () (WkS.perm (WkS.cons rfl (Wk.refl _) (WkS.cons rfl (Wk.refl _) (WkS.cons rfl (Wk.refl _) (WkS.cons rfl (Wk.refl _) (WkS.nil))))) Pf Pf)
  ·intro G15 s15 z15 hm
   refine Kh ?_
   refine pu ?_
   refine Ke ?_
   refine Km ?_
   refine KC rfl (fun hc24 => ?_) (fun hc24 => ?_)
   ·replace hm := yes_t hc24 hm
    refine KB ?_
    refine Kb ?_
    refine Km ?_
    refine KG ?_
    refine Kh ?_
    refine pu ?_
    refine pu ?_
    refine KP ?_
    iterate 3 refine pu ?_
    obtain ⟨x25, q25, hm⟩ := Kc hm
    refine Kad htab rfl rfl rfl rfl rfl rfl rfl rfl rfl rfl (Kd q25) (Kk q25) ?_
    refine KW htab rfl rfl rfl rfl rfl rfl rfl rfl ?_
    refine pu ?_
    refine Ke ?_
    refine KC rfl (fun hc26 => ?_) (fun hc26 => ?_)
    ·replace hm := yes_t hc26 hm
     refine Kh ?_
     refine pu ?_
     refine pu ?_
     refine Ke ?_
     refine KE ?_
     refine Kan ?_
     refine KS ?_
     have e15 := K1 hm; subst e15; clear hm; have hm := hq15
     refine KS ?_
     refine Kan ?_
     have e14 := Kj hm; subst e14; refine Kbk ?_; clear hm; have hm := ho14; simp only [Sum.elim_inr] at hm
     refine KS ?_
     have er27 := Kj hm; subst er27
     refine rP (t' := [(4, .v (.int .i64 s15))]) [] [] 0 (wC wN) (lT lN) ?_
     exact ⟨rfl, rfl, rfl⟩
    ·replace hm := yes_f hc26 hm
     refine KB ?_
     refine KM ?_
     refine Kb ?_
     refine Kt ?_
     refine pu ?_
     refine pu ?_
     refine Kv ?_
     refine Kb ⟨_, K0 hm, ?_⟩
     exact WkX.of () (WkS.perm (WkS.cons rfl (Wk.refl _) (WkS.cons rfl (Wk.refl _) (WkS.cons rfl (Wk.refl _) (WkS.cons rfl (Wk.refl _) (WkS.nil))))) Pf Pf)
   ·replace hm := yes_f hc24 hm
    refine Kaa ?_
    refine KH ?_
    have e15 := K1 hm; subst e15; clear hm; have hm := hq15
    refine KH ?_
    refine K5 ?_
    have e14 := Kj hm; subst e14
    refine Kbj ?_
    exact WkX.of () (WkS.perm (WkS.nil) Pf Pf)
 ·intro y14 s14 hx14 hw14; subst hx14; clear hm; have hm := ho14; simp only [Sum.elim_inl] at hm; clear q14 ho14
  refine Kb ?_
  refine KV hw14 (fun z14 => ?_)
  refine Kh ?_
  refine pu ?_
  refine Ke ?_
  refine KE ?_
  have er28 := Kj hm; subst er28
  refine rP (t' := [(4, .v (.int .i64 (-1 : Int)))]) [] [] 0 (wC wN) (lT lN) ?_
  exact ⟨rfl, rfl, rfl⟩
noncomputable def KaB (a0 : List ByteArray) (a1 : ByteArray) : Option (Bool) :=
 ((Kbh a0 a1).bind fun x1 => some (decide ((0 : Int) ≤ x1)))
theorem Kbm (a0 : List ByteArray) (a1 : ByteArray) (r : Bool) (h0 : KaB a0 a1 = some r) : CallsD Tryz.prog 21 [.lst 1 (a0.map eStr) .no, .v (.string a1)] [] [] (fun d h k => d = .v (.bool r) ∧ h = [] ∧ k = []) := by
 have hm := KI h0
 unfold KaB at hm
 clear h0
 refine K3 htab Tryz.func21 rfl rfl rfl rfl rfl (fun C => ?_)
 refine Kh ?_
 refine pu ?_
 refine KP ?_
 refine pu ?_
 refine pu ?_
 obtain ⟨x1, q1, hm⟩ := Kc hm
 refine Kaj (KdC a0 a1 x1 q1) rfl rfl rfl rfl rfl Wl ?_
 rintro _ rfl
 refine pu ?_
 refine pu ?_
 refine Ke ?_
 refine KE ?_
 have er2 := Kj hm; subst er2
 refine rP (t' := [(4, .v (.bool (decide ((0 : Int) ≤ x1))))]) [] [] 0 (wC wN) (lT lN) ?_
 exact ⟨rfl, rfl, rfl⟩
noncomputable def Kb4 (a0 : ByteArray) (m0 : List ByteArray) : Option (Bool) :=
 ((KaB m0 a0).bind fun x1 => some x1)
theorem Kf4 (a0 : ByteArray) (m0 : List ByteArray) (o0 : Nat) (T0 : TypeId) (c0_0 : Cap) (r : Bool) (h0 : Kb4 a0 m0 = some r) : CallsD Tryz.prog 35 [.v (.string a0), .ptr o0 0] [(o0, Blk.cells [.lst 1 (m0.map eStr) c0_0] T0)] [] (fun d h k => d = .v (.bool r) ∧ h = [(o0, Blk.cells [.lst 1 (m0.map eStr) c0_0] T0)] ∧ k = []) := by
 have hm := KI h0
 unfold Kb4 at hm
 clear h0
 refine K3 htab Tryz.func35 rfl rfl rfl rfl rfl (fun C => ?_)
 refine Kh ?_
 refine pu ?_
 refine KP ?_
 refine pL 0 ?_
 refine pu ?_
 obtain ⟨x1, q1, hm⟩ := Kc hm
 refine Kaj (Kbm m0 a0 x1 q1) rfl rfl rfl rfl rfl (WkL.cons (Wk.no) (WkL.cons (Wk.refl _) Wl)) ?_
 rintro _ rfl
 refine pu ?_
 refine Ke ?_
 refine KE ?_
 have er2 := Kj hm; subst er2
 refine rP (t' := [(3, .v (.bool x1))]) [0] [] 1 (wC wN) (lT lN) ?_
 exact ⟨rfl, rfl, rfl⟩
noncomputable def Kc4 (a0 : Kw) (a1 : Kw) : Option (List ByteArray) :=
 ((Kar ([a0.gFuncs, a1.gFuncs] : List (List KQ))).bind fun x4 => (Option.bind (α := List ByteArray) (loopM (fun (s85 : List ByteArray × Int) => (bif (decide (s85.2 < (x4.length : Int))) then ((idx x4 s85.2).bind fun x118 => ((Kbz a0 x118.gName).bind fun x120 => ((Kbz a1 x118.gName).bind fun x122 => (Option.bind (α := Bool) (bif (!(x120.2 == x122.2)) then some true else ((Kbg x120.1 x122.1).bind fun x128 => some (!x128))) fun y126 => (bif y126 then ((app 16 s85.1 ([x118.gName] : List ByteArray)).bind fun x130 => some (.next (x130, (IntKind.i64.wrap (s85.2 + (1 : Int)))))) else some (.next (s85.1, (IntKind.i64.wrap (s85.2 + (1 : Int)))))))))) else some (.done s85.1))) (([] : List ByteArray), (0 : Int))) fun y68 => ((Kbv y68).bind fun x132 => some x132)))
theorem KgR (a0 : Kw) (a1 : Kw) (r : List ByteArray) (h0 : Kc4 a0 a1 = some r) : CallsD Tryz.prog 37 [Ku a0, Ku a1] [] [] (fun d h k => ∃ y0, d = .v (SL y0) ∧ h = [(0, Blk.row 1 (r.map eStr) (SL y0))] ∧ k = []) := by
 have hm := KI h0
 unfold Kc4 at hm
 clear h0
 refine K3 htab Tryz.func37 rfl rfl rfl rfl rfl (fun C => ?_)
 refine Kh ?_
 refine p_box rfl rfl rfl rfl rfl rfl rfl (fun b1 => ?_)
 refine p_box rfl rfl rfl rfl rfl rfl rfl (fun b2 => ?_)
 refine pu ?_
 refine KP ?_
 refine pu ?_
 refine Ke ?_
 refine Km ?_
 refine Kh ?_
 refine pu ?_
 refine pL 0 ?_
 refine pu ?_
 refine pL 1 ?_
 refine p_lit htab rfl rfl rfl rfl rfl rfl rfl rfl rfl rfl rfl rfl rfl rfl ?_
 refine p_eq (i := 16) (d' := .lst 1 (([a0.gFuncs, a1.gFuncs] : List (List KQ)).map (eList 5 KA)) .full) rfl (Wk.lst0 (.cons (WkC.refl _) (.cons (WkC.refl _) (.nil)))) ?_
 obtain ⟨x4, q4, hm⟩ := Kc hm
 refine Kby (KaY ([a0.gFuncs, a1.gFuncs] : List (List KQ)) x4 q4) rfl rfl rfl rfl rfl (WkL.cons (Wk.no) Wl) Pf Pf ?_
 rintro _ _ _ ⟨w3, rfl, rfl, rfl⟩
 refine p_lenR 0 htab rfl rfl rfl rfl rfl rfl rfl rfl (by first | exact KY | rfl) ?_
 refine pu ?_
 refine Ke ?_
 obtain ⟨y68, q68, ho68⟩ := Kc hm
 refine Kah (Y := Z3) (fun z68 => (⟨[(5, .v (SL z68))], [(0, Blk.row 1 (y68.map eStr) (SL z68))], []⟩ : S)) ?_ ?_
 ·clear hm; have hm := KI q68
  refine KG ?_
  refine KV (Y := Unit) (S1 := fun _ => (⟨[(2, .ptr b1 0), (3, .ptr b2 0), (5, .lst 1 [] .full), (17, .lst 5 (x4.map KA) (.cur (SL w3))), (18, .v (.int .i64 (x4.length : Int))), (19, .v (.int .i64 (0 : Int)))], [(b1, Blk.cells [.lst 4 (a0.gGlobals.map KJ) .no, .lst 5 (a0.gFuncs.map KA) .no] 25), (b2, Blk.cells [.lst 4 (a1.gGlobals.map KJ) .no, .lst 5 (a1.gFuncs.map KA) .no] 25)], [(5, (SL w3))]⟩ : S)) ?_ (fun _ => ?_)
  ·skip
   refine WkX.wk (WkS.frz 0 rfl rfl) ?_
   refine WkX.wk (WkS.tld 17 0 rfl rfl) ?_
   refine WkX.wk (WkS.drop 0 rfl) ?_
   exact WkX.of () (WkS.perm (WkS.cons rfl (Wk.refl _) (WkS.cons rfl (Wk.refl _) (WkS.cons rfl (Wk.refl _) (WkS.cons rfl (Wk.refl _) (WkS.cons rfl (Wk.refl _) (WkS.cons rfl (Wk.refl _) (WkS.nil))))))) Pf Pf)
  ·skip
   obtain ⟨u85, hl85, hq85⟩ := yes_m hm
   refine Kao (Y := Z3) hl85 (fun s85 z85 => (⟨[(2, .ptr b1 0), (3, .ptr b2 0), (5, .v (SL z85)), (17, .lst 5 (x4.map KA) (.cur (SL w3))), (18, .v (.int .i64 (x4.length : Int))), (19, .v (.int .i64 s85.2))], [(0, Blk.row 1 (s85.1.map eStr) (SL z85)), (b1, Blk.cells [.lst 4 (a0.gGlobals.map KJ) .no, .lst 5 (a0.gFuncs.map KA) .no] 25), (b2, Blk.cells [.lst 4 (a1.gGlobals.map KJ) .no, .lst 5 (a1.gFuncs.map KA) .no] 25)], [(5, (SL w3))]⟩ : S)) ?_ ?_
   ·skip
    refine WkX.rowN (i := 5) 1 rfl (fun w116 => ?_)
    exact WkX.of w116 (WkS.perm (WkS.cons rfl (Wk.refl _) (WkS.cons rfl (Wk.refl _) (WkS.cons rfl (Wk.refl _) (WkS.cons rfl (Wk.refl _) (WkS.cons rfl (Wk.refl _) (WkS.cons rfl (Wk.refl _) (WkS.nil))))))) Pf Pf)
   ·intro G85 s85 z85 hm
    refine Kh ?_
    refine pu ?_
    refine Ke ?_
    refine Km ?_
    refine KC rfl (fun hc117 => ?_) (fun hc117 => ?_)
    ·replace hm := yes_t hc117 hm
     refine KB ?_
     refine Kb ?_
     refine Km ?_
     refine KG ?_
     refine Kh ?_
     obtain ⟨x118, q118, hm⟩ := Kc hm
     refine Kad htab rfl rfl rfl rfl rfl rfl rfl rfl rfl rfl (Kd q118) (Kk q118) ?_
     refine KW (d := KA x118) htab rfl rfl rfl rfl rfl rfl rfl rfl ?_
     refine Kay htab rfl rfl rfl rfl rfl rfl rfl (fun b119 => ?_)
     refine pS3 (ds' := [.v (.string x118.gName), .lst 2 (x118.gParams.map Kaf) .no, .lst 2 (x118.gLocals.map Kaf) .no, .lst 7 (x118.gBody.map Kr) .no, .v (.int .i64 x118.gAt)]) ?_
     refine KP ?_
     refine KaD (d := Ku a0) 1 htab rfl rfl rfl rfl rfl rfl rfl rfl ?_
     refine pu ?_
     refine pL 3 ?_
     obtain ⟨x120, q120, hm⟩ := Kc hm
     refine Kaj (Kcv a0 x118.gName x120 q120) rfl rfl rfl rfl rfl Wl ?_
     rintro _ rfl
     iterate 3 refine pu ?_
     refine Kay htab rfl rfl rfl rfl rfl rfl rfl (fun b121 => ?_)
     refine pS4 (ds' := [.v (.string x120.1.gName), .lst 2 (x120.1.gParams.map Kaf) .no, .lst 2 (x120.1.gLocals.map Kaf) .no, .lst 7 (x120.1.gBody.map Kr) .no, .v (.int .i64 x120.1.gAt)]) ?_
     refine pu ?_
     refine KP ?_
     refine KaD (d := Ku a1) 2 htab rfl rfl rfl rfl rfl rfl rfl rfl ?_
     refine pu ?_
     refine pL 3 ?_
     obtain ⟨x122, q122, hm⟩ := Kc hm
     refine Kaj (Kcv a1 x118.gName x122 q122) rfl rfl rfl rfl rfl Wl ?_
     rintro _ rfl
     iterate 3 refine pu ?_
     refine Kay htab rfl rfl rfl rfl rfl rfl rfl (fun b123 => ?_)
     refine pS5 (ds' := [.v (.string x122.1.gName), .lst 2 (x122.1.gParams.map Kaf) .no, .lst 2 (x122.1.gLocals.map Kaf) .no, .lst 7 (x122.1.gBody.map Kr) .no, .v (.int .i64 x122.1.gAt)]) ?_
     refine pu ?_
     refine Ke ?_
     refine Km ?_
     obtain ⟨y126, q126, ho126⟩ := Kc hm
     refine Kah (Y := Unit) (fun z126 => (⟨[(2, .ptr b1 0), (3, .ptr b2 0), (5, .v (SL z85)), (7, .ptr b119 0), (17, .lst 5 (x4.map KA) (.cur (SL w3))), (18, .v (.int .i64 (x4.length : Int))), (19, .v (.int .i64 s85.2)), (45, .v (.bool y126))], [(0, Blk.row 1 (s85.1.map eStr) (SL z85)), (b1, Blk.cells [.lst 4 (a0.gGlobals.map KJ) .no, .lst 5 (a0.gFuncs.map KA) .no] 25), (b2, Blk.cells [.lst 4 (a1.gGlobals.map KJ) .no, .lst 5 (a1.gFuncs.map KA) .no] 25), (b119, Blk.cells [.v (.string x118.gName), .lst 2 (x118.gParams.map Kaf) .no, .lst 2 (x118.gLocals.map Kaf) .no, .lst 7 (x118.gBody.map Kr) .no, .v (.int .i64 x118.gAt)] 63)], [(5, (SL w3))]⟩ : S)) ?_ ?_
     ·clear hm; have hm := KI q126
      refine Kt ?_
      iterate 4 refine pu ?_
      refine KaE (i := 40) rfl (fun hg127 => ?_) (fun hg127 => ?_)
      ·replace hm := yes_t hg127 hm
       iterate 4 refine pK ?_
       refine Kab rfl rfl rfl rfl rfl rfl ?_
       refine Kv ?_
       have e126 := Kj hm; subst e126
       refine ⟨rfl, ?_⟩
       exact WkX.of () (WkS.perm (WkS.cons rfl (Wk.refl _) (WkS.cons rfl (Wk.refl _) (WkS.cons rfl (Wk.refl _) (WkS.cons rfl (Wk.refl _) (WkS.cons rfl (Wk.refl _) (WkS.cons rfl (Wk.refl _) (WkS.cons rfl (Wk.refl _) (WkS.cons rfl (Wk.refl _) (WkS.nil))))))))) Pf Pf)
      ·replace hm := yes_f hg127 hm
       refine KaD (d := KA x120.1) 4 htab rfl rfl rfl rfl rfl rfl rfl rfl ?_
       refine KaD (d := KA x122.1) 5 htab rfl rfl rfl rfl rfl rfl rfl rfl ?_
       obtain ⟨x128, q128, hm⟩ := Kc hm
       refine Kaj (KeL x120.1 x122.1 x128 q128) rfl rfl rfl rfl rfl Wl ?_
       rintro _ rfl
       refine pu ?_
       refine K9 rfl rfl rfl rfl rfl rfl ?_
       refine Kv ?_
       have e126 := Kj hm; subst e126
       refine ⟨rfl, ?_⟩
       exact WkX.of () (WkS.perm (WkS.cons rfl (Wk.refl _) (WkS.cons rfl (Wk.refl _) (WkS.cons rfl (Wk.refl _) (WkS.cons rfl (Wk.refl _) (WkS.cons rfl (Wk.refl _) (WkS.cons rfl (Wk.refl _) (WkS.cons rfl (Wk.refl _) (WkS.cons rfl (Wk.refl _) (WkS.nil))))))))) Pf Pf)
     ·intro s126 hw126; clear hm; have hm := ho126; clear q126 ho126
      refine Kb ?_
      refine KV hw126 (fun z126 => ?_)
      refine KC rfl (fun hc129 => ?_) (fun hc129 => ?_)
      ·replace hm := yes_t hc129 hm
       refine Kt ?_
       refine pu ?_
       refine pu ?_
       refine pL 3 ?_
       refine p_lit htab rfl rfl rfl rfl rfl rfl rfl rfl rfl rfl rfl rfl rfl rfl ?_
       refine p_eq (i := 49) (d' := .lst 1 (([x118.gName] : List ByteArray).map eStr) .full) rfl (Wk.lst0 (.cons (WkC.refl _) (.nil))) ?_
       obtain ⟨x130, q130, hm⟩ := Kc hm
       refine Kdp 0 htab rfl rfl rfl rfl rfl rfl rfl rfl rfl rfl rfl rfl rfl rfl rfl rfl (Kal q130) (Kc1 q130) (fun v130 => ?_)
       refine pu ?_
       refine Kv ?_
       refine KM ?_
       refine Kb ?_
       refine Kt ?_
       refine pu ?_
       refine pu ?_
       refine Kv ?_
       refine Kb ⟨_, K0 hm, ?_⟩
       exact WkX.of v130 (WkS.perm (WkS.cons rfl (Wk.refl _) (WkS.cons rfl (Wk.refl _) (WkS.cons rfl (Wk.refl _) (WkS.cons rfl (Wk.refl _) (WkS.cons rfl (Wk.refl _) (WkS.cons rfl (Wk.refl _) (WkS.nil))))))) Pf Pf)
      ·replace hm := yes_f hc129 hm
       refine KB ?_
       refine KM ?_
       refine Kb ?_
       refine Kt ?_
       refine pu ?_
       refine pu ?_
       refine Kv ?_
       refine Kb ⟨_, K0 hm, ?_⟩
       exact WkX.of z85 (WkS.perm (WkS.cons rfl (Wk.refl _) (WkS.cons rfl (Wk.refl _) (WkS.cons rfl (Wk.refl _) (WkS.cons rfl (Wk.refl _) (WkS.cons rfl (Wk.refl _) (WkS.cons rfl (Wk.refl _) (WkS.nil))))))) Pf Pf)
    ·replace hm := yes_f hc117 hm
     refine Kaa ?_
     refine KH ?_
     have e85 := K1 hm; subst e85; clear hm; have hm := hq85
     refine KH ?_
     refine K5 ?_
     have e68 := Kj hm; subst e68
     refine ⟨rfl, ?_⟩
     exact WkX.of z85 (WkS.perm (WkS.cons rfl (Wk.refl _) (WkS.nil)) Pf Pf)
 ·intro s68 hw68; clear hm; have hm := ho68; clear q68 ho68
  refine Kb ?_
  refine KV hw68 (fun z68 => ?_)
  refine Kh ?_
  refine pu ?_
  obtain ⟨x132, q132, hm⟩ := Kc hm
  refine pG (Kcc y68 z68 x132 q132) Wl Pf Pf ?_
  rintro _ _ _ ⟨w131, rfl, rfl, rfl⟩
  refine pu ?_
  refine Ke ?_
  refine KE ?_
  have er133 := Kj hm; subst er133
  refine rP (t' := [(4, .v (SL w131))]) [0] [] 1 (wC wN) (lT lN) ?_
  exact ⟨w131, rfl, rfl, rfl⟩
noncomputable def Kcw (a0 : Kw) (a1 : Kw) : Option (List ByteArray) :=
 ((Kat ([a0.gGlobals, a1.gGlobals] : List (List K8))).bind fun x4 => (Option.bind (α := List ByteArray) (loopM (fun (s85 : List ByteArray × Int) => (bif (decide (s85.2 < (x4.length : Int))) then ((idx x4 s85.2).bind fun x118 => ((Ka8 a0 x118.gName).bind fun x120 => ((Ka8 a1 x118.gName).bind fun x122 => (Option.bind (α := Bool) (bif (!(x120.2 == x122.2)) then some true else (bif (!(x120.1.gPtr == x122.1.gPtr)) then some true else some (x120.1.gSize != x122.1.gSize))) fun y126 => (bif y126 then ((app 16 s85.1 ([x118.gName] : List ByteArray)).bind fun x130 => some (.next (x130, (IntKind.i64.wrap (s85.2 + (1 : Int)))))) else some (.next (s85.1, (IntKind.i64.wrap (s85.2 + (1 : Int)))))))))) else some (.done s85.1))) (([] : List ByteArray), (0 : Int))) fun y68 => ((Kbv y68).bind fun x132 => some x132)))
theorem Kf5 (a0 : Kw) (a1 : Kw) (r : List ByteArray) (h0 : Kcw a0 a1 = some r) : CallsD Tryz.prog 38 [Ku a0, Ku a1] [] [] (fun d h k => ∃ y0, d = .v (SL y0) ∧ h = [(0, Blk.row 1 (r.map eStr) (SL y0))] ∧ k = []) := by
 have hm := KI h0
 unfold Kcw at hm
 clear h0
 refine K3 htab Tryz.func38 rfl rfl rfl rfl rfl (fun C => ?_)
 refine Kh ?_
 refine p_box rfl rfl rfl rfl rfl rfl rfl (fun b1 => ?_)
 refine p_box rfl rfl rfl rfl rfl rfl rfl (fun b2 => ?_)
 refine pu ?_
 refine KP ?_
 refine pu ?_
 refine Ke ?_
 refine Km ?_
 refine Kh ?_
 refine pu ?_
 refine pL 0 ?_
 refine pu ?_
 refine pL 1 ?_
 refine p_lit htab rfl rfl rfl rfl rfl rfl rfl rfl rfl rfl rfl rfl rfl rfl ?_
 refine p_eq (i := 16) (d' := .lst 1 (([a0.gGlobals, a1.gGlobals] : List (List K8)).map (eList 4 KJ)) .full) rfl (Wk.lst0 (.cons (WkC.refl _) (.cons (WkC.refl _) (.nil)))) ?_
 obtain ⟨x4, q4, hm⟩ := Kc hm
 refine Kby (Kbw ([a0.gGlobals, a1.gGlobals] : List (List K8)) x4 q4) rfl rfl rfl rfl rfl (WkL.cons (Wk.no) Wl) Pf Pf ?_
 rintro _ _ _ ⟨w3, rfl, rfl, rfl⟩
 refine p_lenR 0 htab rfl rfl rfl rfl rfl rfl rfl rfl (by first | exact KY | rfl) ?_
 refine pu ?_
 refine Ke ?_
 obtain ⟨y68, q68, ho68⟩ := Kc hm
 refine Kah (Y := Z3) (fun z68 => (⟨[(5, .v (SL z68))], [(0, Blk.row 1 (y68.map eStr) (SL z68))], []⟩ : S)) ?_ ?_
 ·clear hm; have hm := KI q68
  refine KG ?_
  refine KV (Y := Unit) (S1 := fun _ => (⟨[(2, .ptr b1 0), (3, .ptr b2 0), (5, .lst 1 [] .full), (17, .lst 4 (x4.map KJ) (.cur (SL w3))), (18, .v (.int .i64 (x4.length : Int))), (19, .v (.int .i64 (0 : Int)))], [(b1, Blk.cells [.lst 4 (a0.gGlobals.map KJ) .no, .lst 5 (a0.gFuncs.map KA) .no] 25), (b2, Blk.cells [.lst 4 (a1.gGlobals.map KJ) .no, .lst 5 (a1.gFuncs.map KA) .no] 25)], [(4, (SL w3))]⟩ : S)) ?_ (fun _ => ?_)
  ·skip
   refine WkX.wk (WkS.frz 0 rfl rfl) ?_
   refine WkX.wk (WkS.tld 17 0 rfl rfl) ?_
   refine WkX.wk (WkS.drop 0 rfl) ?_
   exact WkX.of () (WkS.perm (WkS.cons rfl (Wk.refl _) (WkS.cons rfl (Wk.refl _) (WkS.cons rfl (Wk.refl _) (WkS.cons rfl (Wk.refl _) (WkS.cons rfl (Wk.refl _) (WkS.cons rfl (Wk.refl _) (WkS.nil))))))) Pf Pf)
  ·skip
   obtain ⟨u85, hl85, hq85⟩ := yes_m hm
   refine Kao (Y := Z3) hl85 (fun s85 z85 => (⟨[(2, .ptr b1 0), (3, .ptr b2 0), (5, .v (SL z85)), (17, .lst 4 (x4.map KJ) (.cur (SL w3))), (18, .v (.int .i64 (x4.length : Int))), (19, .v (.int .i64 s85.2))], [(0, Blk.row 1 (s85.1.map eStr) (SL z85)), (b1, Blk.cells [.lst 4 (a0.gGlobals.map KJ) .no, .lst 5 (a0.gFuncs.map KA) .no] 25), (b2, Blk.cells [.lst 4 (a1.gGlobals.map KJ) .no, .lst 5 (a1.gFuncs.map KA) .no] 25)], [(4, (SL w3))]⟩ : S)) ?_ ?_
   ·skip
    refine WkX.rowN (i := 5) 1 rfl (fun w116 => ?_)
    exact WkX.of w116 (WkS.perm (WkS.cons rfl (Wk.refl _) (WkS.cons rfl (Wk.refl _) (WkS.cons rfl (Wk.refl _) (WkS.cons rfl (Wk.refl _) (WkS.cons rfl (Wk.refl _) (WkS.cons rfl (Wk.refl _) (WkS.nil))))))) Pf Pf)
   ·intro G85 s85 z85 hm
    refine Kh ?_
    refine pu ?_
    refine Ke ?_
    refine Km ?_
    refine KC rfl (fun hc117 => ?_) (fun hc117 => ?_)
    ·replace hm := yes_t hc117 hm
     refine KB ?_
     refine Kb ?_
     refine Km ?_
     refine KG ?_
     refine Kh ?_
     obtain ⟨x118, q118, hm⟩ := Kc hm
     refine Kad htab rfl rfl rfl rfl rfl rfl rfl rfl rfl rfl (Kd q118) (Kk q118) ?_
     refine KW (d := KJ x118) htab rfl rfl rfl rfl rfl rfl rfl rfl ?_
     refine Kay htab rfl rfl rfl rfl rfl rfl rfl (fun b119 => ?_)
     refine pS3 (ds' := [.v (.string x118.gName), .v (.bool x118.gPtr), .v (.int .i64 x118.gSize), .v (.int .i64 x118.gAt)]) ?_
     refine KP ?_
     refine KaD (d := Ku a0) 1 htab rfl rfl rfl rfl rfl rfl rfl rfl ?_
     refine pu ?_
     refine pL 3 ?_
     obtain ⟨x120, q120, hm⟩ := Kc hm
     refine Kaj (Kcd a0 x118.gName x120 q120) rfl rfl rfl rfl rfl Wl ?_
     rintro _ rfl
     iterate 3 refine pu ?_
     refine Kay htab rfl rfl rfl rfl rfl rfl rfl (fun b121 => ?_)
     refine pS4 (ds' := [.v (.string x120.1.gName), .v (.bool x120.1.gPtr), .v (.int .i64 x120.1.gSize), .v (.int .i64 x120.1.gAt)]) ?_
     refine pu ?_
     refine KP ?_
     refine KaD (d := Ku a1) 2 htab rfl rfl rfl rfl rfl rfl rfl rfl ?_
     refine pu ?_
     refine pL 3 ?_
     obtain ⟨x122, q122, hm⟩ := Kc hm
     refine Kaj (Kcd a1 x118.gName x122 q122) rfl rfl rfl rfl rfl Wl ?_
     rintro _ rfl
     iterate 3 refine pu ?_
     refine Kay htab rfl rfl rfl rfl rfl rfl rfl (fun b123 => ?_)
     refine pS5 (ds' := [.v (.string x122.1.gName), .v (.bool x122.1.gPtr), .v (.int .i64 x122.1.gSize), .v (.int .i64 x122.1.gAt)]) ?_
     refine pu ?_
     refine Ke ?_
     refine Km ?_
     obtain ⟨y126, q126, ho126⟩ := Kc hm
     refine Kah (Y := Unit) (fun z126 => (⟨[(2, .ptr b1 0), (3, .ptr b2 0), (5, .v (SL z85)), (7, .ptr b119 0), (17, .lst 4 (x4.map KJ) (.cur (SL w3))), (18, .v (.int .i64 (x4.length : Int))), (19, .v (.int .i64 s85.2)), (53, .v (.bool y126))], [(0, Blk.row 1 (s85.1.map eStr) (SL z85)), (b1, Blk.cells [.lst 4 (a0.gGlobals.map KJ) .no, .lst 5 (a0.gFuncs.map KA) .no] 25), (b2, Blk.cells [.lst 4 (a1.gGlobals.map KJ) .no, .lst 5 (a1.gFuncs.map KA) .no] 25), (b119, Blk.cells [.v (.string x118.gName), .v (.bool x118.gPtr), .v (.int .i64 x118.gSize), .v (.int .i64 x118.gAt)] 110)], [(4, (SL w3))]⟩ : S)) ?_ ?_
     ·clear hm; have hm := KI q126
      refine Kt ?_
      iterate 4 refine pu ?_
      refine KaE (i := 40) rfl (fun hg127 => ?_) (fun hg127 => ?_)
      ·replace hm := yes_t hg127 hm
       iterate 5 refine pK ?_
       refine Kab rfl rfl rfl rfl rfl rfl ?_
       refine pu ?_
       iterate 5 refine pK ?_
       refine Kab rfl rfl rfl rfl rfl rfl ?_
       refine Kv ?_
       have e126 := Kj hm; subst e126
       refine ⟨rfl, ?_⟩
       exact WkX.of () (WkS.perm (WkS.cons rfl (Wk.refl _) (WkS.cons rfl (Wk.refl _) (WkS.cons rfl (Wk.refl _) (WkS.cons rfl (Wk.refl _) (WkS.cons rfl (Wk.refl _) (WkS.cons rfl (Wk.refl _) (WkS.cons rfl (Wk.refl _) (WkS.cons rfl (Wk.refl _) (WkS.nil))))))))) Pf Pf)
      ·replace hm := yes_f hg127 hm
       refine pu ?_
       refine pL 4 ?_
       refine pu ?_
       refine pL 5 ?_
       refine pu ?_
       refine K9 rfl rfl rfl rfl rfl rfl ?_
       refine pu ?_
       refine KaE (i := 47) rfl (fun hg128 => ?_) (fun hg128 => ?_)
       ·replace hm := yes_t hg128 hm
        iterate 5 refine pK ?_
        refine Kab rfl rfl rfl rfl rfl rfl ?_
        refine Kv ?_
        have e126 := Kj hm; subst e126
        refine ⟨rfl, ?_⟩
        exact WkX.of () (WkS.perm (WkS.cons rfl (Wk.refl _) (WkS.cons rfl (Wk.refl _) (WkS.cons rfl (Wk.refl _) (WkS.cons rfl (Wk.refl _) (WkS.cons rfl (Wk.refl _) (WkS.cons rfl (Wk.refl _) (WkS.cons rfl (Wk.refl _) (WkS.cons rfl (Wk.refl _) (WkS.nil))))))))) Pf Pf)
       ·replace hm := yes_f hg128 hm
        refine pu ?_
        refine pL 4 ?_
        refine pu ?_
        refine pL 5 ?_
        refine pu ?_
        refine K9 rfl rfl rfl rfl rfl rfl ?_
        refine Kv ?_
        have e126 := Kj hm; subst e126
        refine ⟨rfl, ?_⟩
        exact WkX.of () (WkS.perm (WkS.cons rfl (Wk.refl _) (WkS.cons rfl (Wk.refl _) (WkS.cons rfl (Wk.refl _) (WkS.cons rfl (Wk.refl _) (WkS.cons rfl (Wk.refl _) (WkS.cons rfl (Wk.refl _) (WkS.cons rfl (Wk.refl _) (WkS.cons rfl (Wk.refl _) (WkS.nil))))))))) Pf Pf)
     ·intro s126 hw126; clear hm; have hm := ho126; clear q126 ho126
      refine Kb ?_
      refine KV hw126 (fun z126 => ?_)
      refine KC rfl (fun hc129 => ?_) (fun hc129 => ?_)
      ·replace hm := yes_t hc129 hm
       refine Kt ?_
       refine pu ?_
       refine pu ?_
       refine pL 3 ?_
       refine p_lit htab rfl rfl rfl rfl rfl rfl rfl rfl rfl rfl rfl rfl rfl rfl ?_
       refine p_eq (i := 57) (d' := .lst 1 (([x118.gName] : List ByteArray).map eStr) .full) rfl (Wk.lst0 (.cons (WkC.refl _) (.nil))) ?_
       obtain ⟨x130, q130, hm⟩ := Kc hm
       refine Kdp 0 htab rfl rfl rfl rfl rfl rfl rfl rfl rfl rfl rfl rfl rfl rfl rfl rfl (Kal q130) (Kc1 q130) (fun v130 => ?_)
       refine pu ?_
       refine Kv ?_
       refine KM ?_
       refine Kb ?_
       refine Kt ?_
       refine pu ?_
       refine pu ?_
       refine Kv ?_
       refine Kb ⟨_, K0 hm, ?_⟩
       exact WkX.of v130 (WkS.perm (WkS.cons rfl (Wk.refl _) (WkS.cons rfl (Wk.refl _) (WkS.cons rfl (Wk.refl _) (WkS.cons rfl (Wk.refl _) (WkS.cons rfl (Wk.refl _) (WkS.cons rfl (Wk.refl _) (WkS.nil))))))) Pf Pf)
      ·replace hm := yes_f hc129 hm
       refine KB ?_
       refine KM ?_
       refine Kb ?_
       refine Kt ?_
       refine pu ?_
       refine pu ?_
       refine Kv ?_
       refine Kb ⟨_, K0 hm, ?_⟩
       exact WkX.of z85 (WkS.perm (WkS.cons rfl (Wk.refl _) (WkS.cons rfl (Wk.refl _) (WkS.cons rfl (Wk.refl _) (WkS.cons rfl (Wk.refl _) (WkS.cons rfl (Wk.refl _) (WkS.cons rfl (Wk.refl _) (WkS.nil))))))) Pf Pf)
    ·replace hm := yes_f hc117 hm
     refine Kaa ?_
     refine KH ?_
     have e85 := K1 hm; subst e85; clear hm; have hm := hq85
     refine KH ?_
     refine K5 ?_
     have e68 := Kj hm; subst e68
     refine ⟨rfl, ?_⟩
     exact WkX.of z85 (WkS.perm (WkS.cons rfl (Wk.refl _) (WkS.nil)) Pf Pf)
 ·intro s68 hw68; clear hm; have hm := ho68; clear q68 ho68
  refine Kb ?_
  refine KV hw68 (fun z68 => ?_)
  refine Kh ?_
  refine pu ?_
  obtain ⟨x132, q132, hm⟩ := Kc hm
  refine pG (Kcc y68 z68 x132 q132) Wl Pf Pf ?_
  rintro _ _ _ ⟨w131, rfl, rfl, rfl⟩
  refine pu ?_
  refine Ke ?_
  refine KE ?_
  have er133 := Kj hm; subst er133
  refine rP (t' := [(4, .v (SL w131))]) [0] [] 1 (wC wN) (lT lN) ?_
  exact ⟨w131, rfl, rfl, rfl⟩
noncomputable def Kde (a0 : Kw) (a1 : Kw) : Option (KbW) :=
 ((Kc4 a0 a1).bind fun x5 => ((Kcw a0 a1).bind fun x11 => some (⟨x5, x11⟩ : KbW)))
theorem Kib (a0 : Kw) (a1 : Kw) (r : KbW) (h0 : Kde a0 a1 = some r) : CallsD Tryz.prog 17 [Ku a0, Ku a1] [] [] (fun d h k => ∃ y0 y1, d = .agg [.v (SL y0), .v (SL y1)] ∧ h = [(0, Blk.row 1 (r.gFuncs.map eStr) (SL y0)), (0, Blk.row 1 (r.gGlobals.map eStr) (SL y1))] ∧ k = []) := by
 have hm := KI h0
 unfold Kde at hm
 clear h0
 refine K3 htab Tryz.func17 rfl rfl rfl rfl rfl (fun C => ?_)
 refine Kh ?_
 refine p_box rfl rfl rfl rfl rfl rfl rfl (fun b1 => ?_)
 refine p_box rfl rfl rfl rfl rfl rfl rfl (fun b2 => ?_)
 refine Kay htab rfl rfl rfl rfl rfl rfl rfl (fun b3 => ?_)
 refine Ke ?_
 refine Km ?_
 obtain ⟨x5, q5, hm⟩ := Kc hm
 refine wpD_drawsR 5 [] [(2, 1, x5.map eStr)] [[],[],[0,1],[],[]] [0,1,2,3,4] [[],[],[0,1],[],[],[0,1,2,3,4],[0,1,2,3,4,5],[0,1,2,3,4,5,6]] (by kernel_rfl) (by kernel_rfl) (by kernel_rfl) (by rfl) (by rfl) (by kernel_rfl) ?_
 apply Exists.intro
 apply Exists.intro
 refine ⟨.any, ?_⟩
 apply Exists.intro
 apply Exists.intro
 intro bs
 refine zr_eM rfl rfl (Kai (d := Ku a0) 0 htab rfl rfl rfl rfl rfl) rfl rfl rfl rfl rfl rfl rfl ?_
 refine zr_eM rfl rfl (Kai (d := Ku a1) 1 htab rfl rfl rfl rfl rfl) rfl rfl rfl rfl rfl rfl rfl ?_
 refine zr_callR rfl rfl (KgR a0 a1 x5 q5) rfl rfl Wl rfl rfl rfl rfl rfl (by simp) (by simp) ?_
 refine zr_eM rfl rfl (Kai (d := Ku a0) 0 htab rfl rfl rfl rfl rfl) rfl rfl rfl rfl rfl rfl rfl ?_
 refine zr_eM rfl rfl (Kai (d := Ku a1) 1 htab rfl rfl rfl rfl rfl) rfl rfl rfl rfl rfl rfl rfl ?_
 refine zr_nil (fun e he => by simp [isR] at he; subst he; rfl) rfl (by simp only [List.map_cons, List.map_nil, List.nil_append, List.append_nil, List.cons_append]; exact rfl) (fun e he => by simp [isAl] at he) (fun hz => ?_)
 obtain ⟨w9, hw9⟩ := hz 2 rfl
 simp only [hw9]
 clear hz hw9
 obtain ⟨x11, q11, hm⟩ := Kc hm
 refine pG (Kf5 a0 a1 x11 q11) Wl Pf Pf ?_
 rintro _ _ _ ⟨w10, rfl, rfl, rfl⟩
 refine Kb8 (r := [.v (SL w9), .v (SL w10)]) htab rfl rfl rfl rfl rfl rfl rfl rfl rfl ?_
 refine pS3 (ds' := [.v (SL w9), .v (SL w10)]) ?_
 refine Ke ?_
 refine KE ?_
 have er12 := Kj hm; subst er12
 refine rP (t' := [(4, .ptr b3 0)]) [4,0,2] [] 2 (wC wN) (lC 2 lN) ?_
 exact ⟨w9, w10, rfl, rfl, rfl⟩
noncomputable def KcS (a0 : List Kg) : Option (List ByteArray) :=
 ((KdU a0 (⟨[]⟩ : Kq)).bind fun x5 => ((Kbq x5).bind fun x7 => some x7.1))
theorem KhZ (a0 : List Kg) (r : List ByteArray) (h0 : KcS a0 = some r) : CallsD Tryz.prog 33 [.lst 7 (a0.map Kr) .no] [] [] (fun d h k => ∃ y0, d = .v (SL y0) ∧ h = [(0, Blk.row 1 (r.map eStr) (SL y0))] ∧ k = []) := by
 have hm := KI h0
 unfold KcS at hm
 clear h0
 refine K3 htab Tryz.func33 rfl rfl rfl rfl rfl (fun C => ?_)
 refine Kh ?_
 refine pu ?_
 refine KP ?_
 refine Kay htab rfl rfl rfl rfl rfl rfl rfl (fun b1 => ?_)
 refine KP ?_
 refine pu ?_
 refine Kay htab rfl rfl rfl rfl rfl rfl rfl (fun b2 => ?_)
 refine pS1 (ds' := [.fn (.func 54) [] [.ptr b1 0]]) ?_
 refine KP ?_
 iterate 3 refine pu ?_
 refine o_rowC (off := 0) 1 0 rfl rfl (fun w3 => ?_)
 obtain ⟨x5, q5, hm⟩ := Kc hm
 refine pG (Kia a0 (⟨[]⟩ : Kq) b2 93 b1 92 w3 x5 q5) Wl ((KF (j := 2) rfl).trans (List.Perm.cons _ ((KF (j := 1) rfl).trans (List.Perm.cons _ ((KF (j := 0) rfl).trans (List.Perm.cons _ Pf)))))) Pf ?_
 rintro _ _ _ ⟨w4, rfl, rfl, rfl⟩
 refine KP ?_
 obtain ⟨x7, q7, hm⟩ := Kc hm
 refine pG (KeP x5 b1 92 w4 x7 q7) Wl ((KF (j := 1) rfl).trans (List.Perm.cons _ ((KF (j := 1) rfl).trans (List.Perm.cons _ Pf)))) Pf ?_
 rintro _ _ _ ⟨w6, rfl, rfl, rfl⟩
 refine pu ?_
 refine Ke ?_
 refine KE ?_
 have er8 := Kj hm; subst er8
 refine rP (t' := [(2, .v (SL w6))]) [1] [] 1 (wC wN) (lT lN) ?_
 exact ⟨w6, rfl, rfl, rfl⟩
noncomputable def KaT (a0 : List ByteArray) (m0 : List ByteArray) : Option (Int × List ByteArray) :=
 (Option.bind (α := (List ByteArray) ⊕ (Int × List ByteArray)) (loopM (fun (s25 : Int × List ByteArray) => (bif (decide (s25.1 < (a0.length : Int))) then ((idx a0 s25.1).bind fun x44 => ((Kb4 x44 s25.2).bind fun x45 => (bif x45 then some (.done (.inr (s25.1, s25.2))) else some (.next ((IntKind.i64.wrap (s25.1 + (1 : Int))), s25.2))))) else some (.done (.inl s25.2)))) ((0 : Int), m0)) (Sum.elim (fun y24 => some ((-1 : Int), y24)) (fun r => some r)))
theorem Kc5 (a0 : List ByteArray) (m0 : List ByteArray) (o0 : Nat) (T0 : TypeId) (z0_0 : Z3) (r : Int × List ByteArray) (h0 : KaT a0 m0 = some r) : CallsD Tryz.prog 60 [.lst 1 (a0.map eStr) .no, .fn (.func 35) [] [.ptr o0 0]] [(o0, Blk.cells [.v (SL z0_0)] T0), (0, Blk.row 1 (m0.map eStr) (SL z0_0))] [] (fun d h k => ∃ y0, d = .v (.int .i64 r.1) ∧ h = [(o0, Blk.cells [.lst 1 (r.2.map eStr) (.cur y0)] T0)] ∧ k = [(1, y0)]) := by
 have hm := KI h0
 unfold KaT at hm
 clear h0
 refine K3 htab Tryz.func60 rfl rfl rfl rfl rfl (fun C => ?_)
 refine Kh ?_
 refine pu ?_
 refine Ke ?_
 refine Km ?_
 refine Kh ?_
 refine pu ?_
 refine Kag htab rfl rfl rfl rfl rfl rfl rfl (by first | exact KY | rfl) ?_
 refine pu ?_
 refine Ke ?_
 obtain ⟨x24, q24, ho24⟩ := Kc hm
 refine Kbi (τ := List ByteArray) (Y := Value) (fun y24 z24 => (⟨[], [(o0, Blk.cells [.lst 1 (y24.map eStr) (.cur z24)] T0)], [(1, z24)]⟩ : S)) x24 ?_ ?_
 ·clear hm; have hm := KI q24
  refine KG ?_
  obtain ⟨u25, hl25, hq25⟩ := yes_m hm
  refine Kao (Y := Value) hl25 (fun s25 z25 => (⟨[(0, .lst 1 (a0.map eStr) .no), (1, .fn (.func 35) [] [.ptr o0 0]), (7, .v (.int .i64 (a0.length : Int))), (8, .v (.int .i64 s25.1))], [(o0, Blk.cells [.lst 1 (s25.2.map eStr) (.cur z25)] T0)], [(1, z25)]⟩ : S)) ?_ ?_
  ·skip
   refine WkX.wk (WkS.frz 1 rfl rfl) ?_
   refine WkX.wk (WkS.tldC (off := 0) 0 1 rfl rfl rfl rfl) ?_
   refine WkX.wk (WkS.drop 1 rfl) ?_
   exact WkX.of (SL z0_0) (WkS.perm (WkS.cons rfl (Wk.refl _) (WkS.cons rfl (Wk.refl _) (WkS.cons rfl (Wk.refl _) (WkS.cons rfl (Wk.refl _) (WkS.nil))))) Pf Pf)
  ·intro G25 s25 z25 hm
   refine Kh ?_
   refine pu ?_
   refine Ke ?_
   refine Km ?_
   refine KC rfl (fun hc43 => ?_) (fun hc43 => ?_)
   ·replace hm := yes_t hc43 hm
    refine KB ?_
    refine Kb ?_
    refine Km ?_
    refine KG ?_
    refine Kh ?_
    refine pu ?_
    refine pu ?_
    refine KP ?_
    iterate 3 refine pu ?_
    obtain ⟨x44, q44, hm⟩ := Kc hm
    refine Kad htab rfl rfl rfl rfl rfl rfl rfl rfl rfl rfl (Kd q44) (Kk q44) ?_
    refine KW htab rfl rfl rfl rfl rfl rfl rfl rfl ?_
    obtain ⟨x45, q45, hm⟩ := Kc hm
    refine KcC (Kf4 x44 s25.2 o0 T0 (.cur z25) x45 q45) rfl rfl rfl rfl rfl rfl rfl Wl Pf Pf ?_
    rintro _ _ _ ⟨rfl, rfl, rfl⟩
    refine Ke ?_
    refine KC rfl (fun hc46 => ?_) (fun hc46 => ?_)
    ·replace hm := yes_t hc46 hm
     refine Kh ?_
     refine pu ?_
     refine pu ?_
     refine Ke ?_
     refine KE ?_
     refine Kan ?_
     refine KS ?_
     have e25 := K1 hm; subst e25; clear hm; have hm := hq25
     refine KS ?_
     refine Kan ?_
     have e24 := Kj hm; subst e24; refine Kbk ?_; clear hm; have hm := ho24; simp only [Sum.elim_inr] at hm
     refine KS ?_
     have er47 := Kj hm; subst er47
     refine rP (t' := [(4, .v (.int .i64 s25.1))]) [0] [0] 1 (wC wN) (lT lN) ?_
     exact ⟨z25, rfl, rfl, rfl⟩
    ·replace hm := yes_f hc46 hm
     refine KB ?_
     refine KM ?_
     refine Kb ?_
     refine Kt ?_
     refine pu ?_
     refine pu ?_
     refine Kv ?_
     refine Kb ⟨_, K0 hm, ?_⟩
     exact WkX.of z25 (WkS.perm (WkS.cons rfl (Wk.refl _) (WkS.cons rfl (Wk.refl _) (WkS.cons rfl (Wk.refl _) (WkS.cons rfl (Wk.refl _) (WkS.nil))))) Pf Pf)
   ·replace hm := yes_f hc43 hm
    refine Kaa ?_
    refine KH ?_
    have e25 := K1 hm; subst e25; clear hm; have hm := hq25
    refine KH ?_
    refine K5 ?_
    have e24 := Kj hm; subst e24
    refine Kbj ?_
    exact WkX.of z25 (WkS.perm (WkS.nil) Pf Pf)
 ·intro y24 s24 hx24 hw24; subst hx24; clear hm; have hm := ho24; simp only [Sum.elim_inl] at hm; clear q24 ho24
  refine Kb ?_
  refine KV hw24 (fun z24 => ?_)
  refine Kh ?_
  refine pu ?_
  refine Ke ?_
  refine KE ?_
  have er48 := Kj hm; subst er48
  refine rP (t' := [(4, .v (.int .i64 (-1 : Int)))]) [0] [0] 1 (wC wN) (lT lN) ?_
  exact ⟨z24, rfl, rfl, rfl⟩
noncomputable def KaF (a0 : List ByteArray) (m0 : List ByteArray) : Option (Bool × List ByteArray) :=
 ((KaT a0 m0).bind fun x2 => some ((decide ((0 : Int) ≤ x2.1)), x2.2))
theorem KcI (a0 : List ByteArray) (m0 : List ByteArray) (o0 : Nat) (T0 : TypeId) (z0_0 : Z3) (r : Bool × List ByteArray) (h0 : KaF a0 m0 = some r) : CallsD Tryz.prog 34 [.lst 1 (a0.map eStr) .no, .fn (.func 35) [] [.ptr o0 0]] [(o0, Blk.cells [.v (SL z0_0)] T0), (0, Blk.row 1 (m0.map eStr) (SL z0_0))] [] (fun d h k => ∃ y0, d = .v (.bool r.1) ∧ h = [(o0, Blk.cells [.lst 1 (r.2.map eStr) (.cur y0)] T0)] ∧ k = [(1, y0)]) := by
 have hm := KI h0
 unfold KaF at hm
 clear h0
 refine K3 htab Tryz.func34 rfl rfl rfl rfl rfl (fun C => ?_)
 refine Kh ?_
 refine pu ?_
 refine KP ?_
 refine pu ?_
 refine pu ?_
 obtain ⟨x2, q2, hm⟩ := Kc hm
 refine pG (Kc5 a0 m0 o0 T0 z0_0 x2 q2) Wl Pf Pf ?_
 rintro _ _ _ ⟨w1, rfl, rfl, rfl⟩
 refine pu ?_
 refine pu ?_
 refine Ke ?_
 refine KE ?_
 have er3 := Kj hm; subst er3
 refine rP (t' := [(4, .v (.bool (decide ((0 : Int) ≤ x2.1))))]) [0] [0] 1 (wC wN) (lT lN) ?_
 exact ⟨w1, rfl, rfl, rfl⟩
noncomputable def Kb1 (a0 : Kw) (a1 : Kw) : Option (List ByteArray) :=
 ((Kde a0 a1).bind fun x5 => ((Kar ([a0.gFuncs, a1.gFuncs] : List (List KQ))).bind fun x8 => (Option.bind (α := List ByteArray) (loopM (fun (s79 : Int × List ByteArray) => (bif (decide (s79.1 < (x8.length : Int))) then ((idx x8 s79.1).bind fun x114 => ((KcS x114.gBody).bind fun x117 => ((KaF x5.gGlobals x117).bind fun x120 => (bif x120.1 then ((app 16 s79.2 ([x114.gName] : List ByteArray)).bind fun x122 => some (.next ((IntKind.i64.wrap (s79.1 + (1 : Int))), x122))) else some (.next ((IntKind.i64.wrap (s79.1 + (1 : Int))), s79.2)))))) else some (.done s79.2))) ((0 : Int), x5.gFuncs)) fun y66 => ((Kbv y66).bind fun x124 => some x124))))
theorem KgS (a0 : Kw) (a1 : Kw) (r : List ByteArray) (h0 : Kb1 a0 a1 = some r) : CallsD Tryz.prog 16 [Ku a0, Ku a1] [] [] (fun d h k => ∃ y0, d = .lst 1 (r.map eStr) (.cur y0) ∧ h = [] ∧ k = [(1, y0)]) := by
 have hm := KI h0
 unfold Kb1 at hm
 clear h0
 refine K3 htab Tryz.func16 rfl rfl rfl rfl rfl (fun C => ?_)
 refine Kh ?_
 refine p_box rfl rfl rfl rfl rfl rfl rfl (fun b1 => ?_)
 refine p_box rfl rfl rfl rfl rfl rfl rfl (fun b2 => ?_)
 refine pu ?_
 refine KP ?_
 refine KaD (d := Ku a0) 0 htab rfl rfl rfl rfl rfl rfl rfl rfl ?_
 refine KaD (d := Ku a1) 1 htab rfl rfl rfl rfl rfl rfl rfl rfl ?_
 obtain ⟨x5, q5, hm⟩ := Kc hm
 refine pG (Kib a0 a1 x5 q5) Wl Pf Pf ?_
 rintro _ _ _ ⟨w3, w4, rfl, rfl, rfl⟩
 refine Kay htab rfl rfl rfl rfl rfl rfl rfl (fun b6 => ?_)
 refine pS4 (ds' := [.v (SL w3), .v (SL w4)]) ?_
 refine KP ?_
 refine pu ?_
 refine pL 4 ?_
 refine pu ?_
 refine Ke ?_
 refine Km ?_
 refine Kh ?_
 refine pu ?_
 refine pL 2 ?_
 refine pu ?_
 refine pL 3 ?_
 refine p_lit htab rfl rfl rfl rfl rfl rfl rfl rfl rfl rfl rfl rfl rfl rfl ?_
 refine p_eq (i := 19) (d' := .lst 1 (([a0.gFuncs, a1.gFuncs] : List (List KQ)).map (eList 5 KA)) .full) rfl (Wk.lst0 (.cons (WkC.refl _) (.cons (WkC.refl _) (.nil)))) ?_
 obtain ⟨x8, q8, hm⟩ := Kc hm
 refine Kby (KaY ([a0.gFuncs, a1.gFuncs] : List (List KQ)) x8 q8) rfl rfl rfl rfl rfl (WkL.cons (Wk.no) Wl) Pf Pf ?_
 rintro _ _ _ ⟨w7, rfl, rfl, rfl⟩
 refine p_lenR 0 htab rfl rfl rfl rfl rfl rfl rfl rfl (by first | exact KY | rfl) ?_
 refine pu ?_
 refine Ke ?_
 obtain ⟨y66, q66, ho66⟩ := Kc hm
 refine Kah (Y := Z3) (fun z66 => (⟨[(6, .v (SL z66))], [(0, Blk.row 1 (y66.map eStr) (SL z66))], []⟩ : S)) ?_ ?_
 ·clear hm; have hm := KI q66
  refine KG ?_
  refine KV (Y := Unit) (S1 := fun _ => (⟨[(5, .ptr b6 0), (6, .v (SL w3)), (20, .lst 5 (x8.map KA) (.cur (SL w7))), (21, .v (.int .i64 (x8.length : Int))), (22, .v (.int .i64 (0 : Int)))], [(0, Blk.row 1 (x5.gFuncs.map eStr) (SL w3)), (b1, Blk.cells [.lst 4 (a0.gGlobals.map KJ) .no, .lst 5 (a0.gFuncs.map KA) .no] 25), (b2, Blk.cells [.lst 4 (a1.gGlobals.map KJ) .no, .lst 5 (a1.gFuncs.map KA) .no] 25), (b6, Blk.cells [.v (SL w3), .lst 1 (x5.gGlobals.map eStr) (.cur (SL w4))] 50)], [(5, (SL w7)), (1, (SL w4))]⟩ : S)) ?_ (fun _ => ?_)
  ·skip
   refine WkX.wk (WkS.frz 0 rfl rfl) ?_
   refine WkX.wk (WkS.tld 20 0 rfl rfl) ?_
   refine WkX.wk (WkS.drop 0 rfl) ?_
   refine WkX.wk (WkS.frz 1 rfl rfl) ?_
   refine WkX.wk (WkS.tldC (off := 1) 4 1 rfl rfl rfl rfl) ?_
   refine WkX.wk (WkS.drop 1 rfl) ?_
   exact WkX.of () (WkS.perm (WkS.cons rfl (Wk.refl _) (WkS.cons rfl (Wk.refl _) (WkS.cons rfl (Wk.refl _) (WkS.cons rfl (Wk.refl _) (WkS.cons rfl (Wk.refl _) (WkS.nil)))))) Pf ((KF (j := 1) rfl).trans (List.Perm.cons _ ((KF (j := 0) rfl).trans (List.Perm.cons _ Pf)))))
  ·skip
   obtain ⟨u79, hl79, hq79⟩ := yes_m hm
   refine Kao (Y := Z3) hl79 (fun s79 z79 => (⟨[(5, .ptr b6 0), (6, .v (SL z79)), (20, .lst 5 (x8.map KA) (.cur (SL w7))), (21, .v (.int .i64 (x8.length : Int))), (22, .v (.int .i64 s79.1))], [(0, Blk.row 1 (s79.2.map eStr) (SL z79)), (b6, Blk.cells [.any, .lst 1 (x5.gGlobals.map eStr) (.cur (SL w4))] 50)], [(5, (SL w7)), (1, (SL w4))]⟩ : S)) ?_ ?_
   ·skip
    refine WkX.wk (WkS.bl3 (ds' := [.any, .lst 1 (x5.gGlobals.map eStr) (.cur (SL w4))]) (WkR.cons (WkC.any) rfl (rC WkR.nil))) ?_
    exact WkX.of w3 (WkS.perm (WkS.cons rfl (Wk.refl _) (WkS.cons rfl (Wk.refl _) (WkS.cons rfl (Wk.refl _) (WkS.cons rfl (Wk.refl _) (WkS.cons rfl (Wk.refl _) (WkS.nil)))))) ((KF (j := 0) rfl).trans (List.Perm.cons _ ((KF (j := 2) rfl).trans (List.Perm.cons _ Pf)))) Pf)
   ·intro G79 s79 z79 hm
    refine Kh ?_
    refine pu ?_
    refine Ke ?_
    refine Km ?_
    refine KC rfl (fun hc113 => ?_) (fun hc113 => ?_)
    ·replace hm := yes_t hc113 hm
     refine KB ?_
     refine Kb ?_
     refine Km ?_
     refine KG ?_
     refine Kh ?_
     obtain ⟨x114, q114, hm⟩ := Kc hm
     refine Kad htab rfl rfl rfl rfl rfl rfl rfl rfl rfl rfl (Kd q114) (Kk q114) ?_
     refine KW (d := KA x114) htab rfl rfl rfl rfl rfl rfl rfl rfl ?_
     refine Kay htab rfl rfl rfl rfl rfl rfl rfl (fun b115 => ?_)
     refine pS2 (ds' := [.v (.string x114.gName), .lst 2 (x114.gParams.map Kaf) .no, .lst 2 (x114.gLocals.map Kaf) .no, .lst 7 (x114.gBody.map Kr) .no, .v (.int .i64 x114.gAt)]) ?_
     refine KP ?_
     refine pu ?_
     refine pL 2 ?_
     obtain ⟨x117, q117, hm⟩ := Kc hm
     refine pG (KhZ x114.gBody x117 q117) Wl Pf Pf ?_
     rintro _ _ _ ⟨w116, rfl, rfl, rfl⟩
     refine Kay htab rfl rfl rfl rfl rfl rfl rfl (fun b118 => ?_)
     refine pS4 (ds' := [.v (SL w116)]) ?_
     refine KP ?_
     refine pu ?_
     refine pL 2 ?_
     refine pu ?_
     obtain ⟨x120, q120, hm⟩ := Kc hm
     refine Kby (KcI x5.gGlobals x117 b118 47 w116 x120 q120) rfl rfl rfl rfl rfl (WkL.cons (Wk.no) (WkL.cons (Wk.refl _) Wl)) ((KF (j := 4) rfl).trans (List.Perm.cons _ ((KF (j := 0) rfl).trans (List.Perm.cons _ Pf)))) Pf ?_
     rintro _ _ _ ⟨w119, rfl, rfl, rfl⟩
     refine Ke ?_
     refine KC rfl (fun hc121 => ?_) (fun hc121 => ?_)
     ·replace hm := yes_t hc121 hm
      refine Kt ?_
      refine pu ?_
      refine pu ?_
      refine pL 3 ?_
      refine p_lit htab rfl rfl rfl rfl rfl rfl rfl rfl rfl rfl rfl rfl rfl rfl ?_
      refine p_eq (i := 36) (d' := .lst 1 (([x114.gName] : List ByteArray).map eStr) .full) rfl (Wk.lst0 (.cons (WkC.refl _) (.nil))) ?_
      obtain ⟨x122, q122, hm⟩ := Kc hm
      refine Kdp 1 htab rfl rfl rfl rfl rfl rfl rfl rfl rfl rfl rfl rfl rfl rfl rfl rfl (Kal q122) (Kc1 q122) (fun v122 => ?_)
      refine pu ?_
      refine Kv ?_
      refine KM ?_
      refine Kb ?_
      refine Kt ?_
      refine pu ?_
      refine pu ?_
      refine Kv ?_
      refine Kb ⟨_, K0 hm, ?_⟩
      exact WkX.of v122 (WkS.perm (WkS.cons rfl (Wk.refl _) (WkS.cons rfl (Wk.refl _) (WkS.cons rfl (Wk.refl _) (WkS.cons rfl (Wk.refl _) (WkS.cons rfl (Wk.refl _) (WkS.nil)))))) ((KF (j := 1) rfl).trans (List.Perm.cons _ ((KF (j := 1) rfl).trans (List.Perm.cons _ Pf)))) ((KF (j := 1) rfl).trans (List.Perm.cons _ ((KF (j := 1) rfl).trans (List.Perm.cons _ Pf)))))
     ·replace hm := yes_f hc121 hm
      refine KB ?_
      refine KM ?_
      refine Kb ?_
      refine Kt ?_
      refine pu ?_
      refine pu ?_
      refine Kv ?_
      refine Kb ⟨_, K0 hm, ?_⟩
      exact WkX.of z79 (WkS.perm (WkS.cons rfl (Wk.refl _) (WkS.cons rfl (Wk.refl _) (WkS.cons rfl (Wk.refl _) (WkS.cons rfl (Wk.refl _) (WkS.cons rfl (Wk.refl _) (WkS.nil)))))) ((KF (j := 1) rfl).trans (List.Perm.cons _ ((KF (j := 1) rfl).trans (List.Perm.cons _ Pf)))) ((KF (j := 1) rfl).trans (List.Perm.cons _ ((KF (j := 1) rfl).trans (List.Perm.cons _ Pf)))))
    ·replace hm := yes_f hc113 hm
     refine Kaa ?_
     refine KH ?_
     have e79 := K1 hm; subst e79; clear hm; have hm := hq79
     refine KH ?_
     refine K5 ?_
     have e66 := Kj hm; subst e66
     refine ⟨rfl, ?_⟩
     exact WkX.of z79 (WkS.perm (WkS.cons rfl (Wk.refl _) (WkS.nil)) Pf Pf)
 ·intro s66 hw66; clear hm; have hm := ho66; clear q66 ho66
  refine Kb ?_
  refine KV hw66 (fun z66 => ?_)
  refine Kh ?_
  refine pu ?_
  obtain ⟨x124, q124, hm⟩ := Kc hm
  refine pG (Kcc y66 z66 x124 q124) Wl Pf Pf ?_
  rintro _ _ _ ⟨w123, rfl, rfl, rfl⟩
  refine pu ?_
  refine Ke ?_
  refine KE ?_
  have er125 := Kj hm; subst er125
  refine retX.wk (WkS.frz 0 rfl rfl) ?_
  refine retX.wk (WkS.tld 4 0 rfl rfl) ?_
  refine retX.wk (WkS.tld 40 0 rfl rfl) ?_
  refine retX.wk (WkS.drop 0 rfl) ?_
  refine rP (t' := [(4, .lst 1 (x124.map eStr) (.cur (SL w123)))]) [] [0] 0 (wC wN) (lT lN) ?_
  exact ⟨(SL w123), rfl, rfl, rfl⟩
theorem Kgl (a0 : Kw) (a1 : Kw) (r : List ByteArray) (h0 : Kb1 a0 a1 = some r) : CallsD Tryz.prog 16 [Ku a0, Ku a1] [] [] (fun d h k => d = .lst 1 (r.map eStr) .no ∧ h = [] ∧ k = []) :=
 (KgS a0 a1 r h0).drop fun d h k ⟨y0, e, _, _⟩ => by subst e; exact Wk.no
noncomputable def Kes (a0 : Kw) (a1 : Bool) : Option (List ByteArray) :=
 (bif a1 then (Option.bind (α := List ByteArray) (loopM (fun (s46 : List ByteArray × Int) => (bif (decide (s46.2 < (a0.gFuncs.length : Int))) then ((idx a0.gFuncs s46.2).bind fun x57 => ((app 16 s46.1 ([x57.gName] : List ByteArray)).bind fun x58 => some (.next (x58, (IntKind.i64.wrap (s46.2 + (1 : Int))))))) else some (.done s46.1))) (([] : List ByteArray), (0 : Int))) fun y45 => some y45) else (Option.bind (α := List ByteArray) (loopM (fun (s75 : List ByteArray × Int) => (bif (decide (s75.2 < (a0.gGlobals.length : Int))) then ((idx a0.gGlobals s75.2).bind fun x86 => ((app 16 s75.1 ([x86.gName] : List ByteArray)).bind fun x87 => some (.next (x87, (IntKind.i64.wrap (s75.2 + (1 : Int))))))) else some (.done s75.1))) (([] : List ByteArray), (0 : Int))) fun y74 => some y74))
theorem Kh0 (a0 : Kw) (a1 : Bool) (r : List ByteArray) (h0 : Kes a0 a1 = some r) : CallsD Tryz.prog 45 [Ku a0, .v (.bool a1)] [] [] (fun d h k => ∃ y0, d = .lst 1 (r.map eStr) (.cur y0) ∧ h = [] ∧ k = [(1, y0)]) := by
 have hm := KI h0
 unfold Kes at hm
 clear h0
 refine K3 htab Tryz.func45 rfl rfl rfl rfl rfl (fun C => ?_)
 refine Kh ?_
 refine p_box rfl rfl rfl rfl rfl rfl rfl (fun b1 => ?_)
 refine pu ?_
 refine KP ?_
 refine pu ?_
 refine Ke ?_
 refine Km ?_
 refine Kh ?_
 refine pu ?_
 refine Ke ?_
 refine KC rfl (fun hc31 => ?_) (fun hc31 => ?_)
 ·replace hm := yes_t hc31 hm
  refine Km ?_
  refine Kh ?_
  refine pu ?_
  refine Ke ?_
  obtain ⟨y45, q45, ho45⟩ := Kc hm
  refine Kah (Y := Value) (fun z45 => (⟨[(5, .lst 1 (y45.map eStr) (.cur z45))], [], [(1, z45)]⟩ : S)) ?_ ?_
  ·clear hm; have hm := KI q45
   refine KG ?_
   obtain ⟨u46, hl46, hq46⟩ := yes_m hm
   refine Kao (Y := Value) hl46 (fun s46 z46 => (⟨[(2, .ptr b1 0), (5, .lst 1 (s46.1.map eStr) (.cur z46)), (6, .v (.int .i64 s46.2))], [(b1, Blk.cells [.lst 4 (a0.gGlobals.map KJ) .no, .lst 5 (a0.gFuncs.map KA) .no] 25)], [(1, z46)]⟩ : S)) ?_ ?_
   ·skip
    refine WkX.tokN (i := 5) 1 rfl (fun w55 => ?_)
    exact WkX.of w55 (WkS.perm (WkS.cons rfl (Wk.refl _) (WkS.cons rfl (Wk.refl _) (WkS.cons rfl (Wk.refl _) (WkS.nil)))) Pf Pf)
   ·intro G46 s46 z46 hm
    refine Km ?_
    refine Kh ?_
    refine pu ?_
    refine pu ?_
    refine pL 0 ?_
    refine Kag htab rfl rfl rfl rfl rfl rfl rfl (by first | exact KY | rfl) ?_
    refine pu ?_
    refine Ke ?_
    refine KC rfl (fun hc56 => ?_) (fun hc56 => ?_)
    ·replace hm := yes_t hc56 hm
     refine KB ?_
     refine Kb ?_
     refine Km ?_
     refine KG ?_
     refine Kt ?_
     refine pu ?_
     refine pu ?_
     refine pL 0 ?_
     refine pu ?_
     obtain ⟨x57, q57, hm⟩ := Kc hm
     refine Kad htab rfl rfl rfl rfl rfl rfl rfl rfl rfl rfl (Kd q57) (Kk q57) ?_
     refine pu ?_
     refine KW htab rfl rfl rfl rfl rfl rfl rfl rfl ?_
     refine p_lit htab rfl rfl rfl rfl rfl rfl rfl rfl rfl rfl rfl rfl rfl rfl ?_
     refine p_eq (i := 23) (d' := .lst 1 (([x57.gName] : List ByteArray).map eStr) .full) rfl (Wk.lst0 (.cons (WkC.refl _) (.nil))) ?_
     obtain ⟨x58, q58, hm⟩ := Kc hm
     refine Ka4 0 htab rfl rfl rfl rfl rfl rfl rfl rfl rfl rfl rfl rfl rfl rfl rfl rfl rfl (Kal q58) (fun v58 => ?_)
     refine Ka5 (i := 24) q58 rfl ?_
     refine pu ?_
     refine Kv ?_
     refine KM ?_
     refine Kb ?_
     refine Kt ?_
     iterate 3 refine pu ?_
     refine Kv ?_
     refine Kb ⟨_, K0 hm, ?_⟩
     exact WkX.of v58 (WkS.perm (WkS.cons rfl (Wk.refl _) (WkS.cons rfl (Wk.refl _) (WkS.cons rfl (Wk.refl _) (WkS.nil)))) Pf Pf)
    ·replace hm := yes_f hc56 hm
     refine Kaa ?_
     refine KH ?_
     have e46 := K1 hm; subst e46; clear hm; have hm := hq46
     refine KH ?_
     refine K5 ?_
     have e45 := Kj hm; subst e45
     refine ⟨rfl, ?_⟩
     exact WkX.of z46 (WkS.perm (WkS.cons rfl (Wk.refl _) (WkS.nil)) Pf Pf)
  ·intro s45 hw45; clear hm; have hm := ho45; clear q45 ho45
   refine Kb ?_
   refine KV hw45 (fun z45 => ?_)
   refine Kh ?_
   refine pu ?_
   refine pu ?_
   refine Ke ?_
   refine KE ?_
   refine KS ?_
   have er59 := Kj hm; subst er59
   refine rP (t' := [(4, .lst 1 (y45.map eStr) (.cur z45))]) [] [0] 0 (wC wN) (lT lN) ?_
   exact ⟨z45, rfl, rfl, rfl⟩
 ·replace hm := yes_f hc31 hm
  refine KB ?_
  refine Kb ?_
  refine Km ?_
  refine Kh ?_
  refine pu ?_
  refine Ke ?_
  obtain ⟨y74, q74, ho74⟩ := Kc hm
  refine Kah (Y := Value) (fun z74 => (⟨[(5, .lst 1 (y74.map eStr) (.cur z74))], [], [(1, z74)]⟩ : S)) ?_ ?_
  ·clear hm; have hm := KI q74
   refine KG ?_
   obtain ⟨u75, hl75, hq75⟩ := yes_m hm
   refine Kao (Y := Value) hl75 (fun s75 z75 => (⟨[(2, .ptr b1 0), (5, .lst 1 (s75.1.map eStr) (.cur z75)), (7, .v (.int .i64 s75.2))], [(b1, Blk.cells [.lst 4 (a0.gGlobals.map KJ) .no, .lst 5 (a0.gFuncs.map KA) .no] 25)], [(1, z75)]⟩ : S)) ?_ ?_
   ·skip
    refine WkX.tokN (i := 5) 1 rfl (fun w84 => ?_)
    exact WkX.of w84 (WkS.perm (WkS.cons rfl (Wk.refl _) (WkS.cons rfl (Wk.refl _) (WkS.cons rfl (Wk.refl _) (WkS.nil)))) Pf Pf)
   ·intro G75 s75 z75 hm
    refine Km ?_
    refine Kh ?_
    refine pu ?_
    refine pu ?_
    refine pL 0 ?_
    refine Kag htab rfl rfl rfl rfl rfl rfl rfl (by first | exact KY | rfl) ?_
    refine pu ?_
    refine Ke ?_
    refine KC rfl (fun hc85 => ?_) (fun hc85 => ?_)
    ·replace hm := yes_t hc85 hm
     refine KB ?_
     refine Kb ?_
     refine Km ?_
     refine KG ?_
     refine Kt ?_
     refine pu ?_
     refine pu ?_
     refine pL 0 ?_
     refine pu ?_
     obtain ⟨x86, q86, hm⟩ := Kc hm
     refine Kad htab rfl rfl rfl rfl rfl rfl rfl rfl rfl rfl (Kd q86) (Kk q86) ?_
     refine pu ?_
     refine KW htab rfl rfl rfl rfl rfl rfl rfl rfl ?_
     refine p_lit htab rfl rfl rfl rfl rfl rfl rfl rfl rfl rfl rfl rfl rfl rfl ?_
     refine p_eq (i := 40) (d' := .lst 1 (([x86.gName] : List ByteArray).map eStr) .full) rfl (Wk.lst0 (.cons (WkC.refl _) (.nil))) ?_
     obtain ⟨x87, q87, hm⟩ := Kc hm
     refine Ka4 0 htab rfl rfl rfl rfl rfl rfl rfl rfl rfl rfl rfl rfl rfl rfl rfl rfl rfl (Kal q87) (fun v87 => ?_)
     refine Ka5 (i := 41) q87 rfl ?_
     refine pu ?_
     refine Kv ?_
     refine KM ?_
     refine Kb ?_
     refine Kt ?_
     iterate 3 refine pu ?_
     refine Kv ?_
     refine Kb ⟨_, K0 hm, ?_⟩
     exact WkX.of v87 (WkS.perm (WkS.cons rfl (Wk.refl _) (WkS.cons rfl (Wk.refl _) (WkS.cons rfl (Wk.refl _) (WkS.nil)))) Pf Pf)
    ·replace hm := yes_f hc85 hm
     refine Kaa ?_
     refine KH ?_
     have e75 := K1 hm; subst e75; clear hm; have hm := hq75
     refine KH ?_
     refine K5 ?_
     have e74 := Kj hm; subst e74
     refine ⟨rfl, ?_⟩
     exact WkX.of z75 (WkS.perm (WkS.cons rfl (Wk.refl _) (WkS.nil)) Pf Pf)
  ·intro s74 hw74; clear hm; have hm := ho74; clear q74 ho74
   refine Kb ?_
   refine KV hw74 (fun z74 => ?_)
   refine Kh ?_
   refine pu ?_
   refine pu ?_
   refine Ke ?_
   refine KE ?_
   have er88 := Kj hm; subst er88
   refine rP (t' := [(4, .lst 1 (y74.map eStr) (.cur z74))]) [] [0] 0 (wC wN) (lT lN) ?_
   exact ⟨z74, rfl, rfl, rfl⟩
noncomputable def KdL (a0 : Kw) (a1 : ByteArray) : Option (Int) :=
 (Option.bind (α := (Unit) ⊕ (Int)) (loopM (fun (s16 : Int) => (bif (decide (s16 < (a0.gFuncs.length : Int))) then ((idx a0.gFuncs s16).bind fun x26 => (bif (decide (x26.gName = a1)) then some (.done (.inr s16)) else some (.next (IntKind.i64.wrap (s16 + (1 : Int)))))) else some (.done (.inl ())))) (0 : Int)) (Sum.elim (fun y15 => some (-1 : Int)) (fun r => some r)))
theorem Kg4 (a0 : Kw) (a1 : ByteArray) (r : Int) (h0 : KdL a0 a1 = some r) : CallsD Tryz.prog 71 [Ku a0, .v (.string a1)] [] [] (fun d h k => d = .v (.int .i64 r) ∧ h = [] ∧ k = []) := by
 have hm := KI h0
 unfold KdL at hm
 clear h0
 refine K3 htab Tryz.func71 rfl rfl rfl rfl rfl (fun C => ?_)
 refine Kh ?_
 refine p_box rfl rfl rfl rfl rfl rfl rfl (fun b1 => ?_)
 refine pu ?_
 refine Ke ?_
 refine Km ?_
 refine Kh ?_
 refine pu ?_
 refine Ke ?_
 obtain ⟨x15, q15, ho15⟩ := Kc hm
 refine Kbi (τ := Unit) (Y := Unit) (fun y15 z15 => (⟨[], [], []⟩ : S)) x15 ?_ ?_
 ·clear hm; have hm := KI q15
  refine KG ?_
  obtain ⟨u16, hl16, hq16⟩ := yes_m hm
  refine Kao (Y := Unit) hl16 (fun s16 z16 => (⟨[(1, .v (.string a1)), (2, .ptr b1 0), (5, .v (.int .i64 s16))], [(b1, Blk.cells [.lst 4 (a0.gGlobals.map KJ) .no, .lst 5 (a0.gFuncs.map KA) .no] 25)], []⟩ : S)) ?_ ?_
  ·skip
   exact WkX.of () (WkS.perm (WkS.cons rfl (Wk.refl _) (WkS.cons rfl (Wk.refl _) (WkS.cons rfl (Wk.refl _) (WkS.nil)))) Pf Pf)
  ·intro G16 s16 z16 hm
   refine Km ?_
   refine Kh ?_
   refine pu ?_
   refine pu ?_
   refine pL 0 ?_
   refine Kag htab rfl rfl rfl rfl rfl rfl rfl (by first | exact KY | rfl) ?_
   refine pu ?_
   refine Ke ?_
   refine KC rfl (fun hc25 => ?_) (fun hc25 => ?_)
   ·replace hm := yes_t hc25 hm
    refine KB ?_
    refine Kb ?_
    refine Km ?_
    refine KG ?_
    refine Kh ?_
    refine pu ?_
    refine pL 0 ?_
    refine pu ?_
    obtain ⟨x26, q26, hm⟩ := Kc hm
    refine Kad htab rfl rfl rfl rfl rfl rfl rfl rfl rfl rfl (Kd q26) (Kk q26) ?_
    refine pu ?_
    refine KW htab rfl rfl rfl rfl rfl rfl rfl rfl ?_
    refine pu ?_
    refine pu ?_
    refine Ke ?_
    refine KC rfl (fun hc27 => ?_) (fun hc27 => ?_)
    ·replace hm := yes_t hc27 hm
     refine Kh ?_
     refine pu ?_
     refine pu ?_
     refine Ke ?_
     refine KE ?_
     refine Kan ?_
     refine KS ?_
     have e16 := K1 hm; subst e16; clear hm; have hm := hq16
     refine KS ?_
     refine Kan ?_
     have e15 := Kj hm; subst e15; refine Kbk ?_; clear hm; have hm := ho15; simp only [Sum.elim_inr] at hm
     refine KS ?_
     have er28 := Kj hm; subst er28
     refine rP (t' := [(4, .v (.int .i64 s16))]) [] [] 0 (wC wN) (lT lN) ?_
     exact ⟨rfl, rfl, rfl⟩
    ·replace hm := yes_f hc27 hm
     refine KB ?_
     refine KM ?_
     refine Kb ?_
     refine Kt ?_
     iterate 3 refine pu ?_
     refine Kv ?_
     refine Kb ⟨_, K0 hm, ?_⟩
     exact WkX.of () (WkS.perm (WkS.cons rfl (Wk.refl _) (WkS.cons rfl (Wk.refl _) (WkS.cons rfl (Wk.refl _) (WkS.nil)))) Pf Pf)
   ·replace hm := yes_f hc25 hm
    refine Kaa ?_
    refine KH ?_
    have e16 := K1 hm; subst e16; clear hm; have hm := hq16
    refine KH ?_
    refine K5 ?_
    have e15 := Kj hm; subst e15
    refine Kbj ?_
    exact WkX.of () (WkS.perm (WkS.nil) Pf Pf)
 ·intro y15 s15 hx15 hw15; subst hx15; clear hm; have hm := ho15; simp only [Sum.elim_inl] at hm; clear q15 ho15
  refine Kb ?_
  refine KV hw15 (fun z15 => ?_)
  refine Kh ?_
  refine pu ?_
  refine Ke ?_
  refine KE ?_
  have er29 := Kj hm; subst er29
  refine rP (t' := [(4, .v (.int .i64 (-1 : Int)))]) [] [] 0 (wC wN) (lT lN) ?_
  exact ⟨rfl, rfl, rfl⟩
noncomputable def KdM (a0 : List Ka3) (a1 : List Ka3) : Option (Bool) :=
 (bif ((a0.length : Int) != (a1.length : Int)) then some false else (Option.bind (α := (Unit) ⊕ (Bool)) (loopM (fun (s21 : Int) => (bif (decide (s21 < (a0.length : Int))) then ((idx a0 s21).bind fun x33 => ((idx a1 s21).bind fun x34 => (bif (!(decide (x33.gName = x34.gName) && (x33.gPtr == x34.gPtr && true))) then some (.done (.inr false)) else some (.next (IntKind.i64.wrap (s21 + (1 : Int))))))) else some (.done (.inl ())))) (0 : Int)) (Sum.elim (fun y20 => some true) (fun r => some r))))
theorem Kg5 (a0 : List Ka3) (a1 : List Ka3) (r : Bool) (h0 : KdM a0 a1 = some r) : CallsD Tryz.prog 90 [.lst 2 (a0.map Kaf) .no, .lst 2 (a1.map Kaf) .no] [] [] (fun d h k => d = .v (.bool r) ∧ h = [] ∧ k = []) := by
 have hm := KI h0
 unfold KdM at hm
 clear h0
 refine K3 htab Tryz.func90 rfl rfl rfl rfl rfl (fun C => ?_)
 refine Kh ?_
 refine pu ?_
 refine Ke ?_
 refine Km ?_
 refine Kh ?_
 refine pu ?_
 refine Kag htab rfl rfl rfl rfl rfl rfl rfl (by first | exact KY | rfl) ?_
 refine pu ?_
 refine Kag htab rfl rfl rfl rfl rfl rfl rfl (by first | exact KY | rfl) ?_
 refine pu ?_
 refine Ke ?_
 refine KC rfl (fun hc2 => ?_) (fun hc2 => ?_)
 ·replace hm := yes_t hc2 hm
  refine Kh ?_
  refine pu ?_
  refine Ke ?_
  refine KE ?_
  refine KS ?_
  have er3 := Kj hm; subst er3
  refine rP (t' := [(4, .v (.bool false))]) [] [] 0 (wC wN) (lT lN) ?_
  exact ⟨rfl, rfl, rfl⟩
 ·replace hm := yes_f hc2 hm
  refine KB ?_
  refine Kb ?_
  refine Km ?_
  refine Kh ?_
  refine pu ?_
  refine Ke ?_
  obtain ⟨x20, q20, ho20⟩ := Kc hm
  refine Kbi (τ := Unit) (Y := Unit) (fun y20 z20 => (⟨[], [], []⟩ : S)) x20 ?_ ?_
  ·clear hm; have hm := KI q20
   refine KG ?_
   obtain ⟨u21, hl21, hq21⟩ := yes_m hm
   refine Kao (Y := Unit) hl21 (fun s21 z21 => (⟨[(0, .lst 2 (a0.map Kaf) .no), (1, .lst 2 (a1.map Kaf) .no), (5, .v (.int .i64 s21))], [], []⟩ : S)) ?_ ?_
   ·skip
    exact WkX.of () (WkS.perm (WkS.cons rfl (Wk.refl _) (WkS.cons rfl (Wk.refl _) (WkS.cons rfl (Wk.refl _) (WkS.nil)))) Pf Pf)
   ·intro G21 s21 z21 hm
    refine Km ?_
    refine Kh ?_
    refine pu ?_
    refine pu ?_
    refine Kag htab rfl rfl rfl rfl rfl rfl rfl (by first | exact KY | rfl) ?_
    refine pu ?_
    refine Ke ?_
    refine KC rfl (fun hc32 => ?_) (fun hc32 => ?_)
    ·replace hm := yes_t hc32 hm
     refine KB ?_
     refine Kb ?_
     refine Km ?_
     refine KG ?_
     refine Km ?_
     obtain ⟨x33, q33, hm⟩ := Kc hm
     obtain ⟨x34, q34, hm⟩ := Kc hm
     refine Kac 8 [] [[],[],[0],[0,2],[],[],[4],[4,6]] [0,2,3,4,6,7] [[],[],[0,1],[0,1,2],[],[],[4,5],[4,5,6],[0,1,2,3,4,5,6,7]] (by kernel_rfl) (by kernel_rfl) (by kernel_rfl) (by rfl) (by rfl) (by kernel_rfl) ?_
     iterate 6 apply Exists.intro
     intro bs
     refine zep ?_
     refine zqp ?_
     refine z_e rfl rfl (Kz htab rfl rfl rfl rfl rfl rfl rfl (Kd q33) (Kk q33)) rfl rfl rfl rfl rfl rfl ?_
     refine z_eM rfl rfl (Ko (d := Kaf x33) htab rfl rfl rfl rfl rfl) rfl rfl rfl rfl rfl rfl ?_
     refine zep ?_
     refine zqp ?_
     refine z_e rfl rfl (Kz htab rfl rfl rfl rfl rfl rfl rfl (Kd q34) (Kk q34)) rfl rfl rfl rfl rfl rfl ?_
     refine z_eM rfl rfl (Ko (d := Kaf x34) htab rfl rfl rfl rfl rfl) rfl rfl rfl rfl rfl rfl ?_
     refine z_nil rfl rfl (fun e he => by simp [isAl] at he) ?_
     refine p_eqS htab rfl rfl rfl rfl rfl eqt130 rfl rfl rfl rfl rfl ?_
     refine Ke ?_
     refine KC rfl (fun hc35 => ?_) (fun hc35 => ?_)
     ·replace hm := yes_t hc35 hm
      refine Kh ?_
      refine pu ?_
      refine Ke ?_
      refine KE ?_
      refine Kan ?_
      refine KS ?_
      have e21 := K1 hm; subst e21; clear hm; have hm := hq21
      refine KS ?_
      refine Kan ?_
      have e20 := Kj hm; subst e20; refine Kbk ?_; clear hm; have hm := ho20; simp only [Sum.elim_inr] at hm
      refine KS ?_
      have er36 := Kj hm; subst er36
      refine rP (t' := [(4, .v (.bool false))]) [] [] 0 (wC wN) (lT lN) ?_
      exact ⟨rfl, rfl, rfl⟩
     ·replace hm := yes_f hc35 hm
      refine KB ?_
      refine KM ?_
      refine Kb ?_
      refine Kt ?_
      iterate 3 refine pu ?_
      refine Kv ?_
      refine Kb ⟨_, K0 hm, ?_⟩
      exact WkX.of () (WkS.perm (WkS.cons rfl (Wk.refl _) (WkS.cons rfl (Wk.refl _) (WkS.cons rfl (Wk.refl _) (WkS.nil)))) Pf Pf)
    ·replace hm := yes_f hc32 hm
     refine Kaa ?_
     refine KH ?_
     have e21 := K1 hm; subst e21; clear hm; have hm := hq21
     refine KH ?_
     refine K5 ?_
     have e20 := Kj hm; subst e20
     refine Kbj ?_
     exact WkX.of () (WkS.perm (WkS.nil) Pf Pf)
  ·intro y20 s20 hx20 hw20; subst hx20; clear hm; have hm := ho20; simp only [Sum.elim_inl] at hm; clear q20 ho20
   refine Kb ?_
   refine KV hw20 (fun z20 => ?_)
   refine Kh ?_
   refine pu ?_
   refine Ke ?_
   refine KE ?_
   have er37 := Kj hm; subst er37
   refine rP (t' := [(4, .v (.bool true))]) [] [] 0 (wC wN) (lT lN) ?_
   exact ⟨rfl, rfl, rfl⟩
abbrev nlSz1_1 : List (List Nat) := nlD [] [(0,[]),(0,[]),(0,[0]),(3,[2]),(4,[3]),(0,[]),(0,[]),(0,[5]),(8,[7]),(9,[8]),(5,[5,7,8]),(11,[]),(11,[]),(11,[]),(11,[]),(11,[]),(11,[]),(11,[]),(11,[]),(11,[]),(11,[]),(11,[]),(11,[]),(11,[]),(11,[]),(11,[]),(11,[]),(11,[]),(11,[]),(11,[]),(11,[]),(11,[]),(11,[]),(11,[]),(11,[]),(11,[]),(11,[]),(11,[]),(11,[]),(11,[]),(11,[]),(11,[]),(11,[]),(11,[]),(11,[]),(11,[]),(11,[]),(11,[]),(11,[]),(11,[]),(11,[]),(11,[]),(11,[]),(11,[]),(11,[]),(11,[]),(11,[]),(11,[]),(11,[]),(11,[]),(11,[]),(11,[]),(11,[]),(11,[]),(11,[])]
abbrev Ket : List (List Nat) := nlD [] [(0,[]),(0,[]),(0,[0,1]),(3,[2]),(4,[3]),(0,[]),(0,[]),(0,[5,6]),(8,[7]),(9,[8]),(5,[4,5,6,7,8,9]),(11,[10]),(12,[11]),(13,[]),(13,[12,13]),(15,[14]),(16,[15]),(13,[]),(13,[]),(13,[17,18]),(20,[19]),(21,[20]),(17,[16,17,18,19,20,21]),(23,[22]),(24,[23]),(25,[24]),(26,[]),(26,[25,26]),(28,[27]),(29,[28]),(26,[]),(26,[]),(26,[30,31]),(33,[32]),(34,[33]),(30,[29,30,31,32,33,34]),(36,[35]),(37,[36]),(38,[37]),(39,[38]),(40,[39]),(41,[]),(41,[40,41]),(43,[42]),(44,[43]),(41,[]),(41,[]),(41,[45,46]),(48,[47]),(49,[48]),(45,[44,45,46,47,48,49]),(51,[50]),(52,[51]),(53,[52]),(54,[53]),(55,[]),(55,[54,55]),(57,[56]),(58,[57]),(55,[]),(55,[]),(55,[59,60]),(62,[61]),(63,[62]),(55,[]),(59,[58,59,60,61,62,63,64]),(66,[65]),(67,[66])]
abbrev nlSz1_3 : List (List Nat) := nlD [] [(0,[]),(0,[]),(0,[0]),(3,[2]),(4,[3]),(0,[]),(0,[]),(0,[5]),(8,[7]),(9,[8]),(5,[5,7,8]),(11,[]),(11,[]),(11,[]),(11,[12]),(15,[14]),(16,[15]),(11,[]),(11,[]),(11,[17]),(20,[19]),(21,[20]),(17,[17,19,20]),(23,[]),(23,[]),(23,[]),(23,[]),(23,[]),(23,[]),(23,[]),(23,[]),(23,[]),(23,[]),(23,[]),(23,[]),(23,[]),(23,[]),(23,[]),(23,[]),(23,[]),(23,[]),(23,[]),(23,[]),(23,[]),(23,[]),(23,[]),(23,[]),(23,[]),(23,[]),(23,[]),(23,[]),(23,[]),(23,[]),(23,[]),(23,[]),(23,[]),(23,[]),(23,[]),(23,[]),(23,[]),(23,[]),(23,[]),(23,[]),(23,[]),(23,[])]
abbrev nlSz1_4 : List (List Nat) := nlD [] [(0,[]),(0,[]),(0,[0]),(3,[2]),(4,[3]),(0,[]),(0,[]),(0,[5]),(8,[7]),(9,[8]),(5,[5,7,8]),(11,[]),(11,[]),(11,[]),(11,[12]),(15,[14]),(16,[15]),(11,[]),(11,[]),(11,[17]),(20,[19]),(21,[20]),(17,[17,19,20]),(23,[]),(23,[]),(23,[]),(23,[]),(23,[25]),(28,[27]),(29,[28]),(23,[]),(23,[]),(23,[30]),(33,[32]),(34,[33]),(30,[30,32,33]),(36,[]),(36,[]),(36,[]),(36,[]),(36,[]),(36,[]),(36,[]),(36,[]),(36,[]),(36,[]),(36,[]),(36,[]),(36,[]),(36,[]),(36,[]),(36,[]),(36,[]),(36,[]),(36,[]),(36,[]),(36,[]),(36,[]),(36,[]),(36,[]),(36,[]),(36,[]),(36,[]),(36,[]),(36,[])]
abbrev nlSz1_5 : List (List Nat) := nlD [] [(0,[]),(0,[]),(0,[0]),(3,[2]),(4,[3]),(0,[]),(0,[]),(0,[5]),(8,[7]),(9,[8]),(5,[5,7,8]),(11,[]),(11,[]),(11,[]),(11,[12]),(15,[14]),(16,[15]),(11,[]),(11,[]),(11,[17]),(20,[19]),(21,[20]),(17,[17,19,20]),(23,[]),(23,[]),(23,[]),(23,[]),(23,[25]),(28,[27]),(29,[28]),(23,[]),(23,[]),(23,[30]),(33,[32]),(34,[33]),(30,[30,32,33]),(36,[]),(36,[]),(36,[]),(36,[]),(36,[]),(36,[]),(36,[40]),(43,[42]),(44,[43]),(36,[]),(36,[]),(36,[45]),(48,[47]),(49,[48]),(45,[45,47,48]),(51,[]),(51,[]),(51,[]),(51,[]),(51,[]),(51,[]),(51,[]),(51,[]),(51,[]),(51,[]),(51,[]),(51,[]),(51,[]),(51,[])]
abbrev nlSz1_6 : List (List Nat) := nlD [] [(0,[]),(0,[]),(0,[0]),(3,[2]),(4,[3]),(0,[]),(0,[]),(0,[5]),(8,[7]),(9,[8]),(5,[5,7,8]),(11,[]),(11,[]),(11,[]),(11,[12]),(15,[14]),(16,[15]),(11,[]),(11,[]),(11,[17]),(20,[19]),(21,[20]),(17,[17,19,20]),(23,[]),(23,[]),(23,[]),(23,[]),(23,[25]),(28,[27]),(29,[28]),(23,[]),(23,[]),(23,[30]),(33,[32]),(34,[33]),(30,[30,32,33]),(36,[]),(36,[]),(36,[]),(36,[]),(36,[]),(36,[]),(36,[40]),(43,[42]),(44,[43]),(36,[]),(36,[]),(36,[45]),(48,[47]),(49,[48]),(45,[45,47,48]),(51,[]),(51,[]),(51,[]),(51,[]),(51,[]),(51,[54]),(57,[56]),(58,[57]),(51,[]),(51,[]),(51,[59]),(62,[61]),(63,[62]),(51,[])]
abbrev nlSz1_7 : List (List Nat) := nlD [] [(0,[]),(0,[]),(0,[0]),(3,[2]),(4,[3]),(0,[]),(0,[]),(0,[5]),(8,[7]),(9,[8]),(5,[5,7,8]),(11,[]),(11,[]),(11,[]),(11,[12]),(15,[14]),(16,[15]),(11,[]),(11,[]),(11,[17]),(20,[19]),(21,[20]),(17,[17,19,20]),(23,[]),(23,[]),(23,[]),(23,[]),(23,[25]),(28,[27]),(29,[28]),(23,[]),(23,[]),(23,[30]),(33,[32]),(34,[33]),(30,[30,32,33]),(36,[]),(36,[]),(36,[]),(36,[]),(36,[]),(36,[]),(36,[]),(36,[]),(36,[]),(36,[]),(36,[]),(36,[]),(36,[]),(36,[]),(36,[]),(36,[]),(36,[]),(36,[]),(36,[]),(36,[]),(36,[54]),(57,[56]),(58,[57]),(36,[]),(36,[]),(36,[59]),(62,[61]),(63,[62]),(36,[])]
noncomputable def Kce (g0 : (List Kn) → (List Kn) → (Bool) → Option (Bool)) (a0 : List Kn) (a1 : List Kn) (a2 : Bool) : Option (Bool) :=
 (bif ((a0.length : Int) != (a1.length : Int)) then some false else (Option.bind (α := (Unit) ⊕ (Bool)) (loopM (fun (s132 : Int) => (bif (decide (s132 < (a0.length : Int))) then (Option.bind (α := Bool) ((idx a0 s132).bind fun x238 => ((idx a1 s132).bind fun x239 => (bif (x238.gOp != x239.gOp) then some true else ((idx a0 s132).bind fun x241 => ((idx a1 s132).bind fun x242 => (bif (x241.gN != x242.gN) then some true else ((idx a0 s132).bind fun x244 => ((idx a1 s132).bind fun x245 => (bif (!decide (x244.gName = x245.gName)) then some true else (bif a2 then ((idx a0 s132).bind fun x248 => ((idx a1 s132).bind fun x249 => (bif (x248.gAt != x249.gAt) then some true else ((idx a0 s132).bind fun x251 => ((idx a1 s132).bind fun x252 => ((g0 x251.gKids x252.gKids a2).bind fun x253 => some (!x253))))))) else ((idx a0 s132).bind fun x254 => ((idx a1 s132).bind fun x255 => ((g0 x254.gKids x255.gKids a2).bind fun x256 => some (!x256)))))))))))))) fun y237 => (bif y237 then some (.done (.inr false)) else some (.next (IntKind.i64.wrap (s132 + (1 : Int)))))) else some (.done (.inl ())))) (0 : Int)) (Sum.elim (fun y131 => some true) (fun r => some r))))
theorem KiX (g0 : (List Kn) → (List Kn) → (Bool) → Option (Bool)) (hg0 : ∀ (a0 : List Kn) (a1 : List Kn) (a2 : Bool) (r : Bool) (h0 : g0 a0 a1 a2 = some r), CallsD Tryz.prog 108 [.lst 5 (a0.map Kx) .no, .lst 5 (a1.map Kx) .no, .v (.bool a2)] [] [] (fun d h k => d = .v (.bool r) ∧ h = [] ∧ k = [])) (a0 : List Kn) (a1 : List Kn) (a2 : Bool) (r : Bool) (h0 : Kce g0 a0 a1 a2 = some r) : CallsD Tryz.prog 108 [.lst 5 (a0.map Kx) .no, .lst 5 (a1.map Kx) .no, .v (.bool a2)] [] [] (fun d h k => d = .v (.bool r) ∧ h = [] ∧ k = []) := by
 have hm := KI h0
 unfold Kce at hm
 clear h0
 refine K3 htab Tryz.func108 rfl rfl rfl rfl rfl (fun C => ?_)
 refine Kh ?_
 refine pu ?_
 refine Ke ?_
 refine Km ?_
 refine Kh ?_
 refine pu ?_
 refine Kag htab rfl rfl rfl rfl rfl rfl rfl (by first | exact KY | rfl) ?_
 refine pu ?_
 refine Kag htab rfl rfl rfl rfl rfl rfl rfl (by first | exact KY | rfl) ?_
 refine pu ?_
 refine Ke ?_
 refine KC rfl (fun hc2 => ?_) (fun hc2 => ?_)
 ·replace hm := yes_t hc2 hm
  refine Kh ?_
  refine pu ?_
  refine Ke ?_
  refine KE ?_
  refine KS ?_
  have er3 := Kj hm; subst er3
  refine rP (t' := [(6, .v (.bool false))]) [] [] 0 (wC wN) (lT lN) ?_
  exact ⟨rfl, rfl, rfl⟩
 ·replace hm := yes_f hc2 hm
  refine KB ?_
  refine Kb ?_
  refine Km ?_
  refine Kh ?_
  refine pu ?_
  refine Ke ?_
  obtain ⟨x131, q131, ho131⟩ := Kc hm
  refine Kbi (τ := Unit) (Y := Unit) (fun y131 z131 => (⟨[], [], []⟩ : S)) x131 ?_ ?_
  ·clear hm; have hm := KI q131
   refine KG ?_
   obtain ⟨u132, hl132, hq132⟩ := yes_m hm
   refine Kao (Y := Unit) hl132 (fun s132 z132 => (⟨[(0, .lst 5 (a0.map Kx) .no), (1, .lst 5 (a1.map Kx) .no), (2, .v (.bool a2)), (7, .v (.int .i64 s132))], [], []⟩ : S)) ?_ ?_
   ·skip
    exact WkX.of () (WkS.perm (WkS.cons rfl (Wk.refl _) (WkS.cons rfl (Wk.refl _) (WkS.cons rfl (Wk.refl _) (WkS.cons rfl (Wk.refl _) (WkS.nil))))) Pf Pf)
   ·intro G132 s132 z132 hm
    refine Km ?_
    refine Kh ?_
    refine pu ?_
    refine pu ?_
    refine Kag htab rfl rfl rfl rfl rfl rfl rfl (by first | exact KY | rfl) ?_
    refine pu ?_
    refine Ke ?_
    refine KC rfl (fun hc217 => ?_) (fun hc217 => ?_)
    ·replace hm := yes_t hc217 hm
     refine KB ?_
     refine Kb ?_
     refine Km ?_
     refine KG ?_
     refine Km ?_
     obtain ⟨y237, q237, ho237⟩ := Kc hm
     refine Kah (Y := Unit) (fun z237 => (⟨[(0, .lst 5 (a0.map Kx) .no), (1, .lst 5 (a1.map Kx) .no), (2, .v (.bool a2)), (7, .v (.int .i64 s132)), (86, .v (.bool y237))], [], []⟩ : S)) ?_ ?_
     ·clear hm; have hm := KI q237
      obtain ⟨x238, q238, hm⟩ := Kc hm
      obtain ⟨x239, q239, hm⟩ := Kc hm
      refine bycB (x238.gOp != x239.gOp) (fun hs240 => ?_) (fun hs240 => ?_)
      ·replace hm := yes_t hs240 hm
       refine Kac 65 [] nlSz1_1 [0,2,3,5,7,8] Ket (by kernel_rfl) (by kernel_rfl) (by kernel_rfl) (by rfl) (by rfl) (by kernel_rfl) ?_
       iterate 6 apply Exists.intro
       intro bs
       refine zep ?_
       refine zqp ?_
       refine z_e rfl rfl (Ex.wk (Kz htab rfl rfl rfl rfl rfl rfl rfl (Kd q238) (Kk q238)) (Wk.of_eq (congrArg D.el (KK x238)))) rfl rfl rfl rfl rfl rfl ?_
       refine zep ?_
       refine z_qM rfl rfl (Ko htab rfl rfl rfl rfl rfl) rfl rfl rfl rfl rfl rfl ?_
       refine zep ?_
       refine zqp ?_
       refine z_e rfl rfl (Ex.wk (Kz htab rfl rfl rfl rfl rfl rfl rfl (Kd q239) (Kk q239)) (Wk.of_eq (congrArg D.el (KK x239)))) rfl rfl rfl rfl rfl rfl ?_
       refine zep ?_
       refine z_qM rfl rfl (Ko htab rfl rfl rfl rfl rfl) rfl rfl rfl rfl rfl rfl ?_
       refine zqp ?_
       refine zqp ?_
       refine KO (j := 30) (b' := true) rfl hs240 ?_
       iterate 11 refine zK ?_
       refine z_q rfl rfl (Kaz rfl rfl rfl) rfl rfl rfl rfl rfl rfl ?_
       refine zqp ?_
       iterate 11 refine zK ?_
       refine z_q rfl rfl (Kaz rfl rfl rfl) rfl rfl rfl rfl rfl rfl ?_
       refine zqp ?_
       iterate 14 refine zK ?_
       refine z_q rfl rfl (Kaz rfl rfl rfl) rfl rfl rfl rfl rfl rfl ?_
       refine zqp ?_
       iterate 11 refine zK ?_
       refine z_nil rfl rfl (fun e he => by simp [isAl] at he) ?_
       refine pK ?_
       refine pK ?_
       refine Kab rfl rfl rfl rfl rfl rfl ?_
       refine Kv ?_
       have e237 := Kj hm; subst e237
       refine ⟨rfl, ?_⟩
       exact WkX.of () (WkS.perm (WkS.cons rfl (Wk.refl _) (WkS.cons rfl (Wk.refl _) (WkS.cons rfl (Wk.refl _) (WkS.cons rfl (Wk.refl _) (WkS.cons rfl (Wk.refl _) (WkS.nil)))))) Pf Pf)
      ·replace hm := yes_f hs240 hm
       obtain ⟨x241, q241, hm⟩ := Kc hm
       obtain ⟨x242, q242, hm⟩ := Kc hm
       refine bycB (x241.gN != x242.gN) (fun hs243 => ?_) (fun hs243 => ?_)
       ·replace hm := yes_t hs243 hm
        refine Kac 65 [] nlSz1_3 [0,2,3,5,7,8,12,14,15,17,19,20] Ket (by kernel_rfl) (by kernel_rfl) (by kernel_rfl) (by rfl) (by rfl) (by kernel_rfl) ?_
        iterate 12 apply Exists.intro
        intro bs
        refine zep ?_
        refine zqp ?_
        refine z_e rfl rfl (Ex.wk (Kz htab rfl rfl rfl rfl rfl rfl rfl (Kd q238) (Kk q238)) (Wk.of_eq (congrArg D.el (KK x238)))) rfl rfl rfl rfl rfl rfl ?_
        refine zep ?_
        refine z_qM rfl rfl (Ko htab rfl rfl rfl rfl rfl) rfl rfl rfl rfl rfl rfl ?_
        refine zep ?_
        refine zqp ?_
        refine z_e rfl rfl (Ex.wk (Kz htab rfl rfl rfl rfl rfl rfl rfl (Kd q239) (Kk q239)) (Wk.of_eq (congrArg D.el (KK x239)))) rfl rfl rfl rfl rfl rfl ?_
        refine zep ?_
        refine z_qM rfl rfl (Ko htab rfl rfl rfl rfl rfl) rfl rfl rfl rfl rfl rfl ?_
        refine zqp ?_
        refine zqp ?_
        refine KO (j := 30) (b' := false) rfl hs240 ?_
        refine zep ?_
        refine zqp ?_
        refine z_e rfl rfl (Ex.wk (Kz htab rfl rfl rfl rfl rfl rfl rfl (Kd q241) (Kk q241)) (Wk.of_eq (congrArg D.el (KK x241)))) rfl rfl rfl rfl rfl rfl ?_
        refine zep ?_
        refine z_qM rfl rfl (Ko htab rfl rfl rfl rfl rfl) rfl rfl rfl rfl rfl rfl ?_
        refine zep ?_
        refine zqp ?_
        refine z_e rfl rfl (Ex.wk (Kz htab rfl rfl rfl rfl rfl rfl rfl (Kd q242) (Kk q242)) (Wk.of_eq (congrArg D.el (KK x242)))) rfl rfl rfl rfl rfl rfl ?_
        refine zep ?_
        refine z_qM rfl rfl (Ko htab rfl rfl rfl rfl rfl) rfl rfl rfl rfl rfl rfl ?_
        refine zqp ?_
        refine z_q rfl rfl (K6 rfl rfl rfl) rfl rfl rfl rfl rfl rfl ?_
        refine zqp ?_
        refine KO (j := 43) (b' := true) rfl hs243 ?_
        iterate 11 refine zK ?_
        refine z_q rfl rfl (Kaz rfl rfl rfl) rfl rfl rfl rfl rfl rfl ?_
        refine zqp ?_
        iterate 14 refine zK ?_
        refine z_q rfl rfl (Kaz rfl rfl rfl) rfl rfl rfl rfl rfl rfl ?_
        refine zqp ?_
        iterate 11 refine zK ?_
        refine z_nil rfl rfl (fun e he => by simp [isAl] at he) ?_
        refine pK ?_
        refine pK ?_
        refine Kab rfl rfl rfl rfl rfl rfl ?_
        refine Kv ?_
        have e237 := Kj hm; subst e237
        refine ⟨rfl, ?_⟩
        exact WkX.of () (WkS.perm (WkS.cons rfl (Wk.refl _) (WkS.cons rfl (Wk.refl _) (WkS.cons rfl (Wk.refl _) (WkS.cons rfl (Wk.refl _) (WkS.cons rfl (Wk.refl _) (WkS.nil)))))) Pf Pf)
       ·replace hm := yes_f hs243 hm
        obtain ⟨x244, q244, hm⟩ := Kc hm
        obtain ⟨x245, q245, hm⟩ := Kc hm
        refine bycB (!decide (x244.gName = x245.gName)) (fun hs246 => ?_) (fun hs246 => ?_)
        ·replace hm := yes_t hs246 hm
         refine Kac 65 [] nlSz1_4 [0,2,3,5,7,8,12,14,15,17,19,20,25,27,28,30,32,33] Ket (by kernel_rfl) (by kernel_rfl) (by kernel_rfl) (by rfl) (by rfl) (by kernel_rfl) ?_
         iterate 18 apply Exists.intro
         intro bs
         refine zep ?_
         refine zqp ?_
         refine z_e rfl rfl (Ex.wk (Kz htab rfl rfl rfl rfl rfl rfl rfl (Kd q238) (Kk q238)) (Wk.of_eq (congrArg D.el (KK x238)))) rfl rfl rfl rfl rfl rfl ?_
         refine zep ?_
         refine z_qM rfl rfl (Ko htab rfl rfl rfl rfl rfl) rfl rfl rfl rfl rfl rfl ?_
         refine zep ?_
         refine zqp ?_
         refine z_e rfl rfl (Ex.wk (Kz htab rfl rfl rfl rfl rfl rfl rfl (Kd q239) (Kk q239)) (Wk.of_eq (congrArg D.el (KK x239)))) rfl rfl rfl rfl rfl rfl ?_
         refine zep ?_
         refine z_qM rfl rfl (Ko htab rfl rfl rfl rfl rfl) rfl rfl rfl rfl rfl rfl ?_
         refine zqp ?_
         refine zqp ?_
         refine KO (j := 30) (b' := false) rfl hs240 ?_
         refine zep ?_
         refine zqp ?_
         refine z_e rfl rfl (Ex.wk (Kz htab rfl rfl rfl rfl rfl rfl rfl (Kd q241) (Kk q241)) (Wk.of_eq (congrArg D.el (KK x241)))) rfl rfl rfl rfl rfl rfl ?_
         refine zep ?_
         refine z_qM rfl rfl (Ko htab rfl rfl rfl rfl rfl) rfl rfl rfl rfl rfl rfl ?_
         refine zep ?_
         refine zqp ?_
         refine z_e rfl rfl (Ex.wk (Kz htab rfl rfl rfl rfl rfl rfl rfl (Kd q242) (Kk q242)) (Wk.of_eq (congrArg D.el (KK x242)))) rfl rfl rfl rfl rfl rfl ?_
         refine zep ?_
         refine z_qM rfl rfl (Ko htab rfl rfl rfl rfl rfl) rfl rfl rfl rfl rfl rfl ?_
         refine zqp ?_
         refine z_q rfl rfl (K6 rfl rfl rfl) rfl rfl rfl rfl rfl rfl ?_
         refine zqp ?_
         refine KO (j := 43) (b' := false) rfl hs243 ?_
         refine zep ?_
         refine zqp ?_
         refine z_e rfl rfl (Ex.wk (Kz htab rfl rfl rfl rfl rfl rfl rfl (Kd q244) (Kk q244)) (Wk.of_eq (congrArg D.el (KK x244)))) rfl rfl rfl rfl rfl rfl ?_
         refine zep ?_
         refine z_qM rfl rfl (Ko htab rfl rfl rfl rfl rfl) rfl rfl rfl rfl rfl rfl ?_
         refine zep ?_
         refine zqp ?_
         refine z_e rfl rfl (Ex.wk (Kz htab rfl rfl rfl rfl rfl rfl rfl (Kd q245) (Kk q245)) (Wk.of_eq (congrArg D.el (KK x245)))) rfl rfl rfl rfl rfl rfl ?_
         refine zep ?_
         refine z_qM rfl rfl (Ko htab rfl rfl rfl rfl rfl) rfl rfl rfl rfl rfl rfl ?_
         refine zqp ?_
         refine z_q rfl rfl (K6 rfl rfl rfl) rfl rfl rfl rfl rfl rfl ?_
         refine zqp ?_
         refine KO (j := 56) (b' := true) rfl hs246 ?_
         iterate 14 refine zK ?_
         refine z_q rfl rfl (Kaz rfl rfl rfl) rfl rfl rfl rfl rfl rfl ?_
         refine zqp ?_
         iterate 11 refine zK ?_
         refine z_nil rfl rfl (fun e he => by simp [isAl] at he) ?_
         refine pK ?_
         refine pK ?_
         refine Kab rfl rfl rfl rfl rfl rfl ?_
         refine Kv ?_
         have e237 := Kj hm; subst e237
         refine ⟨rfl, ?_⟩
         exact WkX.of () (WkS.perm (WkS.cons rfl (Wk.refl _) (WkS.cons rfl (Wk.refl _) (WkS.cons rfl (Wk.refl _) (WkS.cons rfl (Wk.refl _) (WkS.cons rfl (Wk.refl _) (WkS.nil)))))) Pf Pf)
        ·replace hm := yes_f hs246 hm
         refine bycB a2 (fun hs247 => ?_) (fun hs247 => ?_)
         ·replace hm := yes_t hs247 hm
          obtain ⟨x248, q248, hm⟩ := Kc hm
          obtain ⟨x249, q249, hm⟩ := Kc hm
          refine bycB (x248.gAt != x249.gAt) (fun hs250 => ?_) (fun hs250 => ?_)
          ·replace hm := yes_t hs250 hm
           refine Kac 65 [] nlSz1_5 [0,2,3,5,7,8,12,14,15,17,19,20,25,27,28,30,32,33,40,42,43,45,47,48] Ket (by kernel_rfl) (by kernel_rfl) (by kernel_rfl) (by rfl) (by rfl) (by kernel_rfl) ?_
           iterate 24 apply Exists.intro
           intro bs
           refine zep ?_
           refine zqp ?_
           refine z_e rfl rfl (Ex.wk (Kz htab rfl rfl rfl rfl rfl rfl rfl (Kd q238) (Kk q238)) (Wk.of_eq (congrArg D.el (KK x238)))) rfl rfl rfl rfl rfl rfl ?_
           refine zep ?_
           refine z_qM rfl rfl (Ko htab rfl rfl rfl rfl rfl) rfl rfl rfl rfl rfl rfl ?_
           refine zep ?_
           refine zqp ?_
           refine z_e rfl rfl (Ex.wk (Kz htab rfl rfl rfl rfl rfl rfl rfl (Kd q239) (Kk q239)) (Wk.of_eq (congrArg D.el (KK x239)))) rfl rfl rfl rfl rfl rfl ?_
           refine zep ?_
           refine z_qM rfl rfl (Ko htab rfl rfl rfl rfl rfl) rfl rfl rfl rfl rfl rfl ?_
           refine zqp ?_
           refine zqp ?_
           refine KO (j := 30) (b' := false) rfl hs240 ?_
           refine zep ?_
           refine zqp ?_
           refine z_e rfl rfl (Ex.wk (Kz htab rfl rfl rfl rfl rfl rfl rfl (Kd q241) (Kk q241)) (Wk.of_eq (congrArg D.el (KK x241)))) rfl rfl rfl rfl rfl rfl ?_
           refine zep ?_
           refine z_qM rfl rfl (Ko htab rfl rfl rfl rfl rfl) rfl rfl rfl rfl rfl rfl ?_
           refine zep ?_
           refine zqp ?_
           refine z_e rfl rfl (Ex.wk (Kz htab rfl rfl rfl rfl rfl rfl rfl (Kd q242) (Kk q242)) (Wk.of_eq (congrArg D.el (KK x242)))) rfl rfl rfl rfl rfl rfl ?_
           refine zep ?_
           refine z_qM rfl rfl (Ko htab rfl rfl rfl rfl rfl) rfl rfl rfl rfl rfl rfl ?_
           refine zqp ?_
           refine z_q rfl rfl (K6 rfl rfl rfl) rfl rfl rfl rfl rfl rfl ?_
           refine zqp ?_
           refine KO (j := 43) (b' := false) rfl hs243 ?_
           refine zep ?_
           refine zqp ?_
           refine z_e rfl rfl (Ex.wk (Kz htab rfl rfl rfl rfl rfl rfl rfl (Kd q244) (Kk q244)) (Wk.of_eq (congrArg D.el (KK x244)))) rfl rfl rfl rfl rfl rfl ?_
           refine zep ?_
           refine z_qM rfl rfl (Ko htab rfl rfl rfl rfl rfl) rfl rfl rfl rfl rfl rfl ?_
           refine zep ?_
           refine zqp ?_
           refine z_e rfl rfl (Ex.wk (Kz htab rfl rfl rfl rfl rfl rfl rfl (Kd q245) (Kk q245)) (Wk.of_eq (congrArg D.el (KK x245)))) rfl rfl rfl rfl rfl rfl ?_
           refine zep ?_
           refine z_qM rfl rfl (Ko htab rfl rfl rfl rfl rfl) rfl rfl rfl rfl rfl rfl ?_
           refine zqp ?_
           refine z_q rfl rfl (K6 rfl rfl rfl) rfl rfl rfl rfl rfl rfl ?_
           refine zqp ?_
           refine KO (j := 56) (b' := false) rfl hs246 ?_
           refine zqp ?_
           refine zqp ?_
           refine KO (j := 58) (b' := true) rfl hs247 ?_
           refine zep ?_
           refine zqp ?_
           refine z_e rfl rfl (Ex.wk (Kz htab rfl rfl rfl rfl rfl rfl rfl (Kd q248) (Kk q248)) (Wk.of_eq (congrArg D.el (KK x248)))) rfl rfl rfl rfl rfl rfl ?_
           refine zep ?_
           refine z_qM rfl rfl (Ko htab rfl rfl rfl rfl rfl) rfl rfl rfl rfl rfl rfl ?_
           refine zep ?_
           refine zqp ?_
           refine z_e rfl rfl (Ex.wk (Kz htab rfl rfl rfl rfl rfl rfl rfl (Kd q249) (Kk q249)) (Wk.of_eq (congrArg D.el (KK x249)))) rfl rfl rfl rfl rfl rfl ?_
           refine zep ?_
           refine z_qM rfl rfl (Ko htab rfl rfl rfl rfl rfl) rfl rfl rfl rfl rfl rfl ?_
           refine zqp ?_
           refine z_q rfl rfl (Kaz rfl rfl rfl) rfl rfl rfl rfl rfl rfl ?_
           refine z_q rfl rfl (K6 rfl rfl rfl) rfl rfl rfl rfl rfl rfl ?_
           refine zqp ?_
           refine KO (j := 72) (b' := true) rfl hs250 ?_
           iterate 11 refine zK ?_
           refine z_nil rfl rfl (fun e he => by simp [isAl] at he) ?_
           refine pK ?_
           refine pK ?_
           refine Kab rfl rfl rfl rfl rfl rfl ?_
           refine Kv ?_
           have e237 := Kj hm; subst e237
           refine ⟨rfl, ?_⟩
           exact WkX.of () (WkS.perm (WkS.cons rfl (Wk.refl _) (WkS.cons rfl (Wk.refl _) (WkS.cons rfl (Wk.refl _) (WkS.cons rfl (Wk.refl _) (WkS.cons rfl (Wk.refl _) (WkS.nil)))))) Pf Pf)
          ·replace hm := yes_f hs250 hm
           obtain ⟨x251, q251, hm⟩ := Kc hm
           obtain ⟨x252, q252, hm⟩ := Kc hm
           refine Kac 65 [] nlSz1_6 [0,2,3,5,7,8,12,14,15,17,19,20,25,27,28,30,32,33,40,42,43,45,47,48,54,56,57,58,59,61,62,63] Ket (by kernel_rfl) (by kernel_rfl) (by kernel_rfl) (by rfl) (by rfl) (by kernel_rfl) ?_
           iterate 32 apply Exists.intro
           intro bs
           refine zep ?_
           refine zqp ?_
           refine z_e rfl rfl (Ex.wk (Kz htab rfl rfl rfl rfl rfl rfl rfl (Kd q238) (Kk q238)) (Wk.of_eq (congrArg D.el (KK x238)))) rfl rfl rfl rfl rfl rfl ?_
           refine zep ?_
           refine z_qM rfl rfl (Ko htab rfl rfl rfl rfl rfl) rfl rfl rfl rfl rfl rfl ?_
           refine zep ?_
           refine zqp ?_
           refine z_e rfl rfl (Ex.wk (Kz htab rfl rfl rfl rfl rfl rfl rfl (Kd q239) (Kk q239)) (Wk.of_eq (congrArg D.el (KK x239)))) rfl rfl rfl rfl rfl rfl ?_
           refine zep ?_
           refine z_qM rfl rfl (Ko htab rfl rfl rfl rfl rfl) rfl rfl rfl rfl rfl rfl ?_
           refine zqp ?_
           refine zqp ?_
           refine KO (j := 30) (b' := false) rfl hs240 ?_
           refine zep ?_
           refine zqp ?_
           refine z_e rfl rfl (Ex.wk (Kz htab rfl rfl rfl rfl rfl rfl rfl (Kd q241) (Kk q241)) (Wk.of_eq (congrArg D.el (KK x241)))) rfl rfl rfl rfl rfl rfl ?_
           refine zep ?_
           refine z_qM rfl rfl (Ko htab rfl rfl rfl rfl rfl) rfl rfl rfl rfl rfl rfl ?_
           refine zep ?_
           refine zqp ?_
           refine z_e rfl rfl (Ex.wk (Kz htab rfl rfl rfl rfl rfl rfl rfl (Kd q242) (Kk q242)) (Wk.of_eq (congrArg D.el (KK x242)))) rfl rfl rfl rfl rfl rfl ?_
           refine zep ?_
           refine z_qM rfl rfl (Ko htab rfl rfl rfl rfl rfl) rfl rfl rfl rfl rfl rfl ?_
           refine zqp ?_
           refine z_q rfl rfl (K6 rfl rfl rfl) rfl rfl rfl rfl rfl rfl ?_
           refine zqp ?_
           refine KO (j := 43) (b' := false) rfl hs243 ?_
           refine zep ?_
           refine zqp ?_
           refine z_e rfl rfl (Ex.wk (Kz htab rfl rfl rfl rfl rfl rfl rfl (Kd q244) (Kk q244)) (Wk.of_eq (congrArg D.el (KK x244)))) rfl rfl rfl rfl rfl rfl ?_
           refine zep ?_
           refine z_qM rfl rfl (Ko htab rfl rfl rfl rfl rfl) rfl rfl rfl rfl rfl rfl ?_
           refine zep ?_
           refine zqp ?_
           refine z_e rfl rfl (Ex.wk (Kz htab rfl rfl rfl rfl rfl rfl rfl (Kd q245) (Kk q245)) (Wk.of_eq (congrArg D.el (KK x245)))) rfl rfl rfl rfl rfl rfl ?_
           refine zep ?_
           refine z_qM rfl rfl (Ko htab rfl rfl rfl rfl rfl) rfl rfl rfl rfl rfl rfl ?_
           refine zqp ?_
           refine z_q rfl rfl (K6 rfl rfl rfl) rfl rfl rfl rfl rfl rfl ?_
           refine zqp ?_
           refine KO (j := 56) (b' := false) rfl hs246 ?_
           refine zqp ?_
           refine zqp ?_
           refine KO (j := 58) (b' := true) rfl hs247 ?_
           refine zep ?_
           refine zqp ?_
           refine z_e rfl rfl (Ex.wk (Kz htab rfl rfl rfl rfl rfl rfl rfl (Kd q248) (Kk q248)) (Wk.of_eq (congrArg D.el (KK x248)))) rfl rfl rfl rfl rfl rfl ?_
           refine zep ?_
           refine z_qM rfl rfl (Ko htab rfl rfl rfl rfl rfl) rfl rfl rfl rfl rfl rfl ?_
           refine zep ?_
           refine zqp ?_
           refine z_e rfl rfl (Ex.wk (Kz htab rfl rfl rfl rfl rfl rfl rfl (Kd q249) (Kk q249)) (Wk.of_eq (congrArg D.el (KK x249)))) rfl rfl rfl rfl rfl rfl ?_
           refine zep ?_
           refine z_qM rfl rfl (Ko htab rfl rfl rfl rfl rfl) rfl rfl rfl rfl rfl rfl ?_
           refine zqp ?_
           refine z_q rfl rfl (Kaz rfl rfl rfl) rfl rfl rfl rfl rfl rfl ?_
           refine z_q rfl rfl (K6 rfl rfl rfl) rfl rfl rfl rfl rfl rfl ?_
           refine zqp ?_
           refine KO (j := 72) (b' := false) rfl hs250 ?_
           refine zep ?_
           refine zqp ?_
           refine z_e rfl rfl (Ex.wk (Kz htab rfl rfl rfl rfl rfl rfl rfl (Kd q251) (Kk q251)) (Wk.of_eq (congrArg D.el (KK x251)))) rfl rfl rfl rfl rfl rfl ?_
           refine zep ?_
           refine z_eM rfl rfl (Ko htab rfl rfl rfl rfl rfl) rfl rfl rfl rfl rfl rfl ?_
           refine zep ?_
           refine zqp ?_
           refine z_e rfl rfl (Ex.wk (Kz htab rfl rfl rfl rfl rfl rfl rfl (Kd q252) (Kk q252)) (Wk.of_eq (congrArg D.el (KK x252)))) rfl rfl rfl rfl rfl rfl ?_
           refine zep ?_
           refine z_eM rfl rfl (Ko htab rfl rfl rfl rfl rfl) rfl rfl rfl rfl rfl rfl ?_
           refine zqp ?_
           refine z_nil rfl rfl (fun e he => by simp [isAl] at he) ?_
           obtain ⟨x253, q253, hm⟩ := Kc hm
           refine Kaj (hg0 x251.gKids x252.gKids a2 x253 q253) rfl rfl rfl rfl rfl Wl ?_
           rintro _ rfl
           refine pu ?_
           refine K9 rfl rfl rfl rfl rfl rfl ?_
           refine Kv ?_
           have e237 := Kj hm; subst e237
           refine ⟨rfl, ?_⟩
           exact WkX.of () (WkS.perm (WkS.cons rfl (Wk.refl _) (WkS.cons rfl (Wk.refl _) (WkS.cons rfl (Wk.refl _) (WkS.cons rfl (Wk.refl _) (WkS.cons rfl (Wk.refl _) (WkS.nil)))))) Pf Pf)
         ·replace hm := yes_f hs247 hm
          obtain ⟨x254, q254, hm⟩ := Kc hm
          obtain ⟨x255, q255, hm⟩ := Kc hm
          refine Kac 65 [] nlSz1_7 [0,2,3,5,7,8,12,14,15,17,19,20,25,27,28,30,32,33,54,56,57,58,59,61,62,63] Ket (by kernel_rfl) (by kernel_rfl) (by kernel_rfl) (by rfl) (by rfl) (by kernel_rfl) ?_
          iterate 26 apply Exists.intro
          intro bs
          refine zep ?_
          refine zqp ?_
          refine z_e rfl rfl (Ex.wk (Kz htab rfl rfl rfl rfl rfl rfl rfl (Kd q238) (Kk q238)) (Wk.of_eq (congrArg D.el (KK x238)))) rfl rfl rfl rfl rfl rfl ?_
          refine zep ?_
          refine z_qM rfl rfl (Ko htab rfl rfl rfl rfl rfl) rfl rfl rfl rfl rfl rfl ?_
          refine zep ?_
          refine zqp ?_
          refine z_e rfl rfl (Ex.wk (Kz htab rfl rfl rfl rfl rfl rfl rfl (Kd q239) (Kk q239)) (Wk.of_eq (congrArg D.el (KK x239)))) rfl rfl rfl rfl rfl rfl ?_
          refine zep ?_
          refine z_qM rfl rfl (Ko htab rfl rfl rfl rfl rfl) rfl rfl rfl rfl rfl rfl ?_
          refine zqp ?_
          refine zqp ?_
          refine KO (j := 30) (b' := false) rfl hs240 ?_
          refine zep ?_
          refine zqp ?_
          refine z_e rfl rfl (Ex.wk (Kz htab rfl rfl rfl rfl rfl rfl rfl (Kd q241) (Kk q241)) (Wk.of_eq (congrArg D.el (KK x241)))) rfl rfl rfl rfl rfl rfl ?_
          refine zep ?_
          refine z_qM rfl rfl (Ko htab rfl rfl rfl rfl rfl) rfl rfl rfl rfl rfl rfl ?_
          refine zep ?_
          refine zqp ?_
          refine z_e rfl rfl (Ex.wk (Kz htab rfl rfl rfl rfl rfl rfl rfl (Kd q242) (Kk q242)) (Wk.of_eq (congrArg D.el (KK x242)))) rfl rfl rfl rfl rfl rfl ?_
          refine zep ?_
          refine z_qM rfl rfl (Ko htab rfl rfl rfl rfl rfl) rfl rfl rfl rfl rfl rfl ?_
          refine zqp ?_
          refine z_q rfl rfl (K6 rfl rfl rfl) rfl rfl rfl rfl rfl rfl ?_
          refine zqp ?_
          refine KO (j := 43) (b' := false) rfl hs243 ?_
          refine zep ?_
          refine zqp ?_
          refine z_e rfl rfl (Ex.wk (Kz htab rfl rfl rfl rfl rfl rfl rfl (Kd q244) (Kk q244)) (Wk.of_eq (congrArg D.el (KK x244)))) rfl rfl rfl rfl rfl rfl ?_
          refine zep ?_
          refine z_qM rfl rfl (Ko htab rfl rfl rfl rfl rfl) rfl rfl rfl rfl rfl rfl ?_
          refine zep ?_
          refine zqp ?_
          refine z_e rfl rfl (Ex.wk (Kz htab rfl rfl rfl rfl rfl rfl rfl (Kd q245) (Kk q245)) (Wk.of_eq (congrArg D.el (KK x245)))) rfl rfl rfl rfl rfl rfl ?_
          refine zep ?_
          refine z_qM rfl rfl (Ko htab rfl rfl rfl rfl rfl) rfl rfl rfl rfl rfl rfl ?_
          refine zqp ?_
          refine z_q rfl rfl (K6 rfl rfl rfl) rfl rfl rfl rfl rfl rfl ?_
          refine zqp ?_
          refine KO (j := 56) (b' := false) rfl hs246 ?_
          refine zqp ?_
          refine zqp ?_
          refine KO (j := 58) (b' := false) rfl hs247 ?_
          iterate 11 refine zK ?_
          refine z_q rfl rfl (K6 rfl rfl rfl) rfl rfl rfl rfl rfl rfl ?_
          refine z_q rfl rfl (K6 rfl rfl rfl) rfl rfl rfl rfl rfl rfl ?_
          refine zqp ?_
          refine zep ?_
          refine zqp ?_
          refine z_e rfl rfl (Ex.wk (Kz htab rfl rfl rfl rfl rfl rfl rfl (Kd q254) (Kk q254)) (Wk.of_eq (congrArg D.el (KK x254)))) rfl rfl rfl rfl rfl rfl ?_
          refine zep ?_
          refine z_eM rfl rfl (Ko htab rfl rfl rfl rfl rfl) rfl rfl rfl rfl rfl rfl ?_
          refine zep ?_
          refine zqp ?_
          refine z_e rfl rfl (Ex.wk (Kz htab rfl rfl rfl rfl rfl rfl rfl (Kd q255) (Kk q255)) (Wk.of_eq (congrArg D.el (KK x255)))) rfl rfl rfl rfl rfl rfl ?_
          refine zep ?_
          refine z_eM rfl rfl (Ko htab rfl rfl rfl rfl rfl) rfl rfl rfl rfl rfl rfl ?_
          refine zqp ?_
          refine z_nil rfl rfl (fun e he => by simp [isAl] at he) ?_
          obtain ⟨x256, q256, hm⟩ := Kc hm
          refine Kaj (hg0 x254.gKids x255.gKids a2 x256 q256) rfl rfl rfl rfl rfl Wl ?_
          rintro _ rfl
          refine pu ?_
          refine K9 rfl rfl rfl rfl rfl rfl ?_
          refine Kv ?_
          have e237 := Kj hm; subst e237
          refine ⟨rfl, ?_⟩
          exact WkX.of () (WkS.perm (WkS.cons rfl (Wk.refl _) (WkS.cons rfl (Wk.refl _) (WkS.cons rfl (Wk.refl _) (WkS.cons rfl (Wk.refl _) (WkS.cons rfl (Wk.refl _) (WkS.nil)))))) Pf Pf)
     ·intro s237 hw237; clear hm; have hm := ho237; clear q237 ho237
      refine Kb ?_
      refine KV hw237 (fun z237 => ?_)
      refine KC rfl (fun hc257 => ?_) (fun hc257 => ?_)
      ·replace hm := yes_t hc257 hm
       refine Kh ?_
       refine pu ?_
       refine Ke ?_
       refine KE ?_
       refine Kan ?_
       refine KS ?_
       have e132 := K1 hm; subst e132; clear hm; have hm := hq132
       refine KS ?_
       refine Kan ?_
       have e131 := Kj hm; subst e131; refine Kbk ?_; clear hm; have hm := ho131; simp only [Sum.elim_inr] at hm
       refine KS ?_
       have er258 := Kj hm; subst er258
       refine rP (t' := [(6, .v (.bool false))]) [] [] 0 (wC wN) (lT lN) ?_
       exact ⟨rfl, rfl, rfl⟩
      ·replace hm := yes_f hc257 hm
       refine KB ?_
       refine KM ?_
       refine Kb ?_
       refine Kt ?_
       iterate 3 refine pu ?_
       refine Kv ?_
       refine Kb ⟨_, K0 hm, ?_⟩
       exact WkX.of () (WkS.perm (WkS.cons rfl (Wk.refl _) (WkS.cons rfl (Wk.refl _) (WkS.cons rfl (Wk.refl _) (WkS.cons rfl (Wk.refl _) (WkS.nil))))) Pf Pf)
    ·replace hm := yes_f hc217 hm
     refine Kaa ?_
     refine KH ?_
     have e132 := K1 hm; subst e132; clear hm; have hm := hq132
     refine KH ?_
     refine K5 ?_
     have e131 := Kj hm; subst e131
     refine Kbj ?_
     exact WkX.of () (WkS.perm (WkS.nil) Pf Pf)
  ·intro y131 s131 hx131 hw131; subst hx131; clear hm; have hm := ho131; simp only [Sum.elim_inl] at hm; clear q131 ho131
   refine Kb ?_
   refine KV hw131 (fun z131 => ?_)
   refine Kh ?_
   refine pu ?_
   refine Ke ?_
   refine KE ?_
   have er259 := Kj hm; subst er259
   refine rP (t' := [(6, .v (.bool true))]) [] [] 0 (wC wN) (lT lN) ?_
   exact ⟨rfl, rfl, rfl⟩
noncomputable def Kbx : Nat → ((List Kn) → (List Kn) → (Bool) → Option (Bool))
 | 0 => (fun _ _ _ => none)
 | n + 1 => (Kce ((Kbx n)))
theorem Kf1 : ∀ n, (∀ (a0 : List Kn) (a1 : List Kn) (a2 : Bool) (r : Bool) (h0 : (Kbx n) a0 a1 a2 = some r), CallsD Tryz.prog 108 [.lst 5 (a0.map Kx) .no, .lst 5 (a1.map Kx) .no, .v (.bool a2)] [] [] (fun d h k => d = .v (.bool r) ∧ h = [] ∧ k = []))
  | 0 => fun _ _ _ _ h0 => by cases h0
  | n + 1 => by
    have ih := Kf1 n
    exact KiX (Kbx n) ih
theorem Kf2 : ∀ n, (∀ (a0 : List Kn) (a1 : List Kn) (a2 : Bool), Le ((Kbx n) a0 a1 a2) ((Kbx (n + 1)) a0 a1 a2))
  | 0 => fun _ _ _ => Le.none _
  | n + 1 => by
    have ih := Kf2 n
    exact fun a0 a1 a2 => by show Le (Kce ((Kbx n)) a0 a1 a2) (Kce ((Kbx (n + 1))) a0 a1 a2); unfold Kce; repeat (first | exact Le.refl _ | exact ih _ _ _ | assumption | (refine Le.bind ?_ (fun _ => ?_)) | (refine Le.cond ?_ ?_) | (refine Le.loop (fun _ => ?_)) | (refine Le.elim (fun _ => ?_) (fun _ => ?_)))
noncomputable def KeQ (a0 : List Kn) (a1 : List Kn) (a2 : Bool) : Option (Bool) := anyN fun n => (Kbx n) a0 a1 a2
theorem Kjr (a0 : List Kn) (a1 : List Kn) (a2 : Bool) {r : Bool} (n : Nat) (h : (Kbx n) a0 a1 a2 = some r) : KeQ a0 a1 a2 = some r := Kdo (fun m => (Kf2 m) a0 a1 a2) h
theorem KcF (a0 : List Kn) (a1 : List Kn) (a2 : Bool) (r : Bool) (h0 : KeQ a0 a1 a2 = some r) : CallsD Tryz.prog 108 [.lst 5 (a0.map Kx) .no, .lst 5 (a1.map Kx) .no, .v (.bool a2)] [] [] (fun d h k => d = .v (.bool r) ∧ h = [] ∧ k = []) :=
 let ⟨n, hn⟩ := KcO h0; (Kf1 n) a0 a1 a2  r hn
end Go.Proofs.YtnfkijcmakgkmaaGreat.Ab
