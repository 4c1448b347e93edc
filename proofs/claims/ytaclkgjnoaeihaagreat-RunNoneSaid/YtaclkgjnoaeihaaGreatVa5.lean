/- The texts that runNone_holds leans on, part 5. -/
import Derived.Test.YtaclkgjnoaeihaaGreatVa4
set_option maxRecDepth 100000
set_option maxHeartbeats 80000000
namespace Go.Proofs.YtaclkgjnoaeihaaGreat.Ab
open Go
set_option linter.all false
noncomputable def Kcc (a0 : Kad) : Option (Int × Int × Int) :=
 (Option.bind (α := Bool) (bif (decide ((24 : Int) < (a0.gGlobals.length : Int))) then some true else some (decide ((24 : Int) < (a0.gFuncs.length : Int)))) fun y3 => (bif y3 then some ((0 : Int), (0 : Int), (6 : Int)) else ((KcF a0).bind fun x8 => (bif (decide ((0 : Int) ≤ x8)) then some (x8, (0 : Int), (8 : Int)) else (Option.bind (α := (Unit) ⊕ (Int × Int × Int)) (loopM (fun (s32 : Int) => (bif (decide (s32 < (a0.gFuncs.length : Int))) then ((idx a0.gFuncs s32).bind fun x46 => ((checkF a0 x46).bind fun x48 => (bif (x48.2 != (0 : Int)) then some (.done (.inr ((IntKind.i64.wrap ((a0.gGlobals.length : Int) + s32)), x48.1, x48.2))) else some (.next (IntKind.i64.wrap (s32 + (1 : Int))))))) else some (.done (.inl ())))) (0 : Int)) (Sum.elim (fun y31 => some ((0 : Int), (0 : Int), (0 : Int))) (fun r => some r)))))))
theorem KfX (a0 : Kad) (r : Int × Int × Int) (h0 : Kcc a0 = some r) : CallsD Tryz.prog 23 [Ka8 a0] [] [] (fun d h k => d = .tup [.v (.int .i64 r.1), .v (.int .i64 r.2.1), .v (.int .i64 r.2.2)] ∧ h = [] ∧ k = []) := by
 have hm := Ku h0
 unfold Kcc at hm
 clear h0
 refine K5 htab Tryz.func23 rfl rfl rfl rfl rfl (fun C => ?_)
 refine Kh ?_
 refine p_box rfl rfl rfl rfl rfl rfl rfl (fun b1 => ?_)
 iterate 3 refine pu ?_
 refine Kf ?_
 refine Ko ?_
 refine Ko ?_
 obtain ⟨y3, q3, ho3⟩ := Kc hm
 refine KP (Y := Unit) (fun z3 => (⟨[(1, .ptr b1 0), (19, .v (.bool y3))], [(b1, Blk.cells [.lst 4 (a0.gGlobals.map KE) .no, .lst 5 (a0.gFuncs.map KH) .no] 59)], []⟩ : S)) ?_ ?_
 ·clear hm; have hm := Ku q3
  refine Kr ?_
  refine pu ?_
  refine pL 0 ?_
  refine Kao htab rfl rfl rfl rfl rfl rfl rfl (by first | exact Kae | rfl) ?_
  refine pu ?_
  refine pu ?_
  refine KbR (i := 14) rfl (fun hg4 => ?_) (fun hg4 => ?_)
  ·replace hm := yes_t hg4 hm
   iterate 4 refine pK ?_
   refine KbP rfl rfl rfl rfl rfl rfl ?_
   refine Kt ?_
   have e3 := Ki hm; subst e3
   refine ⟨rfl, ?_⟩
   exact WkX.of () (WkS.perm (WkS.cons rfl (Wk.refl _) (WkS.cons rfl (Wk.refl _) (WkS.nil))) Pf Pf)
  ·replace hm := yes_f hg4 hm
   refine pu ?_
   refine pL 0 ?_
   refine Kao htab rfl rfl rfl rfl rfl rfl rfl (by first | exact Kae | rfl) ?_
   refine pu ?_
   refine KbQ rfl rfl rfl rfl rfl rfl ?_
   refine Kt ?_
   have e3 := Ki hm; subst e3
   refine ⟨rfl, ?_⟩
   exact WkX.of () (WkS.perm (WkS.cons rfl (Wk.refl _) (WkS.cons rfl (Wk.refl _) (WkS.nil))) Pf Pf)
 ·intro s3 hw3; clear hm; have hm := ho3; clear q3 ho3
  refine Kd ?_
  refine KY hw3 (fun z3 => ?_)
  refine Kp rfl (fun hc6 => ?_) (fun hc6 => ?_)
  ·replace hm := yes_t hc6 hm
   refine Kh ?_
   iterate 3 refine pu ?_
   refine Kf ?_
   refine KA ?_
   refine KB ?_
   have er7 := Ki hm; subst er7
   refine rP (t' := [(2, .v (.int .i64 (0 : Int))), (3, .v (.int .i64 (0 : Int))), (4, .v (.int .i64 (6 : Int)))]) [] [] 0 (wC (wC (wC wN))) (lT (lT (lT lN))) ?_
   exact ⟨rfl, rfl, rfl⟩
  ·replace hm := yes_f hc6 hm
   refine Ks ?_
   refine Kd ?_
   refine Ko ?_
   refine Kh ?_
   refine K3 (d := Ka8 a0) 0 htab rfl rfl rfl rfl rfl rfl rfl rfl ?_
   obtain ⟨x8, q8, hm⟩ := Kc hm
   refine KT (Kgi a0 x8 q8) rfl rfl rfl rfl rfl Wl ?_
   rintro _ rfl
   refine pu ?_
   refine KL ?_
   refine pu ?_
   refine pu ?_
   refine Kf ?_
   refine Kp rfl (fun hc10 => ?_) (fun hc10 => ?_)
   ·replace hm := yes_t hc10 hm
    refine Kh ?_
    iterate 4 refine pu ?_
    refine Kf ?_
    refine KA ?_
    refine KB ?_
    have er11 := Ki hm; subst er11
    refine rP (t' := [(2, .v (.int .i64 x8)), (3, .v (.int .i64 (0 : Int))), (4, .v (.int .i64 (8 : Int)))]) [] [] 0 (wC (wC (wC wN))) (lT (lT (lT lN))) ?_
    exact ⟨rfl, rfl, rfl⟩
   ·replace hm := yes_f hc10 hm
    refine Ks ?_
    refine Kd ?_
    refine Ko ?_
    refine Kh ?_
    refine pu ?_
    refine pL 0 ?_
    refine Kao htab rfl rfl rfl rfl rfl rfl rfl (by first | exact Kae | rfl) ?_
    refine pu ?_
    refine Kf ?_
    obtain ⟨x31, q31, ho31⟩ := Kc hm
    refine Kbe (τ := Unit) (Y := Unit) (fun y31 z31 => (⟨[], [], []⟩ : S)) x31 ?_ ?_
    ·clear hm; have hm := Ku q31
     refine KC ?_
     obtain ⟨u32, hl32, hq32⟩ := yes_m hm
     refine KaW (Y := Unit) hl32 (fun s32 z32 => (⟨[(1, .ptr b1 0), (26, .lst 5 (a0.gFuncs.map KH) .no), (27, .v (.int .i64 (a0.gFuncs.length : Int))), (28, .v (.int .i64 s32))], [(b1, Blk.cells [.lst 4 (a0.gGlobals.map KE) .no, .lst 5 (a0.gFuncs.map KH) .no] 59)], []⟩ : S)) ?_ ?_
     ·skip
      exact WkX.of () (WkS.perm (WkS.cons rfl (Wk.refl _) (WkS.cons rfl (Wk.refl _) (WkS.cons rfl (Wk.refl _) (WkS.cons rfl (Wk.refl _) (WkS.nil))))) Pf Pf)
     ·intro G32 s32 z32 hm
      refine Kh ?_
      refine pu ?_
      refine Kf ?_
      refine Ko ?_
      refine Kp rfl (fun hc45 => ?_) (fun hc45 => ?_)
      ·replace hm := yes_t hc45 hm
       refine Ks ?_
       refine Kd ?_
       refine Ko ?_
       refine KC ?_
       refine Kh ?_
       refine pu ?_
       obtain ⟨x46, q46, hm⟩ := Kc hm
       refine KaB htab rfl rfl rfl rfl rfl rfl rfl rfl rfl rfl (KM q46) (K8 q46) ?_
       refine Kai (d := KH x46) htab rfl rfl rfl rfl rfl rfl rfl rfl ?_
       refine Kak htab rfl rfl rfl rfl rfl rfl rfl (fun b47 => ?_)
       refine pu ?_
       refine pS1 (ds' := [.v (.string x46.gName), .lst 2 (x46.gParams.map Ke) .no, .lst 2 (x46.gLocals.map Ke) .no, .lst 7 (x46.gBody.map Kg) .no, .v (.int .i64 x46.gAt)]) ?_
       refine KL ?_
       refine K3 (d := Ka8 a0) 0 htab rfl rfl rfl rfl rfl rfl rfl rfl ?_
       refine K3 (d := KH x46) 1 htab rfl rfl rfl rfl rfl rfl rfl rfl ?_
       obtain ⟨x48, q48, hm⟩ := Kc hm
       refine KT (checkF_ok a0 x46 x48 q48) rfl rfl rfl rfl rfl Wl ?_
       rintro _ rfl
       iterate 5 refine pu ?_
       refine KL ?_
       refine pu ?_
       refine pu ?_
       refine Kf ?_
       refine Kp rfl (fun hc49 => ?_) (fun hc49 => ?_)
       ·replace hm := yes_t hc49 hm
        refine Kh ?_
        refine pu ?_
        refine pL 0 ?_
        refine Kao htab rfl rfl rfl rfl rfl rfl rfl (by first | exact Kae | rfl) ?_
        iterate 7 refine pu ?_
        refine Kf ?_
        refine KA ?_
        refine KW ?_
        refine KB ?_
        have e32 := Kab hm; subst e32; clear hm; have hm := hq32
        refine KB ?_
        refine KW ?_
        have e31 := Ki hm; subst e31; refine KaD ?_; clear hm; have hm := ho31; simp only [Sum.elim_inr] at hm
        refine KB ?_
        have er50 := Ki hm; subst er50
        refine rP (t' := [(2, .v (.int .i64 (IntKind.i64.wrap ((a0.gGlobals.length : Int) + s32)))), (3, .v (.int .i64 x48.1)), (4, .v (.int .i64 x48.2))]) [] [] 0 (wC (wC (wC wN))) (lT (lT (lT lN))) ?_
        exact ⟨rfl, rfl, rfl⟩
       ·replace hm := yes_f hc49 hm
        refine Ks ?_
        refine Kz ?_
        refine Kd ?_
        refine Kr ?_
        refine pu ?_
        refine pu ?_
        refine Kt ?_
        refine Kd ⟨_, Kas hm, ?_⟩
        exact WkX.of () (WkS.perm (WkS.cons rfl (Wk.refl _) (WkS.cons rfl (Wk.refl _) (WkS.cons rfl (Wk.refl _) (WkS.cons rfl (Wk.refl _) (WkS.nil))))) Pf Pf)
      ·replace hm := yes_f hc45 hm
       refine Kal ?_
       refine KJ ?_
       have e32 := Kab hm; subst e32; clear hm; have hm := hq32
       refine KJ ?_
       refine Kaf ?_
       have e31 := Ki hm; subst e31
       refine Kbf ?_
       exact WkX.of () (WkS.perm (WkS.nil) Pf Pf)
    ·intro y31 s31 hx31 hw31; subst hx31; clear hm; have hm := ho31; simp only [Sum.elim_inl] at hm; clear q31 ho31
     refine Kd ?_
     refine KY hw31 (fun z31 => ?_)
     refine Kh ?_
     iterate 3 refine pu ?_
     refine Kf ?_
     refine KA ?_
     have er51 := Ki hm; subst er51
     refine rP (t' := [(2, .v (.int .i64 (0 : Int))), (3, .v (.int .i64 (0 : Int))), (4, .v (.int .i64 (0 : Int)))]) [] [] 0 (wC (wC (wC wN))) (lT (lT (lT lN))) ?_
     exact ⟨rfl, rfl, rfl⟩
end Go.Proofs.YtaclkgjnoaeihaaGreat.Ab
namespace Go.Proofs.YtaclkgjnoaeihaaGreat.Ab
open Go
set_option linter.all false
def Kdy (fu : Nat) (a0 : Kad) : Option (Int) :=
 (Option.bind (α := (List (ByteArray × Int)) ⊕ (Int)) (loopC fu (fun (s25 : Int × List (ByteArray × Int)) => (bif (decide (s25.1 < (a0.gGlobals.length : Int))) then ((idx a0.gGlobals s25.1).bind fun x42 => (bif (decide ((1 : Int) < (mgetD (mput s25.2 x42.gName (IntKind.i64.wrap ((mgetD s25.2 x42.gName (0 : Int)) + (1 : Int)))) x42.gName (0 : Int)))) then some (.done (.inr s25.1)) else some (.next ((IntKind.i64.wrap (s25.1 + (1 : Int))), (mput s25.2 x42.gName (IntKind.i64.wrap ((mgetD s25.2 x42.gName (0 : Int)) + (1 : Int)))))))) else some (.done (.inl s25.2)))) ((0 : Int), ([] : List (ByteArray × Int)))) (Sum.elim (fun y24 => (Option.bind (α := (List (ByteArray × Int)) ⊕ (Int)) (loopC fu (fun (s68 : Int × List (ByteArray × Int)) => (bif (decide (s68.1 < (a0.gFuncs.length : Int))) then ((idx a0.gFuncs s68.1).bind fun x85 => (bif (decide ((1 : Int) < (mgetD (mput s68.2 x85.gName (IntKind.i64.wrap ((mgetD s68.2 x85.gName (0 : Int)) + (1 : Int)))) x85.gName (0 : Int)))) then some (.done (.inr (IntKind.i64.wrap ((a0.gGlobals.length : Int) + s68.1)))) else some (.next ((IntKind.i64.wrap (s68.1 + (1 : Int))), (mput s68.2 x85.gName (IntKind.i64.wrap ((mgetD s68.2 x85.gName (0 : Int)) + (1 : Int)))))))) else some (.done (.inl s68.2)))) ((0 : Int), y24)) (Sum.elim (fun y67 => some (-1 : Int)) (fun r => some r)))) (fun r => some r)))
theorem Kge (fu : Nat)   (a0 : Kad) : Le (Kdy fu  a0) (KcF  a0) := by
 unfold Kdy KcF
 repeat (first | exact Le.refl _ | assumption | (refine Le.bind ?_ (fun _ => ?_)) | (refine Le.cond ?_ ?_) | (refine Le.loopC (fun _ => ?_)) | (refine Le.elim (fun _ => ?_) (fun _ => ?_)))
def KbW (fu : Nat) (a0 : Bool) : Option (Int) :=
 (bif a0 then some (2 : Int) else some (1 : Int))
theorem KcQ (fu : Nat)   (a0 : Bool) : Le (KbW fu  a0) (KbB  a0) := by
 unfold KbW KbB
 repeat (first | exact Le.refl _ | assumption | (refine Le.bind ?_ (fun _ => ?_)) | (refine Le.cond ?_ ?_) | (refine Le.loopC (fun _ => ?_)) | (refine Le.elim (fun _ => ?_) (fun _ => ?_)))
def Kbg (fu : Nat) (a0 : Kl) (a1 : ByteArray) : Option (Int) :=
 (Option.bind (α := (Unit) ⊕ (Int)) (loopC fu (fun (s35 : Int) => (bif (decide (s35 < (a0.gP.gGlobals.length : Int))) then ((idx a0.gP.gGlobals s35).bind fun x57 => (bif (decide (x57.gName = a1)) then (Option.bind (α := Bool) (bif (decide ((0 : Int) < x57.gSize)) then some (!x57.gPtr) else some false) fun y61 => (bif y61 then some (.done (.inr (3 : Int))) else ((KbW fu x57.gPtr).bind fun x65 => some (.done (.inr x65))))) else some (.next (IntKind.i64.wrap (s35 + (1 : Int)))))) else some (.done (.inl ())))) (0 : Int)) (Sum.elim (fun y34 => some (0 : Int)) (fun r => some r)))
theorem KbN (fu : Nat)   (a0 : Kl) (a1 : ByteArray) : Le (Kbg fu  a0 a1) (Ka0  a0 a1) := by
 unfold Kbg Ka0
 repeat (first | exact Le.refl _ | assumption | exact KcQ fu _ | (refine Le.bind ?_ (fun _ => ?_)) | (refine Le.cond ?_ ?_) | (refine Le.loopC (fun _ => ?_)) | (refine Le.elim (fun _ => ?_) (fun _ => ?_)))
def KaE (fu : Nat) (a0 : Int) (a1 : Int) : Option (Unit) :=
 none
theorem Kbz (fu : Nat)   (a0 : Int) (a1 : Int) : Le (KaE fu  a0 a1) (KaO  a0 a1) := by
 unfold KaE KaO
 repeat (first | exact Le.refl _ | assumption | (refine Le.bind ?_ (fun _ => ?_)) | (refine Le.cond ?_ ?_) | (refine Le.loopC (fun _ => ?_)) | (refine Le.elim (fun _ => ?_) (fun _ => ?_)))
def Kcg (fu : Nat) (a0 : Kl) : Option (Unit) :=
 (Option.bind (α := List (ByteArray × Int)) (loopC fu (fun (s374 : Int × List (ByteArray × Int)) => (bif (decide (s374.1 < (2 : Int))) then ((idx ([a0.gF.gParams, a0.gF.gLocals] : List (List K9)) s374.1).bind fun x652 => (Option.bind (α := List (ByteArray × Int)) (loopC fu (fun (s698 : Int × List (ByteArray × Int)) => (bif (decide (s698.1 < (x652.length : Int))) then ((idx x652 s698.1).bind fun x733 => (Option.bind (α := Bool) (bif (decide ((1 : Int) < (mgetD (mput s698.2 x733.gName (IntKind.i64.wrap ((mgetD s698.2 x733.gName (0 : Int)) + (1 : Int)))) x733.gName (0 : Int)))) then some true else ((Kbg fu a0 x733.gName).bind fun x739 => some (x739 != (0 : Int)))) fun y737 => (bif y737 then ((KaE fu a0.gF.gAt (8 : Int)).bind fun x741 => some (.next ((IntKind.i64.wrap (s698.1 + (1 : Int))), (mput s698.2 x733.gName (IntKind.i64.wrap ((mgetD s698.2 x733.gName (0 : Int)) + (1 : Int))))))) else some (.next ((IntKind.i64.wrap (s698.1 + (1 : Int))), (mput s698.2 x733.gName (IntKind.i64.wrap ((mgetD s698.2 x733.gName (0 : Int)) + (1 : Int))))))))) else some (.done s698.2))) ((0 : Int), s374.2)) fun y697 => some (.next ((IntKind.i64.wrap (s374.1 + (1 : Int))), y697)))) else some (.done s374.2))) ((0 : Int), ([] : List (ByteArray × Int)))) fun y373 => some ())
theorem Keq (fu : Nat)   (a0 : Kl) : Le (Kcg fu  a0) (Kbj  a0) := by
 unfold Kcg Kbj
 repeat (first | exact Le.refl _ | assumption | exact KbN fu _ _ | exact Kbz fu _ _ | (refine Le.bind ?_ (fun _ => ?_)) | (refine Le.cond ?_ ?_) | (refine Le.loopC (fun _ => ?_)) | (refine Le.elim (fun _ => ?_) (fun _ => ?_)))
def KdT (fu : Nat) (a0 : Kb) : Option (Int) :=
 (Option.bind (α := Bool) (bif (a0.gOp == (1 : Int)) then some (a0.gOp == (1 : Int)) else (Option.bind (α := Bool) (bif (a0.gOp == (3 : Int)) then some (a0.gOp == (3 : Int)) else (Option.bind (α := Bool) (bif (a0.gOp == (6 : Int)) then some (a0.gOp == (6 : Int)) else (Option.bind (α := Bool) (bif (a0.gOp == (7 : Int)) then some (a0.gOp == (7 : Int)) else (Option.bind (α := Bool) (bif (a0.gOp == (8 : Int)) then some (a0.gOp == (8 : Int)) else some (a0.gOp == (9 : Int))) fun y25 => some y25)) fun y22 => some y22)) fun y18 => some y18)) fun y13 => some y13)) fun y7 => (bif y7 then some (1 : Int) else (bif (a0.gOp == (2 : Int)) then some (2 : Int) else (bif (a0.gOp == (4 : Int)) then some (a0.gExps.length : Int) else (bif (a0.gOp == (5 : Int)) then some (0 : Int) else some (-1 : Int))))))
theorem Kgl (fu : Nat)   (a0 : Kb) : Le (KdT fu  a0) (Kdc  a0) := by
 unfold KdT Kdc
 repeat (first | exact Le.refl _ | assumption | (refine Le.bind ?_ (fun _ => ?_)) | (refine Le.cond ?_ ?_) | (refine Le.loopC (fun _ => ?_)) | (refine Le.elim (fun _ => ?_) (fun _ => ?_)))
def KdU (fu : Nat) (a0 : Int) : Option (Int) :=
 (Option.bind (α := (Unit) ⊕ (Int)) (Option.bind (α := Bool) (bif (a0 == (1 : Int)) then some (a0 == (1 : Int)) else (Option.bind (α := Bool) (bif (a0 == (2 : Int)) then some (a0 == (2 : Int)) else (Option.bind (α := Bool) (bif (a0 == (4 : Int)) then some (a0 == (4 : Int)) else (Option.bind (α := Bool) (bif (a0 == (18 : Int)) then some (a0 == (18 : Int)) else some (a0 == (19 : Int))) fun y44 => some y44)) fun y41 => some y41)) fun y37 => some y37)) fun y32 => (Option.bind (α := (Unit) ⊕ (Int)) (bif y32 then some (.inr (0 : Int)) else (Option.bind (α := Bool) (bif (a0 == (3 : Int)) then some (a0 == (3 : Int)) else (Option.bind (α := Bool) (bif (a0 == (20 : Int)) then some (a0 == (20 : Int)) else (Option.bind (α := Bool) (bif (a0 == (5 : Int)) then some (a0 == (5 : Int)) else some (a0 == (6 : Int))) fun y67 => some y67)) fun y64 => some y64)) fun y60 => (bif y60 then some (.inr (1 : Int)) else some (.inl ())))) (Sum.elim (fun y54 => some (.inl ())) (fun r => some (.inr r))))) (Sum.elim (fun y27 => (bif (decide ((7 : Int) ≤ a0)) then (bif (decide (a0 ≤ (17 : Int))) then some (2 : Int) else some (-1 : Int)) else some (-1 : Int))) (fun r => some r)))
theorem Kgm (fu : Nat)   (a0 : Int) : Le (KdU fu  a0) (Kdd  a0) := by
 unfold KdU Kdd
 repeat (first | exact Le.refl _ | assumption | (refine Le.bind ?_ (fun _ => ?_)) | (refine Le.cond ?_ ?_) | (refine Le.loopC (fun _ => ?_)) | (refine Le.elim (fun _ => ?_) (fun _ => ?_)))
def Kbh (fu : Nat) (a0 : Kq) (a1 : Int) : Option (Unit) :=
 (bif (a1 != (1 : Int)) then ((KaE fu a0.gAt (9 : Int)).bind fun x3 => some ()) else some ())
theorem KdA (fu : Nat)   (a0 : Kq) (a1 : Int) : Le (Kbh fu  a0 a1) (Ka9  a0 a1) := by
 unfold Kbh Ka9
 repeat (first | exact Le.refl _ | assumption | exact Kbz fu _ _ | (refine Le.bind ?_ (fun _ => ?_)) | (refine Le.cond ?_ ?_) | (refine Le.loopC (fun _ => ?_)) | (refine Le.elim (fun _ => ?_) (fun _ => ?_)))
def KbF (fu : Nat) (a0 : Kl) (a1 : ByteArray) : Option (Int) :=
 (Option.bind (α := (Unit) ⊕ (Int)) (loopC fu (fun (s125 : Int) => (bif (decide (s125 < (2 : Int))) then ((idx ([a0.gF.gParams, a0.gF.gLocals] : List (List K9)) s125).bind fun x207 => (Option.bind (α := (Unit) ⊕ (Int)) (loopC fu (fun (s227 : Int) => (bif (decide (s227 < (x207.length : Int))) then ((idx x207 s227).bind fun x241 => (bif (decide (x241.gName = a1)) then ((KbW fu x241.gPtr).bind fun x244 => some (.done (.inr x244))) else some (.next (IntKind.i64.wrap (s227 + (1 : Int)))))) else some (.done (.inl ())))) (0 : Int)) (Sum.elim (fun y226 => some (.next (IntKind.i64.wrap (s125 + (1 : Int))))) (fun r => some (.done (.inr r)))))) else some (.done (.inl ())))) (0 : Int)) (Sum.elim (fun y124 => some (0 : Int)) (fun r => some r)))
theorem Kc1 (fu : Nat)   (a0 : Kl) (a1 : ByteArray) : Le (KbF fu  a0 a1) (Kbk  a0 a1) := by
 unfold KbF Kbk
 repeat (first | exact Le.refl _ | assumption | exact KcQ fu _ | (refine Le.bind ?_ (fun _ => ?_)) | (refine Le.cond ?_ ?_) | (refine Le.loopC (fun _ => ?_)) | (refine Le.elim (fun _ => ?_) (fun _ => ?_)))
def Kdi (fu : Nat) (a0 : Int) (a1 : Int) (a2 : List Int) : Option (Int) :=
 (Option.bind (α := Unit) (bif (a0 == (0 : Int)) then ((KaE fu a1 (7 : Int)).bind fun x5 => some ()) else some ()) fun y3 => (Option.bind (α := (Unit) ⊕ (Int)) (loopC fu (fun (s20 : Int) => (bif (decide (s20 < (a2.length : Int))) then ((idx a2 s20).bind fun x30 => (bif (x30 == a0) then some (.done (.inr a0)) else some (.next (IntKind.i64.wrap (s20 + (1 : Int)))))) else some (.done (.inl ())))) (0 : Int)) (Sum.elim (fun y19 => ((KaE fu a1 (9 : Int)).bind fun x33 => some (0 : Int))) (fun r => some r))))
theorem Ker (fu : Nat)   (a0 : Int) (a1 : Int) (a2 : List Int) : Le (Kdi fu  a0 a1 a2) (Kcu  a0 a1 a2) := by
 unfold Kdi Kcu
 repeat (first | exact Le.refl _ | assumption | exact Kbz fu _ _ | (refine Le.bind ?_ (fun _ => ?_)) | (refine Le.cond ?_ ?_) | (refine Le.loopC (fun _ => ?_)) | (refine Le.elim (fun _ => ?_) (fun _ => ?_)))
def Kar (fu : Nat) (a0 : Kl) (a1 : ByteArray) (a2 : Int) (a3 : List Int) : Option (Int) :=
 ((KbF fu a0 a1).bind fun x2 => (Option.bind (α := Int) (bif (x2 == (0 : Int)) then ((Kbg fu a0 a1).bind fun x7 => some x7) else some x2) fun y5 => ((Kdi fu y5 a2 a3).bind fun x8 => some x8)))
theorem Kb3 (fu : Nat)   (a0 : Kl) (a1 : ByteArray) (a2 : Int) (a3 : List Int) : Le (Kar fu  a0 a1 a2 a3) (Kap  a0 a1 a2 a3) := by
 unfold Kar Kap
 repeat (first | exact Le.refl _ | assumption | exact Kc1 fu _ _ | exact KbN fu _ _ | exact Ker fu _ _ _ | (refine Le.bind ?_ (fun _ => ?_)) | (refine Le.cond ?_ ?_) | (refine Le.loopC (fun _ => ?_)) | (refine Le.elim (fun _ => ?_) (fun _ => ?_)))
def Kbp (fu : Nat) (a0 : Kl) (a1 : Kq) (a2 : Int) : Option (Int) :=
 ((Kbg fu a0 a1.gName).bind fun x3 => ((KbF fu a0 a1.gName).bind fun x4 => (Option.bind (α := Int) (bif (x4 != (0 : Int)) then some (2 : Int) else some x3) fun y6 => ((Kdi fu y6 a1.gAt ([a2] : List Int)).bind fun x8 => some (2 : Int)))))
theorem KdY (fu : Nat)   (a0 : Kl) (a1 : Kq) (a2 : Int) : Le (Kbp fu  a0 a1 a2) (Ka7  a0 a1 a2) := by
 unfold Kbp Ka7
 repeat (first | exact Le.refl _ | assumption | exact KbN fu _ _ | exact Kc1 fu _ _ | exact Ker fu _ _ _ | (refine Le.bind ?_ (fun _ => ?_)) | (refine Le.cond ?_ ?_) | (refine Le.loopC (fun _ => ?_)) | (refine Le.elim (fun _ => ?_) (fun _ => ?_)))
def Kb4 (fu : Nat) (g0 : (Kl) → (List Kq) → Option (List Int)) (g1 : (Kl) → (Kq) → Option (Int)) (a0 : Kl) (a1 : List Kq) : Option (List Int) :=
 (Option.bind (α := List Int) (loopC fu (fun (s23 : List Int × Int) => (bif (decide (s23.2 < (a1.length : Int))) then ((idx a1 s23.2).bind fun x38 => ((g1 a0 x38).bind fun x40 => ((app 8 s23.1 ([x40] : List Int)).bind fun x41 => some (.next (x41, (IntKind.i64.wrap (s23.2 + (1 : Int)))))))) else some (.done s23.1))) (([] : List Int), (0 : Int))) fun y22 => some y22)
theorem Kea (fu : Nat) (g0 g0' : (Kl) → (List Kq) → Option (List Int)) (g1 g1' : (Kl) → (Kq) → Option (Int)) (hg0 : ∀ x0 x1, Le (g0 x0 x1) (g0' x0 x1)) (hg1 : ∀ x0 x1, Le (g1 x0 x1) (g1' x0 x1)) (a0 : Kl) (a1 : List Kq) : Le (Kb4 fu g0 g1 a0 a1) (KaI g0' g1' a0 a1) := by
 unfold Kb4 KaI
 repeat (first | exact Le.refl _ | assumption | exact hg0 _ _ | exact hg1 _ _ | (refine Le.bind ?_ (fun _ => ?_)) | (refine Le.cond ?_ ?_) | (refine Le.loopC (fun _ => ?_)) | (refine Le.elim (fun _ => ?_) (fun _ => ?_)))
def Kb5 (fu : Nat) (g0 : (Kl) → (List Kq) → Option (List Int)) (g1 : (Kl) → (Kq) → Option (Int)) (a0 : Kl) (a1 : Kq) : Option (Int) :=
 ((KdU fu a1.gOp).bind fun x3 => (Option.bind (α := Bool) (bif (decide (x3 < (0 : Int))) then some true else some ((a1.gKids.length : Int) != x3)) fun y5 => (Option.bind (α := Unit) (bif y5 then ((KaE fu a1.gAt (2 : Int)).bind fun x11 => some ()) else some ()) fun y9 => ((g0 a0 a1.gKids).bind fun x13 => (Option.bind (α := Bool) (bif (a1.gOp == (14 : Int)) then some true else some (a1.gOp == (15 : Int))) fun y15 => (bif y15 then ((idx x13 (0 : Int)).bind fun x24 => ((idx x13 (1 : Int)).bind fun x25 => (Option.bind (α := Unit) (bif (x24 != x25) then ((idx a1.gKids (1 : Int)).bind fun x31 => ((KaE fu x31.gAt (9 : Int)).bind fun x32 => some ())) else some ()) fun y29 => some (1 : Int)))) else (Option.bind (α := Unit) (loopC fu (fun (s54 : Int) => (bif (decide (s54 < (a1.gKids.length : Int))) then ((idx a1.gKids s54).bind fun x68 => ((idx x13 s54).bind fun x70 => ((Kbh fu x68 x70).bind fun x71 => some (.next (IntKind.i64.wrap (s54 + (1 : Int))))))) else some (.done ()))) (0 : Int)) fun y53 => (bif (a1.gOp == (2 : Int)) then ((Kar fu a0 a1.gName a1.gAt ([(1 : Int), (2 : Int)] : List Int)).bind fun x73 => some x73) else (bif (a1.gOp == (3 : Int)) then ((Kar fu a0 a1.gName a1.gAt ([(3 : Int)] : List Int)).bind fun x76 => some (1 : Int)) else (bif (a1.gOp == (4 : Int)) then ((Kar fu a0 a1.gName a1.gAt ([(2 : Int)] : List Int)).bind fun x79 => some (1 : Int)) else (bif (a1.gOp == (18 : Int)) then some (2 : Int) else (bif (a1.gOp == (19 : Int)) then ((Kbp fu a0 a1 (1 : Int)).bind fun x84 => some x84) else (bif (a1.gOp == (20 : Int)) then ((Kbp fu a0 a1 (3 : Int)).bind fun x87 => some x87) else some (1 : Int))))))))))))))
theorem Keb (fu : Nat) (g0 g0' : (Kl) → (List Kq) → Option (List Int)) (g1 g1' : (Kl) → (Kq) → Option (Int)) (hg0 : ∀ x0 x1, Le (g0 x0 x1) (g0' x0 x1)) (hg1 : ∀ x0 x1, Le (g1 x0 x1) (g1' x0 x1)) (a0 : Kl) (a1 : Kq) : Le (Kb5 fu g0 g1 a0 a1) (KaJ g0' g1' a0 a1) := by
 unfold Kb5 KaJ
 repeat (first | exact Le.refl _ | assumption | exact hg0 _ _ | exact hg1 _ _ | exact Kgm fu _ | exact Kbz fu _ _ | exact KdA fu _ _ | exact Kb3 fu _ _ _ _ | exact KdY fu _ _ _ | (refine Le.bind ?_ (fun _ => ?_)) | (refine Le.cond ?_ ?_) | (refine Le.loopC (fun _ => ?_)) | (refine Le.elim (fun _ => ?_) (fun _ => ?_)))
def KaP (fu : Nat) : Nat → ((Kl) → (List Kq) → Option (List Int)) × ((Kl) → (Kq) → Option (Int))
 | 0 => (fun _ _ => none, fun _ _ => none)
 | n + 1 => (Kb4 fu ((KaP fu n).1) ((KaP fu n).2), Kb5 fu ((KaP fu n).1) ((KaP fu n).2))
theorem KcJ (fu : Nat) : ∀ n, (∀ (a0 : Kl) (a1 : List Kq), Le ((KaP fu n).1 a0 a1) ((KI n).1 a0 a1)) ∧ (∀ (a0 : Kl) (a1 : Kq), Le ((KaP fu n).2 a0 a1) ((KI n).2 a0 a1))
  | 0 => ⟨fun _ _ => Le.none _, fun _ _ => Le.none _⟩
  | n + 1 => by
    have ih := KcJ fu n
    exact ⟨fun a0 a1 => Kea fu _ _ _ _ ih.1 ih.2 a0 a1, fun a0 a1 => Keb fu _ _ _ _ ih.1 ih.2 a0 a1⟩
def Kdw (fu : Nat) (a0 : Kl) (a1 : List Kq) : Option (List Int) := (KaP fu fu).1 a0 a1
theorem KeT (fu : Nat) (a0 : Kl) (a1 : List Kq) : Le (Kdw fu a0 a1) (Kb2 a0 a1) := fun r h => Ke6 a0 a1 fu (((KcJ fu fu).1 a0 a1) r h)
def Kco (fu : Nat) (a0 : Kl) (a1 : Kb) (a2 : List Int) : Option (Unit) :=
 (Option.bind (α := (Unit) ⊕ (Unit)) (loopC fu (fun (s208 : Int) => (bif (decide (s208 < (a0.gP.gFuncs.length : Int))) then ((idx a0.gP.gFuncs s208).bind fun x344 => (bif (!decide (x344.gName = a1.gFunc)) then some (.next (IntKind.i64.wrap (s208 + (1 : Int)))) else (Option.bind (α := Unit) (bif ((x344.gParams.length : Int) != (a2.length : Int)) then ((KaE fu a1.gAt (2 : Int)).bind fun x351 => some ()) else some ()) fun y349 => (Option.bind (α := Unit) (loopC fu (fun (s380 : Int) => (bif (decide (s380 < (x344.gParams.length : Int))) then ((idx x344.gParams s380).bind fun x400 => ((KbW fu x400.gPtr).bind fun x402 => ((idx a2 s380).bind fun x403 => (bif (x402 != x403) then ((idx a1.gExps s380).bind fun x405 => ((KaE fu x405.gAt (9 : Int)).bind fun x406 => some (.next (IntKind.i64.wrap (s380 + (1 : Int)))))) else some (.next (IntKind.i64.wrap (s380 + (1 : Int)))))))) else some (.done ()))) (0 : Int)) fun y379 => (bif (!decide (a1.gName = (ByteArray.mk #[]))) then ((Kar fu a0 a1.gName a1.gAt ([(1 : Int)] : List Int)).bind fun x408 => some (.done (.inr ()))) else some (.done (.inr ()))))))) else some (.done (.inl ())))) (0 : Int)) (Sum.elim (fun y207 => ((KaE fu a1.gAt (7 : Int)).bind fun x411 => some ())) (fun r => some r)))
theorem KeU (fu : Nat)   (a0 : Kl) (a1 : Kb) (a2 : List Int) : Le (Kco fu  a0 a1 a2) (KbD  a0 a1 a2) := by
 unfold Kco KbD
 repeat (first | exact Le.refl _ | assumption | exact Kbz fu _ _ | exact KcQ fu _ | exact Kb3 fu _ _ _ _ | (refine Le.bind ?_ (fun _ => ?_)) | (refine Le.cond ?_ ?_) | (refine Le.loopC (fun _ => ?_)) | (refine Le.elim (fun _ => ?_) (fun _ => ?_)))
def KbX (fu : Nat) (g0 : (Kl) → (List Kb) → Option (Unit)) (g1 : (Kl) → (Kb) → Option (Unit)) (a0 : Kl) (a1 : List Kb) : Option (Unit) :=
 (Option.bind (α := Unit) (loopC fu (fun (s19 : Int) => (bif (decide (s19 < (a1.length : Int))) then ((idx a1 s19).bind fun x31 => ((g1 a0 x31).bind fun x33 => some (.next (IntKind.i64.wrap (s19 + (1 : Int)))))) else some (.done ()))) (0 : Int)) fun y18 => some ())
theorem KdZ (fu : Nat) (g0 g0' : (Kl) → (List Kb) → Option (Unit)) (g1 g1' : (Kl) → (Kb) → Option (Unit)) (hg0 : ∀ x0 x1, Le (g0 x0 x1) (g0' x0 x1)) (hg1 : ∀ x0 x1, Le (g1 x0 x1) (g1' x0 x1)) (a0 : Kl) (a1 : List Kb) : Le (KbX fu g0 g1 a0 a1) (Kaz g0' g1' a0 a1) := by
 unfold KbX Kaz
 repeat (first | exact Le.refl _ | assumption | exact hg0 _ _ | exact hg1 _ _ | (refine Le.bind ?_ (fun _ => ?_)) | (refine Le.cond ?_ ?_) | (refine Le.loopC (fun _ => ?_)) | (refine Le.elim (fun _ => ?_) (fun _ => ?_)))
def Kb6 (fu : Nat) (g0 : (Kl) → (List Kb) → Option (Unit)) (g1 : (Kl) → (Kb) → Option (Unit)) (a0 : Kl) (a1 : Kb) : Option (Unit) :=
 ((KdT fu a1).bind fun x3 => (Option.bind (α := Bool) (bif (decide (x3 < (0 : Int))) then some true else some ((a1.gExps.length : Int) != x3)) fun y5 => (Option.bind (α := Unit) (bif y5 then ((KaE fu a1.gAt (2 : Int)).bind fun x11 => some ()) else some ()) fun y9 => ((Kdw fu a0 a1.gExps).bind fun x13 => (Option.bind (α := Unit) (Option.bind (α := Unit) (bif (a1.gOp == (1 : Int)) then ((Kar fu a0 a1.gName a1.gAt ([(1 : Int), (2 : Int)] : List Int)).bind fun x67 => ((idx x13 (0 : Int)).bind fun x68 => (Option.bind (α := Unit) (bif (x67 != x68) then ((KaE fu a1.gAt (9 : Int)).bind fun x73 => some ()) else some ()) fun y71 => some ()))) else (Option.bind (α := Unit) (bif (a1.gOp == (2 : Int)) then ((idx a1.gExps (0 : Int)).bind fun x96 => ((idx x13 (0 : Int)).bind fun x97 => ((Kbh fu x96 x97).bind fun x98 => ((idx a1.gExps (1 : Int)).bind fun x99 => ((idx x13 (1 : Int)).bind fun x100 => ((Kbh fu x99 x100).bind fun x101 => ((Kar fu a0 a1.gName a1.gAt ([(3 : Int)] : List Int)).bind fun x102 => some ()))))))) else (Option.bind (α := Unit) (bif (a1.gOp == (3 : Int)) then ((idx a1.gExps (0 : Int)).bind fun x117 => ((idx x13 (0 : Int)).bind fun x118 => ((Kbh fu x117 x118).bind fun x119 => ((Kar fu a0 a1.gName a1.gAt ([(2 : Int)] : List Int)).bind fun x120 => some ())))) else (Option.bind (α := Unit) (bif (a1.gOp == (4 : Int)) then ((Kco fu a0 a1 x13).bind fun x130 => some ()) else (Option.bind (α := Unit) (bif (a1.gOp == (5 : Int)) then ((Kar fu a0 a1.gName a1.gAt ([(1 : Int)] : List Int)).bind fun x138 => some ()) else ((idx a1.gExps (0 : Int)).bind fun x139 => ((idx x13 (0 : Int)).bind fun x140 => ((Kbh fu x139 x140).bind fun x141 => some ())))) fun y136 => some ())) fun y128 => some ())) fun y115 => some ())) fun y94 => some ())) fun y65 => some ()) fun y39 => ((g0 a0 a1.gKids).bind fun x142 => ((g0 a0 a1.gElse).bind fun x143 => some ())))))))
theorem Kec (fu : Nat) (g0 g0' : (Kl) → (List Kb) → Option (Unit)) (g1 g1' : (Kl) → (Kb) → Option (Unit)) (hg0 : ∀ x0 x1, Le (g0 x0 x1) (g0' x0 x1)) (hg1 : ∀ x0 x1, Le (g1 x0 x1) (g1' x0 x1)) (a0 : Kl) (a1 : Kb) : Le (Kb6 fu g0 g1 a0 a1) (KaK g0' g1' a0 a1) := by
 unfold Kb6 KaK
 repeat (first | exact Le.refl _ | assumption | exact hg0 _ _ | exact hg1 _ _ | exact Kgl fu _ | exact Kbz fu _ _ | exact KeT fu _ _ | exact Kb3 fu _ _ _ _ | exact KdA fu _ _ | exact KeU fu _ _ _ | (refine Le.bind ?_ (fun _ => ?_)) | (refine Le.cond ?_ ?_) | (refine Le.loopC (fun _ => ?_)) | (refine Le.elim (fun _ => ?_) (fun _ => ?_)))
def KaF (fu : Nat) : Nat → ((Kl) → (List Kb) → Option (Unit)) × ((Kl) → (Kb) → Option (Unit))
 | 0 => (fun _ _ => none, fun _ _ => none)
 | n + 1 => (KbX fu ((KaF fu n).1) ((KaF fu n).2), Kb6 fu ((KaF fu n).1) ((KaF fu n).2))
theorem Kcx (fu : Nat) : ∀ n, (∀ (a0 : Kl) (a1 : List Kb), Le ((KaF fu n).1 a0 a1) ((KD n).1 a0 a1)) ∧ (∀ (a0 : Kl) (a1 : Kb), Le ((KaF fu n).2 a0 a1) ((KD n).2 a0 a1))
  | 0 => ⟨fun _ _ => Le.none _, fun _ _ => Le.none _⟩
  | n + 1 => by
    have ih := Kcx fu n
    exact ⟨fun a0 a1 => KdZ fu _ _ _ _ ih.1 ih.2 a0 a1, fun a0 a1 => Kec fu _ _ _ _ ih.1 ih.2 a0 a1⟩
def Kdo (fu : Nat) (a0 : Kl) (a1 : List Kb) : Option (Unit) := (KaF fu fu).1 a0 a1
theorem Kes (fu : Nat) (a0 : Kl) (a1 : List Kb) : Le (Kdo fu a0 a1) (Kbu a0 a1) := fun r h => KeO a0 a1 fu (((Kcx fu fu).1 a0 a1) r h)
def Kbc (fu : Nat) (a0 : List (List K9)) : Option (List K9) :=
 (Option.bind (α := Int) (loopC fu (fun (s15 : Int × Int) => (bif (decide (s15.2 < (a0.length : Int))) then ((idx a0 s15.2).bind fun x25 => (bif (decide ((IntKind.i64.wrap (s15.1 + (x25.length : Int))) < (0 : Int))) then none else some (.next ((IntKind.i64.wrap (s15.1 + (x25.length : Int))), (IntKind.i64.wrap (s15.2 + (1 : Int))))))) else some (.done s15.1))) ((0 : Int), (0 : Int))) fun y14 => ((need (Kd3 y14)).bind fun x28 => (Option.bind (α := List K9) (loopC fu (fun (s47 : Int × List K9) => (bif (decide (s47.1 < (a0.length : Int))) then ((idx a0 s47.1).bind fun x61 => ((app 24 s47.2 x61).bind fun x62 => some (.next ((IntKind.i64.wrap (s47.1 + (1 : Int))), x62)))) else some (.done s47.2))) ((0 : Int), (growF64 y14))) fun y46 => some y46)))
theorem KcK (fu : Nat)   (a0 : List (List K9)) : Le (Kbc fu  a0) (Kaw  a0) := by
 unfold Kbc Kaw
 repeat (first | exact Le.refl _ | assumption | (refine Le.bind ?_ (fun _ => ?_)) | (refine Le.cond ?_ ?_) | (refine Le.loopC (fun _ => ?_)) | (refine Le.elim (fun _ => ?_) (fun _ => ?_)))
def Kav (fu : Nat) (m0 : Ka) : Option (Int × Ka) :=
 some ((IntKind.i64.wrap ((IntKind.i64.wrap (m0.gG.gNodes + (1 : Int))) - (1 : Int))), (⟨(⟨m0.gG.gFunc, (IntKind.i64.wrap (m0.gG.gNodes + (1 : Int))), m0.gG.gEdges, m0.gG.gVars, m0.gG.gMany⟩ : KV), m0.gAt, m0.gPlaces⟩ : Ka))
theorem KbG (fu : Nat)   (m0 : Ka) : Le (Kav fu  m0) (Kat  m0) := by
 unfold Kav Kat
 repeat (first | exact Le.refl _ | assumption | (refine Le.bind ?_ (fun _ => ?_)) | (refine Le.cond ?_ ?_) | (refine Le.loopC (fun _ => ?_)) | (refine Le.elim (fun _ => ?_) (fun _ => ?_)))
def Kah (fu : Nat) (m0 : Ka) (a1 : Int) (a2 : Int) (a3 : Int) (a4 : Kb) : Option (Ka) :=
 (Option.bind (α := ByteArray × ByteArray × List Kq) (bif (a3 != (0 : Int)) then ((KaX a4.gExps).bind fun x12 => some (a4.gName, a4.gFunc, x12)) else some (ByteArray.empty, ByteArray.empty, ([] : List Kq))) fun y9 => ((app 80 m0.gG.gEdges ([(⟨a1, a2, a3, y9.1, y9.2.1, y9.2.2⟩ : Kaa)] : List Kaa)).bind fun x16 => some (⟨(⟨m0.gG.gFunc, m0.gG.gNodes, x16, m0.gG.gVars, m0.gG.gMany⟩ : KV), m0.gAt, m0.gPlaces⟩ : Ka)))
theorem Kbm (fu : Nat)   (m0 : Ka) (a1 : Int) (a2 : Int) (a3 : Int) (a4 : Kb) : Le (Kah fu  m0 a1 a2 a3 a4) (Kag  m0 a1 a2 a3 a4) := by
 unfold Kah Kag
 repeat (first | exact Le.refl _ | assumption | (refine Le.bind ?_ (fun _ => ?_)) | (refine Le.cond ?_ ?_) | (refine Le.loopC (fun _ => ?_)) | (refine Le.elim (fun _ => ?_) (fun _ => ?_)))
def KaT (fu : Nat) (m0 : Ka) (a1 : Int) (a2 : Kb) : Option (Ka) :=
 ((Kav fu m0).bind fun x2 => ((Kah fu (⟨x2.2.gG, x2.1, x2.2.gPlaces⟩ : Ka) m0.gAt x2.1 a1 a2).bind fun x4 => some x4))
theorem Kfb (fu : Nat)   (m0 : Ka) (a1 : Int) (a2 : Kb) : Le (KaT fu  m0 a1 a2) (KaG  m0 a1 a2) := by
 unfold KaT KaG
 repeat (first | exact Le.refl _ | assumption | exact KbG fu _ | exact Kbm fu _ _ _ _ _ | (refine Le.bind ?_ (fun _ => ?_)) | (refine Le.cond ?_ ?_) | (refine Le.loopC (fun _ => ?_)) | (refine Le.elim (fun _ => ?_) (fun _ => ?_)))
def Kcp (fu : Nat) (m0 : Ka) (a1 : Kb) : Option (Ka) :=
 ((Kah fu m0 m0.gAt (1 : Int) (8 : Int) (⟨(0 : Int), ByteArray.empty, ByteArray.empty, a1.gExps, [], [], (0 : Int)⟩ : Kb)).bind fun x3 => ((Kav fu x3).bind fun x4 => some (⟨x4.2.gG, x4.1, x4.2.gPlaces⟩ : Ka)))
theorem KeV (fu : Nat)   (m0 : Ka) (a1 : Kb) : Le (Kcp fu  m0 a1) (KbE  m0 a1) := by
 unfold Kcp KbE
 repeat (first | exact Le.refl _ | assumption | exact Kbm fu _ _ _ _ _ | exact KbG fu _ | (refine Le.bind ?_ (fun _ => ?_)) | (refine Le.cond ?_ ?_) | (refine Le.loopC (fun _ => ?_)) | (refine Le.elim (fun _ => ?_) (fun _ => ?_)))
def Kcf (fu : Nat) (a0 : Kb) : Option (Kb) :=
 some (⟨(0 : Int), ByteArray.empty, ByteArray.empty, a0.gExps, [], [], (0 : Int)⟩ : Kb)
theorem Ke4 (fu : Nat)   (a0 : Kb) : Le (Kcf fu  a0) (Kb0  a0) := by
 unfold Kcf Kb0
 repeat (first | exact Le.refl _ | assumption | (refine Le.bind ?_ (fun _ => ?_)) | (refine Le.cond ?_ ?_) | (refine Le.loopC (fun _ => ?_)) | (refine Le.elim (fun _ => ?_) (fun _ => ?_)))
def Kcq (fu : Nat) (g0 : (Ka) → (List Kb) → Option (Ka)) (g1 : (Ka) → (Kb) → Option (Ka)) (g2 : (Ka) → (Kb) → Option (Ka)) (g3 : (Ka) → (Kb) → Option (Ka)) (m0 : Ka) (a1 : List Kb) : Option (Ka) :=
 (Option.bind (α := ByteArray × Int × List Kaa × List K9 × Int × Int × List Int) (loopC fu (fun (s24 : Int × ByteArray × Int × List Kaa × List K9 × Int × Int × List Int) => (bif (decide (s24.1 < (a1.length : Int))) then ((idx a1 s24.1).bind fun x40 => ((g1 (⟨(⟨s24.2.1, s24.2.2.1, s24.2.2.2.1, s24.2.2.2.2.1, s24.2.2.2.2.2.1⟩ : KV), s24.2.2.2.2.2.2.1, s24.2.2.2.2.2.2.2⟩ : Ka) x40).bind fun x44 => some (.next ((IntKind.i64.wrap (s24.1 + (1 : Int))), x44.gG.gFunc, x44.gG.gNodes, x44.gG.gEdges, x44.gG.gVars, x44.gG.gMany, x44.gAt, x44.gPlaces)))) else some (.done (s24.2.1, s24.2.2.1, s24.2.2.2.1, s24.2.2.2.2.1, s24.2.2.2.2.2.1, s24.2.2.2.2.2.2.1, s24.2.2.2.2.2.2.2)))) ((0 : Int), m0.gG.gFunc, m0.gG.gNodes, m0.gG.gEdges, m0.gG.gVars, m0.gG.gMany, m0.gAt, m0.gPlaces)) fun y23 => some (⟨(⟨y23.1, y23.2.1, y23.2.2.1, y23.2.2.2.1, y23.2.2.2.2.1⟩ : KV), y23.2.2.2.2.2.1, y23.2.2.2.2.2.2⟩ : Ka))
theorem KeW (fu : Nat) (g0 g0' : (Ka) → (List Kb) → Option (Ka)) (g1 g1' : (Ka) → (Kb) → Option (Ka)) (g2 g2' : (Ka) → (Kb) → Option (Ka)) (g3 g3' : (Ka) → (Kb) → Option (Ka)) (hg0 : ∀ x0 x1, Le (g0 x0 x1) (g0' x0 x1)) (hg1 : ∀ x0 x1, Le (g1 x0 x1) (g1' x0 x1)) (hg2 : ∀ x0 x1, Le (g2 x0 x1) (g2' x0 x1)) (hg3 : ∀ x0 x1, Le (g3 x0 x1) (g3' x0 x1)) (m0 : Ka) (a1 : List Kb) : Le (Kcq fu g0 g1 g2 g3 m0 a1) (Ka1 g0' g1' g2' g3' m0 a1) := by
 unfold Kcq Ka1
 repeat (first | exact Le.refl _ | assumption | exact hg0 _ _ | exact hg1 _ _ | exact hg2 _ _ | exact hg3 _ _ | (refine Le.bind ?_ (fun _ => ?_)) | (refine Le.cond ?_ ?_) | (refine Le.loopC (fun _ => ?_)) | (refine Le.elim (fun _ => ?_) (fun _ => ?_)))
def Kch (fu : Nat) (g0 : (Ka) → (List Kb) → Option (Ka)) (g1 : (Ka) → (Kb) → Option (Ka)) (g2 : (Ka) → (Kb) → Option (Ka)) (g3 : (Ka) → (Kb) → Option (Ka)) (m0 : Ka) (a1 : Kb) : Option (Ka) :=
 ((app 8 m0.gPlaces ([m0.gAt] : List Int)).bind fun x2 => (bif (a1.gOp == (1 : Int)) then ((KaT fu (⟨m0.gG, m0.gAt, x2⟩ : Ka) (1 : Int) a1).bind fun x5 => some x5) else (bif (a1.gOp == (2 : Int)) then ((KaT fu (⟨m0.gG, m0.gAt, x2⟩ : Ka) (2 : Int) a1).bind fun x9 => some x9) else (bif (a1.gOp == (3 : Int)) then ((KaT fu (⟨m0.gG, m0.gAt, x2⟩ : Ka) (3 : Int) a1).bind fun x13 => some x13) else (bif (a1.gOp == (4 : Int)) then ((KaT fu (⟨m0.gG, m0.gAt, x2⟩ : Ka) (4 : Int) a1).bind fun x17 => some x17) else (bif (a1.gOp == (5 : Int)) then ((KaT fu (⟨m0.gG, m0.gAt, x2⟩ : Ka) (5 : Int) a1).bind fun x21 => some x21) else (bif (a1.gOp == (9 : Int)) then ((KaT fu (⟨m0.gG, m0.gAt, x2⟩ : Ka) (9 : Int) a1).bind fun x25 => some x25) else (bif (a1.gOp == (8 : Int)) then ((Kcp fu (⟨m0.gG, m0.gAt, x2⟩ : Ka) a1).bind fun x29 => some x29) else (bif (a1.gOp == (6 : Int)) then ((g2 (⟨m0.gG, m0.gAt, x2⟩ : Ka) a1).bind fun x34 => some x34) else (bif (a1.gOp == (7 : Int)) then ((g3 (⟨m0.gG, m0.gAt, x2⟩ : Ka) a1).bind fun x39 => some x39) else some (⟨m0.gG, m0.gAt, x2⟩ : Ka)))))))))))
theorem Ket (fu : Nat) (g0 g0' : (Ka) → (List Kb) → Option (Ka)) (g1 g1' : (Ka) → (Kb) → Option (Ka)) (g2 g2' : (Ka) → (Kb) → Option (Ka)) (g3 g3' : (Ka) → (Kb) → Option (Ka)) (hg0 : ∀ x0 x1, Le (g0 x0 x1) (g0' x0 x1)) (hg1 : ∀ x0 x1, Le (g1 x0 x1) (g1' x0 x1)) (hg2 : ∀ x0 x1, Le (g2 x0 x1) (g2' x0 x1)) (hg3 : ∀ x0 x1, Le (g3 x0 x1) (g3' x0 x1)) (m0 : Ka) (a1 : Kb) : Le (Kch fu g0 g1 g2 g3 m0 a1) (KaR g0' g1' g2' g3' m0 a1) := by
 unfold Kch KaR
 repeat (first | exact Le.refl _ | assumption | exact hg0 _ _ | exact hg1 _ _ | exact hg2 _ _ | exact hg3 _ _ | exact Kfb fu _ _ _ | exact KeV fu _ _ | (refine Le.bind ?_ (fun _ => ?_)) | (refine Le.cond ?_ ?_) | (refine Le.loopC (fun _ => ?_)) | (refine Le.elim (fun _ => ?_) (fun _ => ?_)))
def KbY (fu : Nat) (g0 : (Ka) → (List Kb) → Option (Ka)) (g1 : (Ka) → (Kb) → Option (Ka)) (g2 : (Ka) → (Kb) → Option (Ka)) (g3 : (Ka) → (Kb) → Option (Ka)) (m0 : Ka) (a1 : Kb) : Option (Ka) :=
 ((Kav fu m0).bind fun x2 => ((Kav fu x2.2).bind fun x3 => ((Kcf fu a1).bind fun x4 => ((Kah fu x3.2 m0.gAt x2.1 (6 : Int) x4).bind fun x6 => ((Kcf fu a1).bind fun x7 => ((Kah fu x6 m0.gAt x3.1 (7 : Int) x7).bind fun x9 => ((g0 (⟨x9.gG, x2.1, x9.gPlaces⟩ : Ka) a1.gKids).bind fun x12 => ((Kav fu x12).bind fun x13 => ((Kah fu x13.2 x13.2.gAt x13.1 (0 : Int) a1).bind fun x15 => ((g0 (⟨x15.gG, x3.1, x15.gPlaces⟩ : Ka) a1.gElse).bind fun x18 => ((Kah fu x18 x18.gAt x13.1 (0 : Int) a1).bind fun x20 => some (⟨x20.gG, x13.1, x20.gPlaces⟩ : Ka))))))))))))
theorem Kd0 (fu : Nat) (g0 g0' : (Ka) → (List Kb) → Option (Ka)) (g1 g1' : (Ka) → (Kb) → Option (Ka)) (g2 g2' : (Ka) → (Kb) → Option (Ka)) (g3 g3' : (Ka) → (Kb) → Option (Ka)) (hg0 : ∀ x0 x1, Le (g0 x0 x1) (g0' x0 x1)) (hg1 : ∀ x0 x1, Le (g1 x0 x1) (g1' x0 x1)) (hg2 : ∀ x0 x1, Le (g2 x0 x1) (g2' x0 x1)) (hg3 : ∀ x0 x1, Le (g3 x0 x1) (g3' x0 x1)) (m0 : Ka) (a1 : Kb) : Le (KbY fu g0 g1 g2 g3 m0 a1) (KaA g0' g1' g2' g3' m0 a1) := by
 unfold KbY KaA
 repeat (first | exact Le.refl _ | assumption | exact hg0 _ _ | exact hg1 _ _ | exact hg2 _ _ | exact hg3 _ _ | exact KbG fu _ | exact Ke4 fu _ | exact Kbm fu _ _ _ _ _ | (refine Le.bind ?_ (fun _ => ?_)) | (refine Le.cond ?_ ?_) | (refine Le.loopC (fun _ => ?_)) | (refine Le.elim (fun _ => ?_) (fun _ => ?_)))
def Kci (fu : Nat) (g0 : (Ka) → (List Kb) → Option (Ka)) (g1 : (Ka) → (Kb) → Option (Ka)) (g2 : (Ka) → (Kb) → Option (Ka)) (g3 : (Ka) → (Kb) → Option (Ka)) (m0 : Ka) (a1 : Kb) : Option (Ka) :=
 ((Kav fu m0).bind fun x2 => ((Kah fu x2.2 x2.2.gAt x2.1 (0 : Int) a1).bind fun x4 => ((Kav fu x4).bind fun x5 => ((Kav fu x5.2).bind fun x6 => ((Kcf fu a1).bind fun x7 => ((Kah fu x6.2 x2.1 x5.1 (6 : Int) x7).bind fun x9 => ((Kcf fu a1).bind fun x10 => ((Kah fu x9 x2.1 x6.1 (7 : Int) x10).bind fun x12 => ((g0 (⟨x12.gG, x5.1, x12.gPlaces⟩ : Ka) a1.gKids).bind fun x15 => ((Kah fu x15 x15.gAt x2.1 (0 : Int) a1).bind fun x17 => some (⟨x17.gG, x6.1, x17.gPlaces⟩ : Ka)))))))))))
theorem Keu (fu : Nat) (g0 g0' : (Ka) → (List Kb) → Option (Ka)) (g1 g1' : (Ka) → (Kb) → Option (Ka)) (g2 g2' : (Ka) → (Kb) → Option (Ka)) (g3 g3' : (Ka) → (Kb) → Option (Ka)) (hg0 : ∀ x0 x1, Le (g0 x0 x1) (g0' x0 x1)) (hg1 : ∀ x0 x1, Le (g1 x0 x1) (g1' x0 x1)) (hg2 : ∀ x0 x1, Le (g2 x0 x1) (g2' x0 x1)) (hg3 : ∀ x0 x1, Le (g3 x0 x1) (g3' x0 x1)) (m0 : Ka) (a1 : Kb) : Le (Kci fu g0 g1 g2 g3 m0 a1) (KaS g0' g1' g2' g3' m0 a1) := by
 unfold Kci KaS
 repeat (first | exact Le.refl _ | assumption | exact hg0 _ _ | exact hg1 _ _ | exact hg2 _ _ | exact hg3 _ _ | exact KbG fu _ | exact Kbm fu _ _ _ _ _ | exact Ke4 fu _ | (refine Le.bind ?_ (fun _ => ?_)) | (refine Le.cond ?_ ?_) | (refine Le.loopC (fun _ => ?_)) | (refine Le.elim (fun _ => ?_) (fun _ => ?_)))
def KR (fu : Nat) : Nat → ((Ka) → (List Kb) → Option (Ka)) × ((Ka) → (Kb) → Option (Ka)) × ((Ka) → (Kb) → Option (Ka)) × ((Ka) → (Kb) → Option (Ka))
 | 0 => (fun _ _ => none, fun _ _ => none, fun _ _ => none, fun _ _ => none)
 | n + 1 => (Kcq fu ((KR fu n).1) ((KR fu n).2.1) ((KR fu n).2.2.1) ((KR fu n).2.2.2), Kch fu ((KR fu n).1) ((KR fu n).2.1) ((KR fu n).2.2.1) ((KR fu n).2.2.2), KbY fu ((KR fu n).1) ((KR fu n).2.1) ((KR fu n).2.2.1) ((KR fu n).2.2.2), Kci fu ((KR fu n).1) ((KR fu n).2.1) ((KR fu n).2.2.1) ((KR fu n).2.2.2))
theorem Kdj (fu : Nat) : ∀ n, (∀ (m0 : Ka) (a1 : List Kb), Le ((KR fu n).1 m0 a1) ((Kj n).1 m0 a1)) ∧ (∀ (m0 : Ka) (a1 : Kb), Le ((KR fu n).2.1 m0 a1) ((Kj n).2.1 m0 a1)) ∧ (∀ (m0 : Ka) (a1 : Kb), Le ((KR fu n).2.2.1 m0 a1) ((Kj n).2.2.1 m0 a1)) ∧ (∀ (m0 : Ka) (a1 : Kb), Le ((KR fu n).2.2.2 m0 a1) ((Kj n).2.2.2 m0 a1))
  | 0 => ⟨fun _ _ => Le.none _, fun _ _ => Le.none _, fun _ _ => Le.none _, fun _ _ => Le.none _⟩
  | n + 1 => by
    have ih := Kdj fu n
    exact ⟨fun m0 a1 => KeW fu _ _ _ _ _ _ _ _ ih.1 ih.2.1 ih.2.2.1 ih.2.2.2 m0 a1, fun m0 a1 => Ket fu _ _ _ _ _ _ _ _ ih.1 ih.2.1 ih.2.2.1 ih.2.2.2 m0 a1, fun m0 a1 => Kd0 fu _ _ _ _ _ _ _ _ ih.1 ih.2.1 ih.2.2.1 ih.2.2.2 m0 a1, fun m0 a1 => Keu fu _ _ _ _ _ _ _ _ ih.1 ih.2.1 ih.2.2.1 ih.2.2.2 m0 a1⟩
def KdV (fu : Nat) (m0 : Ka) (a1 : List Kb) : Option (Ka) := (KR fu fu).1 m0 a1
theorem Kfm (fu : Nat) (m0 : Ka) (a1 : List Kb) : Le (KdV fu m0 a1) (Kcv m0 a1) := fun r h => Kfz m0 a1 fu (((Kdj fu fu).1 m0 a1) r h)
def Kfn (fu : Nat) (a0 : Kaj) : Option (Ka) :=
 ((Kbc fu ([a0.gParams, a0.gLocals] : List (List K9))).bind fun x3 => ((KdV fu (⟨(⟨a0.gName, (2 : Int), [], x3, (a0.gParams.length : Int)⟩ : KV), (0 : Int), []⟩ : Ka) a0.gBody).bind fun x13 => ((Kah fu x13 x13.gAt (1 : Int) (8 : Int) (⟨(0 : Int), ByteArray.empty, ByteArray.empty, ([(⟨(1 : Int), (0 : Int), ByteArray.empty, [], (0 : Int)⟩ : Kq)] : List Kq), [], [], (0 : Int)⟩ : Kb)).bind fun x15 => some x15)))
theorem Khb (fu : Nat)   (a0 : Kaj) : Le (Kfn fu  a0) (Keo  a0) := by
 unfold Kfn Keo
 repeat (first | exact Le.refl _ | assumption | exact KcK fu _ | exact Kfm fu _ _ | exact Kbm fu _ _ _ _ _ | (refine Le.bind ?_ (fun _ => ?_)) | (refine Le.cond ?_ ?_) | (refine Le.loopC (fun _ => ?_)) | (refine Le.elim (fun _ => ?_) (fun _ => ?_)))
def Kfo (fu : Nat) (a0 : Kaj) : Option (KV) :=
 ((Kfn fu a0).bind fun x6 => some x6.gG)
theorem Kgn (fu : Nat)   (a0 : Kaj) : Le (Kfo fu  a0) (Kcw  a0) := by
 unfold Kfo Kcw
 repeat (first | exact Le.refl _ | assumption | exact Khb fu _ | (refine Le.bind ?_ (fun _ => ?_)) | (refine Le.cond ?_ ?_) | (refine Le.loopC (fun _ => ?_)) | (refine Le.elim (fun _ => ?_) (fun _ => ?_)))
def KgL (fu : Nat) (a0 : Kad) : Option (Kew) :=
 (Option.bind (α := List KK × List (ByteArray × Int) × List (KK × Ky)) (loopC fu (fun (s190 : Int × List KK × List (ByteArray × Int) × List (KK × Ky)) => (bif (decide (s190.1 < (a0.gGlobals.length : Int))) then ((idx a0.gGlobals s190.1).bind fun x329 => (bif (decide ((0 : Int) < (mgetD s190.2.2.1 x329.gName (0 : Int)))) then some (.next ((IntKind.i64.wrap (s190.1 + (1 : Int))), s190.2.1, s190.2.2.1, s190.2.2.2)) else (Option.bind (α := Bool) (bif (!x329.gPtr) then some (decide ((0 : Int) < x329.gSize)) else some false) fun y333 => (Option.bind (α := Int) (bif y333 then some x329.gSize else some (1 : Int)) fun y336 => (Option.bind (α := List KK × List (KK × Ky)) (loopC fu (fun (s355 : Int × List KK × List (KK × Ky)) => (bif (decide (s355.1 < y336)) then ((app 24 s355.2.1 ([(⟨x329.gName, s355.1⟩ : KK)] : List KK)).bind fun x370 => some (.next ((IntKind.i64.wrap (s355.1 + (1 : Int))), x370, (mput s355.2.2 (⟨x329.gName, s355.1⟩ : KK) (⟨x329.gPtr, (0 : Int), (⟨ByteArray.empty, (0 : Int)⟩ : KK)⟩ : Ky))))) else some (.done (s355.2.1, s355.2.2)))) ((0 : Int), s190.2.1, s190.2.2.2)) fun y354 => some (.next ((IntKind.i64.wrap (s190.1 + (1 : Int))), y354.1, (mput s190.2.2.1 x329.gName y336), y354.2))))))) else some (.done (s190.2.1, s190.2.2.1, s190.2.2.2)))) ((0 : Int), ([] : List KK), ([] : List (ByteArray × Int)), ([] : List (KK × Ky)))) fun y189 => some (⟨y189.2.1, y189.2.2, y189.1⟩ : Kew))
theorem Khc (fu : Nat)   (a0 : Kad) : Le (KgL fu  a0) (Kep  a0) := by
 unfold KgL Kep
 repeat (first | exact Le.refl _ | assumption | (refine Le.bind ?_ (fun _ => ?_)) | (refine Le.cond ?_ ?_) | (refine Le.loopC (fun _ => ?_)) | (refine Le.elim (fun _ => ?_) (fun _ => ?_)))
def Kgf (fu : Nat) (a0 : KV) (a1 : List Ky) : Option (Kdl) :=
 ((Kbn a0.gVars).bind fun x3 => (Option.bind (α := List Ky) (loopC fu (fun (s50 : Int × List Ky) => (bif (decide (s50.1 < (a0.gVars.length : Int))) then ((idx a0.gVars s50.1).bind fun x81 => (Option.bind (α := Bool) (bif (decide (s50.1 < (a1.length : Int))) then some (decide (s50.1 < a0.gMany)) else some false) fun y85 => (Option.bind (α := Bool × Int × ByteArray × Int) (bif y85 then ((idx a1 s50.1).bind fun x91 => some (x91.gPtr, x91.gN, x91.gTo.gName, x91.gTo.gAt)) else some (x81.gPtr, (0 : Int), ByteArray.empty, (0 : Int))) fun y89 => ((app 40 s50.2 ([(⟨y89.1, y89.2.1, (⟨y89.2.2.1, y89.2.2.2⟩ : KK)⟩ : Ky)] : List Ky)).bind fun x92 => some (.next ((IntKind.i64.wrap (s50.1 + (1 : Int))), x92)))))) else some (.done s50.2))) ((0 : Int), ([] : List Ky))) fun y49 => some (⟨x3, y49⟩ : Kdl)))
theorem Kg1 (fu : Nat)   (a0 : KV) (a1 : List Ky) : Le (Kgf fu  a0 a1) (KdR  a0 a1) := by
 unfold Kgf KdR
 repeat (first | exact Le.refl _ | assumption | (refine Le.bind ?_ (fun _ => ?_)) | (refine Le.cond ?_ ?_) | (refine Le.loopC (fun _ => ?_)) | (refine Le.elim (fun _ => ?_) (fun _ => ?_)))
def KdW (fu : Nat) (a0 : Int) : Option (Int) :=
 (Option.bind (α := (Unit) ⊕ (Int)) (Option.bind (α := Bool) (bif (a0 == (1 : Int)) then some (a0 == (1 : Int)) else (Option.bind (α := Bool) (bif (a0 == (2 : Int)) then some (a0 == (2 : Int)) else (Option.bind (α := Bool) (bif (a0 == (4 : Int)) then some (a0 == (4 : Int)) else (Option.bind (α := Bool) (bif (a0 == (18 : Int)) then some (a0 == (18 : Int)) else some (a0 == (19 : Int))) fun y44 => some y44)) fun y41 => some y41)) fun y37 => some y37)) fun y32 => (Option.bind (α := (Unit) ⊕ (Int)) (bif y32 then some (.inr (0 : Int)) else (Option.bind (α := Bool) (bif (a0 == (3 : Int)) then some (a0 == (3 : Int)) else (Option.bind (α := Bool) (bif (a0 == (20 : Int)) then some (a0 == (20 : Int)) else (Option.bind (α := Bool) (bif (a0 == (5 : Int)) then some (a0 == (5 : Int)) else some (a0 == (6 : Int))) fun y67 => some y67)) fun y64 => some y64)) fun y60 => (bif y60 then some (.inr (1 : Int)) else some (.inl ())))) (Sum.elim (fun y54 => some (.inl ())) (fun r => some (.inr r))))) (Sum.elim (fun y27 => (bif (decide ((7 : Int) ≤ a0)) then (bif (decide (a0 ≤ (17 : Int))) then some (2 : Int) else some (-1 : Int)) else some (-1 : Int))) (fun r => some r)))
theorem Kgo (fu : Nat)   (a0 : Int) : Le (KdW fu  a0) (Kdg  a0) := by
 unfold KdW Kdg
 repeat (first | exact Le.refl _ | assumption | (refine Le.bind ?_ (fun _ => ?_)) | (refine Le.cond ?_ ?_) | (refine Le.loopC (fun _ => ?_)) | (refine Le.elim (fun _ => ?_) (fun _ => ?_)))
def KeX (fu : Nat) (a0 : Int) (a1 : Int) : Option (Ky × Int) :=
 some ((⟨false, a0, (⟨ByteArray.empty, (0 : Int)⟩ : KK)⟩ : Ky), a1)
theorem Kg2 (fu : Nat)   (a0 : Int) (a1 : Int) : Le (KeX fu  a0 a1) (KdS  a0 a1) := by
 unfold KeX KdS
 repeat (first | exact Le.refl _ | assumption | (refine Le.bind ?_ (fun _ => ?_)) | (refine Le.cond ?_ ?_) | (refine Le.loopC (fun _ => ?_)) | (refine Le.elim (fun _ => ?_) (fun _ => ?_)))
def KcR (fu : Nat) (a0 : Kbl) (a1 : Kq) : Option (Ky × Int) :=
 (bif (a1.gOp == (1 : Int)) then ((KeX fu a1.gN (0 : Int)).bind fun x5 => some (x5.1, x5.2)) else none)
theorem Kfp (fu : Nat)   (a0 : Kbl) (a1 : Kq) : Le (KcR fu  a0 a1) (KbT  a0 a1) := by
 unfold KcR KbT
 repeat (first | exact Le.refl _ | assumption | exact Kg2 fu _ _ | (refine Le.bind ?_ (fun _ => ?_)) | (refine Le.cond ?_ ?_) | (refine Le.loopC (fun _ => ?_)) | (refine Le.elim (fun _ => ?_) (fun _ => ?_)))
def KcS (fu : Nat) (a0 : Kbl) (a1 : Kq) : Option (Ky × Int) :=
 ((KdW fu a1.gOp).bind fun x4 => (Option.bind (α := Bool) (bif (decide (x4 < (0 : Int))) then some true else some ((a1.gKids.length : Int) != x4)) fun y6 => (bif y6 then some ((⟨false, (0 : Int), (⟨ByteArray.empty, (0 : Int)⟩ : KK)⟩ : Ky), (2 : Int)) else (Option.bind (α := Unit) (loopC fu (fun (s18 : Unit) => (bif (decide ((0 : Int) < (a1.gKids.length : Int))) then none else some (.done ()))) ()) fun y17 => (bif (x4 == (0 : Int)) then ((KcR fu a0 a1).bind fun x27 => some (x27.1, x27.2)) else none)))))
theorem Kfq (fu : Nat)   (a0 : Kbl) (a1 : Kq) : Le (KcS fu  a0 a1) (KbU  a0 a1) := by
 unfold KcS KbU
 repeat (first | exact Le.refl _ | assumption | exact Kgo fu _ | exact Kfp fu _ _ | (refine Le.bind ?_ (fun _ => ?_)) | (refine Le.cond ?_ ?_) | (refine Le.loopC (fun _ => ?_)) | (refine Le.elim (fun _ => ?_) (fun _ => ?_)))
def Ked (fu : Nat) (a0 : Option Nat) (a1 : Option Nat) (a2 : Kq) : Option (Ky × Int) :=
 ((KcS fu (⟨a0, a1⟩ : Kbl) a2).bind fun x3 => some (x3.1, x3.2))
theorem KgU (fu : Nat)   (a0 : Option Nat) (a1 : Option Nat) (a2 : Kq) : Le (Ked fu  a0 a1 a2) (Kdv  a0 a1 a2) := by
 unfold Ked Kdv
 repeat (first | exact Le.refl _ | assumption | exact Kfq fu _ _ | (refine Le.bind ?_ (fun _ => ?_)) | (refine Le.cond ?_ ?_) | (refine Le.loopC (fun _ => ?_)) | (refine Le.elim (fun _ => ?_) (fun _ => ?_)))
def KcT (fu : Nat) (m0 : KN) : Option (List Kaa) :=
 (Option.bind (α := List Kaa) (loopC fu (fun (s22 : List Kaa × Int) => (bif (decide (s22.2 < (m0.gG.gEdges.length : Int))) then ((idx m0.gG.gEdges s22.2).bind fun x37 => (bif (x37.gFrom == m0.gNode) then ((app 80 s22.1 ([x37] : List Kaa)).bind fun x40 => some (.next (x40, (IntKind.i64.wrap (s22.2 + (1 : Int)))))) else some (.next (s22.1, (IntKind.i64.wrap (s22.2 + (1 : Int))))))) else some (.done s22.1))) (([] : List Kaa), (0 : Int))) fun y21 => some y21)
theorem Kfr (fu : Nat)   (m0 : KN) : Le (KcT fu  m0) (KbV  m0) := by
 unfold KcT KbV
 repeat (first | exact Le.refl _ | assumption | (refine Le.bind ?_ (fun _ => ?_)) | (refine Le.cond ?_ ?_) | (refine Le.loopC (fun _ => ?_)) | (refine Le.elim (fun _ => ?_) (fun _ => ?_)))
def Kcz (fu : Nat) (a0 : KV) (m0 : ByteArray) : Option (Bool) :=
 some (decide (a0.gFunc = m0))
theorem Kfc (fu : Nat)   (a0 : KV) (m0 : ByteArray) : Le (Kcz fu  a0 m0) (KbL  a0 m0) := by
 unfold Kcz KbL
 repeat (first | exact Le.refl _ | assumption | (refine Le.bind ?_ (fun _ => ?_)) | (refine Le.cond ?_ ?_) | (refine Le.loopC (fun _ => ?_)) | (refine Le.elim (fun _ => ?_) (fun _ => ?_)))
def KaU (fu : Nat) (a0 : List KV) (m0 : ByteArray) : Option (Int) :=
 (Option.bind (α := (Unit) ⊕ (Int)) (loopC fu (fun (s18 : Int) => (bif (decide (s18 < (a0.length : Int))) then ((idx a0 s18).bind fun x30 => ((Kcz fu x30 m0).bind fun x31 => (bif x31 then some (.done (.inr s18)) else some (.next (IntKind.i64.wrap (s18 + (1 : Int))))))) else some (.done (.inl ())))) (0 : Int)) (Sum.elim (fun y17 => some (-1 : Int)) (fun r => some r)))
theorem Kb7 (fu : Nat)   (a0 : List KV) (m0 : ByteArray) : Le (KaU fu  a0 m0) (Kan  a0 m0) := by
 unfold KaU Kan
 repeat (first | exact Le.refl _ | assumption | exact Kfc fu _ _ | (refine Le.bind ?_ (fun _ => ?_)) | (refine Le.cond ?_ ?_) | (refine Le.loopC (fun _ => ?_)) | (refine Le.elim (fun _ => ?_) (fun _ => ?_)))
def Kd4 (fu : Nat) (m0 : KU) (a1 : ByteArray) : Option (KV × Bool) :=
 ((KaU fu m0.gGraphs a1).bind fun x3 => (bif (decide (x3 < (0 : Int))) then some ((⟨ByteArray.empty, (0 : Int), [], [], (0 : Int)⟩ : KV), false) else ((idx m0.gGraphs x3).bind fun x7 => some (x7, true))))
theorem KfE (fu : Nat)   (m0 : KU) (a1 : ByteArray) : Le (Kd4 fu  m0 a1) (KbI  m0 a1) := by
 unfold Kd4 KbI
 repeat (first | exact Le.refl _ | assumption | exact Kb7 fu _ _ | (refine Le.bind ?_ (fun _ => ?_)) | (refine Le.cond ?_ ?_) | (refine Le.loopC (fun _ => ?_)) | (refine Le.elim (fun _ => ?_) (fun _ => ?_)))
def Kdk (fu : Nat) (m0 : KU) (m1 : KN) (a2 : List Kq) : Option (List Ky × Int) :=
 (Option.bind (α := (List Ky) ⊕ (List Ky × Int)) (loopC fu (fun (s29 : List Ky × Int) => (bif (decide (s29.2 < (a2.length : Int))) then ((idx a2 s29.2).bind fun x48 => ((Ked fu m0.gM m1.gF x48).bind fun x50 => (bif (x50.2 != (0 : Int)) then some (.done (.inr (([] : List Ky), x50.2))) else ((app 40 s29.1 ([x50.1] : List Ky)).bind fun x55 => some (.next (x55, (IntKind.i64.wrap (s29.2 + (1 : Int))))))))) else some (.done (.inl s29.1)))) (([] : List Ky), (0 : Int))) (Sum.elim (fun y28 => some (y28, (0 : Int))) (fun r => some r)))
theorem KfF (fu : Nat)   (m0 : KU) (m1 : KN) (a2 : List Kq) : Le (Kdk fu  m0 m1 a2) (Kcb  m0 m1 a2) := by
 unfold Kdk Kcb
 repeat (first | exact Le.refl _ | assumption | exact KgU fu _ _ _ | (refine Le.bind ?_ (fun _ => ?_)) | (refine Le.cond ?_ ?_) | (refine Le.loopC (fun _ => ?_)) | (refine Le.elim (fun _ => ?_) (fun _ => ?_)))
def Kdq (fu : Nat) (m0 : KU) (m1 : KN) : Option (Kaa × Int) :=
 ((KcT fu m1).bind fun x3 => (bif (decide ((x3.length : Int) < (2 : Int))) then ((idx x3 (0 : Int)).bind fun x7 => some (x7, (0 : Int))) else none))
theorem KfY (fu : Nat)   (m0 : KU) (m1 : KN) : Le (Kdq fu  m0 m1) (Kcn  m0 m1) := by
 unfold Kdq Kcn
 repeat (first | exact Le.refl _ | assumption | exact Kfr fu _ | (refine Le.bind ?_ (fun _ => ?_)) | (refine Le.cond ?_ ?_) | (refine Le.loopC (fun _ => ?_)) | (refine Le.elim (fun _ => ?_) (fun _ => ?_)))
def KdX (fu : Nat) (m0 : KU) (m1 : KN) (a2 : Kaa) : Option (Int × KU × KN) :=
 ((Kdk fu m0 m1 a2.gExps).bind fun x3 => (bif (x3.2 != (0 : Int)) then some (x3.2, m0, m1) else (bif (a2.gKind == (1 : Int)) then none else (bif (a2.gKind == (5 : Int)) then none else (bif (a2.gKind == (2 : Int)) then none else (bif (a2.gKind == (3 : Int)) then none else (bif (a2.gKind == (4 : Int)) then none else (bif (a2.gKind == (8 : Int)) then ((idx x3.1 (0 : Int)).bind fun x13 => some ((0 : Int), m0, (⟨m1.gG, m1.gF, m1.gNode, x13⟩ : KN))) else (bif (a2.gKind == (9 : Int)) then ((idx x3.1 (0 : Int)).bind fun x16 => (bif (x16.gN == (0 : Int)) then some ((0 : Int), (⟨m0.gGraphs, m0.gM, m0.gIn, m0.gCalls, m0.gErr, (IntKind.i64.wrap (m0.gFailed + (1 : Int)))⟩ : KU), m1) else some ((0 : Int), m0, m1))) else some ((0 : Int), m0, m1))))))))))
theorem Kgp (fu : Nat)   (m0 : KU) (m1 : KN) (a2 : Kaa) : Le (KdX fu  m0 m1 a2) (Kdh  m0 m1 a2) := by
 unfold KdX Kdh
 repeat (first | exact Le.refl _ | assumption | exact KfF fu _ _ _ | (refine Le.bind ?_ (fun _ => ?_)) | (refine Le.cond ?_ ?_) | (refine Le.loopC (fun _ => ?_)) | (refine Le.elim (fun _ => ?_) (fun _ => ?_)))
def Ke5 (fu : Nat) (m0 : KU) (m1 : KN) : Option (Int × KU × KN) :=
 (bif (m1.gNode == (1 : Int)) then none else ((Kdq fu m0 m1).bind fun x3 => (bif (x3.2 != (0 : Int)) then some (x3.2, m0, m1) else ((KdX fu m0 m1 x3.1).bind fun x8 => (bif (x8.1 != (0 : Int)) then some (x8.1, x8.2.1, x8.2.2) else (bif (x3.1.gKind != (4 : Int)) then some ((0 : Int), x8.2.1, (⟨x8.2.2.gG, x8.2.2.gF, x3.1.gTo, x8.2.2.gRet⟩ : KN)) else some ((0 : Int), x8.2.1, x8.2.2)))))))
theorem Kgg (fu : Nat)   (m0 : KU) (m1 : KN) : Le (Ke5 fu  m0 m1) (Kce  m0 m1) := by
 unfold Ke5 Kce
 repeat (first | exact Le.refl _ | assumption | exact KfY fu _ _ | exact Kgp fu _ _ _ | (refine Le.bind ?_ (fun _ => ?_)) | (refine Le.cond ?_ ?_) | (refine Le.loopC (fun _ => ?_)) | (refine Le.elim (fun _ => ?_) (fun _ => ?_)))
def KfZ (fu : Nat) (p : Kad) (f : Kaj) : Option (Int × Int) :=
 (Kcg fu ⟨p, f⟩).bind fun _ => (Kdo fu ⟨p, f⟩ f.gBody).bind fun _ => some (0, 0)
theorem checkF_cle (fu : Nat)   (p : Kad) (f : Kaj) : Le (KfZ fu  p f) (checkF  p f) := by
 unfold KfZ checkF
 repeat (first | exact Le.refl _ | assumption | exact Keq fu _ | exact Kes fu _ _ | (refine Le.bind ?_ (fun _ => ?_)) | (refine Le.cond ?_ ?_) | (refine Le.loopC (fun _ => ?_)) | (refine Le.elim (fun _ => ?_) (fun _ => ?_)))
def Kd5 (fu : Nat) (a0 : Kad) : Option (Int × Int × Int) :=
 (Option.bind (α := Bool) (bif (decide ((24 : Int) < (a0.gGlobals.length : Int))) then some true else some (decide ((24 : Int) < (a0.gFuncs.length : Int)))) fun y3 => (bif y3 then some ((0 : Int), (0 : Int), (6 : Int)) else ((Kdy fu a0).bind fun x8 => (bif (decide ((0 : Int) ≤ x8)) then some (x8, (0 : Int), (8 : Int)) else (Option.bind (α := (Unit) ⊕ (Int × Int × Int)) (loopC fu (fun (s32 : Int) => (bif (decide (s32 < (a0.gFuncs.length : Int))) then ((idx a0.gFuncs s32).bind fun x46 => ((KfZ fu a0 x46).bind fun x48 => (bif (x48.2 != (0 : Int)) then some (.done (.inr ((IntKind.i64.wrap ((a0.gGlobals.length : Int) + s32)), x48.1, x48.2))) else some (.next (IntKind.i64.wrap (s32 + (1 : Int))))))) else some (.done (.inl ())))) (0 : Int)) (Sum.elim (fun y31 => some ((0 : Int), (0 : Int), (0 : Int))) (fun r => some r)))))))
theorem KfG (fu : Nat)   (a0 : Kad) : Le (Kd5 fu  a0) (Kcc  a0) := by
 unfold Kd5 Kcc
 repeat (first | exact Le.refl _ | assumption | exact Kge fu _ | exact checkF_cle fu _ _ | (refine Le.bind ?_ (fun _ => ?_)) | (refine Le.cond ?_ ?_) | (refine Le.loopC (fun _ => ?_)) | (refine Le.elim (fun _ => ?_) (fun _ => ?_)))
end Go.Proofs.YtaclkgjnoaeihaaGreat.Ab
namespace Go.Proofs.YtaclkgjnoaeihaaGreat.Ab
open Go Go.RowKit Go.Shelf Go.Proofs
set_option linter.all false
structure Chg (w w' : World) (o c : Nat) : Prop where
 env : Env w w'
 size : w.heap.size ≤ w'.heap.size
 same : ∀ b, b < w.heap.size → b ≠ o → b ≠ c → w'.heap[b]? = w.heap[b]?
theorem Chg.refl (w : World) (o c : Nat) : Chg w w o c := ⟨Env.refl w, Nat.le_refl _, fun _ _ _ _ => rfl⟩
theorem Chg.trans {w w1 w2 : World} {o c : Nat} (h : Chg w w1 o c) (k : Chg w1 w2 o c) : Chg w w2 o c :=
 ⟨h.env.trans k.env, Nat.le_trans h.size k.size, fun b hb h1 h2 => (k.same b (Nat.lt_of_lt_of_le hb h.size) h1 h2).trans (h.same b hb h1 h2)⟩
theorem Chg.of_below {w w' : World} (o c : Nat) (h : Below w.heap.size w w') : Chg w w' o c := ⟨⟨h.os, h.tape, h.output, Nat.le_refl _⟩, h.size, fun b hb _ _ => h.block b hb⟩
structure RunAt (H : Hp) (w : World) (o c : Nat) (x : KU) (y : KN) : Prop where
 ag : Ag H w
 ne : o ≠ c
 ob : ∃ vg vi vc, w.heap[o]? = some (.cells #[vg, .pointer (pO x.gM), vi, vc, .int .i64 x.gErr, .int .i64 x.gFailed] 52 (0, 0)) ∧ Rep H (.lst 5 (x.gGraphs.map KQ) .no) vg ∧ Rep H (.lst 1 (x.gIn.map eI64) .no) vi ∧ Rep H (.lst 1 (x.gCalls.map ePtr) .no) vc
 oo : ∀ i, H ⟨o, i, none⟩ = none
 cb : ∃ ve vv, w.heap[c]? = some (.cells #[.string y.gG.gFunc, .int .i64 y.gG.gNodes, ve, vv, .int .i64 y.gG.gMany, .pointer (pO y.gF), .int .i64 y.gNode, .bool y.gRet.gPtr, .int .i64 y.gRet.gN, .string y.gRet.gTo.gName, .int .i64 y.gRet.gTo.gAt] 46 (0, 0)) ∧ Rep H (.lst 6 (y.gG.gEdges.map Km) .no) ve ∧ Rep H (.lst 2 (y.gG.gVars.map Ke) .no) vv
 co : ∀ i, H ⟨c, i, none⟩ = none
theorem rep_noL {H : Hp} {k : Nat} {xs : List D} {c : Cap} {v : Value} (h : Rep H (.lst k xs c) v) : Rep H (.lst k xs .no) v := by
 obtain ⟨h1, h2⟩ := h
 refine ⟨?_, by cases v <;> simpa [D.shape] using h2⟩
 simp only [RepC] at h1 ⊢
 obtain ⟨y, g1, _, g3⟩ := h1
 exact ⟨y, g1, trivial, g3⟩
theorem KbA {H : Hp} {k : Nat} {xs : List D} {c : Cap} {v : Value} (h : Rep H (.lst k xs c) v) : ∃ a m, v = .slice a xs.length m := by
 obtain ⟨_, h⟩ := Kaq h
 rcases h with ⟨e, a, m, rfl, _⟩ | ⟨b, off, m, rfl, _, _⟩
 ·exact ⟨a, m, by rw [e]; rfl⟩
 ·exact ⟨_, m, rfl⟩
theorem Kev {H : Hp} {k : Nat} {xs : List D} {v : Value} (h : Rep H (.lst k xs .no) v) : RepC H (.lst k xs .no) [v] ∧ one v = true := by
 obtain ⟨a, m, rfl⟩ := KbA h
 exact ⟨by simpa only [Value.cells] using h.1, rfl⟩
def runB (x : KU) (o : Nat) : Nat × Blk := (o, .cells [.lst 5 (x.gGraphs.map KQ) .no, .v (.pointer (pO x.gM)), .lst 1 (x.gIn.map eI64) .no, .lst 1 (x.gCalls.map ePtr) .no, .v (.int .i64 x.gErr), .v (.int .i64 x.gFailed)] 52)
def callB (y : KN) (c : Nat) : Nat × Blk := (c, .cells [.v (.string y.gG.gFunc), .v (.int .i64 y.gG.gNodes), .lst 6 (y.gG.gEdges.map Km) .no, .lst 2 (y.gG.gVars.map Ke) .no, .v (.int .i64 y.gG.gMany), .v (.pointer (pO y.gF)), .v (.int .i64 y.gNode), .v (.bool y.gRet.gPtr), .v (.int .i64 y.gRet.gN), .v (.string y.gRet.gTo.gName), .v (.int .i64 y.gRet.gTo.gAt)] 46)
theorem RunAt.bo {H : Hp} {w : World} {o c : Nat} {x : KU} {y : KN} (h : RunAt H w o c x y) : BlkOK H w (runB x o) := by
 obtain ⟨vg, vi, vc, h1, h2, h3, h4⟩ := h.ob
 refine ⟨[vg, .pointer (pO x.gM), vi, vc, .int .i64 x.gErr, .int .i64 x.gFailed], h1, ?_, h.oo⟩
 have r2 := Kev h2
 have r3 := Kev h3
 have r4 := Kev h4
 simp only [Reps]
 exact ⟨_, _, rfl, ⟨r2.1, r2.2, rfl⟩, _, _, rfl, ⟨by simp only [RepC], rfl, rfl⟩, _, _, rfl, ⟨r3.1, r3.2, rfl⟩, _, _, rfl, ⟨r4.1, r4.2, rfl⟩, _, _, rfl, ⟨by simp only [RepC], rfl, rfl⟩, _, _, rfl, ⟨by simp only [RepC], rfl, rfl⟩, rfl⟩
theorem RunAt.bc {H : Hp} {w : World} {o c : Nat} {x : KU} {y : KN} (h : RunAt H w o c x y) : BlkOK H w (callB y c) := by
 obtain ⟨ve, vv, h1, h2, h3⟩ := h.cb
 refine ⟨[.string y.gG.gFunc, .int .i64 y.gG.gNodes, ve, vv, .int .i64 y.gG.gMany, .pointer (pO y.gF), .int .i64 y.gNode, .bool y.gRet.gPtr, .int .i64 y.gRet.gN, .string y.gRet.gTo.gName, .int .i64 y.gRet.gTo.gAt], h1, ?_, h.co⟩
 have r2 := Kev h2
 have r3 := Kev h3
 simp only [Reps]
 exact ⟨_, _, rfl, ⟨by simp only [RepC], rfl, rfl⟩, _, _, rfl, ⟨by simp only [RepC], rfl, rfl⟩, _, _, rfl, ⟨r2.1, r2.2, rfl⟩, _, _, rfl, ⟨r3.1, r3.2, rfl⟩, _, _, rfl, ⟨by simp only [RepC], rfl, rfl⟩, _, _, rfl, ⟨by simp only [RepC], rfl, rfl⟩, _, _, rfl, ⟨by simp only [RepC], rfl, rfl⟩, _, _, rfl, ⟨by simp only [RepC], rfl, rfl⟩, _, _, rfl, ⟨by simp only [RepC], rfl, rfl⟩, _, _, rfl, ⟨by simp only [RepC], rfl, rfl⟩, _, _, rfl, ⟨by simp only [RepC], rfl, rfl⟩, rfl⟩
theorem RunAt.of {H : Hp} {w : World} {o c : Nat} {x : KU} {y : KN} (hA : Ag H w) (hne : o ≠ c) (h1 : BlkOK H w (runB x o)) (h2 : BlkOK H w (callB y c)) : RunAt H w o c x y := by
 have lv : ∀ {kk : Nat} {xs : List D} {u : Value}, RepC H (.lst kk xs .no) [u] ∧ one u = true ∧ (D.lst kk xs .no).flat = true → Rep H (.lst kk xs .no) u := fun {kk xs u} ⟨a, b, _⟩ => Kac a b (by cases u <;> simp [one] at b <;> rfl)
 have vv : ∀ {z u : Value}, RepC H (.v z) [u] ∧ one u = true ∧ (D.v z).flat = true → u = z := fun {z u} ⟨a, _⟩ => by simpa [RepC] using a
 obtain ⟨us, k1, k2, k3⟩ := h1
 obtain ⟨vs, j1, j2, j3⟩ := h2
 simp only [Reps] at k2 j2
 obtain ⟨u0, _, rfl, q0, u1, _, rfl, q1, u2, _, rfl, q2, u3, _, rfl, q3, u4, _, rfl, q4, u5, _, rfl, q5, rfl⟩ := k2
 obtain ⟨v0, _, rfl, p0, v1, _, rfl, p1, v2, _, rfl, p2, v3, _, rfl, p3, v4, _, rfl, p4, v5, _, rfl, p5, v6, _, rfl, p6, v7, _, rfl, p7, v8, _, rfl, p8, v9, _, rfl, p9, v10, _, rfl, p10, rfl⟩ := j2
 obtain rfl := vv q1
 obtain rfl := vv q4
 obtain rfl := vv q5
 obtain rfl := vv p0
 obtain rfl := vv p1
 obtain rfl := vv p4
 obtain rfl := vv p5
 obtain rfl := vv p6
 obtain rfl := vv p7
 obtain rfl := vv p8
 obtain rfl := vv p9
 obtain rfl := vv p10
 exact ⟨hA, hne, ⟨_, _, _, k1, lv q0, lv q2, lv q3⟩, k3, ⟨_, _, j1, lv p2, lv p3⟩, j3⟩
theorem go1_calls {H : Hp} {w : World} {o c : Nat} {x : KU} {y : KN} (h : RunAt H w o c x y) {r : Int × KU × KN} (hr : Kce x y = some r) :
  Calls Tryz.prog 15 #[.pointer (some ⟨o, 0, none⟩), .pointer (some ⟨c, 0, none⟩)] w fun e w' => e = .returned (.int .i64 r.1) ∧ ∃ H', H.le H' ∧ RunAt H' w' o c r.2.1 r.2.2 ∧ Chg w w' o c ∧ ∀ a v, H' a = some v → H a = some v ∨ w.heap.size ≤ a.block ∨ a.block = o ∨ a.block = c := by
 refine ((Kgk x y o 52 .no .no .no c 46 .no .no r hr).2 H w [.pointer (some ⟨o, 0, none⟩), .pointer (some ⟨c, 0, none⟩)] ?_ h.ag ?_ (by simp) (by simp [Kv, KF, h.ne])).mono ?_
 ·simp only [RepsV]
  exact ⟨_, _, rfl, ⟨by simp [RepC, Value.cells], rfl⟩, _, _, rfl, ⟨by simp [RepC, Value.cells], rfl⟩, rfl⟩
 ·intro p hp
  simp only [List.mem_cons, List.not_mem_nil, or_false] at hp
  rcases hp with rfl | rfl
  ·exact h.bo
  ·exact h.bc
 ·rintro e w' ⟨v, H', d, h', k', rfl, hv, hc, rfl, rfl, rfl⟩
  refine ⟨by rw [KO hv], H', hc.le, RunAt.of hc.ag h.ne (hc.blks (runB r.2.1 o) (List.mem_cons_self ..)) (hc.blks (callB r.2.2 c) (List.mem_cons_of_mem _ (List.mem_cons_self ..))), ⟨hc.env, hc.size, fun b hb h1 h2 => hc.same b hb (by simp [Kv, KF, h1, h2])⟩, fun a v q => ?_⟩
  rcases hc.new a v q with q | q | q
  ·exact .inl q
  ·exact .inr (.inl q)
  ·exact .inr (.inr (by simpa [Kv, KF] using q))
end Go.Proofs.YtaclkgjnoaeihaaGreat.Ab
namespace Go.Proofs.YtaclkgjnoaeihaaGreat.Ab
open Go Go.RowKit Go.Shelf Go.Proofs
set_option linter.all false
theorem RunAt.olt {H : Hp} {w : World} {o c : Nat} {x : KU} {y : KN} (h : RunAt H w o c x y) : o < w.heap.size := by
 obtain ⟨_, _, _, h1, _⟩ := h.ob; exact (Array.getElem?_eq_some_iff.1 h1).1
theorem RunAt.clt {H : Hp} {w : World} {o c : Nat} {x : KU} {y : KN} (h : RunAt H w o c x y) : c < w.heap.size := by
 obtain ⟨_, _, h1, _⟩ := h.cb; exact (Array.getElem?_eq_some_iff.1 h1).1
theorem RunAt.below {H : Hp} {w w' : World} {o c : Nat} {x : KU} {y : KN} (h : RunAt H w o c x y) (hb : Below w.heap.size w w') : RunAt H w' o c x y := by
 have h1 := hb.block o h.olt
 have h2 := hb.block c h.clt
 exact ⟨Go.Proofs.YtaclkgjnoaeihaaGreat.Ag.below h.ag hb, h.ne, by rw [h1]; exact h.ob, h.oo, by rw [h2]; exact h.cb, h.co⟩
theorem Kgh {H : Hp} {w : World} (hA : Ag H w) {c : Nat} {v : Value} (h : Rep H (.lst 1 ([some c].map ePtr) .no) v) : ∃ b off m, v = .slice (some ⟨b, off, none⟩) 1 m ∧ w.cell? ⟨b, off, none⟩ = some (.pointer (some ⟨c, 0, none⟩)) := by
 obtain ⟨_, h⟩ := Kaq h
 rcases h with ⟨e, _⟩ | ⟨b, off, m, rfl, _, hE⟩
 ·simp at e
 ·obtain ⟨us, h1, h2, h3, _⟩ := Kfw hE (i := 0) (x := ePtr (some c)) rfl
  have : us = [.pointer (some ⟨c, 0, none⟩)] := by simpa [ePtr, RepC, pO] using h2
  subst this
  exact ⟨b, off, m, rfl, by simpa using hA _ _ (h3 0 _ rfl)⟩
theorem slice0 {H : Hp} {k : Nat} {v : Value} (h : Rep H (.lst k [] .no) v) : ∃ a m, v = .slice a 0 m := by
 obtain ⟨a, m, e⟩ := KbA h
 exact ⟨a, m, e⟩
theorem last1 {H : Hp} {w : World} {o c c' : Nat} {x : KU} {y : KN} (h : RunAt H w o c x y) (hx : x.gCalls = [some c']) :
  Calls Tryz.prog 11 #[.pointer (some ⟨o, 0, none⟩)] w fun e w' => e = .returned (.pointer (some ⟨c', 0, none⟩)) ∧ Below w.heap.size w w' := by
 have mixed : Tryz.prog.follows .mixedOrders = true := by kernel_rfl
 obtain ⟨vg, vi, vc, h1, h2, h3, h4⟩ := h.ob
 rw [hx] at h4
 obtain ⟨b, off, m, rfl, hc⟩ := Kgh h.ag h4
 have x3 : w.cell? ⟨o, 3, none⟩ = some (.slice (some ⟨b, off, none⟩) 1 m) := by simp [World.cell?, h1]
 clear h1 h2 h3 h4
 go_enter Tryz.func11, Tryz.ntmps11
 go_wp2_with fail
 go_region
 all_goals
  go_wp2
  go_ret
  exact ⟨rfl, (Below.refl _ w).drew⟩
theorem last0 {H : Hp} {w : World} {o c : Nat} {x : KU} {y : KN} (h : RunAt H w o c x y) (hx : x.gCalls = []) :
  Calls Tryz.prog 11 #[.pointer (some ⟨o, 0, none⟩)] w fun e w' => e = .returned (.pointer none) ∧ Below w.heap.size w w' := by
 obtain ⟨vg, vi, vc, h1, h2, h3, h4⟩ := h.ob
 rw [hx] at h4
 obtain ⟨a, m, rfl⟩ := slice0 h4
 have x3 : w.cell? ⟨o, 3, none⟩ = some (.slice a 0 m) := by simp [World.cell?, h1]
 clear h1 h2 h3 h4
 go_enter Tryz.func11, Tryz.ntmps11
 go_wp2
 go_ret
 exact ⟨rfl, Below.refl _ w⟩
theorem deep_calls {H : Hp} {w : World} {o c : Nat} {x : KU} {y : KN} (h : RunAt H w o c x y) (hx : x.gCalls = []) :
  Calls Tryz.prog 8 #[.pointer (some ⟨o, 0, none⟩)] w fun e w' => e = .returned (.int .i64 0) ∧ Below w.heap.size w w' := by
 obtain ⟨vg, vi, vc, h1, h2, h3, h4⟩ := h.ob
 rw [hx] at h4
 obtain ⟨a, m, rfl⟩ := slice0 h4
 have x3 : w.cell? ⟨o, 3, none⟩ = some (.slice a 0 m) := by simp [World.cell?, h1]
 clear h1 h2 h3 h4
 go_enter Tryz.func8, Tryz.ntmps8
 go_wp2
 go_ret
 exact ⟨rfl, Below.refl _ w⟩
theorem RunAt.setErr {H : Hp} {w : World} {o c : Nat} {x : KU} {y : KN} (h : RunAt H w o c x y) (e : Int) : RunAt H (w.setCell ⟨o, 4, none⟩ (.int .i64 e)) o c { x with gErr := e } y := by
  obtain ⟨vg, vi, vc, h1, h2⟩ := h.ob
  refine ⟨fun a v q => ?_, h.ne, ⟨vg, vi, vc, ?_, h2⟩, h.oo, ?_, h.co⟩
  · have hb : o ≠ a.block := fun k => by
      obtain ⟨ab, ao, an⟩ := a
      cases an with
      | none => subst k; rw [h.oo ao] at q; cases q
      | some n =>
        have h := h.ag _ _ q
        simp only [World.cell?] at h
        split at h <;> simp at h
    have := h.ag a v q
    simp only [World.cell?] at this ⊢
    rw [K6, if_neg hb]
    exact this
  · rw [K6, if_pos rfl, h1]; rfl
  · rw [K6, if_neg h.ne]; exact h.cb
theorem RunAt.setFar {H : Hp} {w : World} {o c b : Nat} {x : KU} {y : KN} (h : RunAt H w o c x y) (hb : ∀ i, H ⟨b, i, none⟩ = none) (h1 : b ≠ o) (h2 : b ≠ c) (i : Nat) (v : Value) : RunAt H (w.setCell ⟨b, i, none⟩ v) o c x y := by
  refine ⟨fun a v q => ?_, h.ne, ?_, h.oo, ?_, h.co⟩
  · have hb : b ≠ a.block := fun k => by
      obtain ⟨ab, ao, an⟩ := a
      cases an with
      | none => subst k; rw [hb ao] at q; cases q
      | some n =>
        have h := h.ag _ _ q
        simp only [World.cell?] at h
        split at h <;> simp at h
    have := h.ag a v q
    simp only [World.cell?] at this ⊢
    rw [K6, if_neg hb]
    exact this
  · rw [K6, if_neg h1]; exact h.ob
  · rw [K6, if_neg h2]; exact h.cb
theorem chg_err (w : World) (o c : Nat) (v : Value) : Chg w (w.setCell ⟨o, 4, none⟩ v) o c :=
 ⟨⟨rfl, rfl, rfl, Nat.le_refl _⟩, by simp, fun b hb h1 h2 => by rw [K6, if_neg (Ne.symm h1)]⟩
theorem step1_d {w : World} {o t1 t2 : Nat} {e e0 : Int} (h1 : w.cell? ⟨t1, 0, none⟩ = some (.pointer (some ⟨o, 0, none⟩))) (h2 : w.cell? ⟨t2, 0, none⟩ = some (.int .i64 e)) (h3 : w.cell? ⟨o, 4, none⟩ = some (.int .i64 e0)) (h4 : w.frozen? ⟨o, 4, none⟩ = false) :
  Go.CallsD Tryz.prog 14 #[.pointer (some ⟨t2, 0, none⟩), .pointer (some ⟨t1, 0, none⟩)] .returning w fun e' u' w' => u' = .returning ∧ (e' = .returned (.tuple #[]) ∧ w' = w.setCell ⟨o, 4, none⟩ (.int .i64 e)) := by
 go_enter_d Tryz.func14, Tryz.ntmps14
 go_wp2
 go_end0
 exact ⟨rfl, rfl⟩
theorem step_go {H : Hp} {w : World} {o c : Nat} {x : KU} {y : KN} (h : RunAt H w o c x y) (hx : x.gCalls = [some c]) (he : x.gErr = 0) {v : Int} {x' : KU} {y' : KN} (hgo : ∀ w3, RunAt H w3 o c x y → Calls Tryz.prog 15 #[.pointer (some ⟨o, 0, none⟩), .pointer (some ⟨c, 0, none⟩)] w3 fun e w' => e = .returned (.int .i64 v) ∧ ∃ H', H.le H' ∧ RunAt H' w' o c x' y' ∧ Chg w3 w' o c ∧ ∀ a v, H' a = some v → H a = some v ∨ w3.heap.size ≤ a.block ∨ a.block = o ∨ a.block = c) :
    Calls Tryz.prog 7 #[.pointer (some ⟨o, 0, none⟩)] w fun e w' => e = .returned (.int .i64 v) ∧ ∃ H', H.le H' ∧ RunAt H' w' o c { x' with gErr := v } y' ∧ Chg w w' o c := by
  have hmf : ∀ (fn : Fn) (first cap : Array Value) (w : World), (Instr.makeFunc fn first cap).run Tryz.prog w = .ok (.func fn first cap) w := fun _ _ _ _ => rfl
  obtain ⟨W2, hW2⟩ : ∃ W2, W2 = (w.alloc (.cells #[.pointer (some ⟨o, 0, none⟩)] 24)).alloc (.cells #[.int .i64 0] 31) := ⟨_, rfl⟩
  have hb2 : Below w.heap.size w W2 := by rw [hW2]; exact ((Below.refl _ w).alloc (Nat.le_refl _) _).alloc (by simp) _
  have hs2 : W2.heap.size = w.heap.size + 2 := by rw [hW2]; simp
  have hx1 : W2.heap[w.heap.size]? = some (.cells #[.pointer (some ⟨o, 0, none⟩)] 24 (0, 0)) := by rw [hW2, KS, if_neg (by simp), KS, if_pos rfl]
  have hx2 : W2.heap[w.heap.size + 1]? = some (.cells #[.int .i64 0] 31 (0, 0)) := by rw [hW2, KS, if_pos (by simp)]
  have h2 := h.below hb2
  have hol := h.olt
  have hcl := h.clt
  have a1 : W2.cell? ⟨w.heap.size, 0, none⟩ = some (.pointer (some ⟨o, 0, none⟩)) := by simp [World.cell?, hx1]
  have hl := last1 h2 hx
  go_enter_defers Tryz.func7, Tryz.ntmps7
  go_wp2_with fail
  rw [← hW2]
  clear hW2
  refine hl.mono ?_
  rintro e w3 ⟨rfl, hb3⟩
  clear hl a1
  have h3 := h2.below hb3
  have hb23 := hb2.trans (hb3.mono hb2.size)
  have hy1 := (hb3.block _ (by omega)).trans hx1
  have hy2 := (hb3.block _ (by omega)).trans hx2
  have a1 : w3.cell? ⟨w.heap.size, 0, none⟩ = some (.pointer (some ⟨o, 0, none⟩)) := by simp [World.cell?, hy1]
  obtain ⟨vg, vi, vc, k1, _⟩ := h3.ob
  rw [he] at k1
  have a4 : w3.cell? ⟨o, 4, none⟩ = some (.int .i64 0) := by simp [World.cell?, k1]
  clear k1
  have hg := hgo _ h3
  go_wp2_with fail
  refine hg.mono ?_
  rintro e w5 ⟨rfl, H5, l5, h5, g5, n5⟩
  clear hg a1 a4
  have hs3 := hb3.size
  have hz1 := (g5.same _ (by omega) (by omega) (by omega)).trans hy1
  have hz2 := (g5.same _ (by omega) (by omega) (by omega)).trans hy2
  have a2 : w5.cell? ⟨w.heap.size + 1, 0, none⟩ = some (.int .i64 0) := by simp [World.cell?, hz2]
  have z2 : w5.frozen? ⟨w.heap.size + 1, 0, none⟩ = false := by simp [World.frozen?, hz2]
  go_wp2_with fail
  obtain ⟨W6, hW6⟩ : ∃ W6, W6 = w5.setCell ⟨w.heap.size + 1, 0, none⟩ (.int .i64 v) := ⟨_, rfl⟩
  rw [← hW6]
  have ho : ∀ i, H5 ⟨w.heap.size + 1, i, none⟩ = none := fun i => by
    cases q : H5 ⟨w.heap.size + 1, i, none⟩ with
    | none => rfl
    | some vv =>
      rcases n5 _ _ q with k | k | k | k
      · have := cell_lt (h.ag _ _ k); simp only at this; omega
      · simp only at k; omega
      · simp only at k; omega
      · simp only at k; omega
  have h6 : RunAt H5 W6 o c x' y' := by rw [hW6]; exact h5.setFar ho (by omega) (by omega) 0 _
  have hq1 : W6.heap[w.heap.size]? = some (.cells #[.pointer (some ⟨o, 0, none⟩)] 24 (0, 0)) := by rw [hW6, K6, if_neg (by omega)]; exact hz1
  have hq2 : W6.heap[w.heap.size + 1]? = some (.cells #[.int .i64 v] 31 (0, 0)) := by rw [hW6, K6, if_pos rfl, hz2]; rfl
  have b1 : W6.cell? ⟨w.heap.size, 0, none⟩ = some (.pointer (some ⟨o, 0, none⟩)) := by simp [World.cell?, hq1]
  have b2 : W6.cell? ⟨w.heap.size + 1, 0, none⟩ = some (.int .i64 v) := by simp [World.cell?, hq2]
  obtain ⟨vg, vi, vc, k1, _⟩ := h6.ob
  have b4 : W6.cell? ⟨o, 4, none⟩ = some (.int .i64 x'.gErr) := by simp [World.cell?, k1]
  have z4 : W6.frozen? ⟨o, 4, none⟩ = false := by simp [World.frozen?, k1]
  have g35 := (Chg.of_below o c hb23).trans g5
  have g6 : Chg w W6 o c := by
    rw [hW6]
    exact ⟨g35.env, by simpa using g35.size, fun b hb h1 h2 => by rw [K6, if_neg (by omega)]; exact g35.same b hb h1 h2⟩
  clear hW6 k1 hz1 hz2 hq1 a2 z2 hy1 hy2
  refine leaves_cons (f := 14) (args := #[.pointer (some ⟨w.heap.size + 1, 0, none⟩), .pointer (some ⟨w.heap.size, 0, none⟩)]) (by simp) (by simp [go_sem]) ?_
  refine (step1_d b1 b2 b4 z4).mono ?_
  rintro e u' w'' ⟨rfl, rfl, rfl⟩
  have hq3 : (W6.setCell ⟨o, 4, none⟩ (.int .i64 v)).heap[w.heap.size + 1]? = some (.cells #[.int .i64 v] 31 (0, 0)) := by rw [K6, if_neg (by omega)]; exact hq2
  have b3 : (W6.setCell ⟨o, 4, none⟩ (.int .i64 v)).cell? ⟨w.heap.size + 1, 0, none⟩ = some (.int .i64 v) := by simp [World.cell?, hq3]
  simp [Leaves, settle, results, Tryz.results7, go_sem, b3]
  exact ⟨H5, l5, h6.setErr v, g6.trans (chg_err W6 o c _)⟩
end Go.Proofs.YtaclkgjnoaeihaaGreat.Ab
namespace Go.Proofs.YtaclkgjnoaeihaaGreat.Ab
open Go Go.RowKit Go.Shelf Go.Proofs
set_option linter.all false
theorem RunAt.setCalls0 {H : Hp} {w : World} {o c : Nat} {x : KU} {y : KN} (h : RunAt H w o c x y) (a : Option Addr) : RunAt H (w.setCell ⟨o, 3, none⟩ (.slice a 0 0)) o c { x with gCalls := [] } y := by
  obtain ⟨vg, vi, vc, h1, h2, h3, _⟩ := h.ob
  refine ⟨fun a v q => ?_, h.ne, ⟨vg, vi, .slice a 0 0, ?_, h2, h3, ?_⟩, h.oo, ?_, h.co⟩
  · have hb : o ≠ a.block := fun k => by
      obtain ⟨ab, ao, an⟩ := a
      cases an with
      | none => subst k; rw [h.oo ao] at q; cases q
      | some n =>
        have h := h.ag _ _ q
        simp only [World.cell?] at h
        split at h <;> simp at h
    have := h.ag a v q
    simp only [World.cell?] at this ⊢
    rw [K6, if_neg hb]
    exact this
  · rw [K6, if_pos rfl, h1]; rfl
  · refine ⟨?_, rfl⟩
    simp only [RepC, Value.cells, List.map_nil]
    exact ⟨_, rfl, trivial, .inl ⟨(by first | exact trivial | rfl), a, 0, rfl, fun _ => rfl⟩⟩
  · rw [K6, if_neg h.ne]; exact h.cb
theorem chg_o (w : World) (o c i : Nat) (v : Value) : Chg w (w.setCell ⟨o, i, none⟩ v) o c :=
 ⟨⟨rfl, rfl, rfl, Nat.le_refl _⟩, by simp, fun b hb h1 h2 => by rw [K6, if_neg (Ne.symm h1)]⟩
theorem back_calls {H : Hp} {w : World} {o c : Nat} {x : KU} {y : KN} (h : RunAt H w o c x y) (hx : x.gCalls = [some c]) :
  Calls Tryz.prog 20 #[.pointer (some ⟨o, 0, none⟩), .pointer (some ⟨c, 0, none⟩)] w fun e w' => e = .returned (.int .i64 0) ∧ RunAt H w' o c { x with gCalls := [] } y ∧ Chg w w' o c := by
 obtain ⟨vg, vi, vc, h1, h2, h3, h4⟩ := h.ob
 rw [hx] at h4
 obtain ⟨b, off, m, rfl, hc⟩ := Kgh h.ag h4
 have x3 : w.cell? ⟨o, 3, none⟩ = some (.slice (some ⟨b, off, none⟩) 1 m) := by simp [World.cell?, h1]
 have z3 : w.frozen? ⟨o, 3, none⟩ = false := by simp [World.frozen?, h1]
 clear h1 h2 h3 h4
 go_enter Tryz.func20, Tryz.ntmps20
 go_wp2_with fail
 have h2 := h.setCalls0 (some ⟨b, off, none⟩)
 refine (last0 h2 rfl).mono ?_
 rintro e w2 ⟨rfl, hb2⟩
 go_wp2
 go_ret
 exact ⟨rfl, h2.below hb2, (chg_o w o c 3 _).trans (Chg.of_below o c hb2)⟩
theorem go1_back {H : Hp} {w : World} {o c : Nat} {x : KU} {y : KN} (h : RunAt H w o c x y) (hx : x.gCalls = [some c]) (hy : y.gNode = 1) :
  Calls Tryz.prog 15 #[.pointer (some ⟨o, 0, none⟩), .pointer (some ⟨c, 0, none⟩)] w fun e w' => e = .returned (.int .i64 0) ∧ ∃ H', H.le H' ∧ RunAt H' w' o c { x with gCalls := [] } y ∧ Chg w w' o c ∧ ∀ a v, H' a = some v → H a = some v ∨ w.heap.size ≤ a.block ∨ a.block = o ∨ a.block = c := by
 obtain ⟨ve, vv, h1, _⟩ := h.cb
 rw [hy] at h1
 have x6 : w.cell? ⟨c, 6, none⟩ = some (.int .i64 1) := by simp [World.cell?, h1]
 have hbk := back_calls h hx
 clear h1
 go_enter Tryz.func15, Tryz.ntmps15
 go_wp2_with fail
 refine hbk.mono ?_
 rintro e w2 ⟨rfl, h2, g2⟩
 go_wp2
 go_ret
 exact ⟨rfl, H, Hp.le_refl H, h2, g2, fun a v q => .inl q⟩
theorem step_end {H : Hp} {w : World} {o c : Nat} {x : KU} {y : KN} (h : RunAt H w o c x y) (hx : x.gCalls = []) (he : x.gErr = 0) :
  Calls Tryz.prog 7 #[.pointer (some ⟨o, 0, none⟩)] w fun e w' => e = .returned (.int .i64 14) ∧ Below w.heap.size w w' := by
 obtain ⟨W2, hW2⟩ : ∃ W2, W2 = (w.alloc (.cells #[.pointer (some ⟨o, 0, none⟩)] 24)).alloc (.cells #[.int .i64 0] 31) := ⟨_, rfl⟩
 have hb2 : Below w.heap.size w W2 := by rw [hW2]; exact ((Below.refl _ w).alloc (Nat.le_refl _) _).alloc (by simp) _
 have hs2 : W2.heap.size = w.heap.size + 2 := by rw [hW2]; simp
 have hx1 : W2.heap[w.heap.size]? = some (.cells #[.pointer (some ⟨o, 0, none⟩)] 24 (0, 0)) := by rw [hW2, KS, if_neg (by simp), KS, if_pos rfl]
 have hx2 : W2.heap[w.heap.size + 1]? = some (.cells #[.int .i64 0] 31 (0, 0)) := by rw [hW2, KS, if_pos (by simp)]
 have h2 := h.below hb2
 have a1 : W2.cell? ⟨w.heap.size, 0, none⟩ = some (.pointer (some ⟨o, 0, none⟩)) := by simp [World.cell?, hx1]
 have hl := last0 h2 hx
 go_enter_defers Tryz.func7, Tryz.ntmps7
 go_wp2_with fail
 rw [← hW2]
 clear hW2
 refine hl.mono ?_
 rintro e w3 ⟨rfl, hb3⟩
 clear hl a1
 have h3 := h2.below hb3
 have hb23 := hb2.trans (hb3.mono hb2.size)
 have hy1 := (hb3.block _ (by omega)).trans hx1
 have hy2 := (hb3.block _ (by omega)).trans hx2
 have a1 : w3.cell? ⟨w.heap.size, 0, none⟩ = some (.pointer (some ⟨o, 0, none⟩)) := by simp [World.cell?, hy1]
 have a2 : w3.cell? ⟨w.heap.size + 1, 0, none⟩ = some (.int .i64 0) := by simp [World.cell?, hy2]
 have z2 : w3.frozen? ⟨w.heap.size + 1, 0, none⟩ = false := by simp [World.frozen?, hy2]
 obtain ⟨vg, vi, vc, k1, _⟩ := h3.ob
 rw [he] at k1
 have a4 : w3.cell? ⟨o, 4, none⟩ = some (.int .i64 0) := by simp [World.cell?, k1]
 clear k1
 go_wp2_with fail
 obtain ⟨W6, hW6⟩ : ∃ W6, W6 = w3.setCell ⟨w.heap.size + 1, 0, none⟩ (.int .i64 14) := ⟨_, rfl⟩
 rw [← hW6]
 have hq2 : W6.heap[w.heap.size + 1]? = some (.cells #[.int .i64 14] 31 (0, 0)) := by rw [hW6, K6, if_pos rfl, hy2]; rfl
 have b3 : W6.cell? ⟨w.heap.size + 1, 0, none⟩ = some (.int .i64 14) := by simp [World.cell?, hq2]
 have hb6 : Below w.heap.size w W6 := by rw [hW6]; exact Kdu (by simp) hb23
 clear hW6
 simp [bodyPostD, Leaves, settle, results, Tryz.results7, go_sem, b3]
 exact hb6
theorem Khd {H : Hp} {w : World} {o c : Nat} {x : KU} {y : KN} (h : RunAt H w o c x y) (hx : x.gCalls = [some c]) (hy : y.gNode = 1) :
  Calls Tryz.prog 5 #[.pointer (some ⟨o, 0, none⟩), .string (ByteArray.mk #[])] w fun e w' => e = .returned (.tuple #[.agg #[.bool y.gRet.gPtr, .int .i64 y.gRet.gN, .string y.gRet.gTo.gName, .int .i64 y.gRet.gTo.gAt], .bool true]) ∧ Below w.heap.size w w' := by
 have mixed : Tryz.prog.follows .mixedOrders = true := by kernel_rfl
 obtain ⟨W2, hW2⟩ : ∃ W2, W2 = w.alloc (.cells #[.bool false, .int .i64 0, .string (ByteArray.mk #[]), .int .i64 0] 28) := ⟨_, rfl⟩
 have hb2 : Below w.heap.size w W2 := by rw [hW2]; exact (Below.refl _ w).alloc (Nat.le_refl _) _
 have h2 := h.below hb2
 have hl := last1 h2 hx
 go_enter Tryz.func5, Tryz.ntmps5
 go_wp2_with fail
 rw [← hW2]
 refine hl.mono ?_
 rintro e w3 ⟨rfl, hb3⟩
 clear hl
 have hx1 : W2.heap[w.heap.size]? = some (.cells #[.bool false, .int .i64 0, .string (ByteArray.mk #[]), .int .i64 0] 28 (0, 0)) := by rw [hW2, KS, if_pos rfl]
 have hs2 : w.heap.size < W2.heap.size := by rw [hW2]; simp
 clear hW2
 have h3 := h2.below hb3
 have hb23 := hb2.trans (hb3.mono hb2.size)
 have hy1 := (hb3.block _ hs2).trans hx1
 have r0 : w3.cell? ⟨w.heap.size, 0, none⟩ = some (.bool false) := by simp [World.cell?, hy1]
 have r1 : w3.cell? ⟨w.heap.size, 1, none⟩ = some (.int .i64 0) := by simp [World.cell?, hy1]
 have r2 : w3.cell? ⟨w.heap.size, 2, none⟩ = some (.string (ByteArray.mk #[])) := by simp [World.cell?, hy1]
 have r3 : w3.cell? ⟨w.heap.size, 3, none⟩ = some (.int .i64 0) := by simp [World.cell?, hy1]
 have f0 : w3.frozen? ⟨w.heap.size, 0, none⟩ = false := by simp [World.frozen?, hy1]
 have f1 : w3.frozen? ⟨w.heap.size, 1, none⟩ = false := by simp [World.frozen?, hy1]
 have f2 : w3.frozen? ⟨w.heap.size, 2, none⟩ = false := by simp [World.frozen?, hy1]
 have f3 : w3.frozen? ⟨w.heap.size, 3, none⟩ = false := by simp [World.frozen?, hy1]
 obtain ⟨ve, vv, k1, _⟩ := h3.cb
 rw [hy] at k1
 have c6 : w3.cell? ⟨c, 6, none⟩ = some (.int .i64 1) := by simp [World.cell?, k1]
 have c7 : w3.cell? ⟨c, 7, none⟩ = some (.bool y.gRet.gPtr) := by simp [World.cell?, k1]
 have c8 : w3.cell? ⟨c, 8, none⟩ = some (.int .i64 y.gRet.gN) := by simp [World.cell?, k1]
 have c9 : w3.cell? ⟨c, 9, none⟩ = some (.string y.gRet.gTo.gName) := by simp [World.cell?, k1]
 have c10 : w3.cell? ⟨c, 10, none⟩ = some (.int .i64 y.gRet.gTo.gAt) := by simp [World.cell?, k1]
 go_wp2_with fail
 have hlt := h.clt
 have n1 : ¬ w.heap.size = c := by omega
 have n2 : ¬ c = w.heap.size := by omega
 go_region
 all_goals
  go_wp2_with fail
  obtain ⟨W9, hW9⟩ : ∃ W9, W9 = ((((w3.setCell ⟨w.heap.size, 0, none⟩ (.bool y.gRet.gPtr)).setCell ⟨w.heap.size, 1, none⟩ (.int .i64 y.gRet.gN)).setCell ⟨w.heap.size, 2, none⟩ (.string y.gRet.gTo.gName)).setCell ⟨w.heap.size, 3, none⟩ (.int .i64 y.gRet.gTo.gAt)).drew := ⟨_, rfl⟩
  rw [← hW9]
  have hz : W9.heap[w.heap.size]? = some (.cells #[.bool y.gRet.gPtr, .int .i64 y.gRet.gN, .string y.gRet.gTo.gName, .int .i64 y.gRet.gTo.gAt] 28 (0, 0)) := by
   rw [hW9, hp_drew, K6, if_pos rfl, K6, if_pos rfl, K6, if_pos rfl, K6, if_pos rfl, hy1]; rfl
  have y0 : W9.cell? ⟨w.heap.size, 0, none⟩ = some (.bool y.gRet.gPtr) := by simp [World.cell?, hz]
  have y1 : W9.cell? ⟨w.heap.size, 1, none⟩ = some (.int .i64 y.gRet.gN) := by simp [World.cell?, hz]
  have y2 : W9.cell? ⟨w.heap.size, 2, none⟩ = some (.string y.gRet.gTo.gName) := by simp [World.cell?, hz]
  have y3 : W9.cell? ⟨w.heap.size, 3, none⟩ = some (.int .i64 y.gRet.gTo.gAt) := by simp [World.cell?, hz]
  have hb9 : Below w.heap.size w W9 := by
   rw [hW9]
   refine Below.drew ?_
   iterate 4 refine Kdu (by simp) ?_
   exact hb23
  clear hW9 hz
  simp [bodyPost, results, Tryz.results5, go_sem, y0, y1, y2, y3]
  exact hb9
end Go.Proofs.YtaclkgjnoaeihaaGreat.Ab
namespace Go.Proofs.YtaclkgjnoaeihaaGreat.Ab
open Go Go.RowKit Go.Shelf Go.Proofs
set_option linter.all false
def Ka4 : ByteArray := ByteArray.mk #[109, 97, 105, 110]
def f3 : Kaj := ⟨Ka4, [], [], [⟨8, ByteArray.empty, ByteArray.empty, [⟨1, 3, ByteArray.empty, [], 0⟩], [], [], 0⟩], 0⟩
def p3 : Kad := ⟨[], [f3]⟩
def g3 : KV := ⟨Ka4, 3, [⟨0, 1, 8, ByteArray.empty, ByteArray.empty, [⟨1, 3, ByteArray.empty, [], 0⟩]⟩, ⟨2, 1, 8, ByteArray.empty, ByteArray.empty, [⟨1, 0, ByteArray.empty, [], 0⟩]⟩], [], 0⟩
def w0 : Ky := ⟨false, 0, ⟨ByteArray.empty, 0⟩⟩
def w3 : Ky := ⟨false, 3, ⟨ByteArray.empty, 0⟩⟩
theorem three_eq : Kfk = some p3 := rfl
theorem prog_eq : Kcc p3 = some (0, 0, 0) := (KfG 40 p3).of (by kernel_rfl)
theorem graph_eq : Kcw f3 = some g3 := (Kgn 40 f3).of (by kernel_rfl)
theorem mem_eq : Kep p3 = some ⟨[], [], []⟩ := (Khc 40 p3).of (by kernel_rfl)
theorem new_eq : KdR g3 [] = some ⟨[], []⟩ := (Kg1 40 g3 []).of (by kernel_rfl)
theorem find_eq (m : Option Nat) (cs : List (Option Nat)) : KbI ⟨[g3], m, [], cs, 0, 0⟩ Ka4 = some (g3, true) := (KfE 40 ⟨[g3], m, [], cs, 0, 0⟩ Ka4).of (by kernel_rfl)
theorem go_eq (m : Option Nat) (cs : List (Option Nat)) (f : Option Nat) : Kce ⟨[g3], m, [], cs, 0, 0⟩ ⟨g3, f, 0, w0⟩ = some (0, ⟨[g3], m, [], cs, 0, 0⟩, ⟨g3, f, 1, w3⟩) := (Kgg 40 ⟨[g3], m, [], cs, 0, 0⟩ ⟨g3, f, 0, w0⟩).of (by kernel_rfl)
theorem Kdx {H H' : Hp} {w w' : World} (c : Core ⟨H, w, []⟩ H' [] [] w') : Grow H w H' w' :=
 ⟨c.le, fun a v e => (c.new a v e).imp id (fun q => q.elim id (by simp)), c.ag, Kgd c⟩
theorem g_told {f : FuncId} {ds : List D} {us : Array Value} {d : D} (c : CallsD Tryz.prog f ds [] [] (fun d' h k => d' = d ∧ h = [] ∧ k = [])) {H : Hp} {w : World} (hA : Ag H w) (hv : RepsV H ds us.toList) :
  Calls Tryz.prog f us w fun e w' => ∃ v, e = .returned v ∧ ∃ H', Grow H w H' w' ∧ Rep H' d v :=
 (c.2 H w us.toList hv hA (by simp) (by simp) (by simp [Kv])).mono fun e w' ⟨v, H', d', h', k', he, hr, hc, e1, e2, e3⟩ => by
  subst e1; subst e2; subst e3
  exact ⟨v, he, H', Kdx hc, hr⟩
theorem rep_st (d : D) : ∀ H H' : Hp, Hp.le H H' → ∀ v, Rep H d v → Rep H' d v := fun _ _ h _ k => Rep.mono h k
theorem g_app {H : Hp} {w : World} (hA : Ag H w) {o : Oper} {a : Act} {x y : Operand} {T T' e e' : TypeId} {i0 i1 ie : TI} {kk bb : Nat} {ys : List D} {c' : Cap} (ho : o.op = .call ⟨.builtin .append, [x, y].toArray, #[T, T']⟩) (hx : a.eval x = .slice none 0 0) (hy : Rep H (.lst kk ys c') (a.eval y))
  (hi0 : ti tab T = some i0) (hd0 : i0.d = .slice e) (hi1 : ti tab T' = some i1) (hd1 : i1.d = .slice e') (hie : ti tab e = some ie) (hks : ie.size = kk) (hbb : ie.bytes = bb) (hz : ie.zero.length = kk) (hb1 : 1 ≤ bb) (hbound : ys.length * bb ≤ 140737488355328) :
  Jx.Gives Tryz.prog o a w fun v w' => ∃ H', Grow H w H' w' ∧ Rep H' (.lst kk ys .no) v := by
 have hx' : Rep H (.lst kk [] .full) (a.eval x) := by
  rw [hx]
  refine ⟨?_, rfl⟩
  simp only [RepC, Value.cells]
  exact ⟨_, rfl, rfl, .inl ⟨(by first | exact trivial | rfl), none, 0, rfl, fun _ => rfl⟩⟩
 obtain ⟨v, w', H', h1, h2, h3, h4⟩ := app_run (P := Tryz.prog) (ty := o.type) htab (k1 := []) (k2 := []) (Core.here hA) (.inl ⟨rfl, rfl⟩) hx' hy hi0 hd0 hi1 hd1 hie hks hbb hz hb1 (by simpa using hbound)
 unfold Jx.Gives
 rw [Kcl (s := Builtin.append_) ho (fun _ _ => rfl) (by simpa using h1)]
 exact ⟨H', Kdx (h3.drop (List.Sublist.refl _) (List.nil_sublist _)), rep_noL (by simpa using h4)⟩
theorem g_lit {H : Hp} {w : World} (hA : Ag H w) {d : D} {us : List Value} {kk : Nat} (hk : us.length = kk) (hd : RepC H d us) (ho : ∀ u ∈ us, one u = true) (T : TypeId) : ∃ H', Grow H w H' (w.alloc (.cells us.toArray T)) ∧ Rep H' (.lst kk [d] .no) (.slice (some ⟨w.heap.size, 0, none⟩) 1 1) := by
 obtain ⟨hle, hc, ht⟩ := (Core.here hA).allocTold (us := us) (vs := us) T (fun _ _ e => e)
 refine ⟨_, Kdx hc, ?_, rfl⟩
 simp only [RepC, Value.cells]
 refine ⟨_, rfl, trivial, .inr ⟨w.heap.size, 0, 1, rfl, Nat.le_refl _, ?_⟩⟩
 simp only [Els]
 exact ⟨⟨us, hk, RepC.mono hle d us hd, ht, ho⟩, trivial⟩
theorem KfN {H : Hp} {w : World} (hA : Ag H w) {o : Nat} {x : KU} {vg vi vc : Value} (h1 : w.heap[o]? = some (.cells #[vg, .pointer (pO x.gM), vi, vc, .int .i64 x.gErr, .int .i64 x.gFailed] 52 (0, 0))) (r1 : Rep H (.lst 5 (x.gGraphs.map KQ) .no) vg) (r2 : Rep H (.lst 1 (x.gIn.map eI64) .no) vi) (r3 : Rep H (.lst 1 (x.gCalls.map ePtr) .no) vc)
    (oo : ∀ i, H ⟨o, i, none⟩ = none) {s : ByteArray} {g : KV} {ok : Bool} (hr : KbI x s = some (g, ok)) :
    Calls Tryz.prog 27 #[.pointer (some ⟨o, 0, none⟩), .string s] w fun e w' => ∃ gv, e = .returned (.tuple #[gv, .bool ok]) ∧ ∃ H', Grow H w H' w' ∧ Rep H' (KQ g) gv := by
  obtain ⟨a1, m1, rfl⟩ := KbA r1
  obtain ⟨a2, m2, rfl⟩ := KbA r2
  obtain ⟨a3, m3, rfl⟩ := KbA r3
  have cu : ∀ {kk : Nat} {xs : List D} {a : Option Addr} {n m : Nat}, Rep H (.lst kk xs .no) (.slice a n m) → RepC H (.lst kk xs (.cur (.slice a n m))) [.slice a n m] := fun {kk xs a n m} h => by
    obtain ⟨h1, _⟩ := h
    simp only [RepC, Value.cells] at h1 ⊢
    obtain ⟨y, e, _, g⟩ := h1
    simp only [List.cons.injEq, and_true] at e
    subst e
    exact ⟨_, rfl, rfl, g⟩
  have cl : ∀ {H : Hp} {kk : Nat} {xs : List D} {y u : Value}, RepC H (.lst kk xs (.cur y)) [u] → u = y := fun {H kk xs y u} h => by
    simp only [RepC] at h
    obtain ⟨y', e, hc, _⟩ := h
    simp only [List.cons.injEq, and_true] at e
    subst e
    exact hc
  refine ((KfV x s o 52 (.cur (.slice a1 (x.gGraphs.map KQ).length m1)) (.cur (.slice a2 (x.gIn.map eI64).length m2)) (.cur (.slice a3 (x.gCalls.map ePtr).length m3)) (g, ok) hr).2 H w [.pointer (some ⟨o, 0, none⟩), .string s] ?_ hA ?_ (by simp) (by simp [Kv, KF])).mono ?_
  · simp only [RepsV]
    exact ⟨_, _, rfl, ⟨by simp [RepC, Value.cells], rfl⟩, _, _, rfl, rep_v rfl, rfl⟩
  · intro p hp
    simp only [List.mem_singleton] at hp
    subst hp
    refine ⟨_, h1, ?_, oo⟩
    simp only [Reps]
    exact ⟨_, _, rfl, ⟨cu r1, rfl, rfl⟩, _, _, rfl, ⟨by simp only [RepC], rfl, rfl⟩, _, _, rfl, ⟨cu r2, rfl, rfl⟩, _, _, rfl, ⟨cu r3, rfl, rfl⟩, _, _, rfl, ⟨by simp only [RepC], rfl, rfl⟩, _, _, rfl, ⟨by simp only [RepC], rfl, rfl⟩, rfl⟩
  · rintro e w' ⟨v, H', d, h', k', rfl, hv, hc, rfl, rfl, rfl⟩
    obtain ⟨us, k1, k2, k3⟩ := hc.blks _ (List.mem_singleton.2 rfl)
    have hus : us = [.slice a1 (x.gGraphs.map KQ).length m1, .pointer (pO x.gM), .slice a2 (x.gIn.map eI64).length m2, .slice a3 (x.gCalls.map ePtr).length m3, .int .i64 x.gErr, .int .i64 x.gFailed] := by
      simp only [Reps] at k2
      obtain ⟨u0, _, rfl, q0, u1, _, rfl, q1, u2, _, rfl, q2, u3, _, rfl, q3, u4, _, rfl, q4, u5, _, rfl, q5, rfl⟩ := k2
      rw [cl q0.1, cl q2.1, cl q3.1]
      simp only [RepC, List.cons.injEq, and_true] at q1 q4 q5
      rw [q1.1, q4.1, q5.1]
    subst hus
    have hbel : Below w.heap.size w w' := ⟨hc.env.1, hc.env.2.1, hc.env.2.2.1, hc.size, fun j hj => by
      by_cases q : j = o
      · subst q; exact k1.trans h1.symm
      · exact hc.same j hj (by simp [Kv, KF, q])⟩
    have hnew : ∀ a v, H' a = some v → H a = some v ∨ w.heap.size ≤ a.block := fun a v q => by
      rcases hc.new a v q with k | k | k
      · exact .inl k
      · exact .inr k
      · simp only [Kv, KF, List.flatMap_cons, List.flatMap_nil, List.append_nil, List.mem_singleton] at k
        obtain ⟨ab, ao, an⟩ := a
        simp only at k
        subst k
        cases an with
        | none => rw [k3 ao] at q; cases q
        | some n =>
          have h := hc.ag _ _ q
          simp only [World.cell?] at h
          split at h <;> simp at h
    obtain ⟨hv1, hv2⟩ := hv
    have hco : ∃ vs, v.cells.toList = [.tuple vs.toArray] ∧ RepsV H' [KQ g, .v (.bool ok)] vs := by simpa only [RepC] using hv1
    obtain ⟨vs, e1, e2⟩ := hco
    simp only [RepsV] at e2
    obtain ⟨gv, _, rfl, q1, bv, _, rfl, q2, rfl⟩ := e2
    obtain rfl := KO q2
    have hv3 : v = .tuple #[gv, .bool ok] := by
      cases v <;> simp [D.shape, Value.cells] at e1 hv2
      all_goals simp_all
    exact ⟨gv, by rw [hv3], H', ⟨hc.le, hnew, hc.ag, hbel⟩, q1⟩
end Go.Proofs.YtaclkgjnoaeihaaGreat.Ab
namespace Go.Proofs.YtaclkgjnoaeihaaGreat.Ab
open Go Go.RowKit Go.Shelf Go.Proofs
set_option linter.all false
def mainCells (ge gv : Value) (pf : Option Nat) : Array Value := #[.string Ka4, .int .i64 3, ge, gv, .int .i64 0, .pointer (pO pf), .int .i64 0, .bool false, .int .i64 0, .string ByteArray.empty, .int .i64 0]
def bldV (ge gv v : Value) : Value := .agg #[.string Ka4, .int .i64 3, ge, gv, .int .i64 0, v, .int .i64 0, .bool false, .int .i64 0, .string ByteArray.empty, .int .i64 0]
theorem run_valE {P : Program} {w : World} {a : Act} {o : Oper} {v v' : Value} (h : (execOp a.eval o).run P w = .ok (.value v') w) (e : v = v') : (execOp a.eval o).run P w = .ok (.value v) w := e ▸ h
theorem KgM {H : Hp} {w : World} (hA : Ag H w) {b : Nat} (ho : ∀ o, H ⟨b, o, none⟩ = none) (o : Nat) (v : Value) : Ag H (w.setCell ⟨b, o, none⟩ v) := fun a u e => by
  have hb : b ≠ a.block := fun q => by
    obtain ⟨ab, ao, an⟩ := a
    cases an with
    | none => subst q; rw [ho ao] at e; cases e
    | some n =>
      have h := hA _ _ e
      simp only [World.cell?] at h
      split at h <;> simp at h
  have := hA a u e
  simp only [World.cell?] at this ⊢
  rw [K6, if_neg hb]
  exact this
def St.call (n : Nat) (ge gv : Value) (T : TypeId) (r : Hp → Nat → Value → Prop) (hr : ∀ H H', Hp.le H H' → ∀ b v, r H b v → r H' b v) : St := ⟨fun H w v => ∃ b pf, r H b v ∧ Go.Proofs.YtaclkgjnoaeihaaGreat.Blk H w n b (mainCells ge gv pf) T, fun _ _ _ _ hg _ ⟨b, pf, e, h⟩ => ⟨b, pf, hr _ _ hg.le _ _ e, h.grow hg⟩⟩
theorem Kfs {H : Hp} {v : Value} (h : Rep H (KQ g3) v) : ∃ ea em va vm, v = .agg #[.string Ka4, .int .i64 3, .slice ea 2 em, .slice va 0 vm, .int .i64 0] ∧ Rep H (.lst 6 (g3.gEdges.map Km) .no) (.slice ea 2 em) ∧ Rep H (.lst 2 (g3.gVars.map Ke) .no) (.slice va 0 vm) := by
 obtain ⟨us, rfl, hr⟩ := Kbo h
 simp only [Reps] at hr
 obtain ⟨u0, _, rfl, ⟨h0, _, _⟩, u1, _, rfl, ⟨h1, _, _⟩, u2, _, rfl, ⟨h2, o2, _⟩, u3, _, rfl, ⟨h3, o3, _⟩, u4, _, rfl, ⟨h4, _, _⟩, rfl⟩ := hr
 have r2 := Kac h2 o2 (by cases u2 <;> simp [one] at o2 <;> rfl)
 have r3 := Kac h3 o3 (by cases u3 <;> simp [one] at o3 <;> rfl)
 obtain ⟨ea, em, rfl⟩ := KbA r2
 obtain ⟨va, vm, rfl⟩ := KbA r3
 simp only [RepC, List.cons.injEq, and_true] at h0 h1 h4
 subst h0; subst h1; subst h4
 exact ⟨ea, em, va, vm, rfl, r2, r3⟩
theorem g_new {H : Hp} {w : World} (hA : Ag H w) {gv : Value} (hg : Rep H (KQ g3) gv) : Calls Tryz.prog 44 #[gv, .slice none 0 0] w fun e w' => ∃ v, e = .returned v ∧ ∃ H', Grow H w H' w' ∧ ∃ b, v = .pointer (some ⟨b, 0, none⟩) :=
  ((Kg8 g3 [] _ new_eq).2 H w [gv, .slice none 0 0] (by
    simp only [RepsV]
    exact ⟨_, _, rfl, hg, _, _, rfl, ⟨by
      simp only [RepC, Value.cells, List.map_nil]
      exact ⟨_, rfl, trivial, .inl ⟨(by first | exact trivial | rfl), none, 0, rfl, fun _ => rfl⟩⟩, rfl⟩, rfl⟩) hA (by simp) (by simp) (by simp [Kv])).mono fun e w' ⟨v, H', d', h', k', he, hr, hc, y0, y1, y2, e1, e2, e3⟩ => by
    subst e1
    refine ⟨v, he, H', Kdx (hc.drop (List.nil_sublist _) (List.nil_sublist _)), y0, ?_⟩
    obtain ⟨q1, q2⟩ := hr
    cases v <;> simp [D.shape, RepC, Value.cells] at q1 q2 <;> simp_all
theorem open_calls {H0 : Hp} {w : World} (hA : Ag H0 w) {o : Nat} {m : Option Nat} {vg vi : Value} (h1 : w.heap[o]? = some (.cells #[vg, .pointer (pO m), vi, .slice none 0 0, .int .i64 0, .int .i64 0] 52 (0, 0))) (r1 : Rep H0 (.lst 5 ([g3].map KQ) .no) vg) (r2 : Rep H0 (.lst 1 (([] : List Int).map eI64) .no) vi)
    (oo : ∀ i, H0 ⟨o, i, none⟩ = none) :
    Calls Tryz.prog 28 #[.pointer (some ⟨o, 0, none⟩), .string Ka4, .slice none 0 0] w fun e w' => e = .returned (.int .i64 0) ∧ ∃ H' c pf, H0.le H' ∧ RunAt H' w' o c ⟨[g3], m, [], [some c], 0, 0⟩ ⟨g3, pf, 0, w0⟩ ∧ w.heap.size ≤ c ∧ Chg w w' o o := by
  have mixed : Tryz.prog.follows .mixedOrders = true := by kernel_rfl
  have r3 : Rep H0 (.lst 1 (([] : List (Option Nat)).map ePtr) .no) (.slice none 0 0) := ⟨by
    simp only [RepC, Value.cells, List.map_nil]
    exact ⟨_, rfl, trivial, .inl ⟨(by first | exact trivial | rfl), none, 0, rfl, fun _ => rfl⟩⟩, rfl⟩
  have hol : o < w.heap.size := (Array.getElem?_eq_some_iff.1 h1).1
  have hgr := KfN (x := ⟨[g3], m, [], [], 0, 0⟩) hA h1 r1 r2 r3 oo (find_eq m [])
  go_enter Tryz.func28, Tryz.ntmps28
  go_wp2_with fail
  refine hgr.mono ?_
  rintro e W3 ⟨gv, rfl, H3, g3w, rg⟩
  clear hgr
  obtain ⟨ea, em, va, vm, rfl, re, rv⟩ := Kfs rg
  have hy := (g3w.below.block _ hol).trans h1
  obtain ⟨W4, hW4⟩ : ∃ W4, W4 = W3.alloc (.cells #[.string Ka4, .int .i64 3, .slice ea 2 em, .slice va 0 vm, .int .i64 0] 43) := ⟨_, rfl⟩
  have hb4 : Below W3.heap.size W3 W4 := by rw [hW4]; exact (Below.refl _ _).alloc (Nat.le_refl _) _
  have g4 := g3w.trans (Grow.of_below g3w.ag hb4)
  have hs4 : W3.heap.size < W4.heap.size := by rw [hW4]; simp
  have hol3 : o < W3.heap.size := Nat.lt_of_lt_of_le hol g3w.below.size
  have hy4 := (hb4.block _ hol3).trans hy
  have hz4 : W4.heap[W3.heap.size]? = some (.cells #[.string Ka4, .int .i64 3, .slice ea 2 em, .slice va 0 vm, .int .i64 0] 43 (0, 0)) := by rw [hW4, KS, if_pos rfl]
  have c3 : W4.cell? ⟨o, 3, none⟩ = some (.slice none 0 0) := by simp [World.cell?, hy4]
  rw [hW4] at c3
  have b1 : Go.Proofs.YtaclkgjnoaeihaaGreat.Blk E W4 o o #[vg, .pointer (pO m), vi, .slice none 0 0, .int .i64 0, .int .i64 0] 52 := ⟨Nat.le_refl _, hy4, fun _ => rfl⟩
  have b2 : Go.Proofs.YtaclkgjnoaeihaaGreat.Blk E W4 W3.heap.size W3.heap.size #[.string Ka4, .int .i64 3, .slice ea 2 em, .slice va 0 vm, .int .i64 0] 43 := ⟨Nat.le_refl _, hz4, fun _ => rfl⟩
  go_wp2_with fail
  rw [← hW4]
  clear hW4 c3
  have hA4 := g4.ag
  refine ls_take (H0 := H3) 15 (fun e => match e with | 8 => .hp (fun H v => ∃ b, v = .pointer (some ⟨b, 0, none⟩)) (fun _ _ _ _ h => h) | 10 => St.call W4.heap.size (.slice ea 2 em) (.slice va 0 vm) 46 (fun _ b v => v = .pointer (some ⟨b, 0, none⟩)) (fun _ _ _ _ _ h => h) | 11 => St.call W4.heap.size (.slice ea 2 em) (.slice va 0 vm) 46 (fun H b v => Rep H (.lst 1 [ePtr (some b)] .no) v) (fun _ _ h _ _ k => Rep.mono h k) | 12 => St.call W4.heap.size (.slice ea 2 em) (.slice va 0 vm) 46 (fun H b v => Rep H (.lst 1 [ePtr (some b)] .no) v) (fun _ _ h _ _ k => Rep.mono h k) | _ => .tt) [[],[],[],[],[],[],[],[],[],[8],[8],[10],[11],[],[]] [8,10,11,12] [] [[],[],[1],[1,2],[1,2,3],[],[],[],[6,7],[5,6,7,8],[5,6,7,8,9],[5,6,7,8,9,10],[1,2,3,4,5,6,7,8,9,10,11],[0,1,2,3,4,5,6,7,8,9,10,11,12],[0,1,2,3,4,5,6,7,8,9,10,11,12,13],[0,1,2,3,4,5,6,7,8,9,10,11,12,13,14]] (by assumption) (by kernel_rfl) (by kernel_rfl) (by kernel_rfl) (by rfl) (by rfl) (by kernel_rfl) ?_
  intro vals
  refine lsq (by rfl) (by rfl) ?_; apply Exists.intro; refine ⟨fun H w2 hg hp => ?_, ?_⟩
  · (first | (go_simp; rfl) | go_simp)
  (try simp only [Act.put, List.setIfInBounds_toArray, List.set_cons_zero, List.set_cons_succ])
  refine lsq (by rfl) (by rfl) ?_; apply Exists.intro; refine ⟨fun H w2 hg hp => ?_, ?_⟩
  · (first | (go_simp; rfl) | go_simp)
  (try simp only [Act.put, List.setIfInBounds_toArray, List.set_cons_zero, List.set_cons_succ])
  refine lsq (by rfl) (by rfl) ?_; apply Exists.intro; refine ⟨fun H w2 hg hp => ?_, ?_⟩
  · (first | (go_simp; rfl) | go_simp)
  (try simp only [Act.put, List.setIfInBounds_toArray, List.set_cons_zero, List.set_cons_succ])
  refine lsq (by rfl) (by rfl) ?_; apply Exists.intro; refine ⟨fun H w2 hg hp => ?_, ?_⟩
  · (first | (go_simp; rfl) | go_simp)
  (try simp only [Act.put, List.setIfInBounds_toArray, List.set_cons_zero, List.set_cons_succ])
  refine lsq (by rfl) (by rfl) ?_; apply Exists.intro; refine ⟨fun H w2 hg hp => ?_, ?_⟩
  · have g0 := (b1.below hg.below).cell; have g1 := (b2.below hg.below).cell; (first | (go_simp; rfl) | go_simp)
  (try simp only [Act.put, List.setIfInBounds_toArray, List.set_cons_zero, List.set_cons_succ])
  refine lsq (by rfl) (by rfl) ?_; apply Exists.intro; refine ⟨fun H w2 hg hp => ?_, ?_⟩
  · have g0 := (b1.below hg.below).cell; have g1 := (b2.below hg.below).cell; (first | (go_simp; rfl) | go_simp)
  (try simp only [Act.put, List.setIfInBounds_toArray, List.set_cons_zero, List.set_cons_succ])
  refine lsq (by rfl) (by rfl) ?_; apply Exists.intro; refine ⟨fun H w2 hg hp => ?_, ?_⟩
  · have g0 := (b1.below hg.below).cell; have g1 := (b2.below hg.below).cell; (first | (go_simp; rfl) | go_simp)
  (try simp only [Act.put, List.setIfInBounds_toArray, List.set_cons_zero, List.set_cons_succ])
  refine lsq (by rfl) (by rfl) ?_; apply Exists.intro; refine ⟨fun H w2 hg hp => ?_, ?_⟩
  · (first | (go_simp; rfl) | go_simp)
  (try simp only [Act.put, List.setIfInBounds_toArray, List.set_cons_zero, List.set_cons_succ])
  refine ls_ev (by rfl) (by rfl) (by rfl) (fun H w2 hg hp => ?_) ?_
  · refine Kgb (f := 44) ?_; apply Exists.intro; refine ⟨?_, ?_⟩
    · (first | (go_simp; rfl) | go_simp)
    · exact g_new hg.ag (Rep.mono hg.le rg)
  (try simp only [Act.put, List.setIfInBounds_toArray, List.set_cons_zero, List.set_cons_succ])
  refine lsq (by rfl) (by rfl) ?_; apply Exists.intro; refine ⟨fun H w2 hg hp => ?_, ?_⟩
  · obtain ⟨b8, e8⟩ := hp 8 (by simp); simp only [Nat.zero_add, Nat.reduceAdd]; refine run_valE (v := bldV (.slice ea 2 em) (.slice va 0 vm) (vals 8)) (v' := bldV (.slice ea 2 em) (.slice va 0 vm) (.pointer (some ⟨b8, 0, none⟩))) ?_ (by rw [e8]); rw [e8]; (first | (go_simp; done) | (go_simp; rfl))
  (try simp only [Act.put, List.setIfInBounds_toArray, List.set_cons_zero, List.set_cons_succ])
  refine ls_ev (by rfl) (by rfl) (by rfl) (fun H w2 hg hp => ?_) ?_
  · obtain ⟨b8, e8⟩ := hp 8 (by simp); rw [e8]; unfold Jx.Gives; simp only [bldV]; go_simp; exact ⟨_, Grow.of_below hg.ag ((Below.refl _ _).alloc (Nat.le_refl _) _), _, some b8, rfl, Go.Proofs.YtaclkgjnoaeihaaGreat.Blk.new hg.ag hg.below.size _ _⟩
  (try simp only [Act.put, List.setIfInBounds_toArray, List.set_cons_zero, List.set_cons_succ])
  refine ls_ev (by rfl) (by rfl) (by rfl) (fun H w2 hg hp => ?_) ?_
  · obtain ⟨bc, pf, e10, k10⟩ := hp 10 (by simp); rw [e10]; unfold Jx.Gives; go_simp; obtain ⟨H', g, k⟩ := g_lit hg.ag (us := [.pointer (some ⟨bc, 0, none⟩)]) (d := ePtr (some bc)) rfl (by simp [ePtr, RepC, pO]) (by simp [one]) 38; exact ⟨H', g, bc, pf, k, k10.grow g⟩
  (try simp only [Act.put, List.setIfInBounds_toArray, List.set_cons_zero, List.set_cons_succ])
  refine ls_ev (by rfl) (by rfl) (by rfl) (fun H w2 hg hp => ?_) ?_
  · obtain ⟨bc, pf, e11, k11⟩ := hp 11 (by simp); exact Jx.Gives.mono (fun v w' ⟨H', g, k⟩ => ⟨H', g, bc, pf, k, k11.grow g⟩) (g_app hg.ag rfl rfl e11 rfl rfl rfl rfl rfl rfl rfl rfl (by decide) (show 1 * 8 ≤ 140737488355328 by decide))
  (try simp only [Act.put, List.setIfInBounds_toArray, List.set_cons_zero, List.set_cons_succ])
  refine lsq (by rfl) (by rfl) ?_; apply Exists.intro; refine ⟨fun H w2 hg hp => ?_, ?_⟩
  · (first | (go_simp; rfl) | go_simp)
  (try simp only [Act.put, List.setIfInBounds_toArray, List.set_cons_zero, List.set_cons_succ])
  refine lsq (by rfl) (by rfl) ?_; apply Exists.intro; refine ⟨fun H w2 hg hp => ?_, ?_⟩
  · (first | (go_simp; rfl) | go_simp)
  refine ls_nil (fun H w2 hg hr hd => ?_)
  simp only [Act.put, List.setIfInBounds_toArray, List.set_cons_zero, List.set_cons_succ, List.drop_succ_cons, List.drop_zero]
  obtain ⟨bc, pf, k12, q12⟩ := hr 12 (by simp)
  replace k12 : Rep H (.lst 1 [ePtr (some bc)] .no) (vals 12) := k12
  generalize vals 12 = vc at k12 ⊢
  obtain ⟨ca, cm, rfl⟩ := KbA k12
  have hol4 : o < W4.heap.size := by omega
  have hw2 := (hg.below.block _ hol4).trans hy4
  have c3 : w2.cell? ⟨o, 3, none⟩ = some (.slice none 0 0) := by simp [World.cell?, hw2]
  have z3 : w2.frozen? ⟨o, 3, none⟩ = false := by simp [World.frozen?, hw2]
  clear hr hd
  go_wp2
  go_ret
  have g0 := g4.trans hg
  have oH : ∀ i, H ⟨o, i, none⟩ = none := fun i => by
    cases q : H ⟨o, i, none⟩ with
    | none => rfl
    | some v =>
      rcases g0.new _ _ q with k | k
      · rw [oo] at k; cases k
      · simp only at k; omega
  have hcl := q12.lt
  have hcg := q12.ge
  have hne : o ≠ bc := by omega
  have hsz := g3w.below.size
  have hbc : w.heap.size ≤ bc := by omega
  refine ⟨rfl, H, bc, pf, g0.le, ⟨?_, hne, ⟨vg, vi, .slice ca 1 cm, ?_, Rep.mono g0.le r1, Rep.mono g0.le r2, k12⟩, oH, ⟨.slice ea 2 em, .slice va 0 vm, ?_, Rep.mono (Hp.le_trans (Grow.of_below g3w.ag hb4).le hg.le) re, Rep.mono (Hp.le_trans (Grow.of_below g3w.ag hb4).le hg.le) rv⟩, q12.out⟩, hbc, ⟨⟨g0.below.os, g0.below.tape, g0.below.output, Nat.le_refl _⟩, by simpa using g0.below.size, fun b hb h1 _ => by rw [K6, if_neg (Ne.symm h1)]; exact g0.below.block b hb⟩⟩
  · exact KgM g0.ag oH 3 _
  · rw [K6, if_pos rfl, hw2]; rfl
  · rw [K6, if_neg hne]; exact q12.at_
end Go.Proofs.YtaclkgjnoaeihaaGreat.Ab
namespace Go.Proofs.YtaclkgjnoaeihaaGreat.Ab
open Go Go.RowKit Go.Shelf Go.Proofs
set_option linter.all false
theorem prog_val {H : Hp} {pv : Value} (h : Rep H (Ka8 p3) pv) : ∃ ga gm fb fo fm ya na yb nb yc nc, pv = .agg #[.slice ga 0 gm, .slice (some ⟨fb, fo, none⟩) 1 fm] ∧ (H ⟨fb, fo, none⟩ = some (.string Ka4) ∧ H ⟨fb, fo + 1, none⟩ = some (.slice ya 0 na) ∧ H ⟨fb, fo + 2, none⟩ = some (.slice yb 0 nb) ∧ H ⟨fb, fo + 3, none⟩ = some (.slice yc 1 nc) ∧ H ⟨fb, fo + 4, none⟩ = some (.int .i64 0)) ∧ Rep H (KH f3) (.agg #[.string Ka4, .slice ya 0 na, .slice yb 0 nb, .slice yc 1 nc, .int .i64 0]) := by
 obtain ⟨us, rfl, hr⟩ := Kbo h
 simp only [Reps] at hr
 obtain ⟨u0, _, rfl, ⟨h0, o0, _⟩, u1, _, rfl, ⟨h1, o1, _⟩, rfl⟩ := hr
 have r0 := Kac h0 o0 (by cases u0 <;> simp [one] at o0 <;> rfl)
 have r1 := Kac h1 o1 (by cases u1 <;> simp [one] at o1 <;> rfl)
 obtain ⟨ga, gm, rfl⟩ := KbA r0
 obtain ⟨_, q⟩ := Kaq r1
 rcases q with ⟨e, _⟩ | ⟨b, off, m, rfl, _, hE⟩
 ·simp [p3] at e
 ·obtain ⟨vs, k1, k2, k3, k4⟩ := Kfw hE (i := 0) (x := KH f3) rfl
  have k2' := k2
  rw [KH] at k2
  simp only [RepC] at k2
  simp only [Reps] at k2
  obtain ⟨v0, _, rfl, ⟨q0, _, _⟩, v1, _, rfl, ⟨q1, j1, _⟩, v2, _, rfl, ⟨q2, j2, _⟩, v3, _, rfl, ⟨q3, j3, _⟩, v4, _, rfl, ⟨q4, _, _⟩, rfl⟩ := k2
  simp only [RepC, List.cons.injEq, and_true] at q0 q4
  subst q0; subst q4
  have z1 := Kac q1 j1 (by cases v1 <;> simp [one] at j1 <;> rfl)
  have z2 := Kac q2 j2 (by cases v2 <;> simp [one] at j2 <;> rfl)
  have z3 := Kac q3 j3 (by cases v3 <;> simp [one] at j3 <;> rfl)
  obtain ⟨ya, na, rfl⟩ := KbA z1
  obtain ⟨yb, nb, rfl⟩ := KbA z2
  obtain ⟨yc, nc, rfl⟩ := KbA z3
  refine ⟨ga, gm, b, off, m, ya, na, yb, nb, yc, nc, rfl, ⟨by simpa using k3 0 (.string Ka4) rfl, by simpa using k3 1 (.slice ya 0 na) rfl, by simpa using k3 2 (.slice yb 0 nb) rfl, by simpa using k3 3 (.slice yc 1 nc) rfl, by simpa using k3 4 (.int .i64 0) rfl⟩, ?_⟩
  exact ⟨k2', rfl⟩
theorem eq_nilI (ad : Option Addr) (n m : Nat) (w : World) : (binOp .eql 49 (.slice ad n m) (.slice none 0 0)).run Tryz.prog w = .ok (.bool ad.isNone) w := by
 obtain ⟨d0, u0, u1⟩ := K1 (P := Tryz.prog) (w := w) (ti_ok htab (t := 49) rfl)
 have e0 : d0 = .slice 3 := Kbs (u1.trans rfl)
 subst e0
 show (do pure (.bool (← Op.equal 49 (.slice ad n m) (.slice none 0 0))) : Sem Value).run Tryz.prog w = _
 have h2 : (Op.equal 49 (.slice ad n m) (.slice none 0 0)).run Tryz.prog w = .ok ad.isNone w := by
  show (Op.equalIn (9999 + 1) 49 _ _).run Tryz.prog w = _
  rw [Op.equalIn, Kk u0]
  cases ad <;> rfl
 rw [Kk h2]; rfl
theorem clone0 (w : World) : Calls Tryz.prog 25 #[.slice none 0 0] w fun e w' => e = .returned (.slice none 0 0) ∧ w' = w := by
 have hq := eq_nilI none 0 0 w
 simp only [Option.isNone_none] at hq
 go_enter Tryz.func25, Tryz.ntmps25
 go_wp2
 go_ret
 exact ⟨rfl, rfl⟩
theorem g_mem {H : Hp} {w : World} (hA : Ag H w) {pv : Value} (hg : Rep H (Ka8 p3) pv) : Calls Tryz.prog 24 #[pv] w fun e w' => ∃ b, e = .returned (.pointer (some ⟨b, 0, none⟩)) ∧ ∃ H', Grow H w H' w' :=
  ((mem_New_ok p3 _ mem_eq).2 H w [pv] (by
    simp only [RepsV]
    exact ⟨_, _, rfl, hg, rfl⟩) hA (by simp) (by simp) (by simp [Kv])).mono fun e w' ⟨v, H', d', h', k', he, hr, hc, y0, y1, y2, y3, e1, e2, e3⟩ => by
    subst e1
    obtain ⟨q1, q2⟩ := hr
    have : v = .pointer (some ⟨y0, 0, none⟩) := by cases v <;> simp [D.shape, RepC, Value.cells] at q1 q2 <;> simp_all
    subst this
    exact ⟨y0, he, H', Kdx (hc.drop (List.nil_sublist _) (List.nil_sublist _))⟩
theorem tup_inv3 {H : Hp} {v : Value} {x y z : Int} (h : Rep H (.tup [.v (.int .i64 x), .v (.int .i64 y), .v (.int .i64 z)]) v) : v = .tuple #[.int .i64 x, .int .i64 y, .int .i64 z] := by
 obtain ⟨hv1, hv2⟩ := h
 have hco : ∃ vs, v.cells.toList = [.tuple vs.toArray] ∧ RepsV H [.v (.int .i64 x), .v (.int .i64 y), .v (.int .i64 z)] vs := by simpa only [RepC] using hv1
 obtain ⟨vs, e1, e2⟩ := hco
 simp only [RepsV] at e2
 obtain ⟨a, _, rfl, q1, b, _, rfl, q2, c, _, rfl, q3, rfl⟩ := e2
 obtain rfl := KO q1
 obtain rfl := KO q2
 obtain rfl := KO q3
 cases v <;> simp [D.shape, Value.cells] at e1 hv2
 all_goals simp_all
theorem New_calls {H0 : Hp} {w : World} (hA : Ag H0 w) {pv : Value} (hpv : Rep H0 (Ka8 p3) pv) :
    Calls Tryz.prog 16 #[pv, .slice none 0 0] w fun e w' => ∃ o H' c m pf, e = .returned (.tuple #[.pointer (some ⟨o, 0, none⟩), .int .i64 0]) ∧ H0.le H' ∧ RunAt H' w' o c ⟨[g3], m, [], [some c], 0, 0⟩ ⟨g3, pf, 0, w0⟩ ∧ w.heap.size ≤ o ∧ w.heap.size ≤ c ∧ Below w.heap.size w w' := by
  have mixed : Tryz.prog.follows .mixedOrders = true := by kernel_rfl
  obtain ⟨ga, gm, fb, fo, fm, ya, na, yb, nb, yc, nc, rfl, ⟨c0, c1, c2, c3, c4⟩, rf⟩ := prog_val hpv
  obtain ⟨W1, hW1⟩ : ∃ W1, W1 = w.alloc (.cells #[.slice ga 0 gm, .slice (some ⟨fb, fo, none⟩) 1 fm] 59) := ⟨_, rfl⟩
  have hb1 : Below w.heap.size w W1 := by rw [hW1]; exact (Below.refl _ w).alloc (Nat.le_refl _) _
  have hs1 : W1.heap.size = w.heap.size + 1 := by rw [hW1]; simp
  have hp1 : W1.heap[w.heap.size]? = some (.cells #[.slice ga 0 gm, .slice (some ⟨fb, fo, none⟩) 1 fm] 59 (0, 0)) := by rw [hW1, KS, if_pos rfl]
  have g1 := Grow.of_below hA hb1
  have x0 : W1.cell? ⟨w.heap.size, 0, none⟩ = some (.slice ga 0 gm) := by simp [World.cell?, hp1]
  have x1 : W1.cell? ⟨w.heap.size, 1, none⟩ = some (.slice (some ⟨fb, fo, none⟩) 1 fm) := by simp [World.cell?, hp1]
  have hck := g_told (KfX p3 _ prog_eq) (us := #[.agg #[.slice ga 0 gm, .slice (some ⟨fb, fo, none⟩) 1 fm]]) g1.ag (by simp only [RepsV]; exact ⟨_, _, rfl, Rep.mono g1.le hpv, rfl⟩)
  go_enter Tryz.func16, Tryz.ntmps16
  go_wp2_with fail
  rw [← hW1]
  refine hck.mono ?_
  clear hck x0 x1
  rintro e W2 ⟨v2, rfl, H2, g2, hv2⟩
  obtain rfl := tup_inv3 hv2
  have hp2 := (g2.below.block _ (by omega)).trans hp1
  have x0 : W2.cell? ⟨w.heap.size, 0, none⟩ = some (.slice ga 0 gm) := by simp [World.cell?, hp2]
  have x1 : W2.cell? ⟨w.heap.size, 1, none⟩ = some (.slice (some ⟨fb, fo, none⟩) 1 fm) := by simp [World.cell?, hp2]
  have g02 := g1.trans g2
  have hmm := g_mem g2.ag (Rep.mono g02.le hpv)
  clear hW1
  go_wp2_with fail
  refine hmm.mono ?_
  rintro e W3o ⟨mb, rfl, H3, gw3⟩
  clear hmm x0 x1
  have g03 := g02.trans gw3
  have hcl := clone0 W3o
  go_wp2_with fail
  refine hcl.mono ?_
  rintro e W3 ⟨rfl, rfl⟩
  clear hcl
  have hs3 : w.heap.size < W3.heap.size := by have := g2.below.size; have := gw3.below.size; omega
  have hp3 := (gw3.below.block _ (Nat.lt_of_lt_of_le (by omega) g2.below.size)).trans hp2
  obtain ⟨W4, hW4⟩ : ∃ W4, W4 = W3.alloc (.cells #[.slice none 0 0, .pointer (some ⟨mb, 0, none⟩), .slice none 0 0, .slice none 0 0, .int .i64 0, .int .i64 0] 52) := ⟨_, rfl⟩
  have hb4 : Below W3.heap.size W3 W4 := by rw [hW4]; exact (Below.refl _ W3).alloc (Nat.le_refl _) _
  have hs4 : W4.heap.size = W3.heap.size + 1 := by rw [hW4]; simp
  have hq4 : W4.heap[W3.heap.size]? = some (.cells #[.slice none 0 0, .pointer (some ⟨mb, 0, none⟩), .slice none 0 0, .slice none 0 0, .int .i64 0, .int .i64 0] 52 (0, 0)) := by rw [hW4, KS, if_pos rfl]
  have g4 := g03.trans (Grow.of_below g03.ag hb4)
  have hp4 := (hb4.block _ hs3).trans hp3
  have x1 : W4.cell? ⟨w.heap.size, 1, none⟩ = some (.slice (some ⟨fb, fo, none⟩) 1 fm) := by simp [World.cell?, hp4]
  rw [hW4] at x1
  go_wp2_with fail
  rw [← hW4]
  rw [← hW4] at x1
  clear hW4
  have oo3 : ∀ i, H3 ⟨W3.heap.size, i, none⟩ = none := fun i => by
    cases q : H3 ⟨W3.heap.size, i, none⟩ with
    | none => rfl
    | some v => have := g03.ag.lt q; simp only at this; omega
  have hfb : fb < W4.heap.size := by
    have := g4.ag.lt (a := ⟨fb, fo, none⟩) (g4.le _ _ c0)
    exact this
  go_loopw [32] (fun s32 wr => (s32 = .int .i64 0 ∧ wr = W4) ∨ (s32 = .int .i64 1 ∧ ∃ H' vg, Grow H0 w H' wr ∧ wr.heap[W3.heap.size]? = some (.cells #[vg, .pointer (some ⟨mb, 0, none⟩), .slice none 0 0, .slice none 0 0, .int .i64 0, .int .i64 0] 52 (0, 0)) ∧ Rep H' (.lst 5 ([g3].map KQ) .no) vg ∧ ∀ i, H' ⟨W3.heap.size, i, none⟩ = none)) (fun s32 _ => match s32 with | .int _ 0 => 1 | _ => 0)
  case atStart => exact .inl ⟨rfl, rfl⟩
  case round =>
    rcases hrel with ⟨rfl, rfl⟩ | ⟨rfl, H', vg, g5, hr5, rg, oo5⟩
    · have f0 := g4.ag _ _ (g4.le _ _ c0)
      have f1 := g4.ag _ _ (g4.le _ _ c1)
      have f2 := g4.ag _ _ (g4.le _ _ c2)
      have f3' := g4.ag _ _ (g4.le _ _ c3)
      have f4 := g4.ag _ _ (g4.le _ _ c4)
      go_wp2_with fail
      clear f0 f1 f2 f3' f4 x1
      obtain ⟨W5, hW5⟩ : ∃ W5, W5 = wr.alloc (.cells #[.string Ka4, .slice ya 0 na, .slice yb 0 nb, .slice yc 1 nc, .int .i64 0] 83) := ⟨_, rfl⟩
      have hb5 : Below wr.heap.size wr W5 := by rw [hW5]; exact (Below.refl _ wr).alloc (Nat.le_refl _) _
      have g5 := g4.trans (Grow.of_below g4.ag hb5)
      have hol : W3.heap.size < wr.heap.size := by omega
      have hy5 := (hb5.block _ hol).trans hq4
      have hz5 : W5.heap[W3.heap.size + 1]? = some (.cells #[.string Ka4, .slice ya 0 na, .slice yb 0 nb, .slice yc 1 nc, .int .i64 0] 83 (0, 0)) := by rw [hW5, KS, if_pos (by rw [hs4])]
      have hs5 : W5.heap.size = wr.heap.size + 1 := by rw [hW5]; simp
      rw [← hW5]
      clear hW5
      have b1 : Go.Proofs.YtaclkgjnoaeihaaGreat.Blk E W5 W3.heap.size W3.heap.size #[.slice none 0 0, .pointer (some ⟨mb, 0, none⟩), .slice none 0 0, .slice none 0 0, .int .i64 0, .int .i64 0] 52 := ⟨Nat.le_refl _, hy5, fun _ => rfl⟩
      have b2 : Go.Proofs.YtaclkgjnoaeihaaGreat.Blk E W5 (W3.heap.size + 1) (W3.heap.size + 1) #[.string Ka4, .slice ya 0 na, .slice yb 0 nb, .slice yc 1 nc, .int .i64 0] 83 := ⟨Nat.le_refl _, hz5, fun _ => rfl⟩
      have hA5 := g5.ag
      have hgl : ∀ {H : Hp} {v : Value}, Rep H (KQ g3) v → ∃ ea em va vm, v = .agg #[.string Ka4, .int .i64 3, .slice ea 2 em, .slice va 0 vm, .int .i64 0] ∧ RepC H (KQ g3) [.string Ka4, .int .i64 3, .slice ea 2 em, .slice va 0 vm, .int .i64 0] := fun {H v} h => by
        obtain ⟨ea, em, va, vm, rfl, _, _⟩ := Kfs h
        exact ⟨ea, em, va, vm, rfl, h.1⟩
      refine ls_take (H0 := H3) 11 (fun e => match e with | 6 => .hp (fun H v => Rep H (KQ g3) v) (rep_st _) | 7 => .hp (fun H v => Rep H (.lst 5 ([g3].map KQ) .no) v) (rep_st _) | 8 => .hp (fun H v => Rep H (.lst 5 ([g3].map KQ) .no) v) (rep_st _) | _ => .tt) [[],[],[],[],[],[],[],[6],[7],[],[]] [6,7,8] [] [[],[],[1],[1,2],[1,2,3],[],[5],[5,6],[1,2,3,4,5,6,7],[0,1,2,3,4,5,6,7,8],[0,1,2,3,4,5,6,7,8,9],[0,1,2,3,4,5,6,7,8,9,10]] (by assumption) (by kernel_rfl) (by kernel_rfl) (by kernel_rfl) (by rfl) (by rfl) (by kernel_rfl) ?_
      intro vals
      refine lsq (by rfl) (by rfl) ?_; apply Exists.intro; refine ⟨fun H w2 hg hp => ?_, ?_⟩
      · (first | (go_simp; rfl) | go_simp)
      (try simp only [Act.put, List.setIfInBounds_toArray, List.set_cons_zero, List.set_cons_succ])
      refine lsq (by rfl) (by rfl) ?_; apply Exists.intro; refine ⟨fun H w2 hg hp => ?_, ?_⟩
      · (first | (go_simp; rfl) | go_simp)
      (try simp only [Act.put, List.setIfInBounds_toArray, List.set_cons_zero, List.set_cons_succ])
      refine lsq (by rfl) (by rfl) ?_; apply Exists.intro; refine ⟨fun H w2 hg hp => ?_, ?_⟩
      · (first | (go_simp; rfl) | go_simp)
      (try simp only [Act.put, List.setIfInBounds_toArray, List.set_cons_zero, List.set_cons_succ])
      refine lsq (by rfl) (by rfl) ?_; apply Exists.intro; refine ⟨fun H w2 hg hp => ?_, ?_⟩
      · (first | (go_simp; rfl) | go_simp)
      (try simp only [Act.put, List.setIfInBounds_toArray, List.set_cons_zero, List.set_cons_succ])
      refine lsq (by rfl) (by rfl) ?_; apply Exists.intro; refine ⟨fun H w2 hg hp => ?_, ?_⟩
      · have g0 := (b1.below hg.below).cell; have g1 := (b2.below hg.below).cell; (first | (go_simp; rfl) | go_simp)
      (try simp only [Act.put, List.setIfInBounds_toArray, List.set_cons_zero, List.set_cons_succ])
      refine lsq (by rfl) (by rfl) ?_; apply Exists.intro; refine ⟨fun H w2 hg hp => ?_, ?_⟩
      · have g0 := (b1.below hg.below).cell; have g1 := (b2.below hg.below).cell; (first | (go_simp; rfl) | go_simp)
      (try simp only [Act.put, List.setIfInBounds_toArray, List.set_cons_zero, List.set_cons_succ])
      refine ls_ev (by rfl) (by rfl) (by rfl) (fun H w2 hg hp => ?_) ?_
      · refine Kgb (f := 26) ?_; apply Exists.intro; refine ⟨?_, ?_⟩
        · (first | (go_simp; rfl) | go_simp)
        · exact g_told (Kgj f3 g3 graph_eq) hg.ag (by simp only [RepsV]; exact ⟨_, _, rfl, Rep.mono (Hp.le_trans g5.le hg.le) rf, rfl⟩)
      (try simp only [Act.put, List.setIfInBounds_toArray, List.set_cons_zero, List.set_cons_succ])
      refine ls_ev (by rfl) (by rfl) (by rfl) (fun H w2 hg hp => ?_) ?_
      · obtain ⟨ea, em, va, vm, e6, h6⟩ := hgl (hp 6 (by simp)); rw [e6]; unfold Jx.Gives; go_simp; obtain ⟨H', g, k⟩ := g_lit hg.ag (us := [.string Ka4, .int .i64 3, .slice ea 2 em, .slice va 0 vm, .int .i64 0]) (d := KQ g3) rfl h6 (by simp [one]) 43; exact ⟨H', g, k⟩
      (try simp only [Act.put, List.setIfInBounds_toArray, List.set_cons_zero, List.set_cons_succ])
      refine ls_ev (by rfl) (by rfl) (by rfl) (fun H w2 hg hp => ?_) ?_
      · have e7 : Rep _ (.lst 5 ([g3].map KQ) .no) (vals 7) := hp 7 (by simp); exact g_app hg.ag rfl rfl e7 rfl rfl rfl rfl rfl rfl rfl rfl (by decide) (show 1 * 80 ≤ 140737488355328 by decide)
      (try simp only [Act.put, List.setIfInBounds_toArray, List.set_cons_zero, List.set_cons_succ])
      refine lsq (by rfl) (by rfl) ?_; apply Exists.intro; refine ⟨fun H w2 hg hp => ?_, ?_⟩
      · (first | (go_simp; rfl) | go_simp)
      (try simp only [Act.put, List.setIfInBounds_toArray, List.set_cons_zero, List.set_cons_succ])
      refine lsq (by rfl) (by rfl) ?_; apply Exists.intro; refine ⟨fun H w2 hg hp => ?_, ?_⟩
      · (first | (go_simp; rfl) | go_simp)
      refine ls_nil (fun H w2 hg hr hd => ?_)
      simp only [Act.put, List.setIfInBounds_toArray, List.set_cons_zero, List.set_cons_succ, List.drop_succ_cons, List.drop_zero]
      have k8 : Rep H (.lst 5 ([g3].map KQ) .no) (vals 8) := hr 8 (by simp)
      generalize vals 8 = vg at k8 ⊢
      obtain ⟨ga', gm', rfl⟩ := KbA k8
      have hw2 := (hg.below.block _ (by omega)).trans hy5
      have x3 : w2.cell? ⟨W3.heap.size, 0, none⟩ = some (.slice none 0 0) := by simp [World.cell?, hw2]
      have z3 : w2.frozen? ⟨W3.heap.size, 0, none⟩ = false := by simp [World.frozen?, hw2]
      clear hr hd
      go_wp2
      have g6 := g5.trans hg
      have oH : ∀ i, H ⟨W3.heap.size, i, none⟩ = none := fun i => by
        cases q : H ⟨W3.heap.size, i, none⟩ with
        | none => rfl
        | some v =>
          rcases hg.new _ _ q with k | k
          · rw [oo3] at k; cases k
          · simp only at k; omega
      refine ⟨.inr ⟨rfl, H, _, ⟨g6.le, g6.new, KgM g6.ag oH 0 _, Kdu (Nat.le_of_lt hs3) g6.below⟩, by rw [K6, if_pos rfl, hw2]; rfl, k8, oH⟩, by decide⟩
    · have rn : ∀ {xs : List D}, xs = [] → Rep H' (.lst 1 xs .no) (.slice none 0 0) := fun {xs} e => by
        subst e
        refine ⟨?_, rfl⟩
        simp only [RepC, Value.cells]
        exact ⟨_, rfl, trivial, .inl ⟨(by first | exact trivial | rfl), none, 0, rfl, fun _ => rfl⟩⟩
      have hgr := KfN (x := ⟨[g3], some mb, [], [], 0, 0⟩) g5.ag hr5 rg (rn rfl) (rn rfl) oo5 (find_eq (some mb) [])
      go_wp2_with fail
      refine hgr.mono ?_
      rintro e W6 ⟨gv, rfl, H6, g6, rg6⟩
      clear hgr
      obtain ⟨ea, em, va, vm, rfl, re, rv⟩ := Kfs rg6
      have hol5 : W3.heap.size < wr.heap.size := (Array.getElem?_eq_some_iff.1 hr5).1
      have hr6 := (g6.below.block _ hol5).trans hr5
      obtain ⟨W7, hW7⟩ : ∃ W7, W7 = W6.alloc (.cells #[.string Ka4, .int .i64 3, .slice ea 2 em, .slice va 0 vm, .int .i64 0] 43) := ⟨_, rfl⟩
      have hb7 : Below W6.heap.size W6 W7 := by rw [hW7]; exact (Below.refl _ _).alloc (Nat.le_refl _) _
      have g7 := g6.trans (Grow.of_below g6.ag hb7)
      have g07 := g5.trans g7
      have hr7 := (hb7.block _ (Nat.lt_of_lt_of_le hol5 g6.below.size)).trans hr6
      have hz7 : W7.heap[W6.heap.size]? = some (.cells #[.string Ka4, .int .i64 3, .slice ea 2 em, .slice va 0 vm, .int .i64 0] 43 (0, 0)) := by rw [hW7, KS, if_pos rfl]
      have x4 : W7.cell? ⟨W6.heap.size, 4, none⟩ = some (.int .i64 0) := by simp [World.cell?, hz7]
      have oo7 : ∀ i, H6 ⟨W3.heap.size, i, none⟩ = none := fun i => by
        cases q : H6 ⟨W3.heap.size, i, none⟩ with
        | none => rfl
        | some v =>
          rcases g6.new _ _ q with k | k
          · rw [oo5] at k; cases k
          · simp only at k; omega
      have hop := open_calls (m := some mb) g7.ag hr7 (Rep.mono g6.le rg) (Rep.mono g6.le (rn rfl)) oo7
      rw [hW7] at x4
      go_wp2_with fail
      rw [← hW7]
      clear hW7 x4
      refine hop.mono ?_
      rintro e W8 ⟨rfl, H8, c, pf, hle8, ra, hcg, ch⟩
      go_wp2
      go_ret2
      refine ⟨W3.heap.size, H8, c, some mb, pf, rfl, Hp.le_trans g07.le hle8, ra, Nat.le_of_lt hs3, Nat.le_trans g07.below.size hcg, g07.below.trans ⟨ch.env.1, ch.env.2.1, ch.env.2.2.1, ch.size, fun b hb => ?_⟩⟩
      have hne : b ≠ W3.heap.size := by omega
      exact ch.same b (Nat.lt_of_lt_of_le hb g07.below.size) hne hne
end Go.Proofs.YtaclkgjnoaeihaaGreat.Ab
namespace Go.Proofs.YtaclkgjnoaeihaaGreat.Ab
open Go Go.RowKit Go.Shelf Go.Proofs
set_option linter.all false
set_option maxRecDepth 100000
set_option maxHeartbeats 8000000
theorem last_nil (w : World) : Calls Tryz.prog 11 #[.pointer none] w fun e w' => e = .returned (.pointer none) ∧ w' = w := by
 go_enter Tryz.func11, Tryz.ntmps11
 go_wp2
 go_ret
 exact ⟨rfl, rfl⟩
theorem where_nil (w : World) : Calls Tryz.prog 4 #[.pointer none] w fun e w' => e = .returned (.tuple #[.string (ByteArray.mk #[]), .int .i64 0]) ∧ w' = w := by
 have hl := last_nil w
 go_enter Tryz.func4, Tryz.ntmps4
 go_wp2_with fail
 refine hl.mono ?_
 rintro e w' ⟨rfl, rfl⟩
 go_wp2
 go_ret2
 exact ⟨rfl, rfl⟩
theorem failed_nil (w : World) : Calls Tryz.prog 9 #[.pointer none] w fun e w' => e = .returned (.int .i64 0) ∧ w' = w := by
 go_enter Tryz.func9, Tryz.ntmps9
 go_wp2
 go_ret
 exact ⟨rfl, rfl⟩
theorem deep_nil (w : World) : Calls Tryz.prog 8 #[.pointer none] w fun e w' => e = .returned (.int .i64 0) ∧ w' = w := by
 go_enter Tryz.func8, Tryz.ntmps8
 go_wp2
 go_ret
 exact ⟨rfl, rfl⟩
theorem step_nil (w : World) : Calls Tryz.prog 7 #[.pointer none] w fun e w' => e = .returned (.int .i64 1) ∧ Below w.heap.size w w' := by
 go_enter_defers Tryz.func7, Tryz.ntmps7
 go_wp2_with fail
 obtain ⟨W6, hW6⟩ : ∃ W6, W6 = (w.alloc (.cells #[.pointer none] 24)).alloc (.cells #[.int .i64 1] 31) := ⟨_, rfl⟩
 rw [← hW6]
 have hb : Below w.heap.size w W6 := by rw [hW6]; exact ((Below.refl _ w).alloc (Nat.le_refl _) _).alloc (by simp) _
 have hq : W6.heap[w.heap.size + 1]? = some (.cells #[.int .i64 1] 31 (0, 0)) := by rw [hW6, KS, if_pos (by simp)]
 have b3 : W6.cell? ⟨w.heap.size + 1, 0, none⟩ = some (.int .i64 1) := by simp [World.cell?, hq]
 clear hW6 hq
 simp [bodyPostD, Leaves, settle, results, Tryz.results7, go_sem, b3]
 exact hb
theorem local_nil (w : World) (s : ByteArray) : Calls Tryz.prog 5 #[.pointer none, .string s] w fun e w' => e = .returned (.tuple #[.agg #[.bool false, .int .i64 0, .string (ByteArray.mk #[]), .int .i64 0], .bool false]) ∧ Below w.heap.size w w' := by
 have hl := last_nil (w.alloc (.cells #[.bool false, .int .i64 0, .string (ByteArray.mk #[]), .int .i64 0] 28))
 go_enter Tryz.func5, Tryz.ntmps5
 go_wp2_with fail
 refine hl.mono ?_
 rintro e w' ⟨rfl, rfl⟩
 clear hl
 go_wp2_with fail
 obtain ⟨W9, hW9⟩ : ∃ W9, W9 = w.alloc (.cells #[.bool false, .int .i64 0, .string (ByteArray.mk #[]), .int .i64 0] 28) := ⟨_, rfl⟩
 rw [← hW9]
 have hb : Below w.heap.size w W9 := by rw [hW9]; exact (Below.refl _ w).alloc (Nat.le_refl _) _
 have hz : W9.heap[w.heap.size]? = some (.cells #[.bool false, .int .i64 0, .string (ByteArray.mk #[]), .int .i64 0] 28 (0, 0)) := by rw [hW9, KS, if_pos rfl]
 have y0 : W9.cell? ⟨w.heap.size, 0, none⟩ = some (.bool false) := by simp [World.cell?, hz]
 have y1 : W9.cell? ⟨w.heap.size, 1, none⟩ = some (.int .i64 0) := by simp [World.cell?, hz]
 have y2 : W9.cell? ⟨w.heap.size, 2, none⟩ = some (.string (ByteArray.mk #[])) := by simp [World.cell?, hz]
 have y3 : W9.cell? ⟨w.heap.size, 3, none⟩ = some (.int .i64 0) := by simp [World.cell?, hz]
 clear hW9 hz
 simp [bodyPost, results, Tryz.results5, go_sem, y0, y1, y2, y3]
 exact hb
theorem global_nil (w : World) (s : ByteArray) (n : Int) : Calls Tryz.prog 6 #[.pointer none, .agg #[.string s, .int .i64 n]] w fun e w' => e = .returned (.tuple #[.agg #[.bool false, .int .i64 0, .string (ByteArray.mk #[]), .int .i64 0], .int .i64 1]) ∧ Below w.heap.size w w' := by
 go_enter Tryz.func6, Tryz.ntmps6
 go_wp2_with fail
 obtain ⟨W9, hW9⟩ : ∃ W9, W9 = (w.alloc (.cells #[.string s, .int .i64 n] 23)).alloc (.cells #[.bool false, .int .i64 0, .string (ByteArray.mk #[]), .int .i64 0] 28) := ⟨_, rfl⟩
 rw [← hW9]
 have hb : Below w.heap.size w W9 := by rw [hW9]; exact ((Below.refl _ w).alloc (Nat.le_refl _) _).alloc (by simp) _
 have hz : W9.heap[w.heap.size + 1]? = some (.cells #[.bool false, .int .i64 0, .string (ByteArray.mk #[]), .int .i64 0] 28 (0, 0)) := by rw [hW9, KS, if_pos (by simp)]
 have y0 : W9.cell? ⟨w.heap.size + 1, 0, none⟩ = some (.bool false) := by simp [World.cell?, hz]
 have y1 : W9.cell? ⟨w.heap.size + 1, 1, none⟩ = some (.int .i64 0) := by simp [World.cell?, hz]
 have y2 : W9.cell? ⟨w.heap.size + 1, 2, none⟩ = some (.string (ByteArray.mk #[])) := by simp [World.cell?, hz]
 have y3 : W9.cell? ⟨w.heap.size + 1, 3, none⟩ = some (.int .i64 0) := by simp [World.cell?, hz]
 clear hW9 hz
 simp [bodyPost, results, Tryz.results6, go_sem, y0, y1, y2, y3]
 exact hb
theorem Chg.toBelow {n : Nat} {w w' : World} {o c : Nat} (h : Chg w w' o c) (hn : n ≤ w.heap.size) (ho : n ≤ o) (hc : n ≤ c) : Below n w w' := ⟨h.env.1, h.env.2.1, h.env.2.2.1, h.size, fun b hb => h.same b (Nat.lt_of_lt_of_le hb hn) (by omega) (by omega)⟩
theorem Khe {H : Hp} {w : World} (hA : Ag H w) : Calls Tryz.prog 10 #[] w fun e w' => e = .returned (.bool true) ∧ Below w.heap.size w w' := by
 have h3 := g_told (KgZ p3 three_eq) (us := #[]) hA rfl
 go_enter Tryz.func10, Tryz.ntmps10
 go_wp2_with fail
 refine h3.mono ?_
 rintro e W1 ⟨pv, rfl, H1, gr1, rp⟩
 clear h3
 have hn := New_calls gr1.ag rp
 go_wp2_with fail
 refine hn.mono ?_
 rintro e W2 ⟨o, H2, c, m, pf, rfl, hle2, r2, ho2, hc2, hb2⟩
 clear hn
 have hs2 := step_go r2 rfl rfl (fun w3 h => go1_calls h (go_eq m [some c] pf))
 go_wp2_with fail
 refine hs2.mono ?_
 rintro e W3 ⟨rfl, H3, hle3, r3, ch3⟩
 clear hs2
 have hl := Khd r3 rfl rfl
 go_wp2_with fail
 refine hl.mono ?_
 rintro e W4 ⟨rfl, hb4⟩
 clear hl
 go_wp2_with fail
 obtain ⟨W5, hW5⟩ : ∃ W5, W5 = W4.alloc (.cells #[.bool w3.gPtr, .int .i64 3, .string w3.gTo.gName, .int .i64 w3.gTo.gAt] 28) := ⟨_, rfl⟩
 have hb5 : Below W4.heap.size W4 W5 := by rw [hW5]; exact (Below.refl _ W4).alloc (Nat.le_refl _) _
 have r5 := (r3.below hb4).below hb5
 have hs5 := step_go r5 rfl rfl (fun w3 h => go1_back h rfl rfl)
 rw [← hW5]
 clear hW5
 refine hs5.mono ?_
 rintro e W6 ⟨rfl, H6, hle6, r6, ch6⟩
 clear hs5
 have hs6 := step_end r6 rfl rfl
 go_wp2_with fail
 refine hs6.mono ?_
 rintro e W7 ⟨rfl, hb7⟩
 clear hs6
 have hd := deep_calls (r6.below hb7) rfl
 go_wp2_with fail
 refine hd.mono ?_
 rintro e W8 ⟨rfl, hb8⟩
 clear hd
 go_wp2
 go_ret
 refine ⟨rfl, ?_⟩
 have k1 := gr1.below.size
 have k2 := hb2.size
 have k3 := ch3.size
 have k4 := hb4.size
 have k5 := hb5.size
 have k6 := ch6.size
 have k7 := hb7.size
 exact ((((((gr1.below.trans (hb2.mono k1)).trans (ch3.toBelow (by omega) (by omega) (by omega))).trans (hb4.mono (by omega))).trans (hb5.mono (by omega))).trans (ch6.toBelow (by omega) (by omega) (by omega))).trans (hb7.mono (by omega))).trans (hb8.mono (by omega))
end Go.Proofs.YtaclkgjnoaeihaaGreat.Ab
namespace Go.Proofs.YtaclkgjnoaeihaaGreat.Ab
open Go Go.RowKit Go.Shelf Go.Proofs
set_option linter.all false
set_option maxRecDepth 100000
set_option maxHeartbeats 8000000
theorem run_none {H : Hp} {w : World} (hA : Ag H w) (s : ByteArray) (t : ByteArray) (n : Int) : Calls Tryz.prog 3 #[.string s, .agg #[.string t, .int .i64 n]] w fun e w' => e = .returned (.bool true) ∧ Below w.heap.size w w' := by
 obtain ⟨W1, hW1⟩ : ∃ W1, W1 = w.alloc (.cells #[.string t, .int .i64 n] 23) := ⟨_, rfl⟩
 have hb1 : Below w.heap.size w W1 := by rw [hW1]; exact (Below.refl _ w).alloc (Nat.le_refl _) _
 have hs1 : w.heap.size < W1.heap.size := by rw [hW1]; simp
 have hp1 : W1.heap[w.heap.size]? = some (.cells #[.string t, .int .i64 n] 23 (0, 0)) := by rw [hW1, KS, if_pos rfl]
 have hw := where_nil W1
 have hl := local_nil W1 s
 go_enter Tryz.func3, Tryz.ntmps3
 go_wp2_with fail
 rw [← hW1]
 clear hW1
 refine hw.mono ?_
 rintro e W1o ⟨rfl, rfl⟩
 clear hw
 go_wp2_with fail
 refine hl.mono ?_
 rintro e W2 ⟨rfl, hb2⟩
 clear hl
 obtain ⟨W3, hW3⟩ : ∃ W3, W3 = W2.alloc (.cells #[.bool false, .int .i64 0, .string (ByteArray.mk #[]), .int .i64 0] 28) := ⟨_, rfl⟩
 have hb3 : Below W2.heap.size W2 W3 := by rw [hW3]; exact (Below.refl _ W2).alloc (Nat.le_refl _) _
 have hz3 : W3.heap[W2.heap.size]? = some (.cells #[.bool false, .int .i64 0, .string (ByteArray.mk #[]), .int .i64 0] 28 (0, 0)) := by rw [hW3, KS, if_pos rfl]
 have hs3 : W2.heap.size < W3.heap.size := by rw [hW3]; simp
 have hp3 := (hb3.block _ (Nat.lt_of_lt_of_le hs1 hb2.size)).trans ((hb2.block _ hs1).trans hp1)
 have x0 : W3.cell? ⟨w.heap.size, 0, none⟩ = some (.string t) := by simp [World.cell?, hp3]
 have x1 : W3.cell? ⟨w.heap.size, 1, none⟩ = some (.int .i64 n) := by simp [World.cell?, hp3]
 rw [hW3] at x0 x1
 have hg := global_nil W3 t n
 go_wp2_with fail
 rw [← hW3]
 clear x0 x1 hW3
 refine hg.mono ?_
 rintro e W4 ⟨rfl, hb4⟩
 clear hg
 have hz4 := (hb4.block _ hs3).trans hz3
 obtain ⟨W5, hW5⟩ : ∃ W5, W5 = W4.alloc (.cells #[.bool false, .int .i64 0, .string (ByteArray.mk #[]), .int .i64 0] 28) := ⟨_, rfl⟩
 have hb5 : Below W4.heap.size W4 W5 := by rw [hW5]; exact (Below.refl _ W4).alloc (Nat.le_refl _) _
 have hz5 : W5.heap[W4.heap.size]? = some (.cells #[.bool false, .int .i64 0, .string (ByteArray.mk #[]), .int .i64 0] 28 (0, 0)) := by rw [hW5, KS, if_pos rfl]
 have hs5 : W4.heap.size < W5.heap.size := by rw [hW5]; simp
 have hy5 := (hb5.block _ (Nat.lt_of_lt_of_le hs3 hb4.size)).trans hz4
 have hst := step_nil W5
 go_wp2_with fail
 rw [← hW5]
 clear hW5
 refine hst.mono ?_
 rintro e W6 ⟨rfl, hb6⟩
 clear hst
 have hd := deep_nil W6
 go_wp2_with fail
 refine hd.mono ?_
 rintro e W6o ⟨rfl, rfl⟩
 clear hd
 have hy6 := (hb6.block _ (Nat.lt_of_lt_of_le hs3 (Nat.le_trans hb4.size hb5.size))).trans hy5
 have hz6 := (hb6.block _ hs5).trans hz5
 have a0 : W6o.cell? ⟨W2.heap.size, 0, none⟩ = some (.bool false) := by simp [World.cell?, hy6]
 have a1 : W6o.cell? ⟨W2.heap.size, 1, none⟩ = some (.int .i64 0) := by simp [World.cell?, hy6]
 have a2 : W6o.cell? ⟨W2.heap.size, 2, none⟩ = some (.string (ByteArray.mk #[])) := by simp [World.cell?, hy6]
 have a3 : W6o.cell? ⟨W2.heap.size, 3, none⟩ = some (.int .i64 0) := by simp [World.cell?, hy6]
 have b0 : W6o.cell? ⟨W4.heap.size, 0, none⟩ = some (.bool false) := by simp [World.cell?, hz6]
 have b1 : W6o.cell? ⟨W4.heap.size, 1, none⟩ = some (.int .i64 0) := by simp [World.cell?, hz6]
 have b2 : W6o.cell? ⟨W4.heap.size, 2, none⟩ = some (.string (ByteArray.mk #[])) := by simp [World.cell?, hz6]
 have b3 : W6o.cell? ⟨W4.heap.size, 3, none⟩ = some (.int .i64 0) := by simp [World.cell?, hz6]
 have hf := failed_nil W6o
 have q1 := hb1.size
 have q2 := hb2.size
 have q3 := hb3.size
 have q4 := hb4.size
 have q5 := hb5.size
 have q6 := hb6.size
 have hbA : Below w.heap.size w W6o := ((((hb1.trans (hb2.mono q1)).trans (hb3.mono (by omega))).trans (hb4.mono (by omega))).trans (hb5.mono (by omega))).trans (hb6.mono (by omega))
 have hlv := Khe (Go.Proofs.YtaclkgjnoaeihaaGreat.Ag.below hA hbA)
 go_wp2_with fail
 refine hf.mono ?_
 rintro e W7 ⟨rfl, rfl⟩
 clear hf
 go_wp2_with fail
 refine hlv.mono ?_
 rintro e W8 ⟨rfl, hb8⟩
 go_wp2
 go_ret
 exact ⟨rfl, hbA.trans (hb8.mono (by omega))⟩
def wfTApiCell (x : KK) : Prop := x.gName.size ≤ maxLen ∧ (Lit.int .i64 x.gAt).wf = true
theorem goodTApiCell {n : Nat} {d : D} (g : GoodT tab n 23 d) : ∃ x : KK, d = KaZ x ∧ wfTApiCell x := by
  obtain ⟨n', ds, _, rfl, hl, h⟩ := Kg7 ti23 rfl g
  match ds, hl with
  | [d0, d1], _ =>
    obtain ⟨x1, rfl, w1⟩ := good_str ti9 rfl (h 0 _ _ rfl rfl)
    obtain ⟨x2, rfl, w2⟩ := good_int ti3 rfl (h 1 _ _ rfl rfl)
    exact ⟨⟨x1, x2⟩, rfl, w1, w2⟩
theorem RunNone_U (a0 : ByteArray) (a1 : KK) : CallsD Tryz.prog 3 [.v (.string a0), KaZ a1] [] [] (fun d h k => d = .v (.bool true) ∧ h = [] ∧ k = []) := by
 refine ⟨⟨_, Tryz.func3, rfl, rfl⟩, fun H w vs hv hA _ _ _ => ?_⟩
 simp only [RepsV] at hv
 obtain ⟨u1, _, rfl, g1, u2, _, rfl, g2, rfl⟩ := hv
 obtain rfl := KO g1
 obtain ⟨us2, rfl, r2⟩ := Kbo g2
 simp only [Reps] at r2
 obtain ⟨f0, _, rfl, k0, f1, _, rfl, k1, rfl⟩ := r2
 obtain rfl : f0 = .string a1.gName := by simpa [RepC] using k0.1
 obtain rfl : f1 = .int .i64 a1.gAt := by simpa [RepC] using k1.1
 exact (run_none hA a0 a1.gName a1.gAt).mono fun e w' ⟨he, hb⟩ => ⟨_, H, .v (.bool true), [], [], he, rep_v rfl, KfK hA hb, rfl, rfl, rfl⟩
end Go.Proofs.YtaclkgjnoaeihaaGreat.Ab
namespace Go.Proofs.YtaclkgjnoaeihaaGreat
open Go.ChangeShapes Go.WideShapes Go.ChangeAt Go.RowKit Go.Joins
set_option linter.all false
theorem KgV (os : Os) (started : os.Started) (H : Type) (enc : TypeId × Value → H) :
  ReturnsInHanded {} Tryz.checked os 3 .any (Rows.runNoneSpec.pre6 enc Tryz.prog Tryz.f3 Rows.runNoneRow.domain false) (Rows.runNoneSpec.post enc Tryz.prog Tryz.f3 false true false false) := by
 refine returnsInHanded_of_change (C := Tryz.checked) own started (by kernel_rfl) Tryz.func3
  (ChangeSpec.witness6 (enc := enc) (C := Tryz.checked) false ⟨#[], #[.string ByteArray.empty, .agg #[.string ByteArray.empty, .int .i64 0]], []⟩ 8 (by kernel_rfl) (by kernel_rfl) (by kernel_rfl) (by kernel_rfl)) ?_
 intro W base args ds gs before hval0 hW hcnd _
 have hval : ∀ (j : Nat) t v, Tryz.f3.params[j]? = some t → args[j]? = some v → Value.okWide Tryz.prog W .any base t v := hval0
 have hW' := hW
 obtain ⟨p, q, hA0, hV, rfl, hfz, hnd⟩ := hW
 have hA : DataW.TrodAll enc Tryz.prog W 0 (fun _ => true) true Tryz.f3.params.toList args.toList ds p := hA0
 obtain ⟨rfl, rfl⟩ := trodVars_none hV
 simp only [List.append_nil] at hW'
 have hback := KgK laidOut' (by kernel_rfl) hA (fun x hx => hW'.lt x hx)
 rw [Tryz.params3] at hA hval
 obtain ⟨v0, vs0, d0, ds0, p0, q0, hargs, rfl, hp0, h0, r0⟩ := trodAll_cons hA
 obtain ⟨v1, vs1, d1, ds1, p1, q1, rfl, rfl, hp1, h1, r1⟩ := trodAll_cons r0
 obtain ⟨rfl, rfl, hpn⟩ := trodAll_nil r1
 obtain rfl : args = #[v0, v1] := by cases args; simp_all
 obtain ⟨n0, x0, g0, rep0⟩ := Ab.rd_arg (t := 9) Ab.htab [3, 9, 23] (by kernel_rfl) (by kernel_rfl) (hval 0 9 v0 rfl rfl) h0
 obtain ⟨a0, rfl, k0⟩ := Ab.good_str Ab.ti9 rfl g0
 obtain ⟨n1, x1, g1, rep1⟩ := Ab.rd_arg (t := 23) Ab.htab [3, 9, 23] (by kernel_rfl) (by kernel_rfl) (hval 1 23 v1 rfl rfl) h1
 obtain ⟨a1, rfl, k1⟩ := Ab.goodTApiCell g1
 clear hA0 hval0
 refine (Ab.to_calls (us := #[v0, v1]) (Ab.RunNone_U a0 a1) (Ab.ag_all W) (by simp only [Ab.RepsV]; exact ⟨_, _, rfl, rep0, ⟨_, _, rfl, rep1, rfl⟩⟩)).mono fun e W' ⟨he, hb⟩ => ?_
 subst he
 exact ⟨_, rfl, _, _, _, [], p, [], hW', trodAll_cons_mk (shut_bool Tryz.underlying4 _) trodAll_mk0, hback W' hb _ (fun x hx => by simpa using hW'.lt x hx), rfl, hb.frame _, fun h => by cases h⟩
theorem runNone_holds : Rows.RunNoneSaid :=
 OpenClaim.holds_of_wide 3 Tryz.f3 rfl rfl rfl rfl rfl rfl rfl ⟨rfl, rfl, rfl, rfl, rfl⟩ rfl rfl rfl rfl rfl (by kernel_rfl) Tryz.func3 (by kernel_rfl)
  (of_decide_eq_true (by kernel_rfl)) (by unfold Func.isWrapper; rw [if_neg (of_decide_eq_false (by kernel_rfl))]; exact ⟨rfl, rfl⟩)
  (fun os started H enc _ => KgV os started H enc)
#print axioms runNone_holds
end Go.Proofs.YtaclkgjnoaeihaaGreat
