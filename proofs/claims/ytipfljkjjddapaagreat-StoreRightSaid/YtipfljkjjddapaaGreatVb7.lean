/- The texts that storeRight_holds leans on, part 7. -/
import Derived.Test.YtipfljkjjddapaaGreatVb6
set_option maxRecDepth 100000
set_option maxHeartbeats 80000000
noncomputable section
namespace Go.Proofs.YtipfljkjjddapaaGreat.Ab
section
open Go
set_option linter.all false
def KgS (fu:Nat)(a0:Kc)(a1:Int):Option ((Int×Int)⊕(Unit)):=
 (bif (a1 != (1:Int)) then none else some (.inr ()))
theorem Klf (fu:Nat)(a0:Kc)(a1:Int):Le (KgS fu a0 a1) (Kb4 a0 a1):=by
 unfold KgS Kb4;repeat (first|exact Le.refl _|exact Le.none _|assumption|apply Le.bind|apply Le.cond|apply Le.loopC|apply Le.elim|intro _)
def Kfd (fu:Nat)(a0:KE):Option ((Int×Int)⊕(Unit)):=
 (Option.bind (α:=(List (ByteArray×Int))⊕((Int×Int)⊕(Unit))) (loopC fu (fun (s374:Int×List (ByteArray×Int))=>(bif (decide (s374.1 < (2:Int))) then ((idx ([a0.gF.gParams,a0.gF.gLocals]:List (List Kab)) s374.1).bind fun x652=>(Option.bind (α:=(List (ByteArray×Int))⊕((Int×Int)⊕(Unit))) (loopC fu (fun (s698:Int×List (ByteArray×Int))=>(bif (decide (s698.1 < (x652.length:Int))) then none else some (.done (.inl s698.2)))) ((0:Int),s374.2)) (Sum.elim (fun y697=>some (.next ((IntKind.i64.wrap (s374.1+(1:Int))),y697))) (fun r=>some (.done (.inr r)))))) else some (.done (.inl s374.2)))) ((0:Int),([]:List (ByteArray×Int)))) (Sum.elim (fun y373=>some (.inr ())) (fun r=>some r)))
theorem KjS (fu:Nat)(a0:KE):Le (Kfd fu a0) (KbM a0):=by
 unfold Kfd KbM;repeat (first|exact Le.refl _|exact Le.none _|assumption|apply Le.bind|apply Le.cond|apply Le.loopC|apply Le.elim|intro _)
def Kix (fu:Nat)(a0:Km):Option (Int):=
 (Option.bind (α:=Bool) (bif (a0.gOp==(1:Int)) then none else (Option.bind (α:=Bool) (bif (a0.gOp==(3:Int)) then none else (Option.bind (α:=Bool) (bif (a0.gOp==(6:Int)) then none else (Option.bind (α:=Bool) (bif (a0.gOp==(7:Int)) then none else (Option.bind (α:=Bool) (bif (a0.gOp==(8:Int)) then some (a0.gOp==(8:Int)) else none) fun y25=>some y25)) fun y22=>some y22)) fun y18=>some y18)) fun y13=>some y13)) fun y7=>(bif y7 then some (1:Int) else none))
theorem Kmv (fu:Nat)(a0:Km):Le (Kix fu a0) (KeP a0):=by
 unfold Kix KeP;repeat (first|exact Le.refl _|exact Le.none _|assumption|apply Le.bind|apply Le.cond|apply Le.loopC|apply Le.elim|intro _)
def Kiy (fu:Nat)(a0:Int):Option (Int):=
 (Option.bind (α:=(Unit)⊕(Int)) (Option.bind (α:=Bool) (bif (a0==(1:Int)) then some (a0==(1:Int)) else none) fun y32=>(Option.bind (α:=(Unit)⊕(Int)) (bif y32 then some (.inr (0:Int)) else none) (Sum.elim (fun y54=>some (.inl ())) (fun r=>some (.inr r))))) (Sum.elim (fun y27=>(bif (decide ((7:Int)≤a0)) then (bif (decide (a0≤(17:Int))) then none else none) else some (-1:Int))) (fun r=>some r)))
theorem Kmw (fu:Nat)(a0:Int):Le (Kiy fu a0) (KeQ a0):=by
 unfold Kiy KeQ;repeat (first|exact Le.refl _|exact Le.none _|assumption|apply Le.bind|apply Le.cond|apply Le.loopC|apply Le.elim|intro _)
def KeU (fu:Nat)(g0:(KE)→(List Kc)→Option ((Int×Int)⊕(List Int)))(g1:(KE)→(Kc)→Option ((Int×Int)⊕(Int)))(a0:KE)(a1:List Kc):Option ((Int×Int)⊕(List Int)):=
 (Option.bind (α:=(List Int)⊕((Int×Int)⊕(List Int))) (loopC fu (fun (s23:List Int×Int)=>(bif (decide (s23.2 < (a1.length:Int))) then ((idx a1 s23.2).bind fun x38=>((g1 a0 x38).bind fun x40=>Sum.elim (fun pe40=>some (.done (.inr (.inl pe40)))) (fun z40=>((app 8 s23.1 ([z40]:List Int)).bind fun x42=>some (.next (x42,(IntKind.i64.wrap (s23.2+(1:Int))))))) x40)) else some (.done (.inl s23.1)))) (([]:List Int),(0:Int))) (Sum.elim (fun y22=>some (.inr y22)) (fun r=>some r)))
theorem Kjm (fu:Nat)(g0 g0':(KE)→(List Kc)→Option ((Int×Int)⊕(List Int)))(g1 g1':(KE)→(Kc)→Option ((Int×Int)⊕(Int)))(hg0:∀ x0 x1,Le (g0 x0 x1) (g0' x0 x1))(hg1:∀ x0 x1,Le (g1 x0 x1) (g1' x0 x1))(a0:KE)(a1:List Kc):Le (KeU fu g0 g1 a0 a1) (Kbj g0' g1' a0 a1):=by
 unfold KeU Kbj;repeat (first|exact Le.refl _|exact Le.none _|assumption|exact hg0 _ _|exact hg1 _ _|apply Le.bind|apply Le.cond|apply Le.loopC|apply Le.elim|intro _)
def KeV (fu:Nat)(g0:(KE)→(List Kc)→Option ((Int×Int)⊕(List Int)))(g1:(KE)→(Kc)→Option ((Int×Int)⊕(Int)))(a0:KE)(a1:Kc):Option ((Int×Int)⊕(Int)):=
 ((Kiy fu a1.gOp).bind fun x3=>(Option.bind (α:=Bool) (bif (decide (x3 < (0:Int))) then some true else some ((a1.gKids.length:Int) != x3)) fun y5=>(Option.bind (α:=(Unit)⊕((Int×Int)⊕(Int))) (bif y5 then none else some (.inl ())) (Sum.elim (fun y9=>((g0 a0 a1.gKids).bind fun x14=>Sum.elim (fun pe14=>some (.inl pe14)) (fun z14=>(Option.bind (α:=Bool) (bif (a1.gOp==(14:Int)) then some true else some (a1.gOp==(15:Int))) fun y17=>(bif y17 then none else (Option.bind (α:=(Unit)⊕((Int×Int)⊕(Int))) (loopC fu (fun (s57:Int)=>(bif (decide (s57 < (a1.gKids.length:Int))) then none else some (.done (.inl ())))) (0:Int)) (Sum.elim (fun y56=>(bif (a1.gOp==(2:Int)) then none else (bif (a1.gOp==(3:Int)) then none else (bif (a1.gOp==(4:Int)) then none else (bif (a1.gOp==(18:Int)) then none else (bif (a1.gOp==(19:Int)) then none else (bif (a1.gOp==(20:Int)) then none else some (.inr (1:Int))))))))) (fun r=>some r)))))) x14)) (fun r=>some r)))))
theorem Kjn (fu:Nat)(g0 g0':(KE)→(List Kc)→Option ((Int×Int)⊕(List Int)))(g1 g1':(KE)→(Kc)→Option ((Int×Int)⊕(Int)))(hg0:∀ x0 x1,Le (g0 x0 x1) (g0' x0 x1))(hg1:∀ x0 x1,Le (g1 x0 x1) (g1' x0 x1))(a0:KE)(a1:Kc):Le (KeV fu g0 g1 a0 a1) (Kbk g0' g1' a0 a1):=by
 unfold KeV Kbk;repeat (first|exact Le.refl _|exact Le.none _|assumption|exact hg0 _ _|exact hg1 _ _|exact Kmw fu _|apply Le.bind|apply Le.cond|apply Le.loopC|apply Le.elim|intro _)
def Kb1 (fu:Nat):Nat→((KE)→(List Kc)→Option ((Int×Int)⊕(List Int)))×((KE)→(Kc)→Option ((Int×Int)⊕(Int)))
 | 0=>(fun _ _=>none,fun _ _=>none)
 | n+1=>(KeU fu ((Kb1 fu n).1) ((Kb1 fu n).2),KeV fu ((Kb1 fu n).1) ((Kb1 fu n).2))
theorem Kf5 (fu:Nat):∀ n,(∀ (a0:KE) (a1:List Kc),Le ((Kb1 fu n).1 a0 a1) ((Kac n).1 a0 a1))∧(∀ (a0:KE) (a1:Kc),Le ((Kb1 fu n).2 a0 a1) ((Kac n).2 a0 a1))
 | 0=>⟨fun _ _=>Le.none _,fun _ _=>Le.none _⟩
 |
  n+1=>by
  have ih:=Kf5 fu n;exact ⟨fun a0 a1=>Kjm fu _ _ _ _ ih.1 ih.2 a0 a1,fun a0 a1=>Kjn fu _ _ _ _ ih.1 ih.2 a0 a1⟩
def Khz (fu:Nat)(a0:KE)(a1:List Kc):Option ((Int×Int)⊕(List Int)):=(Kb1 fu fu).1 a0 a1
theorem Kko (fu:Nat)(a0:KE)(a1:List Kc):Le (Khz fu a0 a1) (KdW a0 a1):=fun r h=>Kg1 a0 a1 fu (((Kf5 fu fu).1 a0 a1) r h)
def KeB (fu:Nat)(g0:(KE)→(List Km)→Option ((Int×Int)⊕(Unit)))(g1:(KE)→(Km)→Option ((Int×Int)⊕(Unit)))(a0:KE)(a1:List Km):Option ((Int×Int)⊕(Unit)):=
 (Option.bind (α:=(Unit)⊕((Int×Int)⊕(Unit))) (loopC fu (fun (s19:Int)=>(bif (decide (s19 < (a1.length:Int))) then ((idx a1 s19).bind fun x31=>((g1 a0 x31).bind fun x33=>Sum.elim (fun pe33=>some (.done (.inr (.inl pe33)))) (fun z33=>some (.next (IntKind.i64.wrap (s19+(1:Int))))) x33)) else some (.done (.inl ())))) (0:Int)) (Sum.elim (fun y18=>some (.inr ())) (fun r=>some r)))
theorem KiP (fu:Nat)(g0 g0':(KE)→(List Km)→Option ((Int×Int)⊕(Unit)))(g1 g1':(KE)→(Km)→Option ((Int×Int)⊕(Unit)))(hg0:∀ x0 x1,Le (g0 x0 x1) (g0' x0 x1))(hg1:∀ x0 x1,Le (g1 x0 x1) (g1' x0 x1))(a0:KE)(a1:List Km):Le (KeB fu g0 g1 a0 a1) (Ka7 g0' g1' a0 a1):=by
 unfold KeB Ka7;repeat (first|exact Le.refl _|exact Le.none _|assumption|exact hg0 _ _|exact hg1 _ _|apply Le.bind|apply Le.cond|apply Le.loopC|apply Le.elim|intro _)
def KeW (fu:Nat)(g0:(KE)→(List Km)→Option ((Int×Int)⊕(Unit)))(g1:(KE)→(Km)→Option ((Int×Int)⊕(Unit)))(a0:KE)(a1:Km):Option ((Int×Int)⊕(Unit)):=
 ((Kix fu a1).bind fun x3=>(Option.bind (α:=Bool) (bif (decide (x3 < (0:Int))) then some true else some ((a1.gExps.length:Int) != x3)) fun y5=>(Option.bind (α:=(Unit)⊕((Int×Int)⊕(Unit))) (bif y5 then none else some (.inl ())) (Sum.elim (fun y9=>((Khz fu a0 a1.gExps).bind fun x14=>Sum.elim (fun pe14=>some (.inl pe14)) (fun z14=>(Option.bind (α:=(Unit)⊕((Int×Int)⊕(Unit))) (Option.bind (α:=(Unit)⊕((Int×Int)⊕(Unit))) (bif (a1.gOp==(1:Int)) then none else (Option.bind (α:=(Unit)⊕((Int×Int)⊕(Unit))) (bif (a1.gOp==(2:Int)) then none else (Option.bind (α:=(Unit)⊕((Int×Int)⊕(Unit))) (bif (a1.gOp==(3:Int)) then none else (Option.bind (α:=(Unit)⊕((Int×Int)⊕(Unit))) (bif (a1.gOp==(4:Int)) then none else (Option.bind (α:=(Unit)⊕((Int×Int)⊕(Unit))) (bif (a1.gOp==(5:Int)) then none else ((idx a1.gExps (0:Int)).bind fun x150=>((idx z14 (0:Int)).bind fun x151=>((KgS fu x150 x151).bind fun x152=>Sum.elim (fun pe152=>some (.inr (.inl pe152))) (fun z152=>some (.inl ())) x152)))) (Sum.elim (fun y146=>some (.inl ())) (fun r=>some (.inr r))))) (Sum.elim (fun y137=>some (.inl ())) (fun r=>some (.inr r))))) (Sum.elim (fun y122=>some (.inl ())) (fun r=>some (.inr r))))) (Sum.elim (fun y98=>some (.inl ())) (fun r=>some (.inr r))))) (Sum.elim (fun y67=>some (.inl ())) (fun r=>some (.inr r)))) (Sum.elim (fun y41=>((g0 a0 a1.gKids).bind fun x154=>Sum.elim (fun pe154=>some (.inl pe154)) (fun z154=>((g0 a0 a1.gElse).bind fun x156=>Sum.elim (fun pe156=>some (.inl pe156)) (fun z156=>some (.inr ())) x156)) x154)) (fun r=>some r)))) x14)) (fun r=>some r)))))
theorem Kjo (fu:Nat)(g0 g0':(KE)→(List Km)→Option ((Int×Int)⊕(Unit)))(g1 g1':(KE)→(Km)→Option ((Int×Int)⊕(Unit)))(hg0:∀ x0 x1,Le (g0 x0 x1) (g0' x0 x1))(hg1:∀ x0 x1,Le (g1 x0 x1) (g1' x0 x1))(a0:KE)(a1:Km):Le (KeW fu g0 g1 a0 a1) (Kbl g0' g1' a0 a1):=by
 unfold KeW Kbl;repeat (first|exact Le.refl _|exact Le.none _|assumption|exact hg0 _ _|exact hg1 _ _|exact Kmv fu _|exact Kko fu _ _|exact Klf fu _ _|apply Le.bind|apply Le.cond|apply Le.loopC|apply Le.elim|intro _)
def KbR (fu:Nat):Nat→((KE)→(List Km)→Option ((Int×Int)⊕(Unit)))×((KE)→(Km)→Option ((Int×Int)⊕(Unit)))
 | 0=>(fun _ _=>none,fun _ _=>none)
 | n+1=>(KeB fu ((KbR fu n).1) ((KbR fu n).2),KeW fu ((KbR fu n).1) ((KbR fu n).2))
theorem KfQ (fu:Nat):∀ n,(∀ (a0:KE) (a1:List Km),Le ((KbR fu n).1 a0 a1) ((K4 n).1 a0 a1))∧(∀ (a0:KE) (a1:Km),Le ((KbR fu n).2 a0 a1) ((K4 n).2 a0 a1))
 | 0=>⟨fun _ _=>Le.none _,fun _ _=>Le.none _⟩
 |
  n+1=>by
  have ih:=KfQ fu n;exact ⟨fun a0 a1=>KiP fu _ _ _ _ ih.1 ih.2 a0 a1,fun a0 a1=>Kjo fu _ _ _ _ ih.1 ih.2 a0 a1⟩
def Kg7 (fu:Nat)(a0:KE)(a1:List Km):Option ((Int×Int)⊕(Unit)):=(KbR fu fu).1 a0 a1
theorem KjT (fu:Nat)(a0:KE)(a1:List Km):Le (Kg7 fu a0 a1) (Kdx a0 a1):=fun r h=>KgO a0 a1 fu (((KfQ fu fu).1 a0 a1) r h)
def KhL (fu:Nat)(a0:Kw):Option (Int):=
 (Option.bind (α:=(List (ByteArray×Int))⊕(Int)) (loopC fu (fun (s25:Int×List (ByteArray×Int))=>(bif (decide (s25.1 < (a0.gGlobals.length:Int))) then none else some (.done (.inl s25.2)))) ((0:Int),([]:List (ByteArray×Int)))) (Sum.elim (fun y24=>(Option.bind (α:=(List (ByteArray×Int))⊕(Int)) (loopC fu (fun (s68:Int×List (ByteArray×Int))=>(bif (decide (s68.1 < (a0.gFuncs.length:Int))) then ((idx a0.gFuncs s68.1).bind fun x85=>(bif (decide ((1:Int) < (mgetD (mput s68.2 x85.gName (IntKind.i64.wrap ((mgetD s68.2 x85.gName (0:Int))+(1:Int)))) x85.gName (0:Int)))) then none else some (.next ((IntKind.i64.wrap (s68.1+(1:Int))),(mput s68.2 x85.gName (IntKind.i64.wrap ((mgetD s68.2 x85.gName (0:Int))+(1:Int)))))))) else some (.done (.inl s68.2)))) ((0:Int),y24)) (Sum.elim (fun y67=>some (-1:Int)) (fun r=>some r)))) (fun r=>some r)))
theorem Kmf (fu:Nat)(a0:Kw):Le (KhL fu a0) (KdL a0):=by
 unfold KhL KdL;repeat (first|exact Le.refl _|exact Le.none _|assumption|apply Le.bind|apply Le.cond|apply Le.loopC|apply Le.elim|intro _)
def KlO (fu:Nat)(p:Kw)(f:Kq):Option ((Int×Int)⊕Unit):=
 (Kfd fu ⟨p,f⟩).bind (Sum.elim (fun pe=>some (.inl pe)) fun _=>Kg7 fu ⟨p,f⟩ f.gBody)
theorem checkP_cle (fu:Nat)(p:Kw)(f:Kq):Le (KlO fu p f) (Kii p f):=by
 unfold KlO Kii;repeat (first|exact Le.refl _|exact Le.none _|assumption|exact KjS fu _|exact KjT fu _ _|apply Le.bind|apply Le.cond|apply Le.loopC|apply Le.elim|intro _)
def KlP (fu:Nat)(p:Kw)(f:Kq):Option (Int×Int):=
 (KlO fu p f).bind fun pr=>some (wr pr)
theorem checkF_cle (fu:Nat)(p:Kw)(f:Kq):Le (KlP fu p f) (Kij p f):=by
 unfold KlP Kij;repeat (first|exact Le.refl _|exact Le.none _|assumption|exact checkP_cle fu _ _|apply Le.bind|apply Le.cond|apply Le.loopC|apply Le.elim|intro _)
def KgT (fu:Nat)(a0:Kw):Option (Int×Int×Int):=
 (Option.bind (α:=Bool) (bif (decide ((24:Int) < (a0.gGlobals.length:Int))) then some true else some (decide ((24:Int) < (a0.gFuncs.length:Int)))) fun y3=>(bif y3 then none else ((KhL fu a0).bind fun x8=>(bif (decide ((0:Int)≤x8)) then none else (Option.bind (α:=(Unit)⊕(Int×Int×Int)) (loopC fu (fun (s32:Int)=>(bif (decide (s32 < (a0.gFuncs.length:Int))) then ((idx a0.gFuncs s32).bind fun x46=>((KlP fu a0 x46).bind fun x48=>(bif (x48.2 != (0:Int)) then none else some (.next (IntKind.i64.wrap (s32+(1:Int))))))) else some (.done (.inl ())))) (0:Int)) (Sum.elim (fun y31=>some ((0:Int),(0:Int),(0:Int))) (fun r=>some r)))))))
theorem Klg (fu:Nat)(a0:Kw):Le (KgT fu a0) (Kdt a0):=by
 unfold KgT Kdt;repeat (first|exact Le.refl _|exact Le.none _|assumption|exact Kmf fu _|exact checkF_cle fu _ _|apply Le.bind|apply Le.cond|apply Le.loopC|apply Le.elim|intro _)
def KgU (fu:Nat)(a0:Int):Option (Int):=
 (Option.bind (α:=Bool) (bif (a0==(32:Int)) then some true else (bif (a0==(9:Int)) then some true else (bif (a0==(10:Int)) then some true else some (a0==(13:Int))))) fun y4=>(bif y4 then some (1:Int) else (Option.bind (α:=Bool) (bif (decide ((97:Int)≤a0)) then (bif (decide (a0≤(122:Int))) then some true else (bif (decide ((65:Int)≤a0)) then (bif (decide (a0≤(90:Int))) then some true else some (a0==(95:Int))) else some (a0==(95:Int)))) else (bif (decide ((65:Int)≤a0)) then (bif (decide (a0≤(90:Int))) then some true else some (a0==(95:Int))) else some (a0==(95:Int)))) fun y16=>(bif y16 then some (2:Int) else (bif (decide ((48:Int)≤a0)) then (bif (decide (a0≤(57:Int))) then some (3:Int) else some (0:Int)) else some (0:Int))))))
theorem KjU (fu:Nat)(a0:Int):Le (KgU fu a0) (Kdz a0):=by
 unfold KgU Kdz;repeat (first|exact Le.refl _|exact Le.none _|assumption|apply Le.bind|apply Le.cond|apply Le.loopC|apply Le.elim|intro _)
def Kde (fu:Nat)(m0:KU)(a1:Bool):Option (Int):=
 (Option.bind (α:=Int) (loopC fu (fun (s24:Int)=>(bif (decide ((IntKind.i64.wrap (m0.gAt+s24)) < (m0.gB.length:Int))) then ((idx m0.gB (IntKind.i64.wrap (m0.gAt+s24))).bind fun x40=>((KgU fu (IntKind.i32.wrap (x40.toNat:Int))).bind fun x41=>(bif (x41 != (3:Int)) then (bif (x41 != (2:Int)) then some (.done s24) else (bif (!a1) then some (.done s24) else some (.next (IntKind.i64.wrap (s24+(1:Int)))))) else some (.next (IntKind.i64.wrap (s24+(1:Int))))))) else none)) (0:Int)) fun y23=>some y23)
theorem Kgw (fu:Nat)(m0:KU)(a1:Bool):Le (Kde fu m0 a1) (KbN m0 a1):=by
 unfold Kde KbN;repeat (first|exact Le.refl _|exact Le.none _|assumption|exact KjU fu _|apply Le.bind|apply Le.cond|apply Le.loopC|apply Le.elim|intro _)
def Kdk (fu:Nat)(a0:List ByteArray)(a1:ByteArray):Option (Int):=
 (Option.bind (α:=(Unit)⊕(Int)) (loopC fu (fun (s15:Int)=>(bif (decide (s15 < (a0.length:Int))) then ((idx a0 s15).bind fun x25=>(bif (decide (a1=x25)) then some (.done (.inr s15)) else some (.next (IntKind.i64.wrap (s15+(1:Int)))))) else some (.done (.inl ())))) (0:Int)) (Sum.elim (fun y14=>some (-1:Int)) (fun r=>some r)))
theorem KgV (fu:Nat)(a0:List ByteArray)(a1:ByteArray):Le (Kdk fu a0 a1) (KbA a0 a1):=by
 unfold Kdk KbA;repeat (first|exact Le.refl _|exact Le.none _|assumption|apply Le.bind|apply Le.cond|apply Le.loopC|apply Le.elim|intro _)
def Kb8 (fu:Nat)(a0:List ByteArray)(a1:ByteArray):Option (Bool):=
 ((Kdk fu a0 a1).bind fun x1=>some (decide ((0:Int)≤x1)))
theorem KdP (fu:Nat)(a0:List ByteArray)(a1:ByteArray):Le (Kb8 fu a0 a1) (KaO a0 a1):=by
 unfold Kb8 KaO;repeat (first|exact Le.refl _|exact Le.none _|assumption|exact KgV fu _ _|apply Le.bind|apply Le.cond|apply Le.loopC|apply Le.elim|intro _)
def Kiz (fu:Nat)(a0:ByteArray):Option (Bool):=
 ((Kb8 fu qZ3 a0).bind fun x1=>some x1)
theorem Kmx (fu:Nat)(a0:ByteArray):Le (Kiz fu a0) (KeR a0):=by
 unfold Kiz KeR;repeat (first|exact Le.refl _|exact Le.none _|assumption|exact KdP fu _ _|apply Le.bind|apply Le.cond|apply Le.loopC|apply Le.elim|intro _)
def KcT (fu:Nat)(m0:KU)(a1:Int)(a2:Int)(a3:Int):Option (Int×KU):=
 (bif (decide ((4000:Int)≤(m0.gL.length:Int))) then none else ((cutL m0.gB m0.gAt (IntKind.i64.wrap (m0.gAt+a2))).bind fun x4=>((app 40 m0.gL ([(⟨a1,(ByteArray.mk x4.toArray),a3,m0.gAt⟩:KB)]:List KB)).bind fun x5=>some ((0:Int),(⟨m0.gB,(IntKind.i64.wrap (m0.gAt+a2)),x5⟩:KU)))))
theorem KeX (fu:Nat)(m0:KU)(a1:Int)(a2:Int)(a3:Int):Le (KcT fu m0 a1 a2 a3) (KbG m0 a1 a2 a3):=by
 unfold KcT KbG;repeat (first|exact Le.refl _|exact Le.none _|assumption|apply Le.bind|apply Le.cond|apply Le.loopC|apply Le.elim|intro _)
def Kfe (fu:Nat)(m0:KU):Option (Int×KU):=
 ((Kde fu m0 true).bind fun x1=>((cutL m0.gB m0.gAt (IntKind.i64.wrap (m0.gAt+x1))).bind fun x2=>(bif (decide ((20:Int) < x1)) then none else ((Kiz fu (ByteArray.mk x2.toArray)).bind fun x15=>(bif x15 then ((KcT fu m0 (3:Int) x1 (0:Int)).bind fun x21=>some (x21.1,x21.2)) else ((KcT fu m0 (1:Int) x1 (0:Int)).bind fun x24=>some (x24.1,x24.2)))))))
theorem KjV (fu:Nat)(m0:KU):Le (Kfe fu m0) (Kcv m0):=by
 unfold Kfe Kcv;repeat (first|exact Le.refl _|exact Le.none _|assumption|exact Kgw fu _ _|exact Kmx fu _|exact KeX fu _ _ _ _|apply Le.bind|apply Le.cond|apply Le.loopC|apply Le.elim|intro _)
def KeC (fu:Nat)(m0:KU):Option (Int×KU):=
 (bif (decide ((4000:Int)≤(m0.gL.length:Int))) then none else ((Kde fu m0 false).bind fun x4=>(Option.bind (α:=Bool) ((Kde fu m0 true).bind fun x10=>(bif (decide (x4 < x10)) then none else ((idx m0.gB m0.gAt).bind fun x12=>(bif ((x12.toNat:Int)==(48:Int)) then some (decide ((1:Int) < x4)) else some false)))) fun y9=>(bif y9 then none else ((cutL m0.gB m0.gAt (IntKind.i64.wrap (m0.gAt+x4))).bind fun x17=>(Option.bind (α:=(Int)⊕(Int×KU)) (loopC fu (fun (s33:Int×Int)=>(bif (decide (s33.2 < (x17.length:Int))) then ((idx x17 s33.2).bind fun x43=>(bif (decide ((IntKind.u64.wrap ((IntKind.u64.wrap ((9223372036854775807:Int) - (IntKind.u64.wrap (IntKind.u8.wrap ((x43.toNat:Int) - (48:Int)))))).tdiv (10:Int))) < s33.1)) then none else some (.next ((IntKind.u64.wrap ((IntKind.u64.wrap ((10:Int)*s33.1))+(IntKind.u64.wrap (IntKind.u8.wrap ((x43.toNat:Int) - (48:Int)))))),(IntKind.i64.wrap (s33.2+(1:Int))))))) else some (.done (.inl s33.1)))) ((0:Int),(0:Int))) (Sum.elim (fun y32=>((KcT fu m0 (2:Int) x4 (IntKind.i64.wrap y32)).bind fun x47=>some (x47.1,x47.2))) (fun r=>some r))))))))
theorem KiQ (fu:Nat)(m0:KU):Le (KeC fu m0) (Kcd m0):=by
 unfold KeC Kcd;repeat (first|exact Le.refl _|exact Le.none _|assumption|exact Kgw fu _ _|exact KeX fu _ _ _ _|apply Le.bind|apply Le.cond|apply Le.loopC|apply Le.elim|intro _)
def Kff (fu:Nat)(m0:KU):Option (Int):=
 ((cutL m0.gB m0.gAt ((m0.gB).length:Int)).bind fun x1=>(Option.bind (α:=Bool) (bif (decide ((1:Int) < (x1.length:Int))) then ((cutL x1 (0:Int) (2:Int)).bind fun x7=>((Kb8 fu qZ8 (ByteArray.mk x7.toArray)).bind fun x8=>some x8)) else some false) fun y5=>(bif y5 then none else ((idx x1 (0:Int)).bind fun x12=>(bif (decide ((0:Int)≤(indexB qZ19 (x12.toNat:Int)))) then some (1:Int) else none)))))
theorem KjW (fu:Nat)(m0:KU):Le (Kff fu m0) (Kcw m0):=by
 unfold Kff Kcw;repeat (first|exact Le.refl _|exact Le.none _|assumption|exact KdP fu _ _|apply Le.bind|apply Le.cond|apply Le.loopC|apply Le.elim|intro _)
def Kfg (fu:Nat)(m0:KU):Option (Int×KU):=
 ((idx m0.gB m0.gAt).bind fun x1=>((KgU fu (IntKind.i32.wrap (x1.toNat:Int))).bind fun x2=>(bif (x2==(1:Int)) then some ((0:Int),(⟨m0.gB,(IntKind.i64.wrap (m0.gAt+(1:Int))),m0.gL⟩:KU)) else (bif (x2==(2:Int)) then ((Kfe fu m0).bind fun x27=>some (x27.1,x27.2)) else (bif (x2==(3:Int)) then ((KeC fu m0).bind fun x34=>some (x34.1,x34.2)) else ((Kff fu m0).bind fun x36=>(bif (x36==(0:Int)) then none else ((KcT fu m0 (3:Int) x36 (0:Int)).bind fun x41=>some (x41.1,x41.2)))))))))
theorem KjX (fu:Nat)(m0:KU):Le (Kfg fu m0) (Kcx m0):=by
 unfold Kfg Kcx;repeat (first|exact Le.refl _|exact Le.none _|assumption|exact KjU fu _|exact KjV fu _|exact KiQ fu _|exact KjW fu _|exact KeX fu _ _ _ _|apply Le.bind|apply Le.cond|apply Le.loopC|apply Le.elim|intro _)
def KiA (fu:Nat)(a0:List UInt8):Option (List KB×Int×Int):=
 (bif (decide ((20000:Int) < (a0.length:Int))) then none else (Option.bind (α:=(List UInt8×Int×List KB)⊕(List KB×Int×Int)) (loopC fu (fun (s25:List UInt8×Int×List KB)=>(bif (decide (s25.2.1 < (a0.length:Int))) then ((Kfg fu (⟨s25.1,s25.2.1,s25.2.2⟩:KU)).bind fun x40=>(bif (x40.1 != (0:Int)) then none else some (.next (x40.2.gB,x40.2.gAt,x40.2.gL)))) else some (.done (.inl (s25.1,s25.2.1,s25.2.2))))) (a0,(0:Int),([]:List KB))) (Sum.elim (fun y24=>((app 40 y24.2.2 ([(⟨(0:Int),ByteArray.empty,(0:Int),(a0.length:Int)⟩:KB)]:List KB)).bind fun x44=>some (x44,(0:Int),(0:Int)))) (fun r=>some r))))
theorem Kmy (fu:Nat)(a0:List UInt8):Le (KiA fu a0) (KdB a0):=by
 unfold KiA KdB;repeat (first|exact Le.refl _|exact Le.none _|assumption|exact KjX fu _|apply Le.bind|apply Le.cond|apply Le.loopC|apply Le.elim|intro _)
def KgW (fu:Nat)(a0:List KB)(a1:Int):Option (Kf×Bool):=
 (bif (decide ((0:Int)≤a1)) then some ((⟨a0,a1,(0:Int),(0:Int),(0:Int)⟩:Kf),(decide (a1≤(a0.length:Int)))) else some ((⟨a0,a1,(0:Int),(0:Int),(0:Int)⟩:Kf),false))
theorem Klh (fu:Nat)(a0:List KB)(a1:Int):Le (KgW fu a0 a1) (Kc7 a0 a1):=by
 unfold KgW Kc7;repeat (first|exact Le.refl _|exact Le.none _|assumption|apply Le.bind|apply Le.cond|apply Le.loopC|apply Le.elim|intro _)
def Kcj (fu:Nat)(m0:Kf)(a1:Int):Option (KB):=
 (bif (decide ((m0.gL.length:Int)≤(IntKind.i64.wrap (m0.gAt+a1)))) then none else ((idx m0.gL (IntKind.i64.wrap (m0.gAt+a1))).bind fun x5=>some x5))
theorem Kc9 (fu:Nat)(m0:Kf)(a1:Int):Le (Kcj fu m0 a1) (KaM m0 a1):=by
 unfold Kcj KaM;repeat (first|exact Le.refl _|exact Le.none _|assumption|apply Le.bind|apply Le.cond|apply Le.loopC|apply Le.elim|intro _)
def Kdf (fu:Nat)(m0:Kf)(a1:Int)(a2:ByteArray):Option (Bool):=
 ((Kcj fu m0 a1).bind fun x1=>(bif (x1.gKind==(3:Int)) then some (decide (x1.gText=a2)) else some false))
theorem KeD (fu:Nat)(m0:Kf)(a1:Int)(a2:ByteArray):Le (Kdf fu m0 a1 a2) (Kbc m0 a1 a2):=by
 unfold Kdf Kbc;repeat (first|exact Le.refl _|exact Le.none _|assumption|exact Kc9 fu _ _|apply Le.bind|apply Le.cond|apply Le.loopC|apply Le.elim|intro _)
def Kb2 (fu:Nat)(m0:Kf)(a1:List ByteArray):Option (Kf):=
 (Option.bind (α:=(Int)⊕(Kf)) (loopC fu (fun (s34:Int×Int)=>(bif (decide (s34.1 < (a1.length:Int))) then ((idx a1 s34.1).bind fun x50=>(bif (m0.gE != (0:Int)) then none else ((Kdf fu (⟨m0.gL,s34.2,m0.gE,m0.gVars,m0.gOpen⟩:Kf) (0:Int) x50).bind fun x53=>(bif (!x53) then none else some (.next ((IntKind.i64.wrap (s34.1+(1:Int))),(IntKind.i64.wrap (s34.2+(1:Int))))))))) else some (.done (.inl s34.2)))) ((0:Int),m0.gAt)) (Sum.elim (fun y33=>some (⟨m0.gL,y33,m0.gE,m0.gVars,m0.gOpen⟩:Kf)) (fun r=>some r)))
theorem KcK (fu:Nat)(m0:Kf)(a1:List ByteArray):Le (Kb2 fu m0 a1) (K0 m0 a1):=by
 unfold Kb2 K0;repeat (first|exact Le.refl _|exact Le.none _|assumption|exact KeD fu _ _ _|apply Le.bind|apply Le.cond|apply Le.loopC|apply Le.elim|intro _)
def KeE (fu:Nat)(m0:Kf):Option (ByteArray×Kf):=
 (bif (m0.gE != (0:Int)) then none else ((Kcj fu m0 (0:Int)).bind fun x4=>(bif (x4.gKind != (1:Int)) then none else some (x4.gText,(⟨m0.gL,(IntKind.i64.wrap (m0.gAt+(1:Int))),m0.gE,m0.gVars,m0.gOpen⟩:Kf)))))
theorem KiR (fu:Nat)(m0:Kf):Le (KeE fu m0) (KaU m0):=by
 unfold KeE KaU;repeat (first|exact Le.refl _|exact Le.none _|assumption|exact Kc9 fu _ _|apply Le.bind|apply Le.cond|apply Le.loopC|apply Le.elim|intro _)
def Kbh (fu:Nat)(m0:Kf)(a1:ByteArray):Option (Bool×Kf):=
 (Option.bind (α:=Bool) (bif (m0.gE != (0:Int)) then some true else ((Kdf fu m0 (0:Int) a1).bind fun x5=>some (!x5))) fun y3=>(bif y3 then some (false,m0) else some (true,(⟨m0.gL,(IntKind.i64.wrap (m0.gAt+(1:Int))),m0.gE,m0.gVars,m0.gOpen⟩:Kf))))
theorem Kdo (fu:Nat)(m0:Kf)(a1:ByteArray):Le (Kbh fu m0 a1) (Kam m0 a1):=by
 unfold Kbh Kam;repeat (first|exact Le.refl _|exact Le.none _|assumption|exact KeD fu _ _ _|apply Le.bind|apply Le.cond|apply Le.loopC|apply Le.elim|intro _)
def Kep (fu:Nat)(m0:Kf):Option (List Kab×Kf):=
 ((Kb2 fu m0 qZ11).bind fun x1=>((Kbh fu x1 qZ12).bind fun x2=>(bif x2.1 then some (([]:List Kab),x2.2) else none)))
theorem KiB (fu:Nat)(m0:Kf):Le (Kep fu m0) (KbZ m0):=by
 unfold Kep KbZ;repeat (first|exact Le.refl _|exact Le.none _|assumption|exact KcK fu _ _|exact Kdo fu _ _|apply Le.bind|apply Le.cond|apply Le.loopC|apply Le.elim|intro _)
def Kdr (fu:Nat)(m2:Kq)(m1:Kf):Option (Kf×Kq):=
 (Option.bind (α:=List KB×Int×Int×Int×Int×List Kab) (loopC fu (fun (s33:List KB×Int×Int×Int×Int×List Kab)=>(Option.bind (α:=Bool) (bif (s33.2.2.1==(0:Int)) then ((Kdf fu (⟨s33.1,s33.2.1,s33.2.2.1,s33.2.2.2.1,s33.2.2.2.2.1⟩:Kf) (0:Int) (ByteArray.mk #[105,110,116])).bind fun x58=>some x58) else some false) fun y56=>(bif y56 then none else some (.done (s33.1,s33.2.1,s33.2.2.1,s33.2.2.2.1,s33.2.2.2.2.1,s33.2.2.2.2.2))))) (m1.gL,m1.gAt,m1.gE,m1.gVars,m1.gOpen,m2.gLocals)) fun y32=>some ((⟨y32.1,y32.2.1,y32.2.2.1,y32.2.2.2.1,y32.2.2.2.2.1⟩:Kf),(⟨m2.gName,m2.gParams,y32.2.2.2.2.2,m2.gBody,m2.gAt⟩:Kq)))
theorem Kg0 (fu:Nat)(m2:Kq)(m1:Kf):Le (Kdr fu m2 m1) (Kbf m2 m1):=by
 unfold Kdr Kbf;repeat (first|exact Le.refl _|exact Le.none _|assumption|exact KeD fu _ _ _|apply Le.bind|apply Le.cond|apply Le.loopC|apply Le.elim|intro _)
def Kdg (fu:Nat)(m0:Ka):Option (KB):=
 (bif (decide ((m0.gL.length:Int)≤m0.gAt)) then none else ((idx m0.gL m0.gAt).bind fun x5=>some x5))
theorem KeF (fu:Nat)(m0:Ka):Le (Kdg fu m0) (Kbt m0):=by
 unfold Kdg Kbt;repeat (first|exact Le.refl _|exact Le.none _|assumption|apply Le.bind|apply Le.cond|apply Le.loopC|apply Le.elim|intro _)
def KfR (fu:Nat)(m0:Ka)(a1:ByteArray):Option (Bool):=
 ((Kdg fu m0).bind fun x1=>(bif (x1.gKind==(3:Int)) then some (decide (x1.gText=a1)) else some false))
theorem KkM (fu:Nat)(m0:Ka)(a1:ByteArray):Le (KfR fu m0 a1) (Kcz m0 a1):=by
 unfold KfR Kcz;repeat (first|exact Le.refl _|exact Le.none _|assumption|exact KeF fu _|apply Le.bind|apply Le.cond|apply Le.loopC|apply Le.elim|intro _)
def KeG (fu:Nat)(a0:ByteArray)(a1:ByteArray)(a2:Int)(a3:ByteArray)(a4:Int):Option (Int):=
 (bif (decide (a0=a1)) then none else (bif (decide (a0=a3)) then none else some (0:Int)))
theorem Kmz (fu:Nat)(a0:ByteArray)(a1:ByteArray)(a2:Int)(a3:ByteArray)(a4:Int):Le (KeG fu a0 a1 a2 a3 a4) (Kc0 a0 a1 a2 a3 a4):=by
 unfold KeG Kc0;repeat (first|exact Le.refl _|exact Le.none _|assumption|apply Le.bind|apply Le.cond|apply Le.loopC|apply Le.elim|intro _)
def KgX (fu:Nat)(a0:Int)(a1:ByteArray):Option (Int):=
 (bif (a0==(0:Int)) then (bif (decide (a1=(ByteArray.mk #[124,124]))) then none else some (0:Int)) else (bif (a0==(1:Int)) then (bif (decide (a1=(ByteArray.mk #[38,38]))) then none else some (0:Int)) else (bif (a0==(2:Int)) then ((KeG fu a1 (ByteArray.mk #[61,61]) (14:Int) (ByteArray.mk #[33,61]) (15:Int)).bind fun x10=>some x10) else (bif (a0==(3:Int)) then ((KeG fu a1 (ByteArray.mk #[60]) (12:Int) (ByteArray.mk #[60,61]) (13:Int)).bind fun x13=>some x13) else (bif (a0==(4:Int)) then ((KeG fu a1 (ByteArray.mk #[43]) (10:Int) qZ24 (11:Int)).bind fun x16=>some x16) else (bif (a0==(5:Int)) then (bif (decide (a1=(ByteArray.mk #[37]))) then none else ((KeG fu a1 qZ18 (7:Int) (ByteArray.mk #[47]) (8:Int)).bind fun x22=>some x22)) else none))))))
theorem Kli (fu:Nat)(a0:Int)(a1:ByteArray):Le (KgX fu a0 a1) (Kdv a0 a1):=by
 unfold KgX Kdv;repeat (first|exact Le.refl _|exact Le.none _|assumption|exact Kmz fu _ _ _ _ _|apply Le.bind|apply Le.cond|apply Le.loopC|apply Le.elim|intro _)
def KeY (fu:Nat)(g0:(Ka)→(Int)→Option (Kc×Ka))(g1:(Ka)→Option (Kc×Ka))(g2:(Ka)→(Kc)→(Int)→(Int)→Option (Kc×Ka))(g3:(Ka)→(ByteArray)→Option (Kc×Ka))(g4:(Ka)→(KB)→(Int)→Option (Kc×Ka))(m0:Ka)(a1:Int):Option (Kc×Ka):=
 (bif (a1==(6:Int)) then ((g1 m0).bind fun x5=>some (x5.1,x5.2)) else ((g0 m0 (IntKind.i64.wrap (a1+(1:Int)))).bind fun x7=>(Option.bind (α:=List KB×Int×Int×Int×Int×ByteArray×List Kc×Int) (loopC fu (fun (s51:List KB×Int×Int×Int×Int×ByteArray×List Kc×Int)=>(bif (s51.2.2.1==(0:Int)) then ((Kdg fu (⟨s51.1,s51.2.1,s51.2.2.1⟩:Ka)).bind fun x79=>(Option.bind (α:=Int) (bif (x79.gKind==(3:Int)) then ((KgX fu a1 x79.gText).bind fun x85=>some x85) else none) fun y83=>(bif (y83==(0:Int)) then some (.done (s51.1,s51.2.1,s51.2.2.1,s51.2.2.2.1,s51.2.2.2.2.1,s51.2.2.2.2.2.1,s51.2.2.2.2.2.2.1,s51.2.2.2.2.2.2.2)) else none))) else none)) (x7.2.gL,x7.2.gAt,x7.2.gE,x7.1.gOp,x7.1.gN,x7.1.gName,x7.1.gKids,x7.1.gAt)) fun y50=>some ((⟨y50.2.2.2.1,y50.2.2.2.2.1,y50.2.2.2.2.2.1,y50.2.2.2.2.2.2.1,y50.2.2.2.2.2.2.2⟩:Kc),(⟨y50.1,y50.2.1,y50.2.2.1⟩:Ka)))))
theorem Kjp (fu:Nat)(g0 g0':(Ka)→(Int)→Option (Kc×Ka))(g1 g1':(Ka)→Option (Kc×Ka))(g2 g2':(Ka)→(Kc)→(Int)→(Int)→Option (Kc×Ka))(g3 g3':(Ka)→(ByteArray)→Option (Kc×Ka))(g4 g4':(Ka)→(KB)→(Int)→Option (Kc×Ka))(hg0:∀ x0 x1,Le (g0 x0 x1) (g0' x0 x1))(hg1:∀ x0,Le (g1 x0) (g1' x0))(hg2:∀ x0 x1 x2 x3,Le (g2 x0 x1 x2 x3) (g2' x0 x1 x2 x3))(hg3:∀ x0 x1,Le (g3 x0 x1) (g3' x0 x1))(hg4:∀ x0 x1 x2,Le (g4 x0 x1 x2) (g4' x0 x1 x2))(m0:Ka)(a1:Int):Le (KeY fu g0 g1 g2 g3 g4 m0 a1) (Kbm g0' g1' g2' g3' g4' m0 a1):=by
 unfold KeY Kbm;repeat (first|exact Le.refl _|exact Le.none _|assumption|exact hg0 _ _|exact hg1 _|exact hg2 _ _ _ _|exact hg3 _ _|exact hg4 _ _ _|exact KeF fu _|exact Kli fu _ _|apply Le.bind|apply Le.cond|apply Le.loopC|apply Le.elim|intro _)
def KeH (fu:Nat)(g0:(Ka)→(Int)→Option (Kc×Ka))(g1:(Ka)→Option (Kc×Ka))(g2:(Ka)→(Kc)→(Int)→(Int)→Option (Kc×Ka))(g3:(Ka)→(ByteArray)→Option (Kc×Ka))(g4:(Ka)→(KB)→(Int)→Option (Kc×Ka))(m0:Ka):Option (Kc×Ka):=
 ((Kdg fu m0).bind fun x2=>(bif (m0.gE != (0:Int)) then none else (bif (x2.gKind==(2:Int)) then some ((⟨(1:Int),x2.gN,ByteArray.empty,[],x2.gAt⟩:Kc),(⟨m0.gL,(IntKind.i64.wrap (m0.gAt+(1:Int))),m0.gE⟩:Ka)) else none)))
theorem KiS (fu:Nat)(g0 g0':(Ka)→(Int)→Option (Kc×Ka))(g1 g1':(Ka)→Option (Kc×Ka))(g2 g2':(Ka)→(Kc)→(Int)→(Int)→Option (Kc×Ka))(g3 g3':(Ka)→(ByteArray)→Option (Kc×Ka))(g4 g4':(Ka)→(KB)→(Int)→Option (Kc×Ka))(hg0:∀ x0 x1,Le (g0 x0 x1) (g0' x0 x1))(hg1:∀ x0,Le (g1 x0) (g1' x0))(hg2:∀ x0 x1 x2 x3,Le (g2 x0 x1 x2 x3) (g2' x0 x1 x2 x3))(hg3:∀ x0 x1,Le (g3 x0 x1) (g3' x0 x1))(hg4:∀ x0 x1 x2,Le (g4 x0 x1 x2) (g4' x0 x1 x2))(m0:Ka):Le (KeH fu g0 g1 g2 g3 g4 m0) (Ka8 g0' g1' g2' g3' g4' m0):=by
 unfold KeH Ka8;repeat (first|exact Le.refl _|exact Le.none _|assumption|exact hg0 _ _|exact hg1 _|exact hg2 _ _ _ _|exact hg3 _ _|exact hg4 _ _ _|exact KeF fu _|apply Le.bind|apply Le.cond|apply Le.loopC|apply Le.elim|intro _)
def Kd1 (fu:Nat)(g0:(Ka)→(Int)→Option (Kc×Ka))(g1:(Ka)→Option (Kc×Ka))(g2:(Ka)→(Kc)→(Int)→(Int)→Option (Kc×Ka))(g3:(Ka)→(ByteArray)→Option (Kc×Ka))(g4:(Ka)→(KB)→(Int)→Option (Kc×Ka))(m0:Ka)(a1:Kc)(a2:Int)(a3:Int):Option (Kc×Ka):=
 (Option.bind (α:=Bool) (bif (m0.gE != (0:Int)) then some true else ((KfR fu m0 (ByteArray.mk #[91])).bind fun x7=>some (!x7))) fun y5=>(bif y5 then none else none))
theorem KhM (fu:Nat)(g0 g0':(Ka)→(Int)→Option (Kc×Ka))(g1 g1':(Ka)→Option (Kc×Ka))(g2 g2':(Ka)→(Kc)→(Int)→(Int)→Option (Kc×Ka))(g3 g3':(Ka)→(ByteArray)→Option (Kc×Ka))(g4 g4':(Ka)→(KB)→(Int)→Option (Kc×Ka))(hg0:∀ x0 x1,Le (g0 x0 x1) (g0' x0 x1))(hg1:∀ x0,Le (g1 x0) (g1' x0))(hg2:∀ x0 x1 x2 x3,Le (g2 x0 x1 x2 x3) (g2' x0 x1 x2 x3))(hg3:∀ x0 x1,Le (g3 x0 x1) (g3' x0 x1))(hg4:∀ x0 x1 x2,Le (g4 x0 x1 x2) (g4' x0 x1 x2))(m0:Ka)(a1:Kc)(a2:Int)(a3:Int):Le (Kd1 fu g0 g1 g2 g3 g4 m0 a1 a2 a3) (KaX g0' g1' g2' g3' g4' m0 a1 a2 a3):=by
 unfold Kd1 KaX;repeat (first|exact Le.refl _|exact Le.none _|assumption|exact hg0 _ _|exact hg1 _|exact hg2 _ _ _ _|exact hg3 _ _|exact hg4 _ _ _|exact KkM fu _ _|apply Le.bind|apply Le.cond|apply Le.loopC|apply Le.elim|intro _)
def KeZ (fu:Nat)(g0:(Ka)→(Int)→Option (Kc×Ka))(g1:(Ka)→Option (Kc×Ka))(g2:(Ka)→(Kc)→(Int)→(Int)→Option (Kc×Ka))(g3:(Ka)→(ByteArray)→Option (Kc×Ka))(g4:(Ka)→(KB)→(Int)→Option (Kc×Ka))(m0:Ka)(a1:ByteArray):Option (Kc×Ka):=
 ((g0 m0 (0:Int)).bind fun x2=>(bif (x2.2.gE==(0:Int)) then none else none))
theorem Kjq (fu:Nat)(g0 g0':(Ka)→(Int)→Option (Kc×Ka))(g1 g1':(Ka)→Option (Kc×Ka))(g2 g2':(Ka)→(Kc)→(Int)→(Int)→Option (Kc×Ka))(g3 g3':(Ka)→(ByteArray)→Option (Kc×Ka))(g4 g4':(Ka)→(KB)→(Int)→Option (Kc×Ka))(hg0:∀ x0 x1,Le (g0 x0 x1) (g0' x0 x1))(hg1:∀ x0,Le (g1 x0) (g1' x0))(hg2:∀ x0 x1 x2 x3,Le (g2 x0 x1 x2 x3) (g2' x0 x1 x2 x3))(hg3:∀ x0 x1,Le (g3 x0 x1) (g3' x0 x1))(hg4:∀ x0 x1 x2,Le (g4 x0 x1 x2) (g4' x0 x1 x2))(m0:Ka)(a1:ByteArray):Le (KeZ fu g0 g1 g2 g3 g4 m0 a1) (Kbn g0' g1' g2' g3' g4' m0 a1):=by
 unfold KeZ Kbn;repeat (first|exact Le.refl _|exact Le.none _|assumption|exact hg0 _ _|exact hg1 _|exact hg2 _ _ _ _|exact hg3 _ _|exact hg4 _ _ _|apply Le.bind|apply Le.cond|apply Le.loopC|apply Le.elim|intro _)
def KeI (fu:Nat)(g0:(Ka)→(Int)→Option (Kc×Ka))(g1:(Ka)→Option (Kc×Ka))(g2:(Ka)→(Kc)→(Int)→(Int)→Option (Kc×Ka))(g3:(Ka)→(ByteArray)→Option (Kc×Ka))(g4:(Ka)→(KB)→(Int)→Option (Kc×Ka))(m0:Ka)(a1:KB)(a2:Int):Option (Kc×Ka):=
 (Option.bind (α:=Bool) (bif (decide (a1.gText=qZ24)) then none else none) fun y19=>(bif y19 then none else none))
theorem KiT (fu:Nat)(g0 g0':(Ka)→(Int)→Option (Kc×Ka))(g1 g1':(Ka)→Option (Kc×Ka))(g2 g2':(Ka)→(Kc)→(Int)→(Int)→Option (Kc×Ka))(g3 g3':(Ka)→(ByteArray)→Option (Kc×Ka))(g4 g4':(Ka)→(KB)→(Int)→Option (Kc×Ka))(hg0:∀ x0 x1,Le (g0 x0 x1) (g0' x0 x1))(hg1:∀ x0,Le (g1 x0) (g1' x0))(hg2:∀ x0 x1 x2 x3,Le (g2 x0 x1 x2 x3) (g2' x0 x1 x2 x3))(hg3:∀ x0 x1,Le (g3 x0 x1) (g3' x0 x1))(hg4:∀ x0 x1 x2,Le (g4 x0 x1 x2) (g4' x0 x1 x2))(m0:Ka)(a1:KB)(a2:Int):Le (KeI fu g0 g1 g2 g3 g4 m0 a1 a2) (Ka9 g0' g1' g2' g3' g4' m0 a1 a2):=by
 unfold KeI Ka9;repeat (first|exact Le.refl _|exact Le.none _|assumption|exact hg0 _ _|exact hg1 _|exact hg2 _ _ _ _|exact hg3 _ _|exact hg4 _ _ _|apply Le.bind|apply Le.cond|apply Le.loopC|apply Le.elim|intro _)
def KW (fu:Nat):Nat→((Ka)→(Int)→Option (Kc×Ka))×((Ka)→Option (Kc×Ka))×((Ka)→(Kc)→(Int)→(Int)→Option (Kc×Ka))×((Ka)→(ByteArray)→Option (Kc×Ka))×((Ka)→(KB)→(Int)→Option (Kc×Ka))
 | 0=>(fun _ _=>none,fun _=>none,fun _ _ _ _=>none,fun _ _=>none,fun _ _ _=>none)
 | n+1=>(KeY fu ((KW fu n).1) ((KW fu n).2.1) ((KW fu n).2.2.1) ((KW fu n).2.2.2.1) ((KW fu n).2.2.2.2),KeH fu ((KW fu n).1) ((KW fu n).2.1) ((KW fu n).2.2.1) ((KW fu n).2.2.2.1) ((KW fu n).2.2.2.2),Kd1 fu ((KW fu n).1) ((KW fu n).2.1) ((KW fu n).2.2.1) ((KW fu n).2.2.2.1) ((KW fu n).2.2.2.2),KeZ fu ((KW fu n).1) ((KW fu n).2.1) ((KW fu n).2.2.1) ((KW fu n).2.2.2.1) ((KW fu n).2.2.2.2),KeI fu ((KW fu n).1) ((KW fu n).2.1) ((KW fu n).2.2.1) ((KW fu n).2.2.2.1) ((KW fu n).2.2.2.2))
theorem Kf6 (fu:Nat):∀ n,(∀ (m0:Ka) (a1:Int),Le ((KW fu n).1 m0 a1) ((Kn n).1 m0 a1))∧(∀ (m0:Ka),Le ((KW fu n).2.1 m0) ((Kn n).2.1 m0))∧(∀ (m0:Ka) (a1:Kc) (a2:Int) (a3:Int),Le ((KW fu n).2.2.1 m0 a1 a2 a3) ((Kn n).2.2.1 m0 a1 a2 a3))∧(∀ (m0:Ka) (a1:ByteArray),Le ((KW fu n).2.2.2.1 m0 a1) ((Kn n).2.2.2.1 m0 a1))∧(∀ (m0:Ka) (a1:KB) (a2:Int),Le ((KW fu n).2.2.2.2 m0 a1 a2) ((Kn n).2.2.2.2 m0 a1 a2))
 | 0=>⟨fun _ _=>Le.none _,fun _=>Le.none _,fun _ _ _ _=>Le.none _,fun _ _=>Le.none _,fun _ _ _=>Le.none _⟩
 |
  n+1=>by
  have ih:=Kf6 fu n;exact ⟨fun m0 a1=>Kjp fu _ _ _ _ _ _ _ _ _ _ ih.1 ih.2.1 ih.2.2.1 ih.2.2.2.1 ih.2.2.2.2 m0 a1,fun m0=>KiS fu _ _ _ _ _ _ _ _ _ _ ih.1 ih.2.1 ih.2.2.1 ih.2.2.2.1 ih.2.2.2.2 m0,fun m0 a1 a2 a3=>KhM fu _ _ _ _ _ _ _ _ _ _ ih.1 ih.2.1 ih.2.2.1 ih.2.2.2.1 ih.2.2.2.2 m0 a1 a2 a3,fun m0 a1=>Kjq fu _ _ _ _ _ _ _ _ _ _ ih.1 ih.2.1 ih.2.2.1 ih.2.2.2.1 ih.2.2.2.2 m0 a1,fun m0 a1 a2=>KiT fu _ _ _ _ _ _ _ _ _ _ ih.1 ih.2.1 ih.2.2.1 ih.2.2.2.1 ih.2.2.2.2 m0 a1 a2⟩
def KhA (fu:Nat)(m0:Ka)(a1:Int):Option (Kc×Ka):=(KW fu fu).1 m0 a1
theorem Kkp (fu:Nat)(m0:Ka)(a1:Int):Le (KhA fu m0 a1) (Kd0 m0 a1):=fun r h=>Kg4 m0 a1 fu (((Kf6 fu fu).1 m0 a1) r h)
def KiC (fu:Nat)(a0:List KB)(a1:Int):Option (Kc×Int×Int):=
 (Option.bind (α:=Bool) (bif (decide (a1 < (0:Int))) then some true else some (decide ((a0.length:Int) < a1))) fun y3=>(bif y3 then none else ((KhA fu (⟨a0,a1,(0:Int)⟩:Ka) (0:Int)).bind fun x9=>(bif (x9.2.gE != (0:Int)) then none else some (x9.1,x9.2.gAt,(0:Int))))))
theorem KmA (fu:Nat)(a0:List KB)(a1:Int):Le (KiC fu a0 a1) (KeS a0 a1):=by
 unfold KiC KeS;repeat (first|exact Le.refl _|exact Le.none _|assumption|exact Kkp fu _ _|apply Le.bind|apply Le.cond|apply Le.loopC|apply Le.elim|intro _)
def KeJ (fu:Nat)(m0:Kf):Option (Kc×Kf):=
 (bif (m0.gE != (0:Int)) then none else ((KiC fu m0.gL (min m0.gAt (m0.gL.length:Int))).bind fun x5=>(bif (x5.2.2 != (0:Int)) then none else some (x5.1,(⟨m0.gL,x5.2.1,m0.gE,m0.gVars,m0.gOpen⟩:Kf)))))
theorem KiU (fu:Nat)(m0:Kf):Le (KeJ fu m0) (KaN m0):=by
 unfold KeJ KaN;repeat (first|exact Le.refl _|exact Le.none _|assumption|exact KmA fu _ _|apply Le.bind|apply Le.cond|apply Le.loopC|apply Le.elim|intro _)
def KfS (fu:Nat) : Option (Unit):=
 some ()
theorem KkN (fu:Nat) : Le (KfS fu ) (grammar_nothing ):=by
 unfold KfS grammar_nothing;repeat (first|exact Le.refl _|exact Le.none _|assumption|apply Le.bind|apply Le.cond|apply Le.loopC|apply Le.elim|intro _)
def Kd4 (fu:Nat)(g0:(Kf)→Option (Km×Kf))(g1:(Kf)→Option (List Km×Kf))(m0:Kf):Option (Km×Kf):=
 ((Kcj fu m0 (0:Int)).bind fun x2=>(bif (x2.gKind==(1:Int)) then none else ((Kbh fu m0 qZ18).bind fun x8=>(bif x8.1 then none else ((Kbh fu x8.2 (ByteArray.mk #[105,102])).bind fun x15=>(bif x15.1 then none else ((Kbh fu x15.2 (ByteArray.mk #[119,104,105,108,101])).bind fun x27=>(bif x27.1 then none else ((Kbh fu x27.2 (ByteArray.mk #[114,101,116,117,114,110])).bind fun x34=>(bif x34.1 then ((KeJ fu x34.2).bind fun x36=>((Kb2 fu x36.2 qZ5).bind fun x37=>some ((⟨(8:Int),ByteArray.empty,ByteArray.empty,([x36.1]:List Kc),[],[],x2.gAt⟩:Km),x37))) else none))))))))))
theorem KhU (fu:Nat)(g0 g0':(Kf)→Option (Km×Kf))(g1 g1':(Kf)→Option (List Km×Kf))(hg0:∀ x0,Le (g0 x0) (g0' x0))(hg1:∀ x0,Le (g1 x0) (g1' x0))(m0:Kf):Le (Kd4 fu g0 g1 m0) (Ka3 g0' g1' m0):=by
 unfold Kd4 Ka3;repeat (first|exact Le.refl _|exact Le.none _|assumption|exact hg0 _|exact hg1 _|exact Kc9 fu _ _|exact Kdo fu _ _|exact KiU fu _|exact KcK fu _ _|apply Le.bind|apply Le.cond|apply Le.loopC|apply Le.elim|intro _)
def KdE (fu:Nat)(g0:(Kf)→Option (Km×Kf))(g1:(Kf)→Option (List Km×Kf))(m0:Kf):Option (List Km×Kf):=
 ((Kb2 fu m0 qZ15).bind fun x1=>(Option.bind (α:=List KB×Int×Int×Int×Int) (bif (decide ((24:Int)≤x1.gOpen)) then none else some (x1.gL,x1.gAt,x1.gE,x1.gVars,x1.gOpen)) fun y4=>((KfS fu).bind fun x7=>(Option.bind (α:=List Km×List KB×Int×Int×Int×Int) (loopC fu (fun (s38:List Km×List KB×Int×Int×Int×Int)=>(Option.bind (α:=Bool×List KB×Int×Int×Int×Int) (bif (s38.2.2.2.1==(0:Int)) then ((Kbh fu (⟨s38.2.1,s38.2.2.1,s38.2.2.2.1,s38.2.2.2.2.1,s38.2.2.2.2.2⟩:Kf) (ByteArray.mk #[125])).bind fun x62=>some ((!x62.1),x62.2.gL,x62.2.gAt,x62.2.gE,x62.2.gVars,x62.2.gOpen)) else some (false,s38.2.1,s38.2.2.1,s38.2.2.2.1,s38.2.2.2.2.1,s38.2.2.2.2.2)) fun y60=>(bif y60.1 then ((g0 (⟨y60.2.1,y60.2.2.1,y60.2.2.2.1,y60.2.2.2.2.1,y60.2.2.2.2.2⟩:Kf)).bind fun x64=>((app 120 s38.1 ([x64.1]:List Km)).bind fun x65=>some (.next (x65,x64.2.gL,x64.2.gAt,x64.2.gE,x64.2.gVars,x64.2.gOpen)))) else some (.done (s38.1,y60.2.1,y60.2.2.1,y60.2.2.2.1,y60.2.2.2.2.1,y60.2.2.2.2.2))))) (([]:List Km),y4.1,y4.2.1,y4.2.2.1,y4.2.2.2.1,(IntKind.i64.wrap (y4.2.2.2.2+(1:Int))))) fun y37=>some (y37.1,(⟨y37.2.1,y37.2.2.1,y37.2.2.2.1,y37.2.2.2.2.1,(IntKind.i64.wrap (y37.2.2.2.2.2 - (1:Int)))⟩:Kf))))))
theorem KhB (fu:Nat)(g0 g0':(Kf)→Option (Km×Kf))(g1 g1':(Kf)→Option (List Km×Kf))(hg0:∀ x0,Le (g0 x0) (g0' x0))(hg1:∀ x0,Le (g1 x0) (g1' x0))(m0:Kf):Le (KdE fu g0 g1 m0) (KaS g0' g1' m0):=by
 unfold KdE KaS;repeat (first|exact Le.refl _|exact Le.none _|assumption|exact hg0 _|exact hg1 _|exact KcK fu _ _|exact KkN fu|exact Kdo fu _ _|apply Le.bind|apply Le.cond|apply Le.loopC|apply Le.elim|intro _)
def Kbw (fu:Nat):Nat→((Kf)→Option (Km×Kf))×((Kf)→Option (List Km×Kf))
 | 0=>(fun _=>none,fun _=>none)
 | n+1=>(Kd4 fu ((Kbw fu n).1) ((Kbw fu n).2),KdE fu ((Kbw fu n).1) ((Kbw fu n).2))
theorem Kfi (fu:Nat):∀ n,(∀ (m0:Kf),Le ((Kbw fu n).1 m0) ((K6 n).1 m0))∧(∀ (m0:Kf),Le ((Kbw fu n).2 m0) ((K6 n).2 m0))
 | 0=>⟨fun _=>Le.none _,fun _=>Le.none _⟩
 |
  n+1=>by
  have ih:=Kfi fu n;exact ⟨fun m0=>KhU fu _ _ _ _ ih.1 ih.2 m0,fun m0=>KhB fu _ _ _ _ ih.1 ih.2 m0⟩
def Kgx (fu:Nat)(m0:Kf):Option (Km×Kf):=(Kbw fu fu).1 m0
theorem KiV (fu:Nat)(m0:Kf):Le (Kgx fu m0) (Kdc m0):=fun r h=>Kf4 m0 fu (((Kfi fu fu).1 m0) r h)
def Keq (fu:Nat)(m0:Kf)(m2:Kq):Option (List Km×Kf×Kq):=
 ((Kb2 fu m0 qZ15).bind fun x1=>(Option.bind (α:=List KB×Int×Int×Int×Int) (bif (decide ((24:Int)≤x1.gOpen)) then none else some (x1.gL,x1.gAt,x1.gE,x1.gVars,x1.gOpen)) fun y4=>((Kdr fu m2 (⟨y4.1,y4.2.1,y4.2.2.1,y4.2.2.2.1,(IntKind.i64.wrap (y4.2.2.2.2+(1:Int)))⟩:Kf)).bind fun x8=>(Option.bind (α:=List Km×List KB×Int×Int×Int×Int) (loopC fu (fun (s39:List Km×List KB×Int×Int×Int×Int)=>(Option.bind (α:=Bool×List KB×Int×Int×Int×Int) (bif (s39.2.2.2.1==(0:Int)) then ((Kbh fu (⟨s39.2.1,s39.2.2.1,s39.2.2.2.1,s39.2.2.2.2.1,s39.2.2.2.2.2⟩:Kf) (ByteArray.mk #[125])).bind fun x63=>some ((!x63.1),x63.2.gL,x63.2.gAt,x63.2.gE,x63.2.gVars,x63.2.gOpen)) else some (false,s39.2.1,s39.2.2.1,s39.2.2.2.1,s39.2.2.2.2.1,s39.2.2.2.2.2)) fun y61=>(bif y61.1 then ((Kgx fu (⟨y61.2.1,y61.2.2.1,y61.2.2.2.1,y61.2.2.2.2.1,y61.2.2.2.2.2⟩:Kf)).bind fun x65=>((app 120 s39.1 ([x65.1]:List Km)).bind fun x66=>some (.next (x66,x65.2.gL,x65.2.gAt,x65.2.gE,x65.2.gVars,x65.2.gOpen)))) else some (.done (s39.1,y61.2.1,y61.2.2.1,y61.2.2.2.1,y61.2.2.2.2.1,y61.2.2.2.2.2))))) (([]:List Km),x8.1.gL,x8.1.gAt,x8.1.gE,x8.1.gVars,x8.1.gOpen)) fun y38=>some (y38.1,(⟨y38.2.1,y38.2.2.1,y38.2.2.2.1,y38.2.2.2.2.1,(IntKind.i64.wrap (y38.2.2.2.2.2 - (1:Int)))⟩:Kf),x8.2)))))
theorem KiD (fu:Nat)(m0:Kf)(m2:Kq):Le (Keq fu m0 m2) (Kb0 m0 m2):=by
 unfold Keq Kb0;repeat (first|exact Le.refl _|exact Le.none _|assumption|exact KcK fu _ _|exact Kg0 fu _ _|exact Kdo fu _ _|exact KiV fu _|apply Le.bind|apply Le.cond|apply Le.loopC|apply Le.elim|intro _)
def KhN (fu:Nat)(g0:(Kc)→Option (Int))(a0:Kc):Option (Int):=
 (Option.bind (α:=Int) (loopC fu (fun (s19:Int×Int)=>(bif (decide (s19.2 < (a0.gKids.length:Int))) then none else some (.done s19.1))) ((1:Int),(0:Int))) fun y18=>some y18)
theorem Kmg (fu:Nat)(g0 g0':(Kc)→Option (Int))(hg0:∀ x0,Le (g0 x0) (g0' x0))(a0:Kc):Le (KhN fu g0 a0) (KcV g0' a0):=by
 unfold KhN KcV;repeat (first|exact Le.refl _|exact Le.none _|assumption|exact hg0 _|apply Le.bind|apply Le.cond|apply Le.loopC|apply Le.elim|intro _)
def KhO (fu:Nat):Nat→((Kc)→Option (Int))
 | 0=>(fun _=>none)
 | n+1=>(KhN fu ((KhO fu n)))
theorem Ki7 (fu:Nat):∀ n,(∀ (a0:Kc),Le ((KhO fu n) a0) ((Kcr n) a0))
 | 0=>fun _=>Le.none _
 |
  n+1=>by
  have ih:=Ki7 fu n;exact fun a0=>Kmg fu _ _ ih a0
def Klq (fu:Nat)(a0:Kc):Option (Int):=(KhO fu fu) a0
theorem Knd (fu:Nat)(a0:Kc):Le (Klq fu a0) (Khy a0):=fun r h=>Kk0 a0 fu (((Ki7 fu fu) a0) r h)
def Khk (fu:Nat)(g0:(List Km)→Option (Int))(a0:List Km):Option (Int):=
 (Option.bind (α:=Int) (loopC fu (fun (s115:Int×Int)=>(bif (decide (s115.2 < (a0.length:Int))) then ((idx a0 s115.2).bind fun x191=>((g0 x191.gKids).bind fun x193=>((g0 x191.gElse).bind fun x194=>(Option.bind (α:=Int) (loopC fu (fun (s211:Int×Int)=>(bif (decide (s211.2 < (x191.gExps.length:Int))) then ((idx x191.gExps s211.2).bind fun x223=>((Klq fu x223).bind fun x225=>some (.next ((IntKind.i64.wrap (s211.1+x225)),(IntKind.i64.wrap (s211.2+(1:Int))))))) else some (.done s211.1))) ((IntKind.i64.wrap (s115.1+(IntKind.i64.wrap ((IntKind.i64.wrap ((1:Int)+x193))+x194)))),(0:Int))) fun y210=>some (.next (y210,(IntKind.i64.wrap (s115.2+(1:Int))))))))) else some (.done s115.1))) ((0:Int),(0:Int))) fun y114=>some y114)
theorem KlQ (fu:Nat)(g0 g0':(List Km)→Option (Int))(hg0:∀ x0,Le (g0 x0) (g0' x0))(a0:List Km):Le (Khk fu g0 a0) (KcJ g0' a0):=by
 unfold Khk KcJ;repeat (first|exact Le.refl _|exact Le.none _|assumption|exact hg0 _|exact Knd fu _|apply Le.bind|apply Le.cond|apply Le.loopC|apply Le.elim|intro _)
def Khl (fu:Nat):Nat→((List Km)→Option (Int))
 | 0=>(fun _=>none)
 | n+1=>(Khk fu ((Khl fu n)))
theorem KiE (fu:Nat):∀ n,(∀ (a0:List Km),Le ((Khl fu n) a0) ((Kb6 n) a0))
 | 0=>fun _=>Le.none _
 |
  n+1=>by
  have ih:=KiE fu n;exact fun a0=>KlQ fu _ _ ih a0
def Kk2 (fu:Nat)(a0:List Km):Option (Int):=(Khl fu fu) a0
theorem KmB (fu:Nat)(a0:List Km):Le (Kk2 fu a0) (KgR a0):=fun r h=>KkI a0 fu (((KiE fu fu) a0) r h)
def KdF (fu:Nat)(m0:Kf):Option (Kq×Kf):=
 ((Kcj fu m0 (0:Int)).bind fun x3=>((Kb2 fu m0 qZ9).bind fun x5=>((KeE fu x5).bind fun x6=>((Kep fu x6.2).bind fun x8=>((Keq fu x8.2 (⟨x6.1,x8.1,[],[],x3.gAt⟩:Kq)).bind fun x12=>(Option.bind (α:=Bool) (bif (x12.2.1.gE==(0:Int)) then ((Kk2 fu x12.1).bind fun x17=>some (decide ((800:Int) < x17))) else some false) fun y15=>(bif y15 then none else some ((⟨x12.2.2.gName,x12.2.2.gParams,x12.2.2.gLocals,x12.1,x12.2.2.gAt⟩:Kq),x12.2.1))))))))
theorem KhC (fu:Nat)(m0:Kf):Le (KdF fu m0) (Kbv m0):=by
 unfold KdF Kbv;repeat (first|exact Le.refl _|exact Le.none _|assumption|exact Kc9 fu _ _|exact KcK fu _ _|exact KiR fu _|exact KiB fu _|exact KiD fu _ _|exact KmB fu _|apply Le.bind|apply Le.cond|apply Le.loopC|apply Le.elim|intro _)
def Khm (fu:Nat)(a0:List KB)(a1:Int):Option (Kq×Int×Int):=
 ((KgW fu a0 a1).bind fun x3=>(bif (!x3.2) then none else ((KdF fu x3.1).bind fun x13=>(bif (x13.2.gE != (0:Int)) then none else some (x13.1,x13.2.gAt,(0:Int))))))
theorem KlR (fu:Nat)(a0:List KB)(a1:Int):Le (Khm fu a0 a1) (Kez a0 a1):=by
 unfold Khm Kez;repeat (first|exact Le.refl _|exact Le.none _|assumption|exact Klh fu _ _|exact KhC fu _|apply Le.bind|apply Le.cond|apply Le.loopC|apply Le.elim|intro _)
def Kd5 (fu:Nat)(a0:List UInt8):Option (Kq×Int×Int):=
 ((KiA fu a0).bind fun x4=>(bif (x4.2.2 != (0:Int)) then none else ((Khm fu x4.1 (0:Int)).bind fun x14=>((idx x4.1 (min x14.2.1 (IntKind.i64.wrap ((x4.1.length:Int) - (1:Int))))).bind fun x16=>(bif (x14.2.2 != (0:Int)) then none else (bif (x16.gKind != (0:Int)) then none else some (x14.1,(0:Int),(0:Int))))))))
theorem KhV (fu:Nat)(a0:List UInt8):Le (Kd5 fu a0) (Kci a0):=by
 unfold Kd5 Kci;repeat (first|exact Le.refl _|exact Le.none _|assumption|exact Kmy fu _|exact KlR fu _ _|apply Le.bind|apply Le.cond|apply Le.loopC|apply Le.elim|intro _)
def KfB (fu:Nat)(a0:List UInt8):Option (Kq×Int×Int):=
 ((Kd5 fu a0).bind fun x5=>some (x5.1,x5.2.1,x5.2.2))
theorem Kkq (fu:Nat)(a0:List UInt8):Le (KfB fu a0) (Kcn a0):=by
 unfold KfB Kcn;repeat (first|exact Le.refl _|exact Le.none _|assumption|exact KhV fu _|apply Le.bind|apply Le.cond|apply Le.loopC|apply Le.elim|intro _)
def Kd6 (fu:Nat)(g0:(List Kc)→Option (List Kc))(g1:(Kc)→Option (Kc))(a0:List Kc):Option (List Kc):=
 ((need (mkOK 64 (a0.length:Int) (a0.length:Int))).bind fun x1=>((need (decide (a0.length=(List.replicate (a0.length:Int).toNat qZ6).length))).bind fun x2=>(Option.bind (α:=List Kc) (loopC fu (fun (s29:Int×List Kc)=>(bif (decide (s29.1 < (a0.length:Int))) then ((idx s29.2 s29.1).bind fun x49=>((g1 x49).bind fun x51=>((idx s29.2 s29.1).bind fun x52=>some (.next ((IntKind.i64.wrap (s29.1+(1:Int))),(s29.2.set s29.1.toNat x51)))))) else some (.done s29.2))) ((0:Int),a0)) fun y28=>some y28)))
theorem KhW (fu:Nat)(g0 g0':(List Kc)→Option (List Kc))(g1 g1':(Kc)→Option (Kc))(hg0:∀ x0,Le (g0 x0) (g0' x0))(hg1:∀ x0,Le (g1 x0) (g1' x0))(a0:List Kc):Le (Kd6 fu g0 g1 a0) (KaK g0' g1' a0):=by
 unfold Kd6 KaK;repeat (first|exact Le.refl _|exact Le.none _|assumption|exact hg0 _|exact hg1 _|apply Le.bind|apply Le.cond|apply Le.loopC|apply Le.elim|intro _)
def Khn (fu:Nat)(g0:(List Kc)→Option (List Kc))(g1:(Kc)→Option (Kc))(a0:Kc):Option (Kc):=
 ((g0 a0.gKids).bind fun x4=>some (⟨a0.gOp,a0.gN,a0.gName,x4,a0.gAt⟩:Kc))
theorem KlS (fu:Nat)(g0 g0':(List Kc)→Option (List Kc))(g1 g1':(Kc)→Option (Kc))(hg0:∀ x0,Le (g0 x0) (g0' x0))(hg1:∀ x0,Le (g1 x0) (g1' x0))(a0:Kc):Le (Khn fu g0 g1 a0) (KcG g0' g1' a0):=by
 unfold Khn KcG;repeat (first|exact Le.refl _|exact Le.none _|assumption|exact hg0 _|exact hg1 _|apply Le.bind|apply Le.cond|apply Le.loopC|apply Le.elim|intro _)
def Kbx (fu:Nat):Nat→((List Kc)→Option (List Kc))×((Kc)→Option (Kc))
 | 0=>(fun _=>none,fun _=>none)
 | n+1=>(Kd6 fu ((Kbx fu n).1) ((Kbx fu n).2),Khn fu ((Kbx fu n).1) ((Kbx fu n).2))
theorem Kfj (fu:Nat):∀ n,(∀ (a0:List Kc),Le ((Kbx fu n).1 a0) ((KP n).1 a0))∧(∀ (a0:Kc),Le ((Kbx fu n).2 a0) ((KP n).2 a0))
 | 0=>⟨fun _=>Le.none _,fun _=>Le.none _⟩
 |
  n+1=>by
  have ih:=Kfj fu n;exact ⟨fun a0=>KhW fu _ _ _ _ ih.1 ih.2 a0,fun a0=>KlS fu _ _ _ _ ih.1 ih.2 a0⟩
def Kgy (fu:Nat)(a0:List Kc):Option (List Kc):=(Kbx fu fu).1 a0
theorem KiW (fu:Nat)(a0:List Kc):Le (Kgy fu a0) (Kda a0):=fun r h=>Kf1 a0 fu (((Kfj fu fu).1 a0) r h)
def Kd7 (fu:Nat)(g0:(List Km)→Option (List Km))(g1:(Km)→Option (Km))(a0:List Km):Option (List Km):=
 ((need (mkOK 120 (a0.length:Int) (a0.length:Int))).bind fun x1=>((need (decide (a0.length=(List.replicate (a0.length:Int).toNat qZ20).length))).bind fun x2=>(Option.bind (α:=List Km) (loopC fu (fun (s29:Int×List Km)=>(bif (decide (s29.1 < (a0.length:Int))) then ((idx s29.2 s29.1).bind fun x49=>((g1 x49).bind fun x51=>((idx s29.2 s29.1).bind fun x52=>some (.next ((IntKind.i64.wrap (s29.1+(1:Int))),(s29.2.set s29.1.toNat x51)))))) else some (.done s29.2))) ((0:Int),a0)) fun y28=>some y28)))
theorem KhX (fu:Nat)(g0 g0':(List Km)→Option (List Km))(g1 g1':(Km)→Option (Km))(hg0:∀ x0,Le (g0 x0) (g0' x0))(hg1:∀ x0,Le (g1 x0) (g1' x0))(a0:List Km):Le (Kd7 fu g0 g1 a0) (Ka2 g0' g1' a0):=by
 unfold Kd7 Ka2;repeat (first|exact Le.refl _|exact Le.none _|assumption|exact hg0 _|exact hg1 _|apply Le.bind|apply Le.cond|apply Le.loopC|apply Le.elim|intro _)
def Kho (fu:Nat)(g0:(List Km)→Option (List Km))(g1:(Km)→Option (Km))(a0:Km):Option (Km):=
 ((Kgy fu a0.gExps).bind fun x4=>((g0 a0.gKids).bind fun x6=>((g0 a0.gElse).bind fun x8=>some (⟨a0.gOp,a0.gName,a0.gFunc,x4,x6,x8,a0.gAt⟩:Km))))
theorem KlT (fu:Nat)(g0 g0':(List Km)→Option (List Km))(g1 g1':(Km)→Option (Km))(hg0:∀ x0,Le (g0 x0) (g0' x0))(hg1:∀ x0,Le (g1 x0) (g1' x0))(a0:Km):Le (Kho fu g0 g1 a0) (KcH g0' g1' a0):=by
 unfold Kho KcH;repeat (first|exact Le.refl _|exact Le.none _|assumption|exact hg0 _|exact hg1 _|exact KiW fu _|apply Le.bind|apply Le.cond|apply Le.loopC|apply Le.elim|intro _)
def Kby (fu:Nat):Nat→((List Km)→Option (List Km))×((Km)→Option (Km))
 | 0=>(fun _=>none,fun _=>none)
 | n+1=>(Kd7 fu ((Kby fu n).1) ((Kby fu n).2),Kho fu ((Kby fu n).1) ((Kby fu n).2))
theorem Kfk (fu:Nat):∀ n,(∀ (a0:List Km),Le ((Kby fu n).1 a0) ((KS n).1 a0))∧(∀ (a0:Km),Le ((Kby fu n).2 a0) ((KS n).2 a0))
 | 0=>⟨fun _=>Le.none _,fun _=>Le.none _⟩
 |
  n+1=>by
  have ih:=Kfk fu n;exact ⟨fun a0=>KhX fu _ _ _ _ ih.1 ih.2 a0,fun a0=>KlT fu _ _ _ _ ih.1 ih.2 a0⟩
def Kgz (fu:Nat)(a0:List Km):Option (List Km):=(Kby fu fu).1 a0
theorem KiX (fu:Nat)(a0:List Km):Le (Kgz fu a0) (Kdb a0):=fun r h=>Kf2 a0 fu (((Kfk fu fu).1 a0) r h)
def KfT (fu:Nat)(a0:Kq):Option (Kq):=
 ((Kbq a0.gParams).bind fun x4=>((Kbq a0.gLocals).bind fun x6=>((Kgz fu a0.gBody).bind fun x8=>some (⟨a0.gName,x4,x6,x8,a0.gAt⟩:Kq))))
theorem KkO (fu:Nat)(a0:Kq):Le (KfT fu a0) (Kcy a0):=by
 unfold KfT Kcy;repeat (first|exact Le.refl _|exact Le.none _|assumption|exact KiX fu _|apply Le.bind|apply Le.cond|apply Le.loopC|apply Le.elim|intro _)
def KeK (fu:Nat)(a0:List Kq):Option (List Kq):=
 ((need (mkOK 96 (a0.length:Int) (a0.length:Int))).bind fun x1=>((need (decide (a0.length=(List.replicate (a0.length:Int).toNat qZ13).length))).bind fun x2=>(Option.bind (α:=List Kq) (loopC fu (fun (s29:Int×List Kq)=>(bif (decide (s29.1 < (a0.length:Int))) then ((idx s29.2 s29.1).bind fun x49=>((KfT fu x49).bind fun x51=>((idx s29.2 s29.1).bind fun x52=>some (.next ((IntKind.i64.wrap (s29.1+(1:Int))),(s29.2.set s29.1.toNat x51)))))) else some (.done s29.2))) ((0:Int),a0)) fun y28=>some y28)))
theorem KiY (fu:Nat)(a0:List Kq):Le (KeK fu a0) (KcC a0):=by
 unfold KeK KcC;repeat (first|exact Le.refl _|exact Le.none _|assumption|exact KkO fu _|apply Le.bind|apply Le.cond|apply Le.loopC|apply Le.elim|intro _)
def KgY (fu:Nat)(a0:Kw):Option (Kw):=
 ((Kaz a0.gGlobals).bind fun x4=>((KeK fu a0.gFuncs).bind fun x10=>some (⟨x4,x10⟩:Kw)))
theorem Klj (fu:Nat)(a0:Kw):Le (KgY fu a0) (Kdu a0):=by
 unfold KgY Kdu;repeat (first|exact Le.refl _|exact Le.none _|assumption|exact KiY fu _|apply Le.bind|apply Le.cond|apply Le.loopC|apply Le.elim|intro _)
def KfU (fu:Nat)(m0:Kaa)(a1:Kw)(a2:Int):Option (Int×Int×Kaa):=
 ((KgT fu a1).bind fun x2=>(Option.bind (α:=(Int)⊕(Int×Int×Kaa)) (Option.bind (α:=(Int)⊕(Int×Int×Kaa)) (bif (x2.2.2==(0:Int)) then some (.inr ((0:Int),(0:Int),(⟨a1⟩:Kaa))) else none) (Sum.elim (fun y8=>some (.inl y8)) (fun r=>some (.inr r)))) (Sum.elim (fun y5=>some (y5,x2.2.2,m0)) (fun r=>some r))))
theorem KkP (fu:Nat)(m0:Kaa)(a1:Kw)(a2:Int):Le (KfU fu m0 a1 a2) (KbS m0 a1 a2):=by
 unfold KfU KbS;repeat (first|exact Le.refl _|exact Le.none _|assumption|exact Klg fu _|apply Le.bind|apply Le.cond|apply Le.loopC|apply Le.elim|intro _)
def KeL (fu:Nat)(m0:Kaa):Option (Kw):=
 ((KgY fu m0.gP).bind fun x4=>some x4)
theorem KiZ (fu:Nat)(m0:Kaa):Le (KeL fu m0) (Kba m0):=by
 unfold KeL Kba;repeat (first|exact Le.refl _|exact Le.none _|assumption|exact Klj fu _|apply Le.bind|apply Le.cond|apply Le.loopC|apply Le.elim|intro _)
def Kjr (fu:Nat) : Option (Kaa):=
 some (⟨(⟨[],[]⟩:Kw)⟩:Kaa)
theorem Kne (fu:Nat) : Le (Kjr fu ) (store_New ):=by
 unfold Kjr store_New;repeat (first|exact Le.refl _|exact Le.none _|assumption|apply Le.bind|apply Le.cond|apply Le.loopC|apply Le.elim|intro _)
def Ke0 (fu:Nat)(a0:Kq)(m0:Kq):Option (Bool):=
 some (decide (a0.gName=m0.gName))
theorem Kjs (fu:Nat)(a0:Kq)(m0:Kq):Le (Ke0 fu a0 m0) (KcR a0 m0):=by
 unfold Ke0 KcR;repeat (first|exact Le.refl _|exact Le.none _|assumption|apply Le.bind|apply Le.cond|apply Le.loopC|apply Le.elim|intro _)
def Kcf (fu:Nat)(a0:List Kq)(m0:Kq):Option (Int):=
 (Option.bind (α:=(Unit)⊕(Int)) (loopC fu (fun (s23:Int)=>(bif (decide (s23 < (a0.length:Int))) then ((idx a0 s23).bind fun x40=>((Ke0 fu x40 m0).bind fun x41=>(bif x41 then none else some (.next (IntKind.i64.wrap (s23+(1:Int))))))) else some (.done (.inl ())))) (0:Int)) (Sum.elim (fun y22=>some (-1:Int)) (fun r=>some r)))
theorem Ke1 (fu:Nat)(a0:List Kq)(m0:Kq):Le (Kcf fu a0 m0) (KaT a0 m0):=by
 unfold Kcf KaT;repeat (first|exact Le.refl _|exact Le.none _|assumption|exact Kjs fu _ _|apply Le.bind|apply Le.cond|apply Le.loopC|apply Le.elim|intro _)
def Ke2 (fu:Nat)(a0:List Kq)(a1:Kq)(m0:Kq):Option (List Kq×Int):=
 ((KaY a0).bind fun x3=>((Kcf fu x3 m0).bind fun x4=>(bif (decide (x4 < (0:Int))) then ((app 96 x3 ([a1]:List Kq)).bind fun x9=>some (x9,(x3.length:Int))) else none)))
theorem Kjt (fu:Nat)(a0:List Kq)(a1:Kq)(m0:Kq):Le (Ke2 fu a0 a1 m0) (Kco a0 a1 m0):=by
 unfold Ke2 Kco;repeat (first|exact Le.refl _|exact Le.none _|assumption|exact Ke1 fu _ _|apply Le.bind|apply Le.cond|apply Le.loopC|apply Le.elim|intro _)
def KfC (fu:Nat)(m0:Kaa)(a1:List UInt8):Option (Int×Int×Kaa):=
 ((KfB fu a1).bind fun x4=>(bif (x4.2.2 != (0:Int)) then none else ((Ke2 fu m0.gP.gFuncs x4.1 x4.1).bind fun x9=>((KfU fu m0 (⟨m0.gP.gGlobals,x9.1⟩:Kw) (IntKind.i64.wrap ((m0.gP.gGlobals.length:Int)+x9.2))).bind fun x10=>some (x10.1,x10.2.1,x10.2.2)))))
theorem Kkr (fu:Nat)(m0:Kaa)(a1:List UInt8):Le (KfC fu m0 a1) (KcL m0 a1):=by
 unfold KfC KcL;repeat (first|exact Le.refl _|exact Le.none _|assumption|exact Kkq fu _|exact Kjt fu _ _ _|exact KkP fu _ _ _|apply Le.bind|apply Le.cond|apply Le.loopC|apply Le.elim|intro _)
def KbK (fu:Nat)(a0:List KM)(m0:ByteArray):Option (Int):=
 (Option.bind (α:=(Unit)⊕(Int)) (loopC fu (fun (s23:Int)=>(bif (decide (s23 < (a0.length:Int))) then none else some (.done (.inl ())))) (0:Int)) (Sum.elim (fun y22=>some (-1:Int)) (fun r=>some r)))
theorem Kej (fu:Nat)(a0:List KM)(m0:ByteArray):Le (KbK fu a0 m0) (KaI a0 m0):=by
 unfold KbK KaI;repeat (first|exact Le.refl _|exact Le.none _|assumption|apply Le.bind|apply Le.cond|apply Le.loopC|apply Le.elim|intro _)
def KbT (fu:Nat)(a0:List KM)(m0:ByteArray):Option (List KM):=
 ((KbK fu a0 m0).bind fun x1=>(bif (x1==(-1:Int)) then some a0 else none))
theorem Kes (fu:Nat)(a0:List KM)(m0:ByteArray):Le (KbT fu a0 m0) (KaF a0 m0):=by
 unfold KbT KaF;repeat (first|exact Le.refl _|exact Le.none _|assumption|exact Kej fu _ _|apply Le.bind|apply Le.cond|apply Le.loopC|apply Le.elim|intro _)
def Ke3 (fu:Nat)(a0:Kq)(m0:ByteArray):Option (Bool):=
 some (decide (a0.gName=m0))
theorem Kju (fu:Nat)(a0:Kq)(m0:ByteArray):Le (Ke3 fu a0 m0) (Kcp a0 m0):=by
 unfold Ke3 Kcp;repeat (first|exact Le.refl _|exact Le.none _|assumption|apply Le.bind|apply Le.cond|apply Le.loopC|apply Le.elim|intro _)
def Kb7 (fu:Nat)(a0:List Kq)(m0:ByteArray):Option (Int):=
 (Option.bind (α:=(Unit)⊕(Int)) (loopC fu (fun (s23:Int)=>(bif (decide (s23 < (a0.length:Int))) then ((idx a0 s23).bind fun x40=>((Ke3 fu x40 m0).bind fun x41=>(bif x41 then none else some (.next (IntKind.i64.wrap (s23+(1:Int))))))) else some (.done (.inl ())))) (0:Int)) (Sum.elim (fun y22=>some (-1:Int)) (fun r=>some r)))
theorem KeM (fu:Nat)(a0:List Kq)(m0:ByteArray):Le (Kb7 fu a0 m0) (KaQ a0 m0):=by
 unfold Kb7 KaQ;repeat (first|exact Le.refl _|exact Le.none _|assumption|exact Kju fu _ _|apply Le.bind|apply Le.cond|apply Le.loopC|apply Le.elim|intro _)
def Kcg (fu:Nat)(a0:List Kq)(m0:ByteArray):Option (List Kq):=
 ((Kb7 fu a0 m0).bind fun x1=>(bif (x1==(-1:Int)) then some a0 else none))
theorem Ke8 (fu:Nat)(a0:List Kq)(m0:ByteArray):Le (Kcg fu a0 m0) (KaJ a0 m0):=by
 unfold Kcg KaJ;repeat (first|exact Le.refl _|exact Le.none _|assumption|exact KeM fu _ _|apply Le.bind|apply Le.cond|apply Le.loopC|apply Le.elim|intro _)
def KfD (fu:Nat)(m0:Kaa)(a1:ByteArray):Option (Int×Kaa):=
 ((Kaz m0.gP.gGlobals).bind fun x3=>((KbT fu x3 a1).bind fun x4=>((KaY m0.gP.gFuncs).bind fun x6=>((Kcg fu x6 a1).bind fun x7=>(Option.bind (α:=Bool) (bif ((x4.length:Int)==(m0.gP.gGlobals.length:Int)) then some ((x7.length:Int)==(m0.gP.gFuncs.length:Int)) else none) fun y16=>(bif y16 then some ((7:Int),m0) else none))))))
theorem Kks (fu:Nat)(m0:Kaa)(a1:ByteArray):Le (KfD fu m0 a1) (KcM m0 a1):=by
 unfold KfD KcM;repeat (first|exact Le.refl _|exact Le.none _|assumption|exact Kes fu _ _|exact Ke8 fu _ _|apply Le.bind|apply Le.cond|apply Le.loopC|apply Le.elim|intro _)
def Klr (fu:Nat) : Option (Bool):=
 ((Kjr fu).bind fun x4=>((KfC fu x4 qZ4).bind fun x5=>(bif (x5.1==(0:Int)) then (bif (x5.2.1==(0:Int)) then ((KeL fu x5.2.2).bind fun x8=>(bif ((x8.gFuncs.length:Int)==(1:Int)) then ((KfD fu x5.2.2 (ByteArray.mk #[102])).bind fun x10=>some (x10.1==(7:Int))) else some false)) else some false) else some false)))
theorem Knf (fu:Nat) : Le (Klr fu ) (l36_lives ):=by
 unfold Klr l36_lives;repeat (first|exact Le.refl _|exact Le.none _|assumption|exact Kne fu|exact Kkr fu _ _|exact KiZ fu _|exact Kks fu _ _|apply Le.bind|apply Le.cond|apply Le.loopC|apply Le.elim|intro _)
end
section
open Go
set_option linter.all false
mutual
def szE:Kc→Nat
 | ⟨_,_,_,ks,_⟩=>1+szEs ks
def szEs:List Kc→Nat
 | []=>0
 | e::l=>szE e+szEs l
end
mutual
def dpE:Kc→Nat
 | ⟨_,_,_,ks,_⟩=>1+dpEs ks
def dpEs:List Kc→Nat
 | []=>0
 | e::l=>max (dpE e) (dpEs l)
end
theorem Kf7 (e:Kc):szE e=1+szEs e.gKids:=by cases e;simp only [szE]
theorem Ke9 (e:Kc):dpE e=1+dpEs e.gKids:=by cases e;simp only [dpE]
theorem Kls:∀ l m,szEs (l++m)=szEs l+szEs m
 | [],m=>by simp [szEs]
 | e::l,m=>by simp only [List.cons_append,szEs,Kls l m];omega
theorem KgA:∀ {l:List Kc} {e:Kc},e∈l→dpE e≤dpEs l
 |
  x::l,e,h=>by
  simp only [dpEs];rcases List.mem_cons.1 h with rfl|h
  ·omega
  have:=KgA h;omega
theorem KfP:∀ {l:List Kc} {e:Kc},e∈l→szE e≤szEs l
 |
  x::l,e,h=>by
  simp only [szEs];rcases List.mem_cons.1 h with rfl|h
  ·omega
  have:=KfP h;omega
theorem Khp:∀ l,l.length≤szEs l
 | []=>by simp
 |
  e::l=>by
  have:=Khp l;have h:=Kf7 e;simp only [szEs,List.length_cons];omega
end
section
open Go
set_option linter.all false
def scan {α β τ:Type}(step:α→β→α⊕τ)(fin:α→τ):α→List β→τ
 | a,[]=>fin a
 | a,x::l=>match step a x with|.inl a'=>scan step fin a' l|.inr t=>t
theorem KhD {σ τ α β:Type}{f:σ→Option (Step σ τ)}(l:List β)(step:α→β→α⊕τ)(fin:α→τ)(st:α→Nat→σ)(I:List β→α→Prop)(a0:α)(hI0:I [] a0)
  (hI:∀ pre x post a a',l=pre++x::post→I pre a→step a x=.inl a'→I (pre++[x]) a')
  (h1:∀ pre x post a,l=pre++x::post→I pre a→f (st a pre.length)=some (Sum.elim (fun a'=>.next (st a' (pre.length+1))) .done (step a x)))
  (h2:∀ a,I l a→f (st a l.length)=some (.done (fin a))):loopM f (st a0 0)=some (scan step fin a0 l):=by
 have key:∀ (post pre:List β) (a:α),l=pre++post→I pre a→loopM f (st a pre.length)=some (scan step fin a post):=by
  intro post;induction post with
  | nil=>intro pre a h hi;rw [List.append_nil] at h;subst h;exact Kct (h2 a hi)
  |
   cons x post ih=>
   intro pre a h hi;have h1':=h1 pre x post a h hi;have hI':=hI pre x post a;simp only [scan];cases hs:step a x with
   |
    inl a'=>
    rw [hs,Sum.elim_inl] at h1';rw [KeN h1'];have:=ih (pre++[x]) a' (by simp [h]) (hI' a' h hi hs);simpa using this
   | inr t=>rw [hs,Sum.elim_inr] at h1';exact Kct h1'
 exact key l [] a0 rfl hI0
theorem KbD {τ β:Type}{f:Int→Option (Step Int τ)}(l:List β)(step:Unit→β→Unit⊕τ)(z:τ)
  (h1:∀ pre x post,l=pre++x::post→f (pre.length:Int)=some (Sum.elim (fun _=>.next ((pre.length+1:Nat):Int)) .done (step () x)))
  (h2:f (l.length:Int)=some (.done z)):loopM f (0:Int)=some (scan step (fun _=>z) () l):=
 KhD l step (fun _=>z) (fun _ k=>(k:Int)) (fun _ _=>True) () trivial (fun _ _ _ _ _ _ _ _=>trivial) (fun pre x post _ h _=>h1 pre x post h) (fun _ _=>h2)
theorem Kkt {α τ β:Type}{f:α×Int→Option (Step (α×Int) τ)}(l:List β)(step:α→β→α⊕τ)(fin:α→τ)(I:List β→α→Prop)(a0:α)(hI0:I [] a0)
  (hI:∀ pre x post a a',l=pre++x::post→I pre a→step a x=.inl a'→I (pre++[x]) a')
  (h1:∀ pre x post a,l=pre++x::post→I pre a→f (a,(pre.length:Int))=some (Sum.elim (fun a'=>.next (a',((pre.length+1:Nat):Int))) .done (step a x)))
  (h2:∀ a,I l a→f (a,(l.length:Int))=some (.done (fin a))):loopM f (a0,(0:Int))=some (scan step fin a0 l):=
 KhD l step fin (fun a k=>(a,(k:Int))) I a0 hI0 hI h1 h2
def vk (n:ByteArray):List Kab→Int
 | []=>0
 | v::l=>if v.gName=n then (bif v.gPtr then 2 else 1) else vk n l
def gk (n:ByteArray):List KM→Int
 | []=>0
 | g::l=>if g.gName=n then (bif g.gPtr then 2 else bif decide (0 < g.gSize) then 3 else 1) else gk n l
theorem KmY (n:ByteArray):∀ l m,vk n (l++m)=if vk n l=0 then vk n m else vk n l
 | [],m=>by simp [vk]
 |
  v::l,m=>by
  simp only [List.cons_append,vk,KmY n l m];by_cases h:v.gName=n
  ·simp only [h,if_true];cases v.gPtr<;>simp
  simp only [h,if_false]
theorem scan_vk {ρ:Type}(n:ByteArray)(c:Int→ρ)(z:ρ):∀ l:List Kab,scan (fun (_:Unit) v=>if v.gName=n then .inr (c (bif v.gPtr then 2 else 1)) else .inl ()) (fun _=>z) () l=if vk n l=0 then z else c (vk n l)
 | []=>by simp [scan,vk]
 |
  v::l=>by
  simp only [scan,vk];by_cases h:v.gName=n
  ·simp only [h,if_true];cases v.gPtr<;>simp
  simp only [h,if_false];exact scan_vk n c z l
theorem scan_gk {ρ:Type}(n:ByteArray)(c:Int→ρ)(z:ρ):∀ l:List KM,scan (fun (_:Unit) g=>if g.gName=n then .inr (c (bif g.gPtr then 2 else bif decide (0 < g.gSize) then 3 else 1)) else .inl ()) (fun _=>z) () l=if gk n l=0 then z else c (gk n l)
 | []=>by simp [scan,gk]
 |
  v::l=>by
  simp only [scan,gk];by_cases h:v.gName=n
  ·simp only [h,if_true];cases v.gPtr<;>simp;by_cases h2:0 < v.gSize<;>simp [h2]
  simp only [h,if_false];exact scan_gk n c z l
theorem Kk3 (b:Bool):Kdp b=some (bif b then 2 else 1):=by unfold Kdp;cases b<;>rfl
theorem Kku {s:KE}{n:ByteArray}(hb:s.gP.gGlobals.length≤4611686018427387904):KbC s n=some (gk n s.gP.gGlobals):=by
 unfold KbC;rw [KbD s.gP.gGlobals (fun (_:Unit) g=>if g.gName=n then .inr (Sum.inr (bif g.gPtr then 2 else bif decide (0 < g.gSize) then 3 else 1)) else .inl ()) (.inl ())
  (fun pre x post h=>by
   simp only [Kbi h,cond_true];rw [h,Kbo,Option.bind_some];by_cases hn:x.gName=n
   ·simp only [hn,decide_true,cond_true,if_true,Kk3];by_cases h2:0 < x.gSize<;>cases x.gPtr<;>simp [h2]
   simp only [hn,decide_false,cond_false,if_false,Ka1 h hb];rfl) (by simp)]
 rw [Option.bind_some,scan_gk n Sum.inr (Sum.inl ())];split
 ·rename_i h;simp [h]
 simp
theorem Kmh {p:Kw}{n:ByteArray}(hb:p.gGlobals.length≤4611686018427387904):KfN p n=some (gk n p.gGlobals):=by
 unfold KfN;rw [KbD p.gGlobals (fun (_:Unit) g=>if g.gName=n then .inr (Sum.inr (bif g.gPtr then 2 else bif decide (0 < g.gSize) then 3 else 1)) else .inl ()) (.inl ())
  (fun pre x post h=>by
   simp only [Kbi h,cond_true];rw [h,Kbo,Option.bind_some];by_cases hn:x.gName=n
   ·simp only [hn,decide_true,cond_true,if_true];by_cases h2:0 < x.gSize<;>cases x.gPtr<;>simp [h2]
   simp only [hn,decide_false,cond_false,if_false,Ka1 h hb];rfl) (by simp)]
 rw [Option.bind_some,scan_gk n Sum.inr (Sum.inl ())];split
 ·rename_i h;simp [h]
 simp
end
section
open Go
set_option linter.all false
theorem KmZ {s:KE}{n:ByteArray}(h1:s.gF.gParams.length≤4611686018427387904)(h2:s.gF.gLocals.length≤4611686018427387904):Kc4 s n=some (vk n (s.gF.gParams++s.gF.gLocals)):=by
 unfold Kc4;have inner:∀ x:List Kab,x.length≤4611686018427387904→loopM (fun (s227:Int)=>(bif (decide (s227 < (x.length:Int))) then ((idx x s227).bind fun x241=>(bif (decide (x241.gName=n)) then ((Kdp x241.gPtr).bind fun x244=>some (Step.done (τ:=Unit⊕Int) (.inr x244))) else some (.next (IntKind.i64.wrap (s227+(1:Int)))))) else some (.done (.inl ())))) (0:Int)=some (if vk n x=0 then .inl () else .inr (vk n x)):=by
  intro x hb;rw [KbD x (fun (_:Unit) v=>if v.gName=n then .inr (Sum.inr (bif v.gPtr then 2 else 1)) else .inl ()) (.inl ())
   (fun pre x post h=>by
    simp only [Kbi h,cond_true];rw [h,Kbo,Option.bind_some];by_cases hn:x.gName=n
    ·simp only [hn,decide_true,cond_true,if_true,Kk3];rfl
    simp only [hn,decide_false,cond_false,if_false,Ka1 h hb];rfl) (by simp),scan_vk n Sum.inr (Sum.inl ())]
 rw [KbD [s.gF.gParams,s.gF.gLocals] (fun (_:Unit) x=>if vk n x=0 then .inl () else .inr (Sum.inr (vk n x))) (.inl ())
  (fun pre x post h=>by
   have hlt:decide ((pre.length:Int) < 2)=true:=by simpa using Kbi h
   simp only [hlt,cond_true];have hx:x.length≤4611686018427387904:=by
    have:=Kdi h;simp only [List.mem_cons,List.not_mem_nil,or_false] at this;rcases this with rfl|rfl<;>assumption
   rw [h,Kbo,Option.bind_some,inner x hx,Option.bind_some];have hi:=Ka1 h (by simp);by_cases hn:vk n x=0
   ·simp only [hn,if_true,Sum.elim_inl,hi]
   simp only [hn,if_false,Sum.elim_inr]) (by simp)]
 rw [Option.bind_some,KmY];simp only [scan];by_cases h1:vk n s.gF.gParams=0
 ·simp only [h1,if_true];by_cases h2:vk n s.gF.gLocals=0
  ·simp [h2]
  simp [h2]
 simp [h1]
theorem Km0 {f:Kq}{n:ByteArray}(hb:f.gParams.length+f.gLocals.length≤8388608):Kfs f n=some (vk n (f.gParams++f.gLocals)):=by
 unfold Kfs;rw [Kdj (by omega) (by simp;omega),Option.bind_some,List.nil_append,Kdj (by omega) (by omega),Option.bind_some];rw [KbD (f.gParams++f.gLocals) (fun (_:Unit) v=>if v.gName=n then .inr (Sum.inr (bif v.gPtr then 2 else 1)) else .inl ()) (.inl ())
  (fun pre x post h=>by
   simp only [Kbi h,cond_true];rw [h,Kbo,Option.bind_some,Option.bind_some];by_cases hn:x.gName=n
   ·simp only [hn,decide_true,cond_true,if_true];cases x.gPtr<;>rfl
   simp only [hn,decide_false,cond_false,if_false,Ka1 h (by simp;omega)];rfl) (by simp),Option.bind_some,scan_vk n Sum.inr (Sum.inl ())]
 split
 ·rename_i h;simp [h]
 simp
def kd (p:Kw)(f:Kq)(n:ByteArray):Int:=if vk n (f.gParams++f.gLocals)=0 then gk n p.gGlobals else vk n (f.gParams++f.gLocals)
structure Fit (p:Kw) (f:Kq):Prop where
 gl:p.gGlobals.length≤1048576
 fu:p.gFuncs.length≤1048576
 pa:∀ g∈p.gFuncs,g.gParams.length≤1048576
 fp:f.gParams.length≤1048576
 fl:f.gLocals.length≤1048576
theorem KlU {p:Kw}{f:Kq}{n:ByteArray}(hf:Fit p f):Kgf p f n=some (kd p f n):=by
 have:=hf.gl;have:=hf.fp;have:=hf.fl
 unfold Kgf;rw [Km0 (by omega),Kmh (by omega)];simp only [Option.bind_some];unfold kd;by_cases h:vk n (f.gParams++f.gLocals)=0
 ·simp [h]
 have h':(vk n (f.gParams++f.gLocals) != 0)=true:=by simpa using h
 simp only [h',cond_true,h,if_false]
def mus (k at_:Int)(ks:List Int):(Int×Int)⊕Int:=if k=0 then .inl (at_,7) else if k∈ks then .inr k else .inl (at_,9)
theorem scan_memI (k:Int){τ:Type}(y z:τ):∀ ks:List Int,scan (fun (_:Unit) x=>bif x==k then .inr y else .inl ()) (fun _=>z) () ks=if k∈ks then y else z
 | []=>by simp [scan]
 |
  x::l=>by
  simp only [scan,List.mem_cons];by_cases h:x=k
  ·subst h;simp
  have h':¬ k=x:=fun e=>h e.symm
  have hb:(x==k)=false:=by simpa using h
  simp only [hb,cond_false,h',false_or];exact scan_memI k y z l
theorem Kld {k at_:Int}{ks:List Int}(hb:ks.length≤4611686018427387904):KfM k at_ ks=some (mus k at_ ks):=by
 unfold KfM mus;by_cases hk:k=0
 ·subst hk;simp [Kbp]
 have hk':(k==0)=false:=by simpa using hk
 simp only [hk',cond_false,Option.bind_some,Sum.elim_inl,hk,if_false];rw [KbD ks (fun (_:Unit) x=>bif x==k then .inr (Sum.inr (Sum.inr k)) else .inl ()) (.inl ())
  (fun pre x post h=>by
   simp only [Kbi h,cond_true];rw [h,Kbo,Option.bind_some];by_cases hn:x==k
   ·simp [hn]
   rw [Bool.not_eq_true] at hn;simp only [hn,cond_false,Ka1 h hb];rfl) (by simp),Option.bind_some,scan_memI k]
 by_cases h:k∈ks
 ·simp [h]
 simp [h,Kbp]
theorem Kh1 {p:Kw}{f:Kq}{n:ByteArray}{at_:Int}{ks:List Int}(hf:Fit p f)(hb:ks.length≤4611686018427387904):Kbb ⟨p,f⟩ n at_ ks=some (mus (kd p f n) at_ ks):=by
 have:=hf.gl;have:=hf.fp;have:=hf.fl
 unfold Kbb;rw [KmZ (by simp only;omega) (by simp only;omega),Kku (by simp only;omega)];simp only [Option.bind_some];unfold kd;by_cases h:vk n (f.gParams++f.gLocals)=0
 ·simp only [h,beq_self_eq_true,cond_true,Option.bind_some,if_true,Kld hb];cases mus (gk n p.gGlobals) at_ ks<;>rfl
 have h':(vk n (f.gParams++f.gLocals)==0)=false:=by simpa using h
 simp only [h',cond_false,Option.bind_some,h,if_false,Kld hb];cases mus (vk n (f.gParams++f.gLocals)) at_ ks<;>rfl
theorem Kmi {p:Kw}{f:Kq}{e:Kc}{w:Int}(hf:Fit p f):KcB ⟨p,f⟩ e w=some (Sum.elim .inl (fun _=>.inr 2) (mus (if vk e.gName (f.gParams++f.gLocals)=0 then gk e.gName p.gGlobals else 2) e.gAt [w])):=by
 have:=hf.gl;have:=hf.fp;have:=hf.fl
 unfold KcB;rw [KmZ (by simp only;omega) (by simp only;omega),Kku (by simp only;omega)];simp only [Option.bind_some];by_cases h:vk e.gName (f.gParams++f.gLocals)=0
 ·simp only [h,bne_self_eq_false,cond_false,Option.bind_some,if_true,Kld (show [w].length≤4611686018427387904 by simp)];cases mus (gk e.gName p.gGlobals) e.gAt [w]<;>rfl
 have h':(vk e.gName (f.gParams++f.gLocals) != 0)=true:=by simpa using h
 simp only [h',cond_true,Option.bind_some,h,if_false,Kld (show [w].length≤4611686018427387904 by simp)];cases mus 2 e.gAt [w]<;>rfl
theorem is_eq (k a b:Int):Kef k a b=some (if k=0 then 7 else if k=a∨k=b then 0 else 9):=by
 unfold Kef;by_cases h0:k=0
 ·subst h0;simp
 have e0:(k==0)=false:=by simpa using h0
 simp only [e0,cond_false,h0,if_false];by_cases ha:k=a
 ·subst ha;simp
 have ea:(k==a)=false:=by simpa using ha
 simp only [ea,cond_false,ha,false_or];by_cases hb:k=b
 ·subst hb;simp
 have eb:(k==b)=false:=by simpa using hb
 simp only [eb,cond_false,hb,if_false]
def kn (op:Int):Int:=if op=1∨op=2∨op=4∨op=18∨op=19 then 0 else if op=3∨op=20∨op=5∨op=6 then 1 else if 7≤op∧op≤17 then 2 else -1
theorem ckids_eq (op:Int):KeQ op=some (kn op):=by
 unfold KeQ kn;by_cases h1:op=1
 ·subst h1;rfl
 by_cases h2:op=2
 ·subst h2;rfl
 by_cases h3:op=4
 ·subst h3;rfl
 by_cases h4:op=18
 ·subst h4;rfl
 by_cases h5:op=19
 ·subst h5;rfl
 by_cases h6:op=3
 ·subst h6;rfl
 by_cases h7:op=20
 ·subst h7;rfl
 by_cases h8:op=5
 ·subst h8;rfl
 by_cases h9:op=6
 ·subst h9;rfl
 simp only [beq_eq_false_iff_ne.2 h1,beq_eq_false_iff_ne.2 h2,beq_eq_false_iff_ne.2 h3,beq_eq_false_iff_ne.2 h4,beq_eq_false_iff_ne.2 h5,beq_eq_false_iff_ne.2 h6,beq_eq_false_iff_ne.2 h7,beq_eq_false_iff_ne.2 h8,beq_eq_false_iff_ne.2 h9,cond_false,Option.bind_some,Sum.elim_inl,h1,h2,h3,h4,h5,h6,h7,h8,h9,false_or,if_false];by_cases ha:7≤op<;>by_cases hb:op≤17<;>simp [ha,hb]
theorem rkids_eq (op:Int):Khf op=some (kn op):=by
 by_cases h:op < 1∨20 < op
 ·unfold Khf kn;have e:(if op=1∨op=2∨op=4∨op=18∨op=19 then (0:Int) else if op=3∨op=20∨op=5∨op=6 then 1 else if 7≤op∧op≤17 then 2 else -1)=-1:=by
   rw [if_neg (by omega),if_neg (by omega),if_neg (by omega)]
  rw [e];rcases h with h|h
  ·simp [h]
  by_cases h2:op < 1<;>simp [h,h2]
 have hc:op=1∨op=2∨op=3∨op=4∨op=5∨op=6∨op=7∨op=8∨op=9∨op=10∨op=11∨op=12∨op=13∨op=14∨op=15∨op=16∨op=17∨op=18∨op=19∨op=20:=by omega
 rcases hc with rfl|rfl|rfl|rfl|rfl|rfl|rfl|rfl|rfl|rfl|rfl|rfl|rfl|rfl|rfl|rfl|rfl|rfl|rfl|rfl<;>rfl
end
section
open Go
set_option linter.all false
def fn1:List (Kc×Int)→Option Int
 | []=>none
 | (e,t)::l=>if t=1 then fn1 l else some e.gAt
def tyO (p:Kw)(f:Kq)(op:Int)(name:ByteArray)(at_:Int)(ks:List Kc)(ts:List Int):(Int×Int)⊕Int:=
 if op=14∨op=15 then
  match ks,ts with
  | [_,b],[x,y]=>if x=y then .inr 1 else .inl (b.gAt,9)
  | _,_=>.inr 1
 else match fn1 (ks.zip ts) with
  | some a=>.inl (a,9)
  |
   none=>
   if op=2 then mus (kd p f name) at_ [1,2]
   else if op=3 then Sum.elim .inl (fun _=>.inr 1) (mus (kd p f name) at_ [3])
   else if op=4 then Sum.elim .inl (fun _=>.inr 1) (mus (kd p f name) at_ [2])
   else if op=18 then .inr 2
   else if op=19 then Sum.elim .inl (fun _=>.inr 2) (mus (if vk name (f.gParams++f.gLocals)=0 then gk name p.gGlobals else 2) at_ [1])
   else if op=20 then Sum.elim .inl (fun _=>.inr 2) (mus (if vk name (f.gParams++f.gLocals)=0 then gk name p.gGlobals else 2) at_ [3])
   else .inr 1
mutual
def tyE (p:Kw)(f:Kq):Kc→(Int×Int)⊕Int
 | ⟨op,_,name,ks,at_⟩=>if kn op < 0∨(ks.length:Int) ≠ kn op then .inl (at_,2) else Sum.elim .inl (fun ts=>tyO p f op name at_ ks ts) (tyL p f ks)
def tyL (p:Kw) (f:Kq):List Kc→(Int×Int)⊕List Int
 | []=>.inr []
 | e::l=>Sum.elim .inl (fun t=>Sum.elim .inl (fun ts=>.inr (t::ts)) (tyL p f l)) (tyE p f e)
end
theorem tyE_eq (p:Kw)(f:Kq)(e:Kc):tyE p f e=if kn e.gOp < 0∨(e.gKids.length:Int) ≠ kn e.gOp then .inl (e.gAt,2) else Sum.elim .inl (fun ts=>tyO p f e.gOp e.gName e.gAt e.gKids ts) (tyL p f e.gKids):=by cases e;simp only [tyE]
theorem KjY {p:Kw}{f:Kq}:∀ {l:List Kc} {ts:List Int},tyL p f l=.inr ts→ts.length=l.length
 | [],ts,h=>by simp only [tyL,Sum.inr.injEq] at h;subst h;rfl
 |
  e::l,ts,h=>by
  simp only [tyL] at h;cases h1:tyE p f e with
  | inl pe=>rw [h1] at h;cases h
  |
   inr t=>
   rw [h1] at h;cases h2:tyL p f l with
   | inl pe=>rw [h2] at h;cases h
   |
    inr ts'=>
    rw [h2] at h;simp only [Sum.elim_inr,Sum.inr.injEq] at h;subst h;simp [KjY h2]
theorem KgB:∀ l:List Kc,l.length≤szEs l
 | []=>by simp [szEs]
 |
  e::l=>by
  have:=KgB l;have:=Kf7 e;simp only [szEs,List.length_cons];omega
theorem zip_at {β γ:Type}{l:List β}{m:List γ}(hl:l.length=m.length){pre post:List (β×γ)}{x:β}{y:γ}(h:l.zip m=pre++(x,y)::post):idx l (pre.length:Int)=some x∧idx m (pre.length:Int)=some y:=by
 have h1:l=pre.map Prod.fst++x::post.map Prod.fst:=by
  have:=congrArg (List.map Prod.fst) h;rw [List.map_fst_zip (by omega)] at this;simpa using this
 have h2:m=pre.map Prod.snd++y::post.map Prod.snd:=by
  have:=congrArg (List.map Prod.snd) h;rw [List.map_snd_zip (by omega)] at this;simpa using this
 exact ⟨idx_pre2 h1 (by simp),idx_pre2 h2 (by simp)⟩
theorem KhY (e:Kc)(t:Int):Kb4 e t=some (if t=1 then .inr () else .inl (e.gAt,9)):=by
 unfold Kb4;by_cases h:t=1
 ·subst h;rfl
 have h':(t != 1)=true:=by simpa using h
 simp [h',h,Kbp]
theorem Kkv {τ:Type}(c:Int→τ)(z:τ):∀ l:List (Kc×Int),scan (fun (_:Unit) (x:Kc×Int)=>if x.2=1 then .inl () else .inr (c x.1.gAt)) (fun _=>z) () l=match fn1 l with|some a=>c a|none=>z
 | []=>rfl
 |
  (e,t)::l=>by
  simp only [scan,fn1];by_cases h:t=1
  ·simp only [h,if_true];exact Kkv c z l
  simp only [h,if_false]
theorem KlV {p:Kw}{f:Kq}{ρ:Type}(c:Int×Int→ρ)(d:List Int→ρ):∀ (l:List Kc) (a:List Int),scan (fun (a:List Int) x=>Sum.elim (fun pe=>.inr (c pe)) (fun t=>.inl (a++[t])) (tyE p f x)) d a l=Sum.elim c (fun ts=>d (a++ts)) (tyL p f l)
 | [],a=>by simp [scan,tyL]
 |
  e::l,a=>by
  simp only [scan,tyL];cases h1:tyE p f e with
  | inl pe=>rfl
  |
   inr t=>
   simp only [Sum.elim_inr];rw [KlV c d l (a++[t])];cases tyL p f l with
   | inl pe=>rfl
   | inr ts=>simp
theorem ints_b {p:Kw}{f:Kq}{g0:KE→List Kc→Option ((Int×Int)⊕List Int)}{g1:KE→Kc→Option ((Int×Int)⊕Int)}{l:List Kc}(hb:l.length≤1048576)
  (h:∀ e∈l,g1 ⟨p,f⟩ e=some (tyE p f e)):Kbj g0 g1 ⟨p,f⟩ l=some (tyL p f l):=by
 unfold Kbj;rw [Kkt l (fun (a:List Int) x=>Sum.elim (fun pe=>.inr (Sum.inr (Sum.inl pe))) (fun t=>.inl (a++[t])) (tyE p f x)) (fun a=>.inl a) (fun pre a=>a.length=pre.length) [] rfl
  (fun pre x post a a' _ hi hs=>by
   cases ht:tyE p f x with
   | inl pe=>rw [ht] at hs;cases hs
   | inr t=>rw [ht] at hs;simp only [Sum.elim_inr,Sum.inl.injEq] at hs;subst hs;simp [hi])
  (fun pre x post a e hi=>by
   have hx:=Kdi e;have hlen:pre.length < l.length:=by rw [e];simp
   simp only [Kbi e,cond_true];rw [e,Kbo,Option.bind_some,h x hx,Option.bind_some];cases ht:tyE p f x with
   | inl pe=>rfl
   |
    inr t=>
    simp only [Sum.elim_inr,Sum.elim_inl];rw [Kdj (by omega) (by simp;omega),Option.bind_some,Ka1 e (by omega)])
  (fun a hi=>by simp),Option.bind_some,KlV (fun pe=>Sum.inr (Sum.inl pe)) (fun a=>Sum.inl a) l []]
 cases tyL p f l<;>rfl
theorem mus_e {k a:Int}{ks:List Int}{pe:Int×Int}(h:mus k a ks=.inl pe):pe=(a,7)∨pe=(a,9):=by
 unfold mus at h;split at h
 ·simp only [Sum.inl.injEq] at h;exact .inl h.symm
 split at h
 ·cases h
 simp only [Sum.inl.injEq] at h;exact .inr h.symm
theorem expr_b {p:Kw}{f:Kq}(hf:Fit p f){g0:KE→List Kc→Option ((Int×Int)⊕List Int)}{g1:KE→Kc→Option ((Int×Int)⊕Int)}{e:Kc}(hb:e.gKids.length≤1048576)
  (h:g0 ⟨p,f⟩ e.gKids=some (tyL p f e.gKids)):Kbk g0 g1 ⟨p,f⟩ e=some (tyE p f e):=by
 unfold Kbk;rw [ckids_eq,Option.bind_some,tyE_eq];by_cases hk:kn e.gOp < 0
 ·simp [hk,Kbp]
 by_cases hl:(e.gKids.length:Int)=kn e.gOp;case neg=>
  have hl':((e.gKids.length:Int) != kn e.gOp)=true:=by simpa using hl
  simp only [hk,decide_false,cond_false,Option.bind_some,hl',cond_true,Kbp,Sum.elim_inl,Sum.elim_inr,false_or,ne_eq,hl,not_false_eq_true,if_true]
 have hl':((e.gKids.length:Int) != kn e.gOp)=false:=by simpa using hl
 rw [if_neg (show ¬(kn e.gOp < 0∨(e.gKids.length:Int) ≠ kn e.gOp) by omega)];simp only [hk,decide_false,cond_false,Option.bind_some,hl',Sum.elim_inl,h];cases ht:tyL p f e.gKids with
 | inl pe=>rfl
 |
  inr ts=>
  have hlen:=KjY ht;simp only [Sum.elim_inr];unfold tyO;by_cases h14:e.gOp=14∨e.gOp=15
  ·have hc:(bif (e.gOp==(14:Int)) then some true else some (e.gOp==(15:Int)))=some true:=by
    rcases h14 with h|h<;>simp [h]
   rw [hc];simp only [Option.bind_some,cond_true,h14,if_true];have h2:kn e.gOp=2:=by rcases h14 with h|h<;>rw [h]<;>rfl
   have hk2:e.gKids.length=2:=by omega
   match hK:e.gKids,hT:ts,hk2,hlen with
   |
    [a,b],[x,y],_,_=>
    show (some x).bind _=_
    simp only [Option.bind_some];show (some y).bind _=_
    simp only [Option.bind_some];by_cases hxy:x=y
    ·subst hxy;simp
    have:(x != y)=true:=by simpa using hxy
    simp only [this,cond_true,hxy,if_false];show Option.bind ((some b).bind _) _=_
    simp [Kbp]
  have hc:(bif (e.gOp==(14:Int)) then some true else some (e.gOp==(15:Int)))=some false:=by
   have h1:(e.gOp==(14:Int))=false:=by simp;omega
   have h2:(e.gOp==(15:Int))=false:=by simp;omega
   rw [h1,h2];rfl
  rw [hc];simp only [Option.bind_some,cond_false,h14,if_false];have hz:(e.gKids.zip ts).length=e.gKids.length:=by simp [hlen]
  rw [KbD (e.gKids.zip ts) (fun (_:Unit) (x:Kc×Int)=>if x.2=1 then .inl () else .inr (Sum.inr (Sum.inl (x.1.gAt,9)))) (.inl ())
   (fun pre x post hh=>by
    obtain ⟨x,t⟩:=x;obtain ⟨i1,i2⟩:=zip_at hlen.symm hh;have hlt:=Kbi hh;rw [hz] at hlt;simp only [hlt,cond_true,i1,i2,Option.bind_some,KhY];by_cases h1:t=1
    ·simp only [h1,if_true,Sum.elim_inr,Sum.elim_inl,Ka1 hh (by omega)]
    simp only [h1,if_false,Sum.elim_inl,Sum.elim_inr])
   (by rw [hz];simp),Option.bind_some,Kkv (fun a=>Sum.inr (Sum.inl (a,9))) (Sum.inl ())]
  cases hfn:fn1 (e.gKids.zip ts) with
  | some a=>rfl
  |
   none=>
   simp only [Sum.elim_inl];by_cases o2:e.gOp=2
   ·simp only [o2,beq_self_eq_true,cond_true,if_true,Kh1 hf (show [(1:Int),2].length≤4611686018427387904 by simp),Option.bind_some];cases mus (kd p f e.gName) e.gAt [1,2]<;>rfl
   by_cases o3:e.gOp=3
   ·simp only [o3,Kh1 hf (show [(3:Int)].length≤4611686018427387904 by simp),Option.bind_some];cases mus (kd p f e.gName) e.gAt [3]<;>rfl
   by_cases o4:e.gOp=4
   ·simp only [o4,Kh1 hf (show [(2:Int)].length≤4611686018427387904 by simp),Option.bind_some];cases mus (kd p f e.gName) e.gAt [2]<;>rfl
   by_cases o18:e.gOp=18
   ·simp only [o18];rfl
   by_cases o19:e.gOp=19
   ·simp only [o19,Kmi hf,Option.bind_some];cases mus (if vk e.gName (f.gParams++f.gLocals)=0 then gk e.gName p.gGlobals else 2) e.gAt [1]<;>rfl
   by_cases o20:e.gOp=20
   ·simp only [o20,Kmi hf,Option.bind_some];cases mus (if vk e.gName (f.gParams++f.gLocals)=0 then gk e.gName p.gGlobals else 2) e.gAt [3]<;>rfl
   simp only [beq_eq_false_iff_ne.2 o2,beq_eq_false_iff_ne.2 o3,beq_eq_false_iff_ne.2 o4,beq_eq_false_iff_ne.2 o18,beq_eq_false_iff_ne.2 o19,beq_eq_false_iff_ne.2 o20,cond_false,o2,o3,o4,o18,o19,o20,if_false]
theorem exprs_g {p:Kw}{f:Kq}(hf:Fit p f):∀ n:Nat,(∀ l,2*dpEs l+1≤n→szEs l≤1048576→(Kac n).1 ⟨p,f⟩ l=some (tyL p f l))∧(∀ e,2*dpE e≤n→szE e≤1048576→(Kac n).2 ⟨p,f⟩ e=some (tyE p f e))
 | 0=>⟨fun l h=>by omega,fun e h _=>by rw [Ke9] at h;omega⟩
 |
  n+1=>by
  obtain ⟨h2,h1⟩:=exprs_g hf n;refine ⟨fun l h hb=>?_,fun e h hb=>?_⟩
  ·have hl:=KgB l;exact ints_b (g0:=(Kac n).1) (by omega) fun e he=>h1 e (by have:=KgA he;omega) (by have:=KfP he;omega)
  have he:=Ke9 e;have hs:=Kf7 e;have hl:=KgB e.gKids;exact expr_b hf (g1:=(Kac n).2) (by omega) (h2 _ (by omega) (by omega))
theorem ints_eq {p:Kw}{f:Kq}(hf:Fit p f){l:List Kc}(hb:szEs l≤1048576):KdW ⟨p,f⟩ l=some (tyL p f l):=Kg1 _ _ (2*dpEs l+1) ((exprs_g hf _).1 l (Nat.le_refl _) hb)
end
section
open Go
set_option linter.all false
def rv (r:(Int×Int)⊕Int):Int×Int×Int:=Sum.elim (fun pe=>(0,pe.1,pe.2)) (fun t=>(t,0,0)) r
theorem tyO_e {p:Kw}{f:Kq}{op:Int}{name:ByteArray}{at_:Int}{ks:List Kc}{ts:List Int}{pe:Int×Int}(h:tyO p f op name at_ ks ts=.inl pe):pe.2 ≠ 0:=by
 have hm:∀ {k a:Int} {ls:List Int} {pe:Int×Int},mus k a ls=.inl pe→pe.2 ≠ 0:=fun h=>by rcases mus_e h with rfl|rfl<;>simp
 have he:∀ {k a:Int} {ls:List Int} {u:Int} {pe:Int×Int},Sum.elim (γ:=(Int×Int)⊕Int) .inl (fun _=>.inr u) (mus k a ls)=.inl pe→pe.2 ≠ 0:=fun {k a ls u pe} h=>by
  cases hc:mus k a ls with
  | inl q=>rw [hc] at h;simp only [Sum.elim_inl,Sum.inl.injEq] at h;subst h;exact hm hc
  | inr q=>rw [hc] at h;cases h
 unfold tyO at h;split at h
 ·split at h
  ·split at h
   ·cases h
   simp only [Sum.inl.injEq] at h;subst h;simp
  cases h
 split at h
 ·simp only [Sum.inl.injEq] at h;subst h;simp
 split at h
 ·exact hm h
 split at h
 ·exact he h
 split at h
 ·exact he h
 split at h
 ·cases h
 split at h
 ·exact he h
 split at h
 ·exact he h
 cases h
mutual
theorem tyE_e {p:Kw}{f:Kq}:∀ {e:Kc} {pe:Int×Int},tyE p f e=.inl pe→pe.2 ≠ 0
 |
  ⟨op,n,name,ks,at_⟩,pe,h=>by
  simp only [tyE] at h;split at h
  ·simp only [Sum.inl.injEq] at h;subst h;simp
  cases ht:tyL p f ks with
  | inl q=>rw [ht] at h;simp only [Sum.elim_inl,Sum.inl.injEq] at h;subst h;exact tyL_e ht
  | inr ts=>rw [ht] at h;exact tyO_e h
theorem tyL_e {p:Kw} {f:Kq}:∀ {l:List Kc} {pe:Int×Int},tyL p f l=.inl pe→pe.2 ≠ 0
 | [],pe,h=>by simp only [tyL] at h;cases h
 |
  e::l,pe,h=>by
  simp only [tyL] at h;cases h1:tyE p f e with
  | inl q=>rw [h1] at h;simp only [Sum.elim_inl,Sum.inl.injEq] at h;subst h;exact tyE_e h1
  |
   inr t=>
   rw [h1] at h;cases h2:tyL p f l with
   | inl q=>rw [h2] at h;simp only [Sum.elim_inl,Sum.elim_inr,Sum.inl.injEq] at h;subst h;exact tyL_e h2
   | inr ts=>rw [h2] at h;cases h
end
theorem Km1 {p:Kw}{f:Kq}{τ:Type}{g0:Kw→Kq→Kc→Option (Int×Int×Int)}{l:List Kc}(hb:l.length≤1048576)(h:∀ x∈l,g0 p f x=some (rv (tyE p f x)))(c:Int×Int→τ)(d:List Int→τ)
  {F:List Int×Int→Option (Step (List Int×Int) τ)}
  (hF:∀ s,F s=(bif (decide (s.2 < (l.length:Int))) then ((idx l s.2).bind fun x51=>((g0 p f x51).bind fun x52=>(bif (x52.2.2 != (0:Int)) then some (.done (c (x52.2.1,x52.2.2))) else ((app 8 s.1 ([x52.1]:List Int)).bind fun x55=>some (.next (x55,(IntKind.i64.wrap (s.2+(1:Int))))))))) else some (.done (d s.1)))) :
  loopM F (([]:List Int),(0:Int))=some (Sum.elim c d (tyL p f l)):=by
 rw [Kkt l (fun (a:List Int) x=>Sum.elim (fun pe=>.inr (c pe)) (fun t=>.inl (a++[t])) (tyE p f x)) d (fun pre a=>a.length=pre.length) [] rfl
  (fun pre x post a a' _ hi hs=>by
   cases ht:tyE p f x with
   | inl pe=>rw [ht] at hs;cases hs
   | inr t=>rw [ht] at hs;simp only [Sum.elim_inr,Sum.inl.injEq] at hs;subst hs;simp [hi])
  (fun pre x post a e hi=>by
   have hx:=Kdi e;have hlen:pre.length < l.length:=by rw [e];simp
   rw [hF];simp only [Kbi e,cond_true];have hix:idx l (pre.length:Int)=some x:=by rw [e];exact Kbo _ _ _
   rw [hix,Option.bind_some,h x hx,Option.bind_some];cases ht:tyE p f x with
   |
    inl pe=>
    have h0:(pe.2 != 0)=true:=by simpa using tyE_e ht
    simp only [rv,Sum.elim_inl,h0,cond_true,Sum.elim_inr]
   |
    inr t=>
    simp only [rv,Sum.elim_inr,bne_self_eq_false,cond_false,Sum.elim_inl];rw [Kdj (by omega) (by simp;omega),Option.bind_some,Ka1 e (by omega)])
  (fun a hi=>by rw [hF];simp),KlV c d l []]
 cases tyL p f l<;>simp
theorem is_mus (k a:Int)(x y u:Int)(r:Int×Int×Int)(hr:r=rv (Sum.elim .inl (fun _=>.inr u) (mus k a [x,y]))):(bif ((if k=0 then (7:Int) else if k=x∨k=y then 0 else 9) != 0) then ((0:Int),a,(if k=0 then (7:Int) else if k=x∨k=y then 0 else 9)) else (u,(0:Int),(0:Int)))=r:=by
 subst hr;unfold mus rv;by_cases h0:k=0
 ·simp [h0]
 by_cases h1:k=x∨k=y
 ·simp [h0,h1]
 simp [h0,h1]
theorem KiF (k a x:Int):mus k a [x,x]=mus k a [x]:=by unfold mus;simp
theorem mus_self {k a:Int}{ls:List Int}:Sum.elim (γ:=(Int×Int)⊕Int) .inl (fun _=>.inr k) (mus k a ls)=mus k a ls:=by
 unfold mus;split
 ·rfl
 split<;>rfl
theorem rtype_b {p:Kw}{f:Kq}(hf:Fit p f){g0:Kw→Kq→Kc→Option (Int×Int×Int)}{e:Kc}(hb:e.gKids.length≤1048576)
  (h:∀ x∈e.gKids,g0 p f x=some (rv (tyE p f x))):Keg g0 p f e=some (rv (tyE p f e)):=by
 have:=hf.fp;have:=hf.fl
 unfold Keg;rw [rkids_eq,Option.bind_some,tyE_eq];by_cases hk:kn e.gOp < 0
 ·simp [hk,rv]
 by_cases hl:(e.gKids.length:Int)=kn e.gOp;case neg=>
  have hl':(kn e.gOp != (e.gKids.length:Int))=true:=by simpa using fun h=>hl h.symm
  rw [if_pos (by omega)];simp only [hk,decide_false,cond_false,Option.bind_some,hl',cond_true];rfl
 have hl':(kn e.gOp != (e.gKids.length:Int))=false:=by simpa using hl.symm
 rw [if_neg (show ¬(kn e.gOp < 0∨(e.gKids.length:Int) ≠ kn e.gOp) by omega)];simp only [hk,decide_false,cond_false,Option.bind_some,hl'];rw [Km1 (τ:=List Int⊕(Int×Int×Int)) hb h (fun pe=>.inr ((0:Int),pe.1,pe.2)) (fun a=>.inl a) (fun s=>rfl),Option.bind_some];cases ht:tyL p f e.gKids with
 | inl pe=>rfl
 |
  inr ts=>
  have hlen:=KjY ht;simp only [Sum.elim_inr,Sum.elim_inl];unfold tyO;by_cases h14:e.gOp=14∨e.gOp=15
  ·have hc:(bif (e.gOp==(14:Int)) then some true else some (e.gOp==(15:Int)))=some true:=by
    rcases h14 with h|h<;>simp [h]
   rw [hc];simp only [Option.bind_some,cond_true,h14,if_true];have h2:kn e.gOp=2:=by rcases h14 with h|h<;>rw [h]<;>rfl
   have hk2:e.gKids.length=2:=by omega
   match hK:e.gKids,hT:ts,hk2,hlen with
   |
    [a,b],[x,y],_,_=>
    show (some x).bind _=_
    simp only [Option.bind_some];show (some y).bind _=_
    simp only [Option.bind_some];by_cases hxy:x=y
    ·subst hxy;simp [rv]
    have:(x != y)=true:=by simpa using hxy
    simp only [this,cond_true,hxy,if_false];show ((some b).bind _)=_
    simp [rv]
  have hc:(bif (e.gOp==(14:Int)) then some true else some (e.gOp==(15:Int)))=some false:=by
   have h1:(e.gOp==(14:Int))=false:=by simp;omega
   have h2:(e.gOp==(15:Int))=false:=by simp;omega
   rw [h1,h2];rfl
  rw [hc];simp only [Option.bind_some,cond_false,h14,if_false];have hz:(e.gKids.zip ts).length=ts.length:=by simp [hlen]
  rw [KbD (e.gKids.zip ts) (fun (_:Unit) (x:Kc×Int)=>if x.2=1 then .inl () else .inr (Sum.inr ((0:Int),x.1.gAt,(9:Int)))) (.inl ())
   (fun pre x post hh=>by
    obtain ⟨x,t⟩:=x;obtain ⟨i1,i2⟩:=zip_at hlen.symm hh;have hlt:=Kbi hh;rw [hz] at hlt;simp only [hlt,cond_true,i1,i2,Option.bind_some];by_cases h1:t=1
    ·simp only [h1,bne_self_eq_false,cond_false,if_true,Sum.elim_inl,Ka1 hh (by omega)]
    have h1':(t != 1)=true:=by simpa using h1
    simp only [h1',cond_true,h1,if_false,Sum.elim_inr])
   (by rw [hz];simp),Option.bind_some,Kkv (fun a=>Sum.inr ((0:Int),a,(9:Int))) (Sum.inl ())]
  cases hfn:fn1 (e.gKids.zip ts) with
  | some a=>rfl
  |
   none=>
   simp only [Sum.elim_inl,KlU hf,Km0 (show f.gParams.length+f.gLocals.length≤8388608 by omega),is_eq,Option.bind_some];by_cases o2:e.gOp=2
   ·simp only [o2,beq_self_eq_true,cond_true,if_true,Option.bind_some];have:=is_mus (kd p f e.gName) e.gAt 1 2 (kd p f e.gName) _ rfl;rw [mus_self] at this;rw [← this];cases ((if kd p f e.gName=0 then (7:Int) else if kd p f e.gName=1∨kd p f e.gName=2 then 0 else 9) != 0)<;>rfl
   by_cases o3:e.gOp=3
   ·simp only [o3];have:=is_mus (kd p f e.gName) e.gAt 3 3 1 _ rfl;rw [KiF] at this;refine Eq.trans ?_ (congrArg some this);show (bif _ then _ else _)=some (bif _ then _ else _)
    cases ((if kd p f e.gName=0 then (7:Int) else if kd p f e.gName=3∨kd p f e.gName=3 then 0 else 9) != 0)<;>rfl
   by_cases o4:e.gOp=4
   ·simp only [o4];have:=is_mus (kd p f e.gName) e.gAt 2 2 1 _ rfl;rw [KiF] at this;refine Eq.trans ?_ (congrArg some this);show (bif _ then _ else _)=some (bif _ then _ else _)
    cases ((if kd p f e.gName=0 then (7:Int) else if kd p f e.gName=2∨kd p f e.gName=2 then 0 else 9) != 0)<;>rfl
   by_cases o18:e.gOp=18
   ·simp only [o18];rfl
   have adr:∀ w:Int,w ≠ 2→w ≠ 0→∀ r:Option (Int×Int×Int),(r=(bif ((bif (vk e.gName (f.gParams++f.gLocals) != 0) then (9:Int) else (if kd p f e.gName=0 then (7:Int) else if kd p f e.gName=w∨kd p f e.gName=w then 0 else 9)) != 0) then some ((0:Int),e.gAt,(bif (vk e.gName (f.gParams++f.gLocals) != 0) then (9:Int) else (if kd p f e.gName=0 then (7:Int) else if kd p f e.gName=w∨kd p f e.gName=w then 0 else 9))) else some ((2:Int),(0:Int),(0:Int))))→r=some (rv (Sum.elim .inl (fun _=>.inr 2) (mus (if vk e.gName (f.gParams++f.gLocals)=0 then gk e.gName p.gGlobals else 2) e.gAt [w]))):=by
    intro w hw hw0 r hr;rw [hr];by_cases hv:vk e.gName (f.gParams++f.gLocals)=0
    ·have hkd:kd p f e.gName=gk e.gName p.gGlobals:=by unfold kd;rw [if_pos hv]
     simp only [hv,bne_self_eq_false,cond_false,if_true,hkd];unfold mus rv;by_cases h0:gk e.gName p.gGlobals=0
     ·simp [h0]
     by_cases h1:gk e.gName p.gGlobals=w
     ·simp [h1,hw0]
     simp [h0,h1]
    have hv':(vk e.gName (f.gParams++f.gLocals) != 0)=true:=by simpa using hv
    have h2w:¬ (2:Int)=w:=fun q=>hw q.symm
    simp [hv',hv,mus,rv,h2w]
   by_cases o19:e.gOp=19
   ·simp only [o19];refine adr 1 (by decide) (by decide) _ ?_;cases (vk e.gName (f.gParams++f.gLocals) != 0)<;>rfl
   by_cases o20:e.gOp=20
   ·simp only [o20];refine adr 3 (by decide) (by decide) _ ?_;cases (vk e.gName (f.gParams++f.gLocals) != 0)<;>rfl
   simp only [beq_eq_false_iff_ne.2 o2,beq_eq_false_iff_ne.2 o3,beq_eq_false_iff_ne.2 o4,beq_eq_false_iff_ne.2 o18,beq_eq_false_iff_ne.2 o19,beq_eq_false_iff_ne.2 o20,cond_false,o2,o3,o4,o18,o19,o20,if_false];rfl
theorem rtype_g {p:Kw}{f:Kq}(hf:Fit p f):∀ (n:Nat) (e:Kc),dpE e≤n→szE e≤1048576→Kdn n p f e=some (rv (tyE p f e))
 | 0,e,h,_=>by rw [Ke9] at h;omega
 |
  n+1,e,h,hb=>by
  have he:=Ke9 e;have hs:=Kf7 e;have hl:=KgB e.gKids;exact rtype_b hf (by omega) fun x hx=>rtype_g hf n x (by have:=KgA hx;omega) (by have:=KfP hx;omega)
theorem rtype_eq {p:Kw}{f:Kq}(hf:Fit p f){e:Kc}(hb:szE e≤1048576):Kil p f e=some (rv (tyE p f e)):=Knv _ _ _ (dpE e) (rtype_g hf _ e (Nat.le_refl _) hb)
end
section
open Go
set_option linter.all false
def fn2:List (Kab×Int×Kc)→Option Int
 | []=>none
 | (v,t,e)::l=>if (bif v.gPtr then (2:Int) else 1)=t then fn2 l else some e.gAt
def caO (p:Kw)(f:Kq)(s:Km)(ts:List Int)(v:List Kab):(Int×Int)⊕Unit:=
 if v.length ≠ ts.length then .inl (s.gAt,2) else
 match fn2 (v.zip (ts.zip s.gExps)) with
 | some a=>.inl (a,9)
 | none=>if s.gName=ByteArray.mk #[] then .inr () else Sum.elim .inl (fun _=>.inr ()) (mus (kd p f s.gName) s.gAt [1])
def fpar (n:ByteArray):List Kq→Option (List Kab)
 | []=>none
 | g::l=>if g.gName=n then some g.gParams else fpar n l
def caS (p:Kw)(f:Kq)(s:Km)(ts:List Int):(Int×Int)⊕Unit:=
 match fpar s.gFunc p.gFuncs with
 | some v=>caO p f s ts v
 | none=>.inl (s.gAt,7)
theorem Kk4 {τ:Type}(c:List Kab→τ)(z:τ)(n:ByteArray):∀ l:List Kq,scan (fun (_:Unit) (g:Kq)=>if g.gName=n then .inr (c g.gParams) else .inl ()) (fun _=>z) () l=match fpar n l with|some v=>c v|none=>z
 | []=>rfl
 |
  g::l=>by
  simp only [scan,fpar];by_cases h:g.gName=n
  ·simp only [h,if_true]
  simp only [h,if_false];exact Kk4 c z n l
theorem KlW {τ:Type}(c:Int→τ)(z:τ):∀ l:List (Kab×Int×Kc),scan (fun (_:Unit) (x:Kab×Int×Kc)=>if (bif x.1.gPtr then (2:Int) else 1)=x.2.1 then .inl () else .inr (c x.2.2.gAt)) (fun _=>z) () l=match fn2 l with|some a=>c a|none=>z
 | []=>rfl
 |
  (v,t,e)::l=>by
  simp only [scan,fn2];by_cases h:(bif v.gPtr then (2:Int) else 1)=t
  ·simp only [h,if_true];exact KlW c z l
  simp only [h,if_false]
theorem zip3_at {l:List Kab}{m:List Int}{k:List Kc}(h1:l.length=m.length)(h2:m.length=k.length){pre post:List (Kab×Int×Kc)}{v:Kab}{t:Int}{e:Kc}(h:l.zip (m.zip k)=pre++(v,t,e)::post) :
  idx l (pre.length:Int)=some v∧idx m (pre.length:Int)=some t∧idx k (pre.length:Int)=some e:=by
 have hz:(m.zip k).length=m.length:=by simp [h2]
 obtain ⟨a1,_⟩:=zip_at (h1.trans hz.symm) h;have h3:m.zip k=pre.map Prod.snd++(t,e)::post.map Prod.snd:=by
  have:=congrArg (List.map Prod.snd) h;rw [List.map_snd_zip (by omega)] at this;simpa using this
 obtain ⟨b1,b2⟩:=zip_at h2 h3;simp only [List.length_map] at b1 b2;exact ⟨a1,b1,b2⟩
theorem ccall_eq {p:Kw}{f:Kq}(hf:Fit p f){s:Km}{ts:List Int}(hl:ts.length=s.gExps.length)(ht:∀ t∈ts,t=1∨t=2):KdX ⟨p,f⟩ s ts=some (caS p f s ts):=by
 have hfu:=hf.fu;unfold KdX;rw [KbD p.gFuncs (fun (_:Unit) (g:Kq)=>if g.gName=s.gFunc then .inr (Sum.inr (caO p f s ts g.gParams)) else .inl ()) (.inl ())
  (fun pre g post h=>by
   simp only [Kbi h,cond_true];have hix:idx p.gFuncs (pre.length:Int)=some g:=by rw [h];exact Kbo _ _ _
   rw [hix,Option.bind_some];have hg:=hf.pa g (Kdi h);by_cases hn:g.gName=s.gFunc
   ·simp only [hn,decide_true,Bool.not_true,cond_false,if_true,Sum.elim_inr];unfold caO;by_cases hle:g.gParams.length=ts.length;case neg=>
     have h':((g.gParams.length:Int) != (ts.length:Int))=true:=by simp;omega
     simp only [h',cond_true,hle,ne_eq,not_false_eq_true,if_true];simp [Kbp]
    have h':((g.gParams.length:Int) != (ts.length:Int))=false:=by simp;omega
    rw [if_neg (show ¬ g.gParams.length ≠ ts.length by omega)];simp only [h',cond_false,Option.bind_some,Sum.elim_inl];have hz:(g.gParams.zip (ts.zip s.gExps)).length=g.gParams.length:=by simp;omega
    have hz2:(g.gParams.zip (ts.zip s.gExps)).length=ts.length:=by omega
    rw [KbD (g.gParams.zip (ts.zip s.gExps)) (fun (_:Unit) (x:Kab×Int×Kc)=>if (bif x.1.gPtr then (2:Int) else 1)=x.2.1 then .inl () else .inr (Sum.inr (Sum.inl (x.2.2.gAt,9)))) (.inl ())
     (fun pre2 x post2 h2=>by
      obtain ⟨v,t,e⟩:=x;obtain ⟨i1,i2,i3⟩:=zip3_at hle hl h2;have hlt:=Kbi h2;rw [hz] at hlt;simp only [hlt,cond_true,i1,i2,i3,Option.bind_some,Kk3];by_cases hk:(bif v.gPtr then (2:Int) else 1)=t
      ·have hk':((bif v.gPtr then (2:Int) else 1) != t)=false:=by simpa using hk
       rw [hk',if_pos hk];simp only [cond_false,Sum.elim_inl];rw [Ka1 h2 (by omega)]
      have hk':((bif v.gPtr then (2:Int) else 1) != t)=true:=by simpa using hk
      rw [hk',if_neg hk];simp only [cond_true,Sum.elim_inr,Kbp,Option.bind_some,Sum.elim_inl])
     (by rw [hz];simp),Option.bind_some,KlW (fun a=>Sum.inr (Sum.inl (a,9))) (Sum.inl ())]
    cases fn2 (g.gParams.zip (ts.zip s.gExps)) with
    | some a=>rfl
    |
     none=>
     simp only [Sum.elim_inl];by_cases he:s.gName=ByteArray.mk #[]
     ·simp [he]
     simp only [he,decide_false,Bool.not_false,cond_true,if_false,Kh1 hf (show [(1:Int)].length≤4611686018427387904 by simp),Option.bind_some];cases mus (kd p f s.gName) s.gAt [1]<;>rfl
   simp only [hn,decide_false,Bool.not_false,cond_true,if_false,Sum.elim_inl,Ka1 h (by omega)]) (by simp),Option.bind_some,Kk4 (fun v=>Sum.inr (caO p f s ts v)) (Sum.inl ())]
 unfold caS;cases fpar s.gFunc p.gFuncs with
 | some v=>rfl
 | none=>rfl
theorem rcall_eq {p:Kw}{f:Kq}(hf:Fit p f){s:Km}{ts:List Int}(hl:ts.length=s.gExps.length)(ht:∀ t∈ts,t=1∨t=2):Kim p f s ts=some (Sum.elim id (fun _=>(if s.gName=ByteArray.mk #[] then 0 else s.gAt,0)) (caS p f s ts)):=by
 have hfu:=hf.fu;unfold Kim;rw [KbD p.gFuncs (fun (_:Unit) (g:Kq)=>if g.gName=s.gFunc then .inr (Sum.inr (Sum.elim id (fun _=>(if s.gName=ByteArray.mk #[] then 0 else s.gAt,0)) (caO p f s ts g.gParams))) else .inl ()) (.inl ())
  (fun pre g post h=>by
   simp only [Kbi h,cond_true];have hix:idx p.gFuncs (pre.length:Int)=some g:=by rw [h];exact Kbo _ _ _
   simp only [hix,Option.bind_some];have hg:=hf.pa g (Kdi h);by_cases hn:g.gName=s.gFunc
   ·simp only [hn,decide_true,Bool.not_true,cond_false,if_true,Sum.elim_inr];unfold caO;by_cases hle:g.gParams.length=ts.length;case neg=>
     have h':((g.gParams.length:Int) != (ts.length:Int))=true:=by simp;omega
     simp only [h',cond_true,hle,ne_eq,not_false_eq_true,if_true];rfl
    have h':((g.gParams.length:Int) != (ts.length:Int))=false:=by simp;omega
    rw [if_neg (show ¬ g.gParams.length ≠ ts.length by omega)];simp only [h',cond_false];have hz:(g.gParams.zip (ts.zip s.gExps)).length=g.gParams.length:=by simp;omega
    have hz2:(g.gParams.zip (ts.zip s.gExps)).length=ts.length:=by omega
    rw [KbD (g.gParams.zip (ts.zip s.gExps)) (fun (_:Unit) (x:Kab×Int×Kc)=>if (bif x.1.gPtr then (2:Int) else 1)=x.2.1 then .inl () else .inr (Sum.inr (x.2.2.gAt,(9:Int)))) (.inl ())
     (fun pre2 x post2 h2=>by
      obtain ⟨v,t,e⟩:=x;obtain ⟨i1,i2,i3⟩:=zip3_at hle hl h2;have hlt:=Kbi h2;rw [hz] at hlt;have htm:t=1∨t=2:=by
       have hm:=Kdi h2;exact ht t ((List.of_mem_zip ((List.of_mem_zip hm).2)).1)
      simp only [hlt,cond_true,i1,i2,i3,Option.bind_some];rcases htm with rfl|rfl<;>cases v.gPtr
      ·simp only [cond_false,if_true,Sum.elim_inl];rw [Ka1 h2 (by omega)];rfl
      ·simp only [cond_true];rfl
      ·simp only [cond_false];rfl
      simp only [cond_true,if_true,Sum.elim_inl];rw [Ka1 h2 (by omega)];rfl)
     (by rw [hz];simp),Option.bind_some,KlW (fun a=>Sum.inr (a,(9:Int))) (Sum.inl ())]
    cases fn2 (g.gParams.zip (ts.zip s.gExps)) with
    | some a=>rfl
    |
     none=>
     simp only [Sum.elim_inl];by_cases he:s.gName=ByteArray.mk #[]
     ·simp [he]
     simp only [he,decide_false,Bool.not_false,cond_true,if_false,KlU hf,is_eq,Option.bind_some];unfold mus;by_cases h0:kd p f s.gName=0
     ·simp [h0]
     by_cases h1:kd p f s.gName=1
     ·simp [h1]
     simp [h0,h1]
   simp only [hn,decide_false,Bool.not_false,cond_true,if_false,Sum.elim_inl,Ka1 h (by omega)]) (by simp),Option.bind_some,Kk4 (fun v=>Sum.inr (Sum.elim id (fun _=>(if s.gName=ByteArray.mk #[] then 0 else s.gAt,0)) (caO p f s ts v))) (Sum.inl ())]
 unfold caS;cases fpar s.gFunc p.gFuncs with
 | some v=>rfl
 | none=>rfl
end
section
open Go
set_option linter.all false
mutual
def szS:Km→Nat
 | ⟨_,_,_,es,ks,ls,_⟩=>1+szSs ks+szSs ls+szEs es
def szSs:List Km→Nat
 | []=>0
 | s::l=>szS s+szSs l
end
mutual
def hS:Km→Nat
 | ⟨_,_,_,_,ks,ls,_⟩=>1+max (hSs ks) (hSs ls)
def hSs:List Km→Nat
 | []=>1
 | s::l=>max (hS s) (hSs l)
end
theorem KhE (s:Km):szS s=1+szSs s.gKids+szSs s.gElse+szEs s.gExps:=by cases s;simp only [szS]
theorem hS_eq (s:Km):hS s=1+max (hSs s.gKids) (hSs s.gElse):=by cases s;simp only [hS]
theorem Klt:∀ l m,szSs (l++m)=szSs l+szSs m
 | [],m=>by simp [szSs]
 | e::l,m=>by simp only [List.cons_append,szSs,Klt l m];omega
theorem KjZ:∀ {l:List Km} {s:Km},s∈l→hS s≤hSs l
 |
  x::l,e,h=>by
  simp only [hSs];rcases List.mem_cons.1 h with rfl|h
  ·omega
  have:=KjZ h;omega
theorem Kh2:∀ {l:List Km} {s:Km},s∈l→szS s≤szSs l
 |
  x::l,e,h=>by
  simp only [szSs];rcases List.mem_cons.1 h with rfl|h
  ·omega
  have:=Kh2 h;omega
theorem Kh3:∀ l,1≤hSs l
 | []=>by simp [hSs]
 | s::l=>by have:=Kh3 l;simp only [hSs];omega
theorem Khq:∀ l,l.length≤szSs l
 | []=>by simp
 |
  e::l=>by
  have:=Khq l;have h:=KhE e;simp only [szSs,List.length_cons];omega
theorem fuel {l:List Km}{n:Nat}{x:Km}(h:hSs l≤n+1)(hx:x∈l):hSs x.gKids≤n∧hSs x.gElse≤n:=by
 have h1:=KjZ hx;have h2:=hS_eq x;omega
end
section
open Go
set_option linter.all false
def en (s:Km):Int:=if s.gOp=1∨s.gOp=3∨s.gOp=6∨s.gOp=7∨s.gOp=8∨s.gOp=9 then 1 else if s.gOp=2 then 2 else if s.gOp=4 then (s.gExps.length:Int) else if s.gOp=5 then 0 else -1
theorem cexps_eq (s:Km):KeP s=some (en s):=by
 unfold KeP en;by_cases h1:s.gOp=1
 ·simp [h1]
 by_cases h2:s.gOp=3
 ·simp [h2]
 by_cases h3:s.gOp=6
 ·simp [h3]
 by_cases h4:s.gOp=7
 ·simp [h4]
 by_cases h5:s.gOp=8
 ·simp [h5]
 by_cases h6:s.gOp=9
 ·simp [h6]
 simp only [beq_eq_false_iff_ne.2 h1,beq_eq_false_iff_ne.2 h2,beq_eq_false_iff_ne.2 h3,beq_eq_false_iff_ne.2 h4,beq_eq_false_iff_ne.2 h5,beq_eq_false_iff_ne.2 h6,cond_false,Option.bind_some,h1,h2,h3,h4,h5,h6,false_or,if_false];by_cases h7:s.gOp=2
 ·simp [h7]
 by_cases h8:s.gOp=4
 ·simp [h8]
 by_cases h9:s.gOp=5
 ·simp [h9]
 simp only [beq_eq_false_iff_ne.2 h7,beq_eq_false_iff_ne.2 h8,beq_eq_false_iff_ne.2 h9,cond_false,h7,h8,h9,if_false]
theorem rexpn_eq (s:Km):Khe s=some (en s):=by
 unfold Khe en;by_cases h:s.gOp < 1∨9 < s.gOp
 ·have e:(if s.gOp=1∨s.gOp=3∨s.gOp=6∨s.gOp=7∨s.gOp=8∨s.gOp=9 then (1:Int) else if s.gOp=2 then 2 else if s.gOp=4 then (s.gExps.length:Int) else if s.gOp=5 then 0 else -1)=-1:=by
   rw [if_neg (by omega),if_neg (by omega),if_neg (by omega),if_neg (by omega)]
  rw [e];rcases h with h|h
  ·simp [h]
  by_cases h2:s.gOp < 1<;>simp [h,h2]
 have hc:s.gOp=1∨s.gOp=2∨s.gOp=3∨s.gOp=4∨s.gOp=5∨s.gOp=6∨s.gOp=7∨s.gOp=8∨s.gOp=9:=by omega
 rcases hc with h|h|h|h|h|h|h|h|h<;>rw [h]<;>rfl
def Un (r:(Int×Int)⊕Int):(Int×Int)⊕Unit:=Sum.elim .inl (fun _=>.inr ()) r
def owO (p:Kw)(f:Kq)(s:Km)(ts:List Int):(Int×Int)⊕Unit:=
 if s.gOp=1 then
  match ts with
  | [x]=>Sum.elim .inl (fun k=>if k=x then .inr () else .inl (s.gAt,9)) (mus (kd p f s.gName) s.gAt [1,2])
  | _=>.inr ()
 else if s.gOp=4 then caS p f s ts
 else match fn1 (s.gExps.zip ts) with
  | some a=>.inl (a,9)
  |
   none=>
   if s.gOp=2 then Un (mus (kd p f s.gName) s.gAt [3])
   else if s.gOp=3 then Un (mus (kd p f s.gName) s.gAt [2])
   else if s.gOp=5 then Un (mus (kd p f s.gName) s.gAt [1])
   else .inr ()
def owS (p:Kw)(f:Kq)(s:Km):(Int×Int)⊕Unit:=if en s < 0∨(s.gExps.length:Int) ≠ en s then .inl (s.gAt,2) else Sum.elim .inl (fun ts=>owO p f s ts) (tyL p f s.gExps)
mutual
def stS (p:Kw)(f:Kq):Km→(Int×Int)⊕Unit
 | ⟨op,n,fn,es,ks,el,a⟩=>Sum.elim .inl (fun _=>Sum.elim .inl (fun _=>stL p f el) (stL p f ks)) (owS p f ⟨op,n,fn,es,ks,el,a⟩)
def stL (p:Kw) (f:Kq):List Km→(Int×Int)⊕Unit
 | []=>.inr ()
 | s::l=>Sum.elim .inl (fun _=>stL p f l) (stS p f s)
end
theorem stS_eq (p:Kw)(f:Kq)(s:Km):stS p f s=Sum.elim .inl (fun _=>Sum.elim .inl (fun _=>stL p f s.gElse) (stL p f s.gKids)) (owS p f s):=by cases s;simp only [stS]
theorem own_bind {X:Option (Unit⊕((Int×Int)⊕Unit))}{k1:Option ((Int×Int)⊕Unit)}{r R2:(Int×Int)⊕Unit}(h:X=some (Sum.elim (fun pe=>.inr (.inl pe)) (fun _=>.inl ()) r))(hk:k1=some R2) :
  Option.bind X (Sum.elim (fun _=>k1) (fun r=>some r))=some (Sum.elim .inl (fun _=>R2) r):=by
 subst h;subst hk;cases r<;>rfl
theorem tyE_12 {p:Kw}{f:Kq}{e:Kc}{t:Int}(h:tyE p f e=.inr t):t=1∨t=2:=by
 have hc:∀ {k a:Int} {ls:List Int} {u:Int},Sum.elim (γ:=(Int×Int)⊕Int) .inl (fun _=>.inr u) (mus k a ls)=.inr t→t=u:=fun {k a ls u} h=>by
  cases hm:mus k a ls with
  | inl q=>rw [hm] at h;cases h
  | inr q=>rw [hm] at h;simp only [Sum.elim_inr,Sum.inr.injEq] at h;exact h.symm
 rw [tyE_eq] at h;split at h
 ·cases h
 cases ht:tyL p f e.gKids with
 | inl q=>rw [ht] at h;cases h
 |
  inr ts=>
  rw [ht] at h;simp only [Sum.elim_inr] at h;unfold tyO at h;split at h
  ·split at h
   ·split at h
    ·simp only [Sum.inr.injEq] at h;exact .inl h.symm
    cases h
   simp only [Sum.inr.injEq] at h;exact .inl h.symm
  split at h
  ·cases h
  split at h
  ·unfold mus at h;split at h
   ·cases h
   split at h
   ·rename_i _ hm;simp only [Sum.inr.injEq] at h;subst h;simpa using hm
   cases h
  split at h
  ·exact .inl (hc h)
  split at h
  ·exact .inl (hc h)
  split at h
  ·simp only [Sum.inr.injEq] at h;exact .inr h.symm
  split at h
  ·exact .inr (hc h)
  split at h
  ·exact .inr (hc h)
  simp only [Sum.inr.injEq] at h;exact .inl h.symm
theorem tyL_12 {p:Kw}{f:Kq}:∀ {l:List Kc} {ts:List Int},tyL p f l=.inr ts→∀ t∈ts,t=1∨t=2
 | [],ts,h,t,ht=>by simp only [tyL,Sum.inr.injEq] at h;subst h;cases ht
 |
  e::l,ts,h,t,ht=>by
  simp only [tyL] at h;cases h1:tyE p f e with
  | inl pe=>rw [h1] at h;cases h
  |
   inr u=>
   rw [h1] at h;cases h2:tyL p f l with
   | inl pe=>rw [h2] at h;cases h
   |
    inr ts'=>
    rw [h2] at h;simp only [Sum.elim_inr,Sum.inr.injEq] at h;subst h;rcases List.mem_cons.1 ht with rfl|ht
    ·exact tyE_12 h1
    exact tyL_12 h2 t ht
theorem stmt_b {p:Kw}{f:Kq}(hf:Fit p f){g0:KE→List Km→Option ((Int×Int)⊕Unit)}{g1:KE→Km→Option ((Int×Int)⊕Unit)}{s:Km}(hb:szEs s.gExps≤1048576)
  (hk:g0 ⟨p,f⟩ s.gKids=some (stL p f s.gKids)) (he:g0 ⟨p,f⟩ s.gElse=some (stL p f s.gElse)):Kbl g0 g1 ⟨p,f⟩ s=some (stS p f s):=by
 have hlen0:=KgB s.gExps;unfold Kbl;rw [cexps_eq,Option.bind_some,stS_eq];unfold owS;by_cases hn:en s < 0
 ·simp [hn,Kbp]
 by_cases hl:(s.gExps.length:Int)=en s;case neg=>
  have hl':((s.gExps.length:Int) != en s)=true:=by simpa using hl
  rw [if_pos (by omega)];simp only [hn,decide_false,cond_false,Option.bind_some,hl',cond_true,Kbp,Sum.elim_inl,Sum.elim_inr]
 have hl':((s.gExps.length:Int) != en s)=false:=by simpa using hl
 rw [if_neg (show ¬(en s < 0∨(s.gExps.length:Int) ≠ en s) by omega)];simp only [hn,decide_false,cond_false,Option.bind_some,hl',Sum.elim_inl,ints_eq hf hb];cases ht:tyL p f s.gExps with
 | inl pe=>rfl
 |
  inr ts=>
  have hlen:=KjY ht;simp only [Sum.elim_inr];refine own_bind ?_ ?_;case refine_2=>
   rw [hk,Option.bind_some];cases stL p f s.gKids with
   | inl pe=>rfl
   |
    inr u=>
    simp only [Sum.elim_inr,he,Option.bind_some];cases stL p f s.gElse<;>rfl
  have n3:=fun (k:Int)=>Kh1 (n:=s.gName) (at_:=s.gAt) hf (show [k].length≤4611686018427387904 by simp)
  have n2:=Kh1 (n:=s.gName) (at_:=s.gAt) hf (show [(1:Int),2].length≤4611686018427387904 by simp);have hcall:=ccall_eq (s:=s) hf hlen (tyL_12 ht);have one:en s=1→∃ a x,s.gExps=[a]∧ts=[x]:=fun h1=>by
   have hk1:s.gExps.length=1:=by omega
   match hK:s.gExps,hT:ts,hk1,hlen with
   | [a],[x],_,_=>exact ⟨a,x,rfl,rfl⟩
  unfold owO;by_cases o1:s.gOp=1
  ·obtain ⟨a,x,hE,hT⟩:=one (by unfold en;simp [o1]);subst hT;have i0:idx [x] (0:Int)=some x:=rfl;simp only [o1,n2,i0,Option.bind_some,if_true,beq_self_eq_true,cond_true];cases mus (kd p f s.gName) s.gAt [1,2] with
   | inl pe=>rfl
   |
    inr k=>
    simp only [Sum.elim_inr];by_cases hkx:k=x
    ·subst hkx;simp
    have:(k != x)=true:=by simpa using hkx
    simp [this,hkx,Kbp]
  by_cases o4:s.gOp=4
  ·simp only [o4,hcall,Option.bind_some];cases caS p f s ts<;>rfl
  rw [if_neg o1,if_neg o4];have e1:=beq_eq_false_iff_ne.2 o1;have e4:=beq_eq_false_iff_ne.2 o4;by_cases o2:s.gOp=2
  ·have h2:en s=2:=by unfold en;simp [o2]
   have hk2:s.gExps.length=2:=by omega
   have:∃ a b x y,s.gExps=[a,b]∧ts=[x,y]:=by
    match hK:s.gExps,hT:ts,hk2,hlen with
    | [a,b],[x,y],_,_=>exact ⟨a,b,x,y,rfl,rfl⟩
   obtain ⟨a,b,x,y,hE,hT⟩:=this;subst hT;rw [hE];have i0:∀ {β:Type} (u v:β),idx [u,v] (0:Int)=some u:=fun _ _=>rfl
   have i1:∀ {β:Type} (u v:β),idx [u,v] (1:Int)=some v:=fun _ _=>rfl
   simp only [o2,n3,Option.bind_some,i0,i1,KhY,List.zip_cons_cons,List.zip_nil_right,fn1];by_cases hx:x=1
   ·by_cases hy:y=1
    ·simp only [hx,hy,if_true,Sum.elim_inr];cases mus (kd p f s.gName) s.gAt [3]<;>rfl
    simp only [hx,hy,if_true,if_false,Sum.elim_inr];rfl
   simp only [hx,if_false];rfl
  have e2:=beq_eq_false_iff_ne.2 o2;by_cases o5:s.gOp=5
  ·have h5:en s=0:=by unfold en;simp [o5]
   have hk0:s.gExps=[]:=List.eq_nil_of_length_eq_zero (by omega);rw [hk0];simp only [o5,n3,Option.bind_some,List.zip_nil_left,fn1];cases mus (kd p f s.gName) s.gAt [1]<;>rfl
  have e5:=beq_eq_false_iff_ne.2 o5;obtain ⟨a,x,hE,hT⟩:=one (by
   have:¬ en s < 0:=hn;unfold en at this ⊢;split
   ·rfl
   rw [if_neg (by assumption),if_neg o2,if_neg o4,if_neg o5] at this;omega)
  subst hT;rw [hE];have i0:∀ {β:Type} (u:β),idx [u] (0:Int)=some u:=fun _=>rfl
  by_cases o3:s.gOp=3
  ·simp only [o3,n3,Option.bind_some,i0,KhY,List.zip_cons_cons,List.zip_nil_right,fn1];by_cases hx:x=1
   ·simp only [hx,if_true,Sum.elim_inr];cases mus (kd p f s.gName) s.gAt [2]<;>rfl
   simp only [hx,if_false];rfl
  have e3:=beq_eq_false_iff_ne.2 o3;simp only [e1,e2,e3,e4,e5,cond_false,Option.bind_some,i0,KhY,List.zip_cons_cons,List.zip_nil_right,fn1,o2,o3,o5,if_false];by_cases hx:x=1
  ·simp only [hx,if_true];rfl
  simp only [hx,if_false];rfl
end
section
open Go
set_option linter.all false
theorem KlX {p:Kw}{f:Kq}{τ:Type}(c:Int×Int→τ)(z:τ):∀ l:List Km,scan (fun (_:Unit) s=>Sum.elim (fun pe=>.inr (c pe)) (fun _=>.inl ()) (stS p f s)) (fun _=>z) () l=Sum.elim c (fun _=>z) (stL p f l)
 | []=>rfl
 |
  s::l=>by
  simp only [scan,stL];cases stS p f s with
  | inl pe=>rfl
  | inr u=>exact KlX c z l
theorem stmts_b {p:Kw}{f:Kq}{g0:KE→List Km→Option ((Int×Int)⊕Unit)}{g1:KE→Km→Option ((Int×Int)⊕Unit)}{l:List Km}(hb:l.length≤1048576)
  (h:∀ s∈l,g1 ⟨p,f⟩ s=some (stS p f s)):Ka7 g0 g1 ⟨p,f⟩ l=some (stL p f l):=by
 unfold Ka7;rw [KbD l (fun (_:Unit) s=>Sum.elim (fun pe=>.inr (Sum.inr (Sum.inl pe))) (fun _=>.inl ()) (stS p f s)) (.inl ())
  (fun pre x post e=>by
   simp only [Kbi e,cond_true];have hix:idx l (pre.length:Int)=some x:=by rw [e];exact Kbo _ _ _
   rw [hix,Option.bind_some,h x (Kdi e),Option.bind_some];cases stS p f x with
   | inl pe=>rfl
   | inr u=>simp only [Sum.elim_inr,Sum.elim_inl];rw [Ka1 e (by omega)]) (by simp),Option.bind_some,KlX (fun pe=>Sum.inr (Sum.inl pe)) (Sum.inl ())]
 cases stL p f l<;>rfl
theorem stmts_g {p:Kw}{f:Kq}(hf:Fit p f):∀ n:Nat,(∀ l,2*hSs l≤n→szSs l≤1048576→(K4 n).1 ⟨p,f⟩ l=some (stL p f l))∧(∀ s,2*hS s≤n+1→szS s≤1048576→(K4 n).2 ⟨p,f⟩ s=some (stS p f s))
 | 0=>⟨fun l h=>by have:=Kh3 l;omega,fun s h _=>by rw [hS_eq] at h;omega⟩
 |
  n+1=>by
  obtain ⟨h2,h1⟩:=stmts_g hf n;refine ⟨fun l h hb=>?_,fun s h hb=>?_⟩
  ·have hl:=Khq l;exact stmts_b (g0:=(K4 n).1) (by omega) fun s hs=>h1 s (by have:=KjZ hs;omega) (by have:=Kh2 hs;omega)
  have he:=hS_eq s;have hz:=KhE s;exact stmt_b hf (g1:=(K4 n).2) (by omega) (h2 _ (by omega) (by omega)) (h2 _ (by omega) (by omega))
theorem cstmts_eq {p:Kw}{f:Kq}(hf:Fit p f){l:List Km}(hb:szSs l≤1048576):Kdx ⟨p,f⟩ l=some (stL p f l):=KgO _ _ (2*hSs l) ((stmts_g hf _).1 l (Nat.le_refl _) hb)
def oa (s:Km):Int:=if s.gOp=1∨s.gOp=2∨s.gOp=3∨s.gOp=5 then s.gAt else if s.gOp=4 then (if s.gName=ByteArray.mk #[] then 0 else s.gAt) else 0
theorem caS_e {p:Kw}{f:Kq}{s:Km}{ts:List Int}{pe:Int×Int}(h:caS p f s ts=.inl pe):pe.2 ≠ 0:=by
 unfold caS at h;split at h
 ·unfold caO at h;split at h
  ·simp only [Sum.inl.injEq] at h;subst h;simp
  split at h
  ·simp only [Sum.inl.injEq] at h;subst h;simp
  split at h
  ·cases h
  cases hm:mus (kd p f s.gName) s.gAt [1] with
  | inl q=>rw [hm] at h;simp only [Sum.elim_inl,Sum.inl.injEq] at h;subst h;rcases mus_e hm with rfl|rfl<;>simp
  | inr q=>rw [hm] at h;cases h
 simp only [Sum.inl.injEq] at h;subst h;simp
theorem owS_e {p:Kw}{f:Kq}{s:Km}{pe:Int×Int}(h:owS p f s=.inl pe):pe.2 ≠ 0:=by
 have hU:∀ {k a:Int} {ls:List Int},Un (mus k a ls)=.inl pe→pe.2 ≠ 0:=fun {k a ls} h=>by
  cases hm:mus k a ls with
  | inl q=>rw [hm] at h;simp only [Un,Sum.elim_inl,Sum.inl.injEq] at h;subst h;rcases mus_e hm with rfl|rfl<;>simp
  | inr q=>rw [hm] at h;cases h
 unfold owS at h;split at h
 ·simp only [Sum.inl.injEq] at h;subst h;simp
 cases ht:tyL p f s.gExps with
 | inl q=>rw [ht] at h;simp only [Sum.elim_inl,Sum.inl.injEq] at h;subst h;exact tyL_e ht
 |
  inr ts=>
  rw [ht] at h;simp only [Sum.elim_inr] at h;unfold owO at h;split at h
  ·split at h
   ·cases hm:mus (kd p f s.gName) s.gAt [1,2] with
    | inl q=>rw [hm] at h;simp only [Sum.elim_inl,Sum.inl.injEq] at h;subst h;rcases mus_e hm with rfl|rfl<;>simp
    |
     inr q=>
     rw [hm] at h;simp only [Sum.elim_inr] at h;split at h
     ·cases h
     simp only [Sum.inl.injEq] at h;subst h;simp
   cases h
  split at h
  ·exact caS_e h
  split at h
  ·simp only [Sum.inl.injEq] at h;subst h;simp
  split at h
  ·exact hU h
  split at h
  ·exact hU h
  split at h
  ·exact hU h
  cases h
theorem is_un (k a x y:Int):((a,if k=0 then (7:Int) else if k=x∨k=y then 0 else 9):Int×Int)=Sum.elim id (fun _=>(a,0)) (Un (mus k a [x,y])):=by
 unfold mus Un;by_cases h0:k=0
 ·simp [h0]
 by_cases h1:k=x∨k=y
 ·simp [h0,h1]
 simp [h0,h1]
theorem rown_eq {p:Kw}{f:Kq}(hf:Fit p f){s:Km}(hb:szEs s.gExps≤1048576):KjE p f s=some (Sum.elim id (fun _=>(oa s,0)) (owS p f s)):=by
 have hlen0:=KgB s.gExps;unfold KjE;rw [rexpn_eq,Option.bind_some];unfold owS;by_cases hn:en s < 0
 ·simp [hn]
 by_cases hl:(s.gExps.length:Int)=en s;case neg=>
  have hl':(en s != (s.gExps.length:Int))=true:=by simpa using fun h=>hl h.symm
  rw [if_pos (by omega)];simp only [hn,decide_false,cond_false,Option.bind_some,hl',cond_true];rfl
 have hl':(en s != (s.gExps.length:Int))=false:=by simpa using hl.symm
 rw [if_neg (show ¬(en s < 0∨(s.gExps.length:Int) ≠ en s) by omega)];simp only [hn,decide_false,cond_false,Option.bind_some,hl'];rw [Km1 (τ:=List Int⊕(Int×Int)) (p:=p) (f:=f) (g0:=Kil) (by omega) (fun x hx=>rtype_eq hf (by have:=KfP hx;omega)) (fun pe=>.inr pe) (fun a=>.inl a) (fun s=>rfl),Option.bind_some];cases ht:tyL p f s.gExps with
 | inl pe=>rfl
 |
  inr ts=>
  have hlen:=KjY ht;simp only [Sum.elim_inr,Sum.elim_inl,KlU hf,Option.bind_some];unfold owO;by_cases o1:s.gOp=1
  ·have h1:en s=1:=by unfold en;simp [o1]
   have hk1:s.gExps.length=1:=by omega
   have:∃ x,ts=[x]:=by
    match hT:ts,(show ts.length=1 by omega) with
    | [x],_=>exact ⟨x,rfl⟩
   obtain ⟨x,hT⟩:=this;subst hT;have i0:idx [x] (0:Int)=some x:=rfl;unfold oa;rw [Kct (t:=Sum.inl ()) (by simp [o1])];simp only [o1,i0,is_eq,Option.bind_some,Sum.elim_inl,beq_self_eq_true,cond_true,if_true,true_or];unfold mus;by_cases k0:kd p f s.gName=0
   ·simp [k0]
   by_cases k1:kd p f s.gName=1
   ·by_cases hx:(1:Int)=x
    ·subst hx;simp [k1]
    simp [k1,hx]
   by_cases k2:kd p f s.gName=2
   ·by_cases hx:(2:Int)=x
    ·subst hx;simp [k2]
    simp [k2,hx]
   simp [k0,k1,k2,beq_eq_false_iff_ne.2 k1,beq_eq_false_iff_ne.2 k2]
  by_cases o4:s.gOp=4
  ·unfold oa;rw [Kct (t:=Sum.inl ()) (by simp [o4])];simp only [o4,rcall_eq (s:=s) hf hlen (tyL_12 ht),Option.bind_some,Sum.elim_inl];rfl
  have c1:(s.gOp != 1)=true:=by simpa using o1
  have c4:(s.gOp != 4)=true:=by simpa using o4
  have hz:(s.gExps.zip ts).length=ts.length:=by simp [hlen]
  rw [KbD (s.gExps.zip ts) (fun (_:Unit) (x:Kc×Int)=>if x.2=1 then .inl () else .inr (Sum.inr (x.1.gAt,(9:Int)))) (.inl ())
   (fun pre x post hh=>by
    obtain ⟨x,t⟩:=x;obtain ⟨i1,i2⟩:=zip_at hlen.symm hh;have hlt:=Kbi hh;rw [hz] at hlt;simp only [hlt,cond_true,i1,i2,Option.bind_some,c1,c4];by_cases h1:t=1
    ·simp only [h1,bne_self_eq_false,cond_false,if_true,Sum.elim_inl];rw [Ka1 hh (by omega)]
    have h1':(t != 1)=true:=by simpa using h1
    simp only [h1',cond_true,h1,if_false,Sum.elim_inr])
   (by rw [hz];simp),Option.bind_some,Kkv (fun a=>Sum.inr (a,(9:Int))) (Sum.inl ())]
  rw [if_neg o1,if_neg o4];cases hfn:fn1 (s.gExps.zip ts) with
  | some a=>rfl
  |
   none=>
   simp only [Sum.elim_inl,is_eq,Option.bind_some];unfold oa;by_cases o2:s.gOp=2
   ·simp only [o2];have:=is_un (kd p f s.gName) s.gAt 3 3;rw [KiF] at this;exact congrArg some this
   by_cases o3:s.gOp=3
   ·simp only [o3];have:=is_un (kd p f s.gName) s.gAt 2 2;rw [KiF] at this;exact congrArg some this
   by_cases o5:s.gOp=5
   ·simp only [o5];have:=is_un (kd p f s.gName) s.gAt 1 1;rw [KiF] at this;exact congrArg some this
   simp only [beq_eq_false_iff_ne.2 o1,beq_eq_false_iff_ne.2 o2,beq_eq_false_iff_ne.2 o3,beq_eq_false_iff_ne.2 o4,beq_eq_false_iff_ne.2 o5,cond_false,o1,o2,o3,o4,o5,if_false,false_or,Sum.elim_inr]
mutual
theorem stS_e {p:Kw}{f:Kq}:∀ {s:Km} {pe:Int×Int},stS p f s=.inl pe→pe.2 ≠ 0
 |
  ⟨op,n,fn,es,ks,el,a⟩,pe,h=>by
  simp only [stS] at h;cases h1:owS p f ⟨op,n,fn,es,ks,el,a⟩ with
  | inl q=>rw [h1] at h;simp only [Sum.elim_inl,Sum.inl.injEq] at h;subst h;exact owS_e h1
  |
   inr u=>
   rw [h1] at h;simp only [Sum.elim_inr] at h;cases h2:stL p f ks with
   | inl q=>rw [h2] at h;simp only [Sum.elim_inl,Sum.inl.injEq] at h;subst h;exact stL_e h2
   | inr u=>rw [h2] at h;exact stL_e h
theorem stL_e {p:Kw} {f:Kq}:∀ {l:List Km} {pe:Int×Int},stL p f l=.inl pe→pe.2 ≠ 0
 | [],pe,h=>by simp only [stL] at h;cases h
 |
  s::l,pe,h=>by
  simp only [stL] at h;cases h1:stS p f s with
  | inl q=>rw [h1] at h;simp only [Sum.elim_inl,Sum.inl.injEq] at h;subst h;exact stS_e h1
  | inr u=>rw [h1] at h;exact stL_e h
end
theorem KlY {p:Kw}{f:Kq}(hf:Fit p f):∀ (n:Nat) (l:List Km),hSs l≤n→szSs l≤1048576→KcF n p f l=some (Sum.elim id (fun _=>(0,0)) (stL p f l))
 | 0,l,h,_=>by have:=Kh3 l;omega
 |
  n+1,l,h,hb=>by
  have hl:=Khq l;show KdN (KcF n) p f l=_
  unfold KdN;rw [KbD l (fun (_:Unit) s=>Sum.elim (fun pe=>.inr (Sum.inr pe)) (fun _=>.inl ()) (stS p f s)) (.inl ())
   (fun pre x post e=>by
    have hx:=Kdi e;obtain ⟨f1,f2⟩:=fuel h hx;have hz:=KhE x;have hzm:=Kh2 hx;simp only [Kbi e,cond_true];have hix:idx l (pre.length:Int)=some x:=by rw [e];exact Kbo _ _ _
    simp only [hix,Option.bind_some];rw [rown_eq hf (by omega),Option.bind_some,KlY hf n x.gKids f1 (by omega),KlY hf n x.gElse f2 (by omega),stS_eq];cases h1:owS p f x with
    |
     inl pe=>
     have h0:=beq_eq_false_iff_ne.2 (owS_e h1);have h0':(pe.2 != 0)=true:=by simpa using owS_e h1
     simp [h0,h0']
    |
     inr u=>
     simp only [Sum.elim_inr,beq_self_eq_true,cond_true,Option.bind_some];cases h2:stL p f x.gKids with
     |
      inl pe=>
      have h0:=beq_eq_false_iff_ne.2 (stL_e h2);have h0':(pe.2 != 0)=true:=by simpa using stL_e h2
      simp [h0,h0']
     |
      inr u=>
      simp only [Sum.elim_inr,beq_self_eq_true,cond_true,Option.bind_some];cases h3:stL p f x.gElse with
      |
       inl pe=>
       have h0':(pe.2 != 0)=true:=by simpa using stL_e h3
       simp [h0']
      |
       inr u=>
       simp only [Sum.elim_inr,Sum.elim_inl,bne_self_eq_false,cond_false];rw [Ka1 e (by omega)]) (by simp),Option.bind_some,KlX (fun pe=>Sum.inr pe) (Sum.inl ())]
  cases stL p f l<;>rfl
theorem rstmts_eq {p:Kw}{f:Kq}(hf:Fit p f){l:List Km}(hb:szSs l≤1048576):Ki3 p f l=some (Sum.elim id (fun _=>(0,0)) (stL p f l)):=Kni _ _ _ (hSs l) (KlY hf _ l (Nat.le_refl _) hb)
end
section
open Go
set_option linter.all false
theorem mget_put {α β:Type}[DecidableEq α](k:α)(v:β)(k':α):∀ l:List (α×β),mget (mput l k v) k'=if k=k' then some v else mget l k'
 | []=>by simp [mput,mget]
 |
  (a,b)::l=>by
  unfold mput;by_cases h:a=k
  ·subst h;rw [if_pos rfl];by_cases h2:a=k'
   ·simp [mget,h2]
   simp [mget,h2]
  rw [if_neg h];simp only [mget];by_cases h2:a=k'
  ·subst h2;rw [if_pos rfl,if_neg (fun e=>h e.symm),if_pos rfl]
  rw [if_neg h2,if_neg h2,mget_put k v k' l]
theorem KgC {α β:Type}[DecidableEq α](k:α)(v z:β)(k':α)(l:List (α×β)):mgetD (mput l k v) k' z=if k=k' then v else mgetD l k' z:=by
 unfold mgetD;rw [mget_put];by_cases h:k=k'
 ·rw [if_pos h,if_pos h];rfl
 rw [if_neg h,if_neg h]
def nmG (p:Kw):List Kab→List Kab→Bool
 | _,[]=>true
 | seen,v::l=>if gk v.gName p.gGlobals ≠ 0∨∃ y∈seen,y.gName=v.gName then false else nmG p (seen++[v]) l
theorem Kmj (p:Kw):∀ (l m seen:List Kab),nmG p seen (l++m)=(nmG p seen l && nmG p (seen++l) m)
 | [],m,seen=>by simp [nmG]
 |
  v::l,m,seen=>by
  simp only [List.cons_append,nmG];split
  ·rfl
  rw [Kmj p l m (seen++[v])];simp
theorem scan_ex {τ:Type}(n:ByteArray)(y z:τ):∀ l:List Kab,scan (fun (_:Unit) (x:Kab)=>if x.gName=n then .inr y else .inl ()) (fun _=>z) () l=if ∃ x∈l,x.gName=n then y else z
 | []=>by simp [scan]
 |
  x::l=>by
  simp only [scan];by_cases h:x.gName=n
  ·rw [if_pos h,if_pos ⟨x,by simp,h⟩]
  rw [if_neg h];show scan _ _ () l=_
  rw [scan_ex n y z l];by_cases h2:∃ x∈l,x.gName=n
  ·rw [if_pos h2,if_pos];obtain ⟨q,h3,h4⟩:=h2;exact ⟨q,List.mem_cons_of_mem _ h3,h4⟩
  rw [if_neg h2,if_neg];rintro ⟨q,h3,h4⟩;rcases List.mem_cons.1 h3 with rfl|h3
  ·exact h h4
  exact h2 ⟨q,h3,h4⟩
theorem loop_scanG {τ β:Type}{f:Int→Option (Step Int τ)}(l:List β)(step:List β→β→Bool)(t z:τ)
  (h1:∀ pre x post,l=pre++x::post→f (pre.length:Int)=if step pre x then some (.next ((pre.length+1:Nat):Int)) else some (.done t))
  (h2:f (l.length:Int)=some (.done z)):loopM f (0:Int)=some (scan (fun (a:List β) x=>if step a x then .inl (a++[x]) else .inr t) (fun _=>z) [] l):=
 KhD l (fun (a:List β) x=>if step a x then .inl (a++[x]) else .inr t) (fun _=>z) (fun _ k=>(k:Int)) (fun pre a=>a=pre) [] rfl
  (fun pre x post a a' _ hi hs=>by
   subst hi;split at hs
   ·simp only [Sum.inl.injEq] at hs;exact hs.symm
   cases hs)
  (fun pre x post a h hi=>by
   subst hi;rw [h1 _ x post h];split<;>simp) (fun _ _=>h2)
theorem scan_nmG {p:Kw}{τ:Type}(t z:τ):∀ (l seen:List Kab),scan (fun (a:List Kab) v=>if decide (¬ (gk v.gName p.gGlobals ≠ 0∨∃ y∈a,y.gName=v.gName)) then .inl (a++[v]) else .inr t) (fun _=>z) seen l=if nmG p seen l then z else t
 | [],seen=>rfl
 |
  v::l,seen=>by
  simp only [scan,nmG];by_cases h:gk v.gName p.gGlobals ≠ 0∨∃ y∈seen,y.gName=v.gName
  ·simp only [h,not_true_eq_false,decide_false,Bool.false_eq_true,if_false,if_true]
  simp only [h,not_false_eq_true,decide_true,if_true,if_false];exact scan_nmG t z l (seen++[v])
def fnS (p:Kw)(f:Kq):(Int×Int)⊕Unit:=if nmG p [] (f.gParams++f.gLocals) then stL p f f.gBody else .inl (f.gAt,8)
theorem rfunc_eq {p:Kw}{f:Kq}(hf:Fit p f)(hb:szSs f.gBody≤1048576):Kgg p f=some (Sum.elim id (fun _=>(0,0)) (fnS p f)):=by
 have:=hf.gl;have:=hf.fp;have:=hf.fl
 unfold Kgg;rw [Kdj (by omega) (by simp;omega),Option.bind_some,List.nil_append,Kdj (by omega) (by omega),Option.bind_some];rw [loop_scanG (f.gParams++f.gLocals) (fun a v=>decide (¬ (gk v.gName p.gGlobals ≠ 0∨∃ y∈a,y.gName=v.gName))) (Sum.inr (f.gAt,(8:Int))) (Sum.inl ())
  (fun pre x post h=>by
   have hix:idx (f.gParams++f.gLocals) (pre.length:Int)=some x:=by rw [h];exact Kbo _ _ _
   simp only [Kbi h,cond_true,hix,Option.bind_some,Kmh (show p.gGlobals.length≤4611686018427387904 by omega)];have hlen:pre.length≤(f.gParams++f.gLocals).length:=by rw [h];simp
   have hlen2:(f.gParams++f.gLocals).length=f.gParams.length+f.gLocals.length:=by simp
   by_cases hg:gk x.gName p.gGlobals=0;case neg=>
    have hg':(gk x.gName p.gGlobals != 0)=true:=by simpa using hg
    simp [hg',hg]
   simp only [hg,bne_self_eq_false,cond_false];rw [KbD pre (fun (_:Unit) (y:Kab)=>if y.gName=x.gName then .inr (Sum.inr (f.gAt,(8:Int))) else .inl ()) (.inl ())
    (fun a y b h2=>by
     have hiy:idx (f.gParams++f.gLocals) (a.length:Int)=some y:=by
      rw [h,h2,List.append_assoc,List.cons_append];exact Kbo _ _ _
     simp only [Kbi h2,cond_true,hiy,Option.bind_some];by_cases hn:y.gName=x.gName
     ·simp only [hn,decide_true,cond_true,if_true,Sum.elim_inr]
     simp only [hn,decide_false,cond_false,if_false,Sum.elim_inl];rw [Ka1 h2 (by omega)]) (by simp),Option.bind_some,scan_ex]
   by_cases he:∃ y∈pre,y.gName=x.gName
   ·rw [if_pos he];simp [he]
   rw [if_neg he,Sum.elim_inl,Ka1 h (by omega)];simp [he]) (by simp),Option.bind_some,scan_nmG]
 unfold fnS;cases nmG p [] (f.gParams++f.gLocals) with
 |
  true=>
  simp only [if_true,Sum.elim_inl,rstmts_eq hf hb,Option.bind_some]
 | false=>rfl
def Cnt (seen:List Kab)(m:List (ByteArray×Int)):Prop:=∀ n,mgetD m n 0=if ∃ y∈seen,y.gName=n then 1 else 0
theorem Cnt.put {seen:List Kab}{m:List (ByteArray×Int)}(h:Cnt seen m){v:Kab}(hv:¬ ∃ y∈seen,y.gName=v.gName):Cnt (seen++[v]) (mput m v.gName (IntKind.i64.wrap (mgetD m v.gName 0+1))):=by
 intro n;have h0:=h v.gName;rw [if_neg hv] at h0;rw [KgC,h0];by_cases hn:v.gName=n
 ·rw [if_pos hn,if_pos ⟨v,by simp,hn⟩];rfl
 rw [if_neg hn,h n];by_cases he:∃ y∈seen,y.gName=n
 ·rw [if_pos he,if_pos];obtain ⟨q,h3,h4⟩:=he;exact ⟨q,by simp [h3],h4⟩
 rw [if_neg he,if_neg];rintro ⟨q,h3,h4⟩;simp only [List.mem_append,List.mem_singleton] at h3;rcases h3 with h3|rfl
 ·exact he ⟨q,h3,h4⟩
 exact hn h4
theorem Kmk {p:Kw}{f:Kq}(hg:p.gGlobals.length≤1048576){F:Int×List (ByteArray×Int)→Option (Step (Int×List (ByteArray×Int)) (List (ByteArray×Int)⊕((Int×Int)⊕Unit)))}{l:List Kab}(hb:l.length≤1048576)
  (hF:∀ s,F s=(bif (decide (s.1 < (l.length:Int))) then ((idx l s.1).bind fun x733=>(Option.bind (α:=Bool) (bif (decide ((1:Int) < (mgetD (mput s.2 x733.gName (IntKind.i64.wrap ((mgetD s.2 x733.gName (0:Int))+(1:Int)))) x733.gName (0:Int)))) then some true else ((KbC ⟨p,f⟩ x733.gName).bind fun x739=>some (x739 != (0:Int)))) fun y737=>(bif y737 then ((Kbp f.gAt (8:Int)).bind fun x741=>Sum.elim (fun pe741=>some (.done (.inr (.inl pe741)))) (fun z741=>some (.next ((IntKind.i64.wrap (s.1+(1:Int))),(mput s.2 x733.gName (IntKind.i64.wrap ((mgetD s.2 x733.gName (0:Int))+(1:Int))))))) x741) else some (.next ((IntKind.i64.wrap (s.1+(1:Int))),(mput s.2 x733.gName (IntKind.i64.wrap ((mgetD s.2 x733.gName (0:Int))+(1:Int))))))))) else some (.done (.inl s.2))))
  {seen:List Kab} {m:List (ByteArray×Int)} (hc:Cnt seen m):∃ m',(nmG p seen l=true→Cnt (seen++l) m')∧loopM F ((0:Int),m)=some (if nmG p seen l then .inl m' else .inr (.inl (f.gAt,8))):=by
 have key:∀ (post pre:List Kab) (m:List (ByteArray×Int)),l=pre++post→Cnt (seen++pre) m→∃ m',(nmG p (seen++pre) post=true→Cnt (seen++pre++post) m')∧loopM F ((pre.length:Int),m)=some (if nmG p (seen++pre) post then .inl m' else .inr (.inl (f.gAt,8))):=by
  intro post;induction post with
  |
   nil=>
   intro pre m h hc;rw [List.append_nil] at h;subst h;refine ⟨m,fun _=>by simpa using hc,?_⟩;rw [Kct (t:=Sum.inl m) (by rw [hF];simp)];rfl
  |
   cons x post ih=>
   intro pre m h hc;have hix:idx l (pre.length:Int)=some x:=by rw [h];exact Kbo _ _ _
   have hx:=hc x.gName;have hstep:F ((pre.length:Int),m)=if gk x.gName p.gGlobals ≠ 0∨∃ y∈seen++pre,y.gName=x.gName then some (.done (.inr (.inl (f.gAt,8)))) else some (.next (((pre.length+1:Nat):Int),mput m x.gName (IntKind.i64.wrap (mgetD m x.gName 0+1)))):=by
    rw [hF];simp only [Kbi h,cond_true,hix,Option.bind_some,Kku (s:=⟨p,f⟩) (n:=x.gName) (show p.gGlobals.length≤4611686018427387904 by omega)];by_cases he:∃ y∈seen++pre,y.gName=x.gName
    ·rw [if_pos he] at hx;have h2:decide ((1:Int) < mgetD (mput m x.gName (IntKind.i64.wrap (mgetD m x.gName 0+1))) x.gName 0)=true:=by
      rw [KgC,if_pos rfl,hx];rfl
     rw [if_pos (.inr he)];simp [h2,Kbp]
    rw [if_neg he] at hx;have h2:decide ((1:Int) < mgetD (mput m x.gName (IntKind.i64.wrap (mgetD m x.gName 0+1))) x.gName 0)=false:=by
     rw [KgC,if_pos rfl,hx];rfl
    simp only [h2,cond_false,Option.bind_some];by_cases hgk:gk x.gName p.gGlobals=0
    ·rw [if_neg (by simp only [not_or];exact ⟨by simpa using hgk,he⟩)];simp only [hgk,bne_self_eq_false,cond_false];rw [Ka1 h (by omega)]
    rw [if_pos (.inl hgk)];have:(gk x.gName p.gGlobals != 0)=true:=by simpa using hgk
    simp [this,Kbp]
   by_cases hbad:gk x.gName p.gGlobals ≠ 0∨∃ y∈seen++pre,y.gName=x.gName
   ·rw [if_pos hbad] at hstep;have e:nmG p (seen++pre) (x::post)=false:=by simp only [nmG];rw [if_pos hbad]
    exact ⟨m,(fun q=>by rw [e] at q;cases q),by rw [Kct hstep];simp [e]⟩
   rw [if_neg hbad] at hstep;have e:nmG p (seen++pre) (x::post)=nmG p (seen++pre++[x]) post:=by simp only [nmG];rw [if_neg hbad]
   rw [KeN hstep];have hne:¬ ∃ y∈seen++pre,y.gName=x.gName:=fun q=>hbad (.inr q)
   obtain ⟨m',q1,q2⟩:=ih (pre++[x]) _ (by simp [h]) (by rw [← List.append_assoc];exact hc.put hne);refine ⟨m',fun q=>?_,?_⟩
   ·rw [e] at q;have:=q1 (by rw [← List.append_assoc];exact q);simpa using this
   simp only [e];simpa using q2
 obtain ⟨m',q1,q2⟩:=key l [] m rfl (by simpa using hc);exact ⟨m',fun q=>by simpa using q1 (by simpa using q),by simpa using q2⟩
end
section
open Go
set_option linter.all false
def nmF (p:Kw)(f:Kq)(l:List Kab):Int×List (ByteArray×Int)→Option (Step (Int×List (ByteArray×Int)) (List (ByteArray×Int)⊕((Int×Int)⊕Unit))):=fun s=>
 (bif (decide (s.1 < (l.length:Int))) then ((idx l s.1).bind fun x733=>(Option.bind (α:=Bool) (bif (decide ((1:Int) < (mgetD (mput s.2 x733.gName (IntKind.i64.wrap ((mgetD s.2 x733.gName (0:Int))+(1:Int)))) x733.gName (0:Int)))) then some true else ((KbC ⟨p,f⟩ x733.gName).bind fun x739=>some (x739 != (0:Int)))) fun y737=>(bif y737 then ((Kbp f.gAt (8:Int)).bind fun x741=>Sum.elim (fun pe741=>some (.done (.inr (.inl pe741)))) (fun z741=>some (.next ((IntKind.i64.wrap (s.1+(1:Int))),(mput s.2 x733.gName (IntKind.i64.wrap ((mgetD s.2 x733.gName (0:Int))+(1:Int))))))) x741) else some (.next ((IntKind.i64.wrap (s.1+(1:Int))),(mput s.2 x733.gName (IntKind.i64.wrap ((mgetD s.2 x733.gName (0:Int))+(1:Int))))))))) else some (.done (.inl s.2)))
theorem names_eq {p:Kw}{f:Kq}(hf:Fit p f):KbM ⟨p,f⟩=some (if nmG p [] (f.gParams++f.gLocals) then .inr () else .inl (f.gAt,8)):=by
 have hN:KbM ⟨p,f⟩=Option.bind (loopM (fun (s374:Int×List (ByteArray×Int))=>(bif (decide (s374.1 < (2:Int))) then ((idx ([f.gParams,f.gLocals]:List (List Kab)) s374.1).bind fun x652=>(Option.bind (loopM (nmF p f x652) ((0:Int),s374.2)) (Sum.elim (fun y697=>some (Step.next ((IntKind.i64.wrap (s374.1+(1:Int))),y697))) (fun r=>some (Step.done (Sum.inr r)))))) else some (Step.done (Sum.inl s374.2)))) ((0:Int),([]:List (ByteArray×Int)))) (Sum.elim (fun y373=>some (Sum.inr ())) (fun r=>some r)):=by
  unfold KbM;rfl
 rw [hN,Kmj,List.nil_append];have c0:Cnt [] []:=fun n=>by simp [mgetD,mget]
 obtain ⟨m1,q1,e1⟩:=Kmk (p:=p) (f:=f) hf.gl (F:=nmF p f f.gParams) hf.fp (fun s=>rfl) c0;cases h1:nmG p [] f.gParams with
 |
  false=>
  rw [h1] at e1;rw [Kct (t:=Sum.inr (Sum.inl (f.gAt,8))) (by
   show Option.bind (loopM (nmF p f f.gParams) ((0:Int),[])) _=_
   rw [e1];rfl)]
  rfl
 |
  true=>
  rw [h1] at e1;rw [KeN (s':=((1:Int),m1)) (by
   show Option.bind (loopM (nmF p f f.gParams) ((0:Int),[])) _=_
   rw [e1];rfl)]
  have c1:=q1 h1;rw [List.nil_append] at c1;obtain ⟨m2,q2,e2⟩:=Kmk (p:=p) (f:=f) hf.gl (F:=nmF p f f.gLocals) hf.fl (fun s=>rfl) c1;cases h2:nmG p f.gParams f.gLocals with
  |
   false=>
   rw [h2] at e2;rw [Kct (t:=Sum.inr (Sum.inl (f.gAt,8))) (by
    show Option.bind (loopM (nmF p f f.gLocals) ((0:Int),m1)) _=_
    rw [e2];rfl)]
   rfl
  |
   true=>
   rw [h2] at e2;rw [KeN (s':=((2:Int),m2)) (by
    show Option.bind (loopM (nmF p f f.gLocals) ((0:Int),m1)) _=_
    rw [e2];rfl)]
   rw [Kct (t:=Sum.inl m2) rfl];rfl
theorem checkP_eq {p:Kw}{f:Kq}(hf:Fit p f)(hb:szSs f.gBody≤1048576):Kii p f=some (fnS p f):=by
 unfold Kii;rw [names_eq hf,Option.bind_some,cstmts_eq hf hb];unfold fnS;cases nmG p [] (f.gParams++f.gLocals)<;>rfl
theorem checkF_eq {p:Kw}{f:Kq}(hf:Fit p f)(hb:szSs f.gBody≤1048576):Kij p f=some (wr (fnS p f)):=by
 unfold Kij;rw [checkP_eq hf hb,Option.bind_some]
theorem rfunc_wr {p:Kw}{f:Kq}(hf:Fit p f)(hb:szSs f.gBody≤1048576):Kgg p f=some (wr (fnS p f)):=by
 rw [rfunc_eq hf hb];cases fnS p f<;>rfl
end
section
open Go
set_option linter.all false
open Classical
def dupN (seen:List ByteArray):List ByteArray→Option Nat
 | []=>none
 | n::l=>if n∈seen then some 0 else (dupN (seen++[n]) l).map (·+1)
theorem Klu:∀ (a b seen:List ByteArray),dupN seen (a++b)=match dupN seen a with|some i=>some i|none=>(dupN (seen++a) b).map (·+a.length)
 | [],b,seen=>by simp [dupN]
 |
  n::a,b,seen=>by
  simp only [List.cons_append,dupN];by_cases h:n∈seen
  ·simp only [h,if_true]
  simp only [h,if_false,Klu a b (seen++[n])];cases dupN (seen++[n]) a with
  | some i=>rfl
  |
   none=>
   simp only [Option.map_none,List.append_assoc,List.cons_append,List.nil_append,Option.map_map];congr 1
def CntN (seen:List ByteArray)(m:List (ByteArray×Int)):Prop:=∀ n,mgetD m n 0=if n∈seen then 1 else 0
theorem CntN.put {seen:List ByteArray}{m:List (ByteArray×Int)}(h:CntN seen m){v:ByteArray}(hv:v ∉ seen):CntN (seen++[v]) (mput m v (IntKind.i64.wrap (mgetD m v 0+1))):=by
 intro n;have h0:=h v;rw [if_neg hv] at h0;rw [KgC,h0];by_cases hn:v=n
 ·subst hn;rw [if_pos rfl,if_pos (by simp)];rfl
 rw [if_neg hn,h n];by_cases he:n∈seen
 ·rw [if_pos he,if_pos (by simp [he])]
 rw [if_neg he,if_neg (by simp only [List.mem_append,List.mem_singleton,not_or];exact ⟨he,fun q=>hn q.symm⟩)]
theorem Kml {β ρ:Type}(nm:β→ByteArray)(R:Int→ρ){F:Int×List (ByteArray×Int)→Option (Step (Int×List (ByteArray×Int)) (List (ByteArray×Int)⊕ρ))}{l:List β}(hb:l.length≤1048576)
  (hF:∀ s,F s=(bif (decide (s.1 < (l.length:Int))) then ((idx l s.1).bind fun x=>(bif (decide ((1:Int) < (mgetD (mput s.2 (nm x) (IntKind.i64.wrap ((mgetD s.2 (nm x) (0:Int))+(1:Int)))) (nm x) (0:Int)))) then some (.done (.inr (R s.1))) else some (.next ((IntKind.i64.wrap (s.1+(1:Int))),(mput s.2 (nm x) (IntKind.i64.wrap ((mgetD s.2 (nm x) (0:Int))+(1:Int)))))))) else some (.done (.inl s.2))))
  {seen:List ByteArray} {m:List (ByteArray×Int)} (hc:CntN seen m):∃ m',(dupN seen (l.map nm)=none→CntN (seen++l.map nm) m')∧loopM F ((0:Int),m)=some (match dupN seen (l.map nm) with|some i=>.inr (R (i:Nat))|none=>.inl m'):=by
 have key:∀ (post pre:List β) (m:List (ByteArray×Int)),l=pre++post→CntN (seen++pre.map nm) m→∃ m',(dupN (seen++pre.map nm) (post.map nm)=none→CntN (seen++pre.map nm++post.map nm) m')∧loopM F ((pre.length:Int),m)=some (match dupN (seen++pre.map nm) (post.map nm) with|some i=>.inr (R ((pre.length+i:Nat):Int))|none=>.inl m'):=by
  intro post;induction post with
  |
   nil=>
   intro pre m h hc;rw [List.append_nil] at h;subst h;refine ⟨m,fun _=>by simpa using hc,?_⟩;rw [Kct (t:=Sum.inl m) (by rw [hF];simp)];rfl
  |
   cons x post ih=>
   intro pre m h hc;have hix:idx l (pre.length:Int)=some x:=by rw [h];exact Kbo _ _ _
   have hx:=hc (nm x);by_cases he:nm x∈seen++pre.map nm
   ·rw [if_pos he] at hx;have h2:decide ((1:Int) < mgetD (mput m (nm x) (IntKind.i64.wrap (mgetD m (nm x) 0+1))) (nm x) 0)=true:=by
     rw [KgC,if_pos rfl,hx];rfl
    have e:dupN (seen++pre.map nm) ((x::post).map nm)=some 0:=by simp only [List.map_cons,dupN];rw [if_pos he]
    refine ⟨m,(fun q=>by rw [e] at q;cases q),?_⟩;rw [Kct (t:=Sum.inr (R (pre.length:Int))) (by rw [hF];simp only [Kbi h,cond_true,hix,Option.bind_some,h2])];rw [e];rfl
   rw [if_neg he] at hx;have h2:decide ((1:Int) < mgetD (mput m (nm x) (IntKind.i64.wrap (mgetD m (nm x) 0+1))) (nm x) 0)=false:=by
    rw [KgC,if_pos rfl,hx];rfl
   have e:dupN (seen++pre.map nm) ((x::post).map nm)=(dupN (seen++pre.map nm++[nm x]) (post.map nm)).map (·+1):=by simp only [List.map_cons,dupN];rw [if_neg he]
   rw [KeN (s':=(((pre.length+1:Nat):Int),mput m (nm x) (IntKind.i64.wrap (mgetD m (nm x) 0+1)))) (by
    rw [hF];simp only [Kbi h,cond_true,hix,Option.bind_some,h2,cond_false];rw [Ka1 h (by omega)])]
   have hm1:seen++(pre++[x]).map nm=seen++pre.map nm++[nm x]:=by simp
   obtain ⟨m',q1,q2⟩:=ih (pre++[x]) _ (by simp [h]) (by rw [hm1];exact hc.put he);rw [hm1] at q1 q2;refine ⟨m',fun q=>?_,?_⟩
   ·rw [e] at q;have:=q1 (by simpa using q);simpa using this
   have hl:(pre++[x]).length=pre.length+1:=by simp
   rw [hl] at q2;rw [q2,e];cases dupN (seen++pre.map nm++[nm x]) (post.map nm) with
   | none=>rfl
   | some i=>simp only [Option.map_some];rw [show pre.length+1+i=pre.length+(i+1) by omega]
 obtain ⟨m',q1,q2⟩:=key l [] m rfl (by simpa using hc);refine ⟨m',fun q=>by simpa using q1 (by simpa using q),?_⟩;have:loopM F ((0:Int),m)=_:=q2;rw [this];simp
def KiG (p:Kw):List ByteArray:=p.gGlobals.map (·.gName)++p.gFuncs.map (·.gName)
def twF {β:Type}(nm:β→ByteArray)(R:Int→Int)(l:List β):Int×List (ByteArray×Int)→Option (Step (Int×List (ByteArray×Int)) (List (ByteArray×Int)⊕Int)):=fun s=>
 (bif (decide (s.1 < (l.length:Int))) then ((idx l s.1).bind fun x=>(bif (decide ((1:Int) < (mgetD (mput s.2 (nm x) (IntKind.i64.wrap ((mgetD s.2 (nm x) (0:Int))+(1:Int)))) (nm x) (0:Int)))) then some (.done (.inr (R s.1))) else some (.next ((IntKind.i64.wrap (s.1+(1:Int))),(mput s.2 (nm x) (IntKind.i64.wrap ((mgetD s.2 (nm x) (0:Int))+(1:Int)))))))) else some (.done (.inl s.2)))
theorem twice_eq {p:Kw}(hg:p.gGlobals.length≤1048576)(hf:p.gFuncs.length≤1048576):KdL p=some (match dupN [] (KiG p) with|some i=>(i:Int)|none=>-1):=by
 have hN:KdL p=Option.bind (loopM (twF (·.gName) (fun i=>i) p.gGlobals) ((0:Int),([]:List (ByteArray×Int)))) (Sum.elim (fun y24=>Option.bind (loopM (twF (·.gName) (fun i=>IntKind.i64.wrap ((p.gGlobals.length:Int)+i)) p.gFuncs) ((0:Int),y24)) (Sum.elim (fun y67=>some (-1:Int)) (fun r=>some r))) (fun r=>some r)):=by
  unfold KdL;rfl
 rw [hN];have c0:CntN [] []:=fun n=>by simp [mgetD,mget]
 obtain ⟨m1,q1,e1⟩:=Kml (fun g:KM=>g.gName) (fun i=>i) (F:=twF (·.gName) (fun i=>i) p.gGlobals) hg (fun s=>rfl) c0;rw [e1];unfold KiG;rw [Klu];cases h1:dupN [] (p.gGlobals.map (·.gName)) with
 | some i=>rfl
 |
  none=>
  simp only [Option.bind_some,Sum.elim_inl];have c1:=q1 h1;obtain ⟨m2,q2,e2⟩:=Kml (fun g:Kq=>g.gName) (fun i=>IntKind.i64.wrap ((p.gGlobals.length:Int)+i)) (F:=twF (·.gName) (fun i=>IntKind.i64.wrap ((p.gGlobals.length:Int)+i)) p.gFuncs) hf (fun s=>rfl) c1;rw [e2];have hle:∀ {l seen:List ByteArray} {i:Nat},dupN seen l=some i→i < l.length:=by
   intro l;induction l with
   | nil=>intro seen i h;cases h
   |
    cons n l ih=>
    intro seen i h;simp only [dupN] at h;split at h
    ·simp only [Option.some.injEq] at h;subst h;simp
    cases hd:dupN (seen++[n]) l with
    | none=>rw [hd] at h;cases h
    | some j=>rw [hd] at h;simp only [Option.map_some,Option.some.injEq] at h;subst h;have:=ih hd;simp;omega
  cases h2:dupN ([]++p.gGlobals.map (·.gName)) (p.gFuncs.map (·.gName)) with
  | none=>rfl
  |
   some i=>
   have hi:=hle h2;simp only [List.length_map] at hi;simp only [Option.bind_some,Sum.elim_inr,Option.map_some,List.length_map];rw [wrap_id (by omega) (by omega)];simp [Int.natCast_add,Int.add_comm]
end
section
open Go
set_option linter.all false
open Classical
structure PFit (p:Kw):Prop where
 gl:p.gGlobals.length≤1048576
 fu:p.gFuncs.length≤1048576
 fn:∀ f∈p.gFuncs,Fit p f∧szSs f.gBody≤1048576
def stepF (p:Kw)(a:List Kq)(x:Kq):List Kq⊕(Unit⊕(Int×Int×Int)):=if (wr (fnS p x)).2=0 then .inl (a++[x]) else .inr (.inr (((p.gGlobals.length+a.length:Nat):Int),(wr (fnS p x)).1,(wr (fnS p x)).2))
theorem Kmm {p:Kw}(hp:PFit p){E:Kq→Option (Int×Int)}(hE:∀ x∈p.gFuncs,E x=some (wr (fnS p x))){F:Int→Option (Step Int (Unit⊕(Int×Int×Int)))}
  (hF:∀ s,F s=(bif (decide (s < (p.gFuncs.length:Int))) then ((idx p.gFuncs s).bind fun x46=>((E x46).bind fun x48=>(bif (x48.2 != (0:Int)) then some (.done (.inr ((IntKind.i64.wrap ((p.gGlobals.length:Int)+s)),x48.1,x48.2))) else some (.next (IntKind.i64.wrap (s+(1:Int))))))) else some (.done (.inl ())))) :
  loopM F (0:Int)=some (scan (stepF p) (fun _=>.inl ()) [] p.gFuncs):=by
 have h1:=hp.gl;have h2:=hp.fu
 refine KhD p.gFuncs (stepF p) (fun _=>.inl ()) (fun _ k=>(k:Int)) (fun pre a=>a=pre) [] rfl (fun pre x post a a' _ hi hs=>?_) (fun pre x post a h hi=>?_) (fun a _=>by rw [hF];simp)
 ·subst hi;unfold stepF at hs;split at hs
  ·simp only [Sum.inl.injEq] at hs;exact hs.symm
  cases hs
 subst hi;have hlen:a.length < p.gFuncs.length:=by rw [h];simp
 have hix:idx p.gFuncs (a.length:Int)=some x:=by rw [h];exact Kbo _ _ _
 rw [hF];simp only [Kbi h,cond_true,hix,Option.bind_some,hE x (Kdi h)];unfold stepF;by_cases h0:(wr (fnS p x)).2=0
 ·simp only [h0,bne_self_eq_false,cond_false,if_true,Sum.elim_inl];rw [Ka1 h (by omega)]
 have h0':((wr (fnS p x)).2 != 0)=true:=by simpa using h0
 simp only [h0',cond_true,h0,if_false,Sum.elim_inr];rw [wrap_id (by omega) (by omega)];simp [Int.natCast_add]
theorem Km2 {β:Type}(nm:β→ByteArray){l:List β}{a0:List ByteArray}(hb:a0.length+l.length≤8388608){F:List ByteArray×Int→Option (Step (List ByteArray×Int) (List ByteArray))}
  (hF:∀ s,F s=(bif (decide (s.2 < (l.length:Int))) then ((idx l s.2).bind fun x34=>((app 16 s.1 ([nm x34]:List ByteArray)).bind fun x35=>some (.next (x35,(IntKind.i64.wrap (s.2+(1:Int))))))) else some (.done s.1))):loopM F (a0,(0:Int))=some (a0++l.map nm):=by
 have hs:∀ (l:List β) (a:List ByteArray),scan (fun (a:List ByteArray) x=>(.inl (a++[nm x]):List ByteArray⊕List ByteArray)) (fun a=>a) a l=a++l.map nm:=by
  intro l;induction l with
  | nil=>intro a;simp [scan]
  | cons x l ih=>intro a;simp only [scan];rw [ih];simp
 rw [Kkt l (fun (a:List ByteArray) x=>(.inl (a++[nm x]):List ByteArray⊕List ByteArray)) (fun a=>a) (fun pre a=>a.length=a0.length+pre.length) a0 (by simp)
  (fun pre x post a a' _ hi hs=>by simp only [Sum.inl.injEq] at hs;subst hs;simp [hi];omega)
  (fun pre x post a e hi=>by
   have hlen:pre.length < l.length:=by rw [e];simp
   have hix:idx l (pre.length:Int)=some x:=by rw [e];exact Kbo _ _ _
   rw [hF];simp only [Kbi e,cond_true,hix,Option.bind_some,Sum.elim_inl];rw [Kdj (by omega) (by simp;omega),Option.bind_some,Ka1 e (by omega)])
  (fun a hi=>by rw [hF];simp),hs]
theorem scan_dup {ρ:Type}(c:Int→ρ)(z:ρ):∀ (l a:List ByteArray),scan (fun (a:List ByteArray) x=>if x∈a then .inr (c (a.length:Int)) else .inl (a++[x])) (fun _=>z) a l=match dupN a l with|some i=>c ((a.length+i:Nat):Int)|none=>z
 | [],a=>rfl
 |
  x::l,a=>by
  simp only [scan,dupN];by_cases h:x∈a
  ·simp only [h,if_true];rfl
  simp only [h,if_false];rw [scan_dup c z l (a++[x])];cases dupN (a++[x]) l with
  | none=>rfl
  | some i=>simp only [Option.map_some,List.length_append,List.length_singleton];rw [show a.length+1+i=a.length+(i+1) by omega]
theorem scan_mem {τ:Type}(n:ByteArray)(y z:τ):∀ l:List ByteArray,scan (fun (_:Unit) (x:ByteArray)=>if x=n then .inr y else .inl ()) (fun _=>z) () l=if n∈l then y else z
 | []=>by simp [scan]
 |
  x::l=>by
  simp only [scan];by_cases h:x=n
  ·subst h;simp
  rw [if_neg h];show scan _ _ () l=_
  rw [scan_mem n y z l];have h':¬ n=x:=fun q=>h q.symm
  simp [h']
theorem dup_loop {ns:List ByteArray}(hb:ns.length≤4194304){F:Int→Option (Step Int (Unit⊕(Int×Int×Int)))}
  (hF:∀ s,F s=(bif (decide (s < (ns.length:Int))) then (Option.bind (α:=(Unit)⊕(Int×Int×Int)) (loopM (fun (s248:Int)=>(bif (decide (s248 < s)) then ((idx ns s248).bind fun x260=>((idx ns s).bind fun x261=>(bif (decide (x260=x261)) then some (.done (.inr (s,(0:Int),(8:Int)))) else some (.next (IntKind.i64.wrap (s248+(1:Int))))))) else some (.done (.inl ())))) (0:Int)) (Sum.elim (fun y247=>some (.next (IntKind.i64.wrap (s+(1:Int))))) (fun r=>some (.done (.inr r))))) else some (.done (.inl ())))) :
  loopM F (0:Int)=some (match dupN [] ns with|some i=>.inr ((i:Nat),0,8)|none=>.inl ()):=by
 have h:=KhD (f:=F) ns (fun (a:List ByteArray) x=>if x∈a then .inr (Sum.inr ((a.length:Int),(0:Int),(8:Int))) else .inl (a++[x])) (fun _=>.inl ()) (fun _ k=>(k:Int)) (fun pre a=>a=pre) [] rfl
  (fun pre x post a a' _ hi hs=>by
   subst hi;split at hs
   ·cases hs
   simp only [Sum.inl.injEq] at hs;exact hs.symm)
  (fun pre x post a h hi=>by
   subst hi;have hlen:a.length < ns.length:=by rw [h];simp
   have hix:idx ns (a.length:Int)=some x:=by rw [h];exact Kbo _ _ _
   rw [hF];simp only [Kbi h,cond_true,hix,Option.bind_some];rw [KbD a (fun (_:Unit) (y:ByteArray)=>if y=x then .inr (Sum.inr ((a.length:Int),(0:Int),(8:Int))) else .inl ()) (.inl ())
    (fun c y b h2=>by
     have hiy:idx ns (c.length:Int)=some y:=by
      rw [h,h2,List.append_assoc,List.cons_append];exact Kbo _ _ _
     simp only [Kbi h2,cond_true,hiy,Option.bind_some];by_cases hn:y=x
     ·simp only [hn,decide_true,cond_true,if_true,Sum.elim_inr]
     simp only [hn,decide_false,cond_false,if_false,Sum.elim_inl];rw [Ka1 h2 (by omega)]) (by simp),Option.bind_some,scan_mem]
   by_cases he:x∈a
   ·simp only [he,if_true,Sum.elim_inr]
   simp only [he,if_false,Sum.elim_inl];rw [Ka1 h (by omega)])
  (fun a _=>by rw [hF];simp)
 have h':loopM F (0:Int)=_:=h;rw [h',scan_dup (fun i=>Sum.inr (i,(0:Int),(8:Int))) (Sum.inl ())];simp
def prS (p:Kw):Int×Int×Int:=
 if 24 < p.gGlobals.length∨24 < p.gFuncs.length then (0,0,6)
 else match dupN [] (KiG p) with
  | some i=>((i:Nat),0,8)
  | none=>Sum.elim (fun _=>(0,0,0)) id (scan (stepF p) (fun _=>.inl ()) [] p.gFuncs)
theorem big_eq (p:Kw):(bif (decide ((24:Int) < (p.gGlobals.length:Int))) then some true else some (decide ((24:Int) < (p.gFuncs.length:Int))))=some (decide (24 < p.gGlobals.length∨24 < p.gFuncs.length)):=by
 by_cases h1:24 < p.gGlobals.length
 ·have:(24:Int) < (p.gGlobals.length:Int):=by omega
  simp [h1,this]
 have h1':¬ (24:Int) < (p.gGlobals.length:Int):=by omega
 by_cases h2:24 < p.gFuncs.length
 ·have:(24:Int) < (p.gFuncs.length:Int):=by omega
  simp [h1,h1',h2,this]
 have:¬ (24:Int) < (p.gFuncs.length:Int):=by omega
 simp [h1,h1',h2,this]
theorem cprog_eq {p:Kw}(hp:PFit p):Kdt p=some (prS p):=by
 unfold Kdt prS;rw [big_eq,Option.bind_some];by_cases hb:24 < p.gGlobals.length∨24 < p.gFuncs.length
 ·simp [hb]
 simp only [hb,decide_false,cond_false,if_false];rw [twice_eq hp.gl hp.fu,Option.bind_some];cases dupN [] (KiG p) with
 |
  some i=>
  have:decide ((0:Int)≤((i:Nat):Int))=true:=by simp
  simp only [this,cond_true]
 |
  none=>
  have:decide ((0:Int)≤-1)=false:=by decide
  simp only [this,cond_false];rw [Kmm hp (fun x hx=>checkF_eq (hp.fn x hx).1 (hp.fn x hx).2) (fun s=>rfl),Option.bind_some];cases scan (stepF p) (fun _=>.inl ()) [] p.gFuncs<;>rfl
theorem rprog_eq {p:Kw}(hp:PFit p):Kfc p=some (prS p):=by
 have h1:=hp.gl;have h2:=hp.fu
 unfold Kfc prS;rw [big_eq,Option.bind_some];by_cases hb:24 < p.gGlobals.length∨24 < p.gFuncs.length
 ·simp [hb]
 simp only [hb,decide_false,cond_false,if_false];rw [Km2 (fun g:KM=>g.gName) (l:=p.gGlobals) (by simp;omega) (fun s=>rfl),Option.bind_some,List.nil_append,
  Km2 (fun g:Kq=>g.gName) (l:=p.gFuncs) (by simp;omega) (fun s=>rfl),Option.bind_some]
 show Option.bind (loopM _ _) _=_
 rw [dup_loop (ns:=p.gGlobals.map (·.gName)++p.gFuncs.map (·.gName)) (by simp;omega) (fun s=>rfl),Option.bind_some];unfold KiG;cases dupN [] (p.gGlobals.map (·.gName)++p.gFuncs.map (·.gName)) with
 | some i=>rfl
 |
  none=>
  simp only [Sum.elim_inl];rw [Kmm hp (E:=Kgg p) (fun x hx=>rfunc_wr (hp.fn x hx).1 (hp.fn x hx).2) (fun s=>rfl),Option.bind_some];cases scan (stepF p) (fun _=>.inl ()) [] p.gFuncs<;>rfl
end
section
open Go
set_option linter.all false
theorem KhF {β:Type}{l:List β}{F:Int→Option (Step Int Unit)}(h1:∀ pre x post,l=pre++x::post→F (pre.length:Int)=some (.next ((pre.length+1:Nat):Int)))(h2:F (l.length:Int)=some (.done ())):loopM F (0:Int)=some ():=
 loop_pre l (fun _=>()) (fun _ k=>(k:Int)) (fun _=>()) h1 h2
theorem Km3 {l:List Kab}(hb:l.length≤1048576):Khg l l=some true:=by
 unfold Khg;simp only [bne_self_eq_false,cond_false];rw [KhF (l:=l) (fun pre x post e=>?_) (by simp)]
 ·rfl
 have hix:idx l (pre.length:Int)=some x:=by rw [e];exact Kbo _ _ _
 simp only [Kbi e,cond_true,hix,Option.bind_some,decide_true,beq_self_eq_true,Bool.and_self,Bool.not_true,cond_false];rw [Ka1 e (by omega)]
theorem Klv:∀ (n:Nat) (l:List Kc),dpEs l+1≤n→szEs l≤1048576→KcX n l l true=some true
 | 0,l,h,_=>by omega
 |
  n+1,l,h,hb=>by
  show Keh (KcX n) l l true=_
  unfold Keh;have hl:=Khp l;simp only [bne_self_eq_false,cond_false];rw [KhF (l:=l) (fun pre x post e=>?_) (by simp)]
  ·rfl
  have hix:idx l (pre.length:Int)=some x:=by rw [e];exact Kbo _ _ _
  have hd:=KgA (Kdi e);have hz:=KfP (Kdi e);have:=Ke9 x;have:=Kf7 x
  simp only [Kbi e,cond_true,hix,Option.bind_some,decide_true,bne_self_eq_false,Bool.not_true,cond_false,Klv n x.gKids (by omega) (by omega)];rw [Ka1 e (by omega)]
theorem exps_refl {l:List Kc}(h:szEs l≤1048576):Kkj l l true=some true:=Knz l l true _ (Klv (dpEs l+1) l (Nat.le_refl _) h)
theorem KiH:∀ (n:Nat) (l:List Km),hSs l≤n→szSs l≤1048576→Kb5 n l l true=some true
 | 0,l,h,_=>by have:=Kh3 l;omega
 |
  n+1,l,h,hb=>by
  show Kc6 (Kb5 n) l l true=_
  unfold Kc6;have hl:=Khq l;simp only [bne_self_eq_false,cond_false];rw [KhF (l:=l) (fun pre x post e=>?_) (by simp)]
  ·rfl
  have hix:idx l (pre.length:Int)=some x:=by rw [e];exact Kbo _ _ _
  have hd:=KjZ (Kdi e);have hz:=Kh2 (Kdi e);have:=hS_eq x;have:=KhE x
  simp only [Kbi e,cond_true,hix,Option.bind_some,decide_true,bne_self_eq_false,Bool.not_true,cond_false,exps_refl (l:=x.gExps) (by omega),KiH n x.gKids (by omega) (by omega),KiH n x.gElse (by omega) (by omega)];rw [Ka1 e (by omega)]
theorem stmts_refl {l:List Km}(h:szSs l≤1048576):Kht l l true=some true:=Kmr l l true _ (KiH (hSs l) l (Nat.le_refl _) h)
theorem sameF_refl {a:Kq}(h1:a.gParams.length≤1048576)(h2:a.gLocals.length≤1048576)(h3:szSs a.gBody≤1048576):Kft a a true=some true:=by
 unfold Kft;rw [Km3 h1,Km3 h2,stmts_refl h3];simp
theorem sameP {p:Kw}(hp:PFit p):Khh p p true=some true:=by
 have h1:=hp.gl;have h2:=hp.fu
 unfold Khh;simp only [bne_self_eq_false,cond_false,Option.bind_some];rw [KhF (l:=p.gGlobals) (fun pre x post e=>?_) (by simp),Option.bind_some,KhF (l:=p.gFuncs) (fun pre x post e=>?_) (by simp),Option.bind_some]
 ·have hix:idx p.gFuncs (pre.length:Int)=some x:=by rw [e];exact Kbo _ _ _
  have hx:=hp.fn x (Kdi e);simp only [Kbi e,cond_true,hix,Option.bind_some,sameF_refl hx.1.fp hx.1.fl hx.2,Bool.not_true,cond_false];rw [Ka1 e (by omega)]
 have hix:idx p.gGlobals (pre.length:Int)=some x:=by rw [e];exact Kbo _ _ _
 simp only [Kbi e,cond_true,hix,Option.bind_some,decide_true,Bool.not_true,beq_self_eq_true,bne_self_eq_false,cond_false];rw [Ka1 e (by omega)]
end
section
open Go
set_option linter.all false
theorem Ki8 {β:Type}{one:β→Option β}{l:List β}(hb:l.length≤1048576)(h:∀ x∈l,one x=some x){F:Int×List β→Option (Step (Int×List β) (List β))}
  (hF:∀ s,F s=(bif (decide (s.1 < (l.length:Int))) then ((idx s.2 s.1).bind fun x49=>((one x49).bind fun x51=>((idx s.2 s.1).bind fun x52=>some (.next ((IntKind.i64.wrap (s.1+(1:Int))),(s.2.set s.1.toNat x51)))))) else some (.done s.2))):loopM F ((0:Int),l)=some l:=by
 refine loop_pre l (fun _=>()) (fun _ k=>((k:Int),l)) (fun _=>l) (fun pre x post e=>?_) ?_
 ·have hset:l.set pre.length x=l:=by rw [e];simp [List.set_append]
  have hix:idx l (pre.length:Int)=some x:=by rw [e];exact Kbo _ _ _
  rw [hF];simp only [Kbi e,cond_true,hix,Option.bind_some,h x (Kdi e),Int.toNat_natCast,hset];rw [Ka1 e (by omega)]
 rw [hF];simp
theorem mk_ok {bb n:Nat}(hb:bb≤4096)(h:n≤1048576):need (mkOK bb (n:Int) (n:Int))=some ():=by
 have h1:(n:Int)*bb≤140737488355328:=by
  have:=Nat.mul_le_mul h hb;have:(n:Int)*(bb:Int)≤((1048576*4096:Nat):Int):=by exact_mod_cast this
  omega
 unfold need mkOK;simp [h1]
theorem mk_len {β γ:Type}{l:List β}{z:γ}:need (decide (l.length=(List.replicate (l.length:Int).toNat z).length))=some ():=by
 unfold need;simp
theorem Kgh {β:Type}{bb:Nat}{l:List β}(hb:bb≤4096)(h:l.length≤1048576):app bb l ([]:List β)=some l:=by
 rw [Kdj hb (by simp;omega)];simp
theorem copyE_g:∀ n,(∀ l,dpEs l≤n→szEs l≤1048576→(KP (2*n+1)).1 l=some l)∧(∀ e,dpE e≤n→szE e≤1048576→(KP (2*n)).2 e=some e)
 |
  0=>by
  refine ⟨fun l h hs=>?_,fun e h _=>by have:=Ke9 e;omega⟩;cases l with
  |
   nil=>
   show KaK (KP 0).1 (KP 0).2 []=_
   unfold KaK;rw [mk_ok (by omega) (by simp),Option.bind_some,mk_len,Option.bind_some,Ki8 (one:=(KP 0).2) (by simp) (by simp) (fun _=>rfl)];rfl
  | cons x l=>have:=KgA (l:=x::l) (e:=x) (by simp);have:=Ke9 x;omega
 |
  n+1=>by
  have ih:=copyE_g n;have h2:∀ e,dpE e≤n+1→szE e≤1048576→(KP (2*(n+1))).2 e=some e:=fun e h hs=>by
   show KcG (KP (2*n+1)).1 (KP (2*n+1)).2 e=_
   unfold KcG;have:=Ke9 e;have:=Kf7 e
   rw [ih.1 e.gKids (by omega) (by omega)];cases e;rfl
  refine ⟨fun l h hs=>?_,h2⟩;show KaK (KP (2*(n+1))).1 (KP (2*(n+1))).2 l=_
  unfold KaK;have hl:=Khp l;rw [mk_ok (by omega) (by omega),Option.bind_some,mk_len,Option.bind_some,Ki8 (one:=(KP (2*(n+1))).2) (by omega) (fun x hx=>h2 x (Nat.le_trans (KgA hx) h) (Nat.le_trans (KfP hx) hs)) (fun _=>rfl)];rfl
theorem copyEs {l:List Kc}(h:szEs l≤1048576):Kda l=some l:=Kf1 l _ ((copyE_g (dpEs l)).1 l (Nat.le_refl _) h)
theorem copyS_g:∀ n,(∀ l,hSs l≤n→szSs l≤1048576→(KS (2*n+1)).1 l=some l)∧(∀ e,hS e≤n→szS e≤1048576→(KS (2*n)).2 e=some e)
 | 0=>⟨fun l h hs=>by have:=Kh3 l;omega,fun e h _=>by have:=hS_eq e;omega⟩
 |
  n+1=>by
  have ih:=copyS_g n;have h2:∀ e,hS e≤n+1→szS e≤1048576→(KS (2*(n+1))).2 e=some e:=fun e h hs=>by
   show KcH (KS (2*n+1)).1 (KS (2*n+1)).2 e=_
   unfold KcH;have:=hS_eq e;have:=KhE e
   rw [copyEs (by omega),Option.bind_some,ih.1 e.gKids (by omega) (by omega),Option.bind_some,ih.1 e.gElse (by omega) (by omega)];cases e;rfl
  refine ⟨fun l h hs=>?_,h2⟩;show Ka2 (KS (2*(n+1))).1 (KS (2*(n+1))).2 l=_
  unfold Ka2;have hl:=Khq l;rw [mk_ok (by omega) (by omega),Option.bind_some,mk_len,Option.bind_some,Ki8 (one:=(KS (2*(n+1))).2) (by omega) (fun x hx=>h2 x (Nat.le_trans (KjZ hx) h) (Nat.le_trans (Kh2 hx) hs)) (fun _=>rfl)];rfl
theorem copySs {l:List Km}(h:szSs l≤1048576):Kdb l=some l:=Kf2 l _ ((copyS_g (hSs l)).1 l (Nat.le_refl _) h)
theorem copyF {f:Kq}(h1:f.gParams.length≤1048576)(h2:f.gLocals.length≤1048576)(h3:szSs f.gBody≤1048576):Kcy f=some f:=by
 unfold Kcy Kbq;rw [Kgh (by omega) h1,Option.bind_some,Kgh (by omega) h2,Option.bind_some,copySs h3];rfl
theorem copyP {p:Kw}(hp:PFit p):Kdu p=some p:=by
 have h1:=hp.gl;have h2:=hp.fu
 unfold Kdu Kaz KcC;rw [Kgh (by omega) h1,Option.bind_some,mk_ok (by omega) h2,Option.bind_some,mk_len,Option.bind_some,Ki8 (one:=Kcy) h2 (fun x hx=>copyF (hp.fn x hx).1.fp (hp.fn x hx).1.fl (hp.fn x hx).2) (fun _=>rfl)];rfl
end
section
open Go
set_option linter.all false
theorem Kkw {σ τ:Type}{f:σ→Option (Step σ τ)}(I:σ→Prop)(μ:σ→Nat)(Post:τ→Prop)(h:∀ s,I s→(∃ s',f s=some (.next s')∧I s'∧μ s' < μ s)∨∃ r,f s=some (.done r)∧Post r):∀ {s},I s→∃ r,loopM f s=some r∧Post r:=by
 have key:∀ n s,μ s < n→I s→∃ r,loopM f s=some r∧Post r:=by
  intro n;induction n with
  | zero=>intro s h;omega
  |
   succ n ih=>
   intro s hm hi;rcases h s hi with ⟨s',h1,h2,h3⟩|⟨r,h1,h2⟩
   ·rw [KeN h1];exact ih s' (by omega) h2
   exact ⟨r,Kct h1,h2⟩
 intro s hi;exact key _ s (Nat.lt_succ_self _) hi
def FS (f:Kq):Prop:=f.gParams.length≤1048576∧f.gLocals.length≤1048576∧szSs f.gBody≤1048576
structure Big (p:Kw):Prop where
 gl:p.gGlobals.length≤25
 fu:p.gFuncs.length≤25
 fs:∀ f∈p.gFuncs,FS f
theorem Big.fit {p:Kw}(h:Big p):PFit p:=by
 have h1:=h.gl;have h2:=h.fu
 exact ⟨by omega,by omega,fun f hf=>⟨⟨by omega,by omega,fun g hg=>(h.fs g hg).1,(h.fs f hf).1,(h.fs f hf).2.1⟩,(h.fs f hf).2.2⟩⟩
theorem prS_len {p:Kw}(h:(prS p).2.2=0):p.gGlobals.length≤24∧p.gFuncs.length≤24:=by
 unfold prS at h;by_cases h1:24 < p.gGlobals.length∨24 < p.gFuncs.length
 ·rw [if_pos h1] at h;simp at h
 omega
structure Rt (p:Kw):Prop where
 ok:(prS p).2.2=0
 fs:∀ f∈p.gFuncs,FS f
theorem Rt.big {p:Kw}(h:Rt p):Big p:=by
 have:=prS_len h.ok;exact ⟨by omega,by omega,h.fs⟩
theorem KiI {β:Type}{l:List β}(t:β→Bool)(hb:l.length≤1048576){F:Int→Option (Step Int (Unit⊕Int))}(hF:∀ s,F s=(bif (decide (s < (l.length:Int))) then ((idx l s).bind fun x=>(bif (t x) then some (.done (.inr s)) else some (.next (IntKind.i64.wrap (s+(1:Int)))))) else some (.done (.inl ())))) :
  ∃ r,loopM F (0:Int)=some r∧∀ i,r=.inr i→∃ k:Nat,i=(k:Int)∧k < l.length:=by
 refine Kkw (fun s=>∃ k:Nat,s=(k:Int)∧k≤l.length) (fun s=>l.length - s.toNat) (fun r=>∀ i,r=Sum.inr i→∃ k:Nat,i=(k:Int)∧k < l.length) (fun s hs=>?_) ⟨0,rfl,Nat.zero_le _⟩;obtain ⟨k,rfl,hk⟩:=hs;rw [hF];by_cases h:k < l.length
 ·rw [decide_eq_true (by omega),cond_true,Kgo,List.getElem?_eq_getElem h,Option.bind_some];cases ht:t l[k] with
  | true=>exact .inr ⟨_,rfl,fun i e=>⟨k,by cases e;rfl,h⟩⟩
  |
   false=>
   have hw:IntKind.i64.wrap ((k:Int)+1)=((k+1:Nat):Int):=by rw [IntKind.wrap_i64];omega
   refine .inl ⟨_,rfl,⟨k+1,hw,h⟩,?_⟩;rw [hw];simp only [Int.toNat_natCast];omega
 rw [decide_eq_false (by omega),cond_false];exact .inr ⟨_,rfl,fun i e=>by cases e⟩
def Sub {β:Type}(l m:List β):Prop:=l.length≤m.length∧∀ x∈l,x∈m
theorem Km4 {β:Type}{a:List β}{z:β}(t:β→Bool)(hb:a.length≤1048576){ix:Option Int}(hix:ix=some (-1)∨∃ k:Nat,ix=some (k:Int)∧k < a.length){F:Int×Int×List β→Option (Step (Int×Int×List β) (Int×List β))}
  (hF:∀ s,F s=(bif (decide (s.2.1 < (s.2.2.length:Int))) then ((idx s.2.2 s.2.1).bind fun x58=>(bif (!(t x58)) then ((idx s.2.2 s.1).bind fun x62=>some (.next ((IntKind.i64.wrap (s.1+(1:Int))),(IntKind.i64.wrap (s.2.1+(1:Int))),(s.2.2.set s.1.toNat x58)))) else some (.next (s.1,(IntKind.i64.wrap (s.2.1+(1:Int))),s.2.2)))) else some (.done (s.1,s.2.2)))) :
  ∃ l,(ix.bind fun x1=>(bif (x1==(-1:Int)) then some a else (Option.bind (loopM F (x1,(IntKind.i64.wrap (x1+(1:Int))),a)) fun y34=>((cutL y34.2 y34.1 ((y34.2).length:Int)).bind fun x63=>((cutL (clrL y34.2 y34.1.toNat z) (0:Int) y34.1).bind fun x64=>some x64)))))=some l∧Sub l a:=by
 rcases hix with rfl|⟨k,rfl,hk⟩
 ·exact ⟨a,rfl,Nat.le_refl _,fun x h=>h⟩
 rw [Option.bind_some,show ((k:Int)==-1)=false by simp,cond_false];have hw:∀ j:Nat,j < 1048577→IntKind.i64.wrap ((j:Int)+1)=((j+1:Nat):Int):=fun j h=>by rw [IntKind.wrap_i64];omega
 obtain ⟨r,h1,i,l,rfl,h2,h3,h4⟩:=Kkw (f:=F) (fun s=>∃ (i j:Nat) (l:List β),s=((i:Int),(j:Int),l)∧i < j∧j≤a.length∧l.length=a.length∧∀ x∈l,x∈a) (fun s=>a.length - s.2.1.toNat) (fun r=>∃ (i:Nat) (l:List β),r=((i:Int),l)∧i≤a.length∧l.length=a.length∧∀ x∈l,x∈a) (fun s hs=>by
  obtain ⟨i,j,l,rfl,h1,h2,h3,h4⟩:=hs;rw [hF];simp only;by_cases h:j < a.length
  ·have hj:l[j]? = some l[j]:=List.getElem?_eq_getElem (by omega);have hi:l[i]? = some l[i]:=List.getElem?_eq_getElem (by omega);rw [decide_eq_true (by omega),cond_true,Kgo,hj,Option.bind_some,hw j (by omega),hw i (by omega)];cases t l[j] with
   | true=>exact .inl ⟨_,rfl,⟨i,j+1,l,rfl,by omega,by omega,h3,h4⟩,by simp only [Int.toNat_natCast];omega⟩
   |
    false=>
    rw [Bool.not_false,cond_true,Kgo,hi,Option.bind_some];refine .inl ⟨_,rfl,⟨i+1,j+1,l.set i l[j],by simp,by omega,by omega,by simpa using h3,fun x hx=>?_⟩,by simp only [Int.toNat_natCast];omega⟩;rcases List.mem_or_eq_of_mem_set hx with hx|rfl
    ·exact h4 x hx
    exact h4 _ (List.getElem_mem _)
  rw [decide_eq_false (by omega),cond_false];exact .inr ⟨_,rfl,i,l,rfl,by omega,h3,h4⟩) (s:=((k:Int),IntKind.i64.wrap ((k:Int)+1),a)) ⟨k,k+1,a,by rw [hw k (by omega)],by omega,hk,rfl,fun x h=>h⟩
 rw [h1,Option.bind_some];simp only [Int.toNat_natCast];have c1:cutL l (i:Int) (l.length:Int)=some (l.drop i):=by
  unfold cutL;rw [show (decide (0≤(i:Int)) && decide ((i:Int)≤(l.length:Int)) && decide ((l.length:Int)≤(l.length:Int)))=true by simp;omega,cond_true];simp [List.take_of_length_le]
 have c2:cutL (clrL l i z) 0 (i:Int)=some (l.take i):=by
  have hlen:(clrL l i z).length=l.length:=by unfold clrL;simp;omega
  unfold cutL;rw [show (decide ((0:Int)≤0) && decide ((0:Int)≤(i:Int)) && decide ((i:Int)≤((clrL l i z).length:Int)))=true by rw [hlen];simp;omega,cond_true];simp only [Int.toNat_zero,List.drop_zero,Int.toNat_natCast,Nat.sub_zero];unfold clrL;rw [List.take_append_of_le_length (by simp;omega),List.take_take,Nat.min_self]
 rw [c1,Option.bind_some,c2,Option.bind_some];exact ⟨_,rfl,by simp;omega,fun x hx=>h4 x (List.mem_of_mem_take hx)⟩
theorem try_is {p q:Kw}{own:Int}(hq:Big q):∃ at_ e r,KbS ⟨p⟩ q own=some (at_,e,⟨r⟩)∧((e=0∧r=q∧(prS q).2.2=0)∨(e ≠ 0∧r=p)):=by
 unfold KbS;rw [cprog_eq hq.fit,Option.bind_some];by_cases h:(prS q).2.2=0
 ·rw [show ((prS q).2.2==0)=true by simp [h]];exact ⟨0,0,q,rfl,.inl ⟨rfl,rfl,h⟩⟩
 rw [show ((prS q).2.2==0)=false by simp [h]];cases h2:(prS q).1 != own with
 | true=>exact ⟨0,_,p,rfl,.inr ⟨h,rfl⟩⟩
 | false=>exact ⟨_,_,p,rfl,.inr ⟨h,rfl⟩⟩
theorem put_fs {l m:List Kq}{f:Kq}(hl:∀ g∈l,FS g)(hf:FS f)(h:∀ g∈m,g∈l∨g=f):∀ g∈m,FS g:=fun g hg=>by
 rcases h g hg with h|rfl
 ·exact hl g h
 exact hf
theorem setF {l:List Kq}(hl:l.length≤1000)(f:Kq):∃ m i,Kco l f f=some (m,i)∧m.length≤l.length+1∧∀ g∈m,g∈l∨g=f:=by
 unfold Kco KaY KaT KcR;rw [Kgh (by omega) (by omega),Option.bind_some];simp only [Option.bind_some];obtain ⟨r,h1,h2⟩:=KiI (fun x:Kq=>decide (x.gName=f.gName)) (l:=l) (by omega) (fun _=>rfl);rw [h1,Option.bind_some];cases r with
 |
  inl u=>
  rw [Sum.elim_inl,Option.bind_some,show decide ((-1:Int) < 0)=true from rfl,cond_true,Kdj (by omega) (by simp;omega)];exact ⟨_,_,rfl,by simp,fun g hg=>by simpa using hg⟩
 |
  inr i=>
  obtain ⟨k,rfl,hk⟩:=h2 i rfl;rw [Sum.elim_inr,Option.bind_some,decide_eq_false (by omega),cond_false,Kgo,List.getElem?_eq_getElem hk,Option.bind_some];refine ⟨_,_,rfl,by simp,fun g hg=>?_⟩;exact List.mem_or_eq_of_mem_set hg
theorem setG {l:List KM}(hl:l.length≤1000)(f:KM):∃ m i,Kc2 l f f=some (m,i)∧m.length≤l.length+1:=by
 unfold Kc2 Kaz Kbg KdD;rw [Kgh (by omega) (by omega),Option.bind_some];simp only [Option.bind_some];obtain ⟨r,h1,h2⟩:=KiI (fun x:KM=>decide (x.gName=f.gName)) (l:=l) (by omega) (fun _=>rfl);rw [h1,Option.bind_some];cases r with
 |
  inl u=>
  rw [Sum.elim_inl,Option.bind_some,show decide ((-1:Int) < 0)=true from rfl,cond_true,Kdj (by omega) (by simp;omega)];exact ⟨_,_,rfl,by simp⟩
 |
  inr i=>
  obtain ⟨k,rfl,hk⟩:=h2 i rfl;rw [Sum.elim_inr,Option.bind_some,decide_eq_false (by omega),cond_false,Kgo,List.getElem?_eq_getElem hk,Option.bind_some];exact ⟨_,_,rfl,by simp⟩
theorem delF {l:List Kq}(hl:l.length≤1000)(n:ByteArray):∃ m,KaJ l n=some m∧Sub m l:=by
 unfold KaJ;refine Km4 (fun x=>decide (x.gName=n)) (by omega) ?_ (fun _=>rfl);unfold KaQ Kcp;simp only [Option.bind_some];obtain ⟨r,h1,h2⟩:=KiI (fun x:Kq=>decide (x.gName=n)) (l:=l) (by omega) (fun _=>rfl);rw [h1,Option.bind_some];cases r with
 | inl u=>exact .inl rfl
 |
  inr i=>
  obtain ⟨k,rfl,hk⟩:=h2 i rfl;exact .inr ⟨k,rfl,hk⟩
theorem delG {l:List KM}(hl:l.length≤1000)(n:ByteArray):∃ m,KaF l n=some m∧Sub m l:=by
 unfold KaF;refine Km4 (fun x=>decide (x.gName=n)) (by omega) ?_ (fun _=>rfl);unfold KaI Kdq;simp only [Option.bind_some];obtain ⟨r,h1,h2⟩:=KiI (fun x:KM=>decide (x.gName=n)) (l:=l) (by omega) (fun _=>rfl);rw [h1,Option.bind_some];cases r with
 | inl u=>exact .inl rfl
 |
  inr i=>
  obtain ⟨k,rfl,hk⟩:=h2 i rfl;exact .inr ⟨k,rfl,hk⟩
def ReadsF:Prop:=∀ b,∃ f at_ e,Kcn b=some (f,at_,e)∧(e=0→FS f)
def ReadsG:Prop:=∀ b,∃ (f:KM) (at_ e:Int),KcQ b=some (f,at_,e)
theorem do_is (hF:ReadsF)(hG:ReadsG){p:Kw}(hp:Rt p)(x:KaZ):∃ at_ e q,KjR ⟨p⟩ x=some (at_,e,⟨q⟩)∧Rt q∧(e ≠ 0→q=p):=by
 have hb:=hp.big;have h1:=hb.gl;have h2:=hb.fu
 have hl:=prS_len hp.ok;have fin:∀ {q:Kw} {own:Int},Big q→∃ at_ e r,KbS ⟨p⟩ q own=some (at_,e,⟨r⟩)∧Rt r∧(e ≠ 0→r=p):=fun hq=>by
  obtain ⟨a,e,r,k1,k2⟩:=try_is (p:=p) hq;refine ⟨a,e,r,k1,?_⟩;rcases k2 with ⟨rfl,rfl,k3⟩|⟨k3,rfl⟩
  ·exact ⟨⟨k3,hq.fs⟩,fun h=>absurd rfl h⟩
  exact ⟨hp,fun _=>rfl⟩
 unfold KjR;cases x.gKind==0 with
 |
  true=>
  obtain ⟨f,a,e,k1,k2⟩:=hF x.gText;rw [cond_true];unfold KcL;rw [k1,Option.bind_some];by_cases he:e=0
  ·subst he;obtain ⟨m,i,s1,s2,s3⟩:=setF (l:=p.gFuncs) (by omega) f;simp only [bne_self_eq_false,cond_false,s1,Option.bind_some];obtain ⟨a',e',r,t1,t2⟩:=fin (q:=⟨p.gGlobals,m⟩) (own:=IntKind.i64.wrap ((p.gGlobals.length:Int)+i)) ⟨by simpa using h1,by simp only;omega,put_fs hp.fs (k2 rfl) s3⟩;rw [t1];exact ⟨a',e',r,rfl,t2⟩
  simp only [show (e != 0)=true by simpa using he,cond_true,Option.bind_some];exact ⟨_,_,p,rfl,hp,fun _=>rfl⟩
 |
  false=>
  rw [cond_false];cases x.gKind==1 with
  |
   true=>
   obtain ⟨g,a,e,k1⟩:=hG x.gText;rw [cond_true];unfold Kei;rw [k1,Option.bind_some];by_cases he:e=0
   ·subst he;obtain ⟨m,i,s1,s2⟩:=setG (l:=p.gGlobals) (by omega) g;simp only [bne_self_eq_false,cond_false,s1,Option.bind_some];obtain ⟨a',e',r,t1,t2⟩:=fin (q:=⟨m,p.gFuncs⟩) (own:=-1) ⟨by simp only;omega,by simpa using h2,hp.fs⟩;rw [t1];exact ⟨a',e',r,rfl,t2⟩
   simp only [show (e != 0)=true by simpa using he,cond_true,Option.bind_some];exact ⟨_,_,p,rfl,hp,fun _=>rfl⟩
  |
   false=>
   rw [cond_false];unfold KcM KaY Kaz;simp only;rw [Kgh (by omega) (by omega),Option.bind_some];obtain ⟨mg,g1,g2⟩:=delG (l:=p.gGlobals) (by omega) x.gName;rw [g1,Option.bind_some,Kgh (by omega) (by omega),Option.bind_some];obtain ⟨mf,f1,f2⟩:=delF (l:=p.gFuncs) (by omega) x.gName;rw [f1,Option.bind_some];obtain ⟨a',e',r,t1,t2⟩:=fin (q:=⟨mg,mf⟩) (own:=-1) ⟨by have:=g2.1;simp only;omega,by have:=f2.1;simp only;omega,fun f hf=>hp.fs f (f2.2 f hf)⟩;rw [t1];cases (mg.length:Int)==(p.gGlobals.length:Int)<;>cases (mf.length:Int)==(p.gFuncs.length:Int)
   ·exact ⟨_,e',r,rfl,t2⟩
   ·exact ⟨_,e',r,rfl,t2⟩
   ·exact ⟨_,e',r,rfl,t2⟩
   exact ⟨_,_,p,rfl,hp,fun _=>rfl⟩
theorem prS_zero {p:Kw}(h:(prS p).2.2=0):prS p=(0,0,0):=by
 unfold prS at h ⊢;by_cases h1:24 < p.gGlobals.length∨24 < p.gFuncs.length
 ·rw [if_pos h1] at h;simp at h
 rw [if_neg h1] at h ⊢;cases h2:dupN [] (KiG p) with
 | some i=>rw [h2] at h;simp at h
 |
  none=>
  rw [h2] at h;simp only at h ⊢;have key:∀ (l a:List Kq),(Sum.elim (fun _=>((0,0,0):Int×Int×Int)) id (scan (stepF p) (fun _=>.inl ()) a l)).2.2=0→Sum.elim (fun _=>((0,0,0):Int×Int×Int)) id (scan (stepF p) (fun _=>.inl ()) a l)=(0,0,0):=by
   intro l;induction l with
   | nil=>intro a _;rfl
   |
    cons x l ih=>
    intro a h;simp only [scan] at h ⊢;unfold stepF at h ⊢;by_cases hz:(wr (fnS p x)).2=0
    ·simp only [hz,if_true] at h ⊢;exact ih _ h
    simp only [hz,if_false,Sum.elim_inr,id] at h
  exact key _ _ h
theorem store_loop (hF:ReadsF)(hG:ReadsG){l:List KaZ}(hb:l.length≤9223372036854775807){F:Int×List KM×List Kq→Option (Step (Int×List KM×List Kq) (Unit⊕Bool))}
  (hFF:∀ s58:Int×List KM×List Kq,F s58=(bif (decide (s58.1 < (l.length:Int))) then ((Kba (⟨(⟨s58.2.1,s58.2.2⟩:Kw)⟩:Kaa)).bind fun x94=>((idx l s58.1).bind fun x96=>((KjR (⟨(⟨s58.2.1,s58.2.2⟩:Kw)⟩:Kaa) x96).bind fun x97=>((Kba x97.2.2).bind fun x98=>((Kfc x98).bind fun x100=>(Option.bind (α:=Bool) (bif (x100.2.2 != (0:Int)) then some true else (bif (x97.2.1 != (0:Int)) then ((Khh x94 x98 true).bind fun x107=>some (!x107)) else some false)) fun y104=>(bif y104 then some (.done (.inr false)) else some (.next ((IntKind.i64.wrap (s58.1+(1:Int))),x97.2.2.gP.gGlobals,x97.2.2.gP.gFuncs))))))))) else some (.done (.inl ())))) :
  loopM F ((0:Int),([]:List KM),([]:List Kq))=some (.inl ()):=by
 have h0:Rt (⟨[],[]⟩:Kw):=⟨by unfold prS;simp [KiG,dupN,scan],fun f hf=>by cases hf⟩;obtain ⟨r,h1,h2⟩:=Kkw (f:=F) (fun s:Int×List KM×List Kq=>∃ k:Nat,s.1=(k:Int)∧k≤l.length∧Rt ⟨s.2.1,s.2.2⟩) (fun s=>l.length - s.1.toNat) (fun r:Unit⊕Bool=>r=.inl ()) (fun s hs=>by
  obtain ⟨k,e,hk,hr⟩:=hs;obtain ⟨i,g,f⟩:=s;simp only at e hr;subst e;rw [hFF];simp only;by_cases h:k < l.length
  ·have hw:IntKind.i64.wrap ((k:Int)+1)=((k+1:Nat):Int):=by rw [IntKind.wrap_i64];omega
   obtain ⟨a,e,q,d1,d2,d3⟩:=do_is hF hG hr l[k];have c1:=copyP hr.big.fit;have c2:=copyP d2.big.fit;have c3:=rprog_eq d2.big.fit;have c4:=prS_zero d2.ok;refine .inl ⟨(((k+1:Nat):Int),q.gGlobals,q.gFuncs),?_,⟨k+1,rfl,h,d2⟩,by simp only [Int.toNat_natCast];omega⟩;rw [decide_eq_true (by omega),cond_true];unfold Kba;simp only [c1,Option.bind_some,Kgo,List.getElem?_eq_getElem h,d1,c2,c3,c4,bne_self_eq_false,cond_false];by_cases he:e=0
   ·subst he;simp only [bne_self_eq_false,cond_false,Option.bind_some,hw]
   have hq:=d3 he;subst hq;simp only [show (e != 0)=true by simpa using he,cond_true,sameP hr.big.fit,Option.bind_some,Bool.not_true,cond_false,hw]
  refine .inr ⟨.inl (),?_,rfl⟩;rw [decide_eq_false (by omega),cond_false]) (s:=((0:Int),([]:List KM),([]:List Kq))) ⟨0,rfl,Nat.zero_le _,h0⟩
 rw [h1,h2]
theorem KmC (hF:ReadsF)(hG:ReadsG)(hl:l36_lives=some true){l:List KaZ}(hb:l.length≤9223372036854775807):KeA l=some true:=by
 unfold KeA store_New;rw [Option.bind_some,store_loop hF hG hb (fun _=>rfl),Option.bind_some,Sum.elim_inl,hl];rfl
end
section
open Go
set_option linter.all false
def T {α:Type}(m:Option α)(P:α→Prop):Prop:=∃ r,m=some r∧P r
theorem T.bind {α β:Type}{m:Option α}{f:α→Option β}{P:α→Prop}{Q:β→Prop}(h:T m P)(g:∀ x,P x→T (f x) Q):T (m.bind f) Q:=by
 obtain ⟨x,rfl,hx⟩:=h;exact g x hx
theorem T.ret {α:Type}{x:α}{P:α→Prop}(h:P x):T (some x) P:=⟨x,rfl,h⟩
theorem T.cond {α:Type}{c:Bool}{a b:Option α}{P:α→Prop}(h1:c=true→T a P)(h2:c=false→T b P):T (bif c then a else b) P:=by
 cases c
 ·exact h2 rfl
 exact h1 rfl
theorem T.imp {α:Type}{m:Option α}{P Q:α→Prop}(h:T m P)(g:∀ x,P x→Q x):T m Q:=by
 obtain ⟨x,h1,h2⟩:=h;exact ⟨x,h1,g x h2⟩
def StepP {σ τ:Type}(I:σ→Prop)(μ:σ→Nat)(n:Nat)(Post:τ→Prop):Step σ τ→Prop
 | .next s'=>I s'∧μ s' < n
 | .done r=>Post r
theorem T.loop {σ τ:Type}{f:σ→Option (Step σ τ)}(I:σ→Prop)(μ:σ→Nat){Post:τ→Prop}{s:σ}(hi:I s)(h:∀ s,I s→T (f s) (StepP I μ (μ s) Post)):T (loopM f s) Post:=by
 refine Kkw I μ Post (fun s hs=>?_) hi;obtain ⟨r,h1,h2⟩:=h s hs;cases r with
 | next s'=>exact .inl ⟨s',h1,h2.1,h2.2⟩
 | done r=>exact .inr ⟨r,h1,h2⟩
theorem T.idx {α:Type}{l:List α}{k:Nat}{P:α→Prop}(h:k < l.length)(g:∀ x,l[k]? = some x→P x):T (idx l (k:Int)) P:=by
 rw [Kgo];exact ⟨l[k],List.getElem?_eq_getElem h,g _ (List.getElem?_eq_getElem h)⟩
theorem T.cut {α:Type}{l:List α}{a b:Nat}{P:List α→Prop}(h1:a≤b)(h2:b≤l.length)(g:∀ x:List α,x.length=b - a→P x):T (cutL l (a:Int) (b:Int)) P:=by
 unfold cutL;rw [show (decide (0≤(a:Int)) && decide ((a:Int)≤(b:Int)) && decide ((b:Int)≤(l.length:Int)))=true by simp;omega,cond_true];refine T.ret (g _ ?_);simp;omega
theorem wn {n:Nat}(h:n < 1000000000):IntKind.i64.wrap ((n:Int)+1)=((n+1:Nat):Int):=by rw [IntKind.wrap_i64];omega
theorem wa {n k:Nat}(h:n+k < 1000000000):IntKind.i64.wrap ((n:Int)+(k:Int))=((n+k:Nat):Int):=by rw [IntKind.wrap_i64];omega
theorem tkind (c:Int):T (Kdz c) fun _=>True:=by
 unfold Kdz;repeat' (first|exact T.ret trivial|(refine T.cond (fun _=>?_) (fun _=>?_))|(refine T.bind (P:=fun _=>True) ?_ (fun _ _=>?_)))
theorem tcont (l:List ByteArray)(s:ByteArray)(hl:l.length≤1000):T (KaO l s) fun _=>True:=by
 unfold KaO KbA;refine T.bind (P:=fun _=>True) ?_ fun _ _=>T.ret trivial
 obtain ⟨r,h1,_⟩:=KiI (fun x=>decide (s=x)) (l:=l) (by omega) (fun _=>rfl);rw [h1];cases r<;>exact T.ret trivial
theorem tword (s:ByteArray):T (KeR s) fun _=>True:=by
 unfold KeR;refine T.bind (tcont _ _ ?_) fun _ _=>T.ret trivial
 simp
structure TkI (m:KU) (a:Nat):Prop where
 at_:m.gAt=(a:Int)
 le:a≤m.gB.length
 len:m.gB.length≤20000
 l:m.gL.length≤4000
def fk (m:KU)(a:Nat)(k:Int):Prop:=∃ c,m.gB[a]? = some c∧Kdz (IntKind.i32.wrap (c.toNat:Int))=some k
theorem tspan {m:KU}{a:Nat}(h:TkI m a)(b:Bool):T (KbN m b) fun n=>∃ k:Nat,n=(k:Int)∧a+k≤m.gB.length∧(fk m a 3→1≤k)∧(b=true→fk m a 2→1≤k):=by
 have h1:=h.le;have h2:=h.len
 unfold KbN;refine T.bind (P:=fun n=>∃ k:Nat,n=(k:Int)∧a+k≤m.gB.length∧(fk m a 3→1≤k)∧(b=true→fk m a 2→1≤k)) ?_ fun x hx=>T.ret hx
 refine T.loop (fun s=>∃ k:Nat,s=(k:Int)∧a+k≤m.gB.length) (fun s=>m.gB.length - (a+s.toNat)) ⟨0,rfl,by omega⟩ fun s hs=>?_
 obtain ⟨k,rfl,hk⟩:=hs;rw [h.at_,wa (by omega)];refine T.cond (fun hc=>?_) (fun hc=>T.ret ⟨k,rfl,hk,fun ⟨c,e,_⟩=>?_,fun _ ⟨c,e,_⟩=>?_⟩)
 ·have hlt:a+k < m.gB.length:=by have:=of_decide_eq_true hc;omega
  refine T.bind (P:=fun c=>m.gB[a+k]? = some c) (T.idx hlt fun x hx=>hx) fun c he=>?_
  obtain ⟨kd,hkd,_⟩:=tkind (IntKind.i32.wrap (c.toNat:Int));rw [hkd,Option.bind_some];have nx:StepP (fun s=>∃ k:Nat,s=(k:Int)∧a+k≤m.gB.length) (fun s:Int=>m.gB.length - (a+s.toNat)) (m.gB.length - (a+((k:Int)).toNat)) (fun n=>∃ k:Nat,n=(k:Int)∧a+k≤m.gB.length∧(fk m a 3→1≤k)∧(b=true→fk m a 2→1≤k)) (.next (IntKind.i64.wrap ((k:Int)+1))):=by
   rw [wn (by omega)];exact ⟨⟨k+1,rfl,by omega⟩,by simp only [Int.toNat_natCast];omega⟩
  have key:∀ q,fk m a q→k=0→kd=q:=fun q ⟨c',e1,e2⟩ h0=>by
   subst h0;rw [Nat.add_zero,e1] at he;cases he;rw [e2] at hkd;cases hkd;rfl
  refine T.cond (fun h3=>T.cond (fun h4=>T.ret ⟨k,rfl,hk,fun hf=>?_,fun _ hf=>?_⟩) fun h4=>T.cond (fun h5=>T.ret ⟨k,rfl,hk,fun hf=>?_,fun hb hf=>?_⟩) fun _=>T.ret nx) fun _=>T.ret nx
  ·rcases Nat.eq_zero_or_pos k with h0|h0
   ·rw [key 3 hf h0] at h3;cases h3
   exact h0
  ·rcases Nat.eq_zero_or_pos k with h0|h0
   ·rw [key 2 hf h0] at h4;cases h4
   exact h0
  ·rcases Nat.eq_zero_or_pos k with h0|h0
   ·rw [key 3 hf h0] at h3;cases h3
   exact h0
  rw [hb] at h5;cases h5
 ·rcases Nat.eq_zero_or_pos k with h0|h0
  ·subst h0;have:a < m.gB.length:=(List.getElem?_eq_some_iff.1 e).1;simp at hc;omega
  exact h0
 rcases Nat.eq_zero_or_pos k with h0|h0
 ·subst h0;have:a < m.gB.length:=(List.getElem?_eq_some_iff.1 e).1;simp at hc;omega
 exact h0
def TP (m:KU)(a:Nat)(r:Int×KU):Prop:=r.1 ≠ 0∨∃ a',a < a'∧TkI r.2 a'∧r.2.gB=m.gB
theorem tadd {m:KU}{a:Nat}(h:TkI m a){k:Nat}(h1:1≤k)(h2:a+k≤m.gB.length)(kd v:Int):T (KbG m kd (k:Int) v) (TP m a):=by
 have h3:=h.l;have h4:=h.len
 unfold KbG;refine T.cond (fun _=>T.ret (.inl (by simp))) fun hc=>?_
 have hl:m.gL.length < 4000:=by
  have:=of_decide_eq_false hc;omega
 rw [h.at_,wa (by omega)];refine T.bind (P:=fun _=>True) (T.cut (by omega) h2 fun _ _=>trivial) fun x _=>?_
 rw [Kdj (by omega) (by simp;omega),Option.bind_some];exact T.ret (.inr ⟨a+k,by omega,⟨rfl,h2,h4,by simp;omega⟩,rfl⟩)
theorem tname {m:KU}{a:Nat}(h:TkI m a)(hf:fk m a 2):T (Kcv m) (TP m a):=by
 have h4:=h.len;have h5:=h.le
 unfold Kcv;refine T.bind (tspan h true) fun n hn=>?_
 obtain ⟨k,rfl,k1,_,k2⟩:=hn;have k3:=k2 rfl hf;rw [h.at_,wa (by omega)];refine T.bind (P:=fun _=>True) (T.cut (by omega) k1 fun _ _=>trivial) fun x _=>?_
 refine T.cond (fun _=>T.ret (.inl (by simp))) fun _=>T.bind (tword _) fun w _=>T.cond (fun _=>?_) fun _=>?_
 ·exact T.bind (tadd h k3 k1 3 0) fun x hx=>T.ret hx
 exact T.bind (tadd h k3 k1 1 0) fun x hx=>T.ret hx
theorem tnumber {m:KU}{a:Nat}(h:TkI m a)(hf:fk m a 3):T (Kcd m) (TP m a):=by
 have h4:=h.len;have h5:=h.le
 unfold Kcd;refine T.cond (fun _=>T.ret (.inl (by simp))) fun _=>T.bind (tspan h false) fun n hn=>?_
 obtain ⟨k,rfl,k1,k2,_⟩:=hn;have k3:=k2 hf;refine T.bind (P:=fun _=>True) ?_ fun y _=>T.cond (fun _=>T.ret (.inl (by simp))) fun _=>?_
 ·refine T.bind (tspan h true) fun n hn=>T.cond (fun _=>T.ret trivial) fun _=>?_
  rw [h.at_];exact T.bind (P:=fun _=>True) (T.idx (by omega) fun _ _=>trivial) fun c _=>T.cond (fun _=>T.ret trivial) fun _=>T.ret trivial
 rw [h.at_,wa (by omega)];refine T.bind (P:=fun x=>x.length=k) (T.cut (by omega) k1 fun _ e=>by omega) fun x hx=>?_
 refine T.bind (P:=fun r=>∀ q,r=Sum.inr q→q.1 ≠ 0) ?_ fun r hr=>?_
 ·refine T.loop (fun s=>∃ j:Nat,s.2=(j:Int)∧j≤k) (fun s=>k - s.2.toNat) ⟨0,rfl,by omega⟩ fun s hs=>?_
  obtain ⟨j,e,hj⟩:=hs;obtain ⟨s1,s2⟩:=s;simp only at e;subst e;refine T.cond (fun hc=>?_) fun _=>T.ret (fun q e=>by cases e)
  have hlt:j < x.length:=by simpa using hc
  refine T.bind (P:=fun _=>True) (T.idx hlt fun _ _=>trivial) fun c _=>T.cond (fun _=>T.ret (fun q e=>by cases e;simp)) fun _=>T.ret ?_
  have:=wn (n:=j) (by omega);refine ⟨⟨j+1,this,by omega⟩,?_⟩;simp only [this,Int.toNat_natCast];omega
 cases r with
 | inl v=>exact T.bind (tadd h k3 k1 2 _) fun x hx=>T.ret hx
 | inr q=>exact T.ret (.inl (hr q rfl))
theorem tsign {m:KU}{a:Nat}(h:TkI m a)(hlt:a < m.gB.length):T (Kcw m) fun n=>n=0∨∃ k:Nat,n=(k:Int)∧1≤k∧a+k≤m.gB.length:=by
 have h4:=h.len;unfold Kcw;rw [h.at_];refine T.bind (P:=fun x=>x.length=m.gB.length - a) (T.cut (by omega) (Nat.le_refl _) fun _ e=>e) fun x hx=>?_
 refine T.bind (P:=fun y=>y=true→1 < x.length) (T.cond (fun hc=>?_) fun _=>T.ret (by simp)) fun y hy=>T.cond (fun e=>T.ret (.inr ⟨2,rfl,by omega,by have:=hy e;omega⟩)) fun _=>?_
 ·have hc':1 < x.length:=by have:=of_decide_eq_true hc;omega
  refine T.bind (P:=fun _=>True) (T.cut (a:=0) (b:=2) (by omega) (by omega) fun _ _=>trivial) fun z _=>?_
  exact T.bind (tcont _ _ (by simp)) fun b _=>T.ret fun _=>hc'
 refine T.bind (P:=fun _=>True) (T.idx (k:=0) (by omega) fun _ _=>trivial) fun c _=>T.cond (fun _=>T.ret (.inr ⟨1,rfl,by omega,by omega⟩)) fun _=>T.ret (.inl rfl)
theorem tnext {m:KU}{a:Nat}(h:TkI m a)(hlt:a < m.gB.length):T (Kcx m) (TP m a):=by
 have h4:=h.len;unfold Kcx;rw [h.at_];refine T.bind (P:=fun c=>m.gB[a]? = some c) (T.idx hlt fun _ e=>e) fun c hc=>?_
 obtain ⟨kd,hk,_⟩:=tkind (IntKind.i32.wrap (c.toNat:Int));rw [hk,Option.bind_some];refine T.cond (fun _=>T.ret (.inr ⟨a+1,by omega,⟨wn (by omega),Nat.succ_le_of_lt hlt,h4,h.l⟩,rfl⟩)) fun _=>T.cond (fun e=>?_) fun _=>T.cond (fun e=>?_) fun _=>?_
 ·have:kd=2:=by simpa using e
  subst this;exact T.bind (tname h ⟨c,hc,hk⟩) fun x hx=>T.ret hx
 ·have:kd=3:=by simpa using e
  subst this;exact T.bind (tnumber h ⟨c,hc,hk⟩) fun x hx=>T.ret hx
 refine T.bind (tsign h hlt) fun n hn=>T.cond (fun _=>T.ret (.inl (by simp))) fun e=>?_
 rcases hn with rfl|⟨k,rfl,k1,k2⟩
 ·cases e
 exact T.bind (tadd h k1 k2 3 0) fun x hx=>T.ret hx
theorem tread (b:List UInt8):T (KdB b) fun r=>r.2.2=0→1≤r.1.length∧r.1.length≤4001:=by
 unfold KdB;refine T.cond (fun _=>T.ret (by simp)) fun hc=>?_
 have hb:b.length≤20000:=by have:=of_decide_eq_false hc;omega
 refine T.bind (P:=fun r=>(∀ q,r=Sum.inl q→q.2.2.length≤4000)∧∀ q,r=Sum.inr q→q.2.2 ≠ 0) ?_ fun r hr=>?_
 ·refine T.loop (fun s=>∃ a,TkI ⟨s.1,s.2.1,s.2.2⟩ a∧s.1=b) (fun s=>b.length - s.2.1.toNat) ⟨0,⟨rfl,Nat.zero_le _,hb,by simp⟩,rfl⟩ fun s hs=>?_
  obtain ⟨a,ha,e⟩:=hs;obtain ⟨s1,s2,s3⟩:=s;simp only at ha e;subst e;have:=ha.at_;simp only at this;subst this;refine T.cond (fun hc=>?_) fun _=>T.ret ⟨fun q e=>(by cases e;exact ha.l),fun q e=>(by cases e)⟩
  have hlt:a < s1.length:=by simpa using hc
  refine T.bind (tnext ha hlt) fun r hr=>T.cond (fun e=>T.ret ⟨fun q e=>(by cases e),fun q e'=>(by cases e';simpa using e)⟩) fun e=>?_
  rcases hr with hr|⟨a',h1,h2,h3⟩
  ·exact absurd (by simpa using e) hr
  refine T.ret ⟨⟨a',?_,h3⟩,?_⟩
  ·exact ⟨h2.at_,h2.le,h2.len,h2.l⟩
  have h5:=h2.le;rw [h3] at h5;simp only [h2.at_,Int.toNat_natCast];simp only at h5;omega
 cases r with
 |
  inl q=>
  have:=hr.1 q rfl;rw [Sum.elim_inl,Kdj (by omega) (by simp;omega),Option.bind_some];exact T.ret fun _=>⟨by simp,by simp;omega⟩
 | inr q=>exact T.ret fun e=>absurd e (hr.2 q rfl)
end
section
open Go
set_option linter.all false
def prem (m:Ka):Nat:=if m.gE=0 then m.gL.length+1 - m.gAt.toNat else 0
theorem Kh4 {m:Ka}(h:m.gE=0):prem m=m.gL.length+1 - m.gAt.toNat:=if_pos h
theorem KiJ {m:Ka}(h:m.gE ≠ 0):prem m=0:=if_neg h
structure PI (m:Ka):Prop where
 lo:0≤m.gAt
 hi:m.gAt≤(m.gL.length:Int)
 len:m.gL.length≤5000
structure PQ (m:Ka) (c s:Nat) (r:Ka):Prop where
 l:r.gL=m.gL
 i:PI r
 le:prem r≤prem m
 sz:r.gE=0→s+prem r≤prem m+c
theorem PI.pos {m:Ka}(h:PI m)(e:m.gE=0):1≤prem m:=by
 have:=h.lo;have:=h.hi
 rw [Kh4 e];omega
theorem PI.le {m:Ka}(h:PI m):prem m≤5001:=by
 have:=h.len;by_cases e:m.gE=0
 ·rw [Kh4 e];omega
 rw [KiJ e];omega
theorem perr {m r:Ka}{c s:Nat}(h1:r.gL=m.gL)(h2:PI r)(h3:r.gE ≠ 0):PQ m c s r:=⟨h1,h2,by rw [KiJ h3];omega,fun e=>absurd e h3⟩
theorem padv {m:Ka}(h:PI m)(hlt:m.gAt < (m.gL.length:Int)):PI ⟨m.gL,IntKind.i64.wrap (m.gAt+1),m.gE⟩∧prem ⟨m.gL,IntKind.i64.wrap (m.gAt+1),m.gE⟩≤prem m∧(m.gE=0→prem ⟨m.gL,IntKind.i64.wrap (m.gAt+1),m.gE⟩+1=prem m):=by
 have h1:=h.lo;have h2:=h.len
 have hw:IntKind.i64.wrap (m.gAt+1)=m.gAt+1:=by rw [IntKind.wrap_i64];omega
 rw [hw];have key:m.gE=0→prem ⟨m.gL,m.gAt+1,m.gE⟩+1=prem m:=fun e=>by
  rw [Kh4 e,Kh4 (m:=⟨m.gL,m.gAt+1,m.gE⟩) e];simp only;omega
 refine ⟨⟨by simp only;omega,by simp only;omega,h2⟩,?_,key⟩;by_cases e:m.gE=0
 ·have:=key e;omega
 rw [KiJ (m:=⟨m.gL,m.gAt+1,m.gE⟩) e];omega
theorem plook {m:Ka}(h:PI m):T (Kbt m) fun t=>t.gKind ≠ 0→m.gAt < (m.gL.length:Int):=by
 have h1:=h.lo;unfold Kbt;refine T.cond (fun _=>T.ret fun e=>absurd rfl e) fun hc=>?_
 have hc':m.gAt < (m.gL.length:Int):=by have:=of_decide_eq_false hc;omega
 obtain ⟨k,hk⟩:=Int.eq_ofNat_of_zero_le h1;rw [hk] at hc' ⊢;exact T.bind (P:=fun _=>True) (T.idx (by omega) fun _ _=>trivial) fun x _=>T.ret fun _=>hc'
theorem pis {m:Ka}(h:PI m)(s:ByteArray):T (Kcz m s) fun b=>b=true→m.gAt < (m.gL.length:Int):=by
 unfold Kcz;refine T.bind (plook h) fun t ht=>T.cond (fun e=>T.ret fun _=>ht ?_) fun _=>T.ret (by simp)
 have:t.gKind=3:=by simpa using e
 rw [this];decide
theorem pfail {m:Ka}(h:PI m){a e:Int}(h1:0≤a)(h2:a≤(m.gL.length:Int))(he:e ≠ 0):T (Kbu m a e) fun r=>r.gL=m.gL∧PI r∧r.gE ≠ 0:=by
 unfold Kbu;refine T.cond (fun _=>T.ret ⟨rfl,⟨h1,h2,h.len⟩,he⟩) fun e=>T.ret ⟨rfl,h,by simpa using e⟩
theorem peat {m:Ka}(h:PI m)(s:ByteArray):T (KdZ m s) (PQ m 0 1):=by
 unfold KdZ;refine T.bind (pis h s) fun b hb=>T.cond (fun _=>?_) fun e=>?_
 ·exact T.bind (pfail h h.lo h.hi (by decide)) fun r hr=>T.ret (perr hr.1 hr.2.1 hr.2.2)
 obtain ⟨a1,a2,a3⟩:=padv h (hb (by simpa using e));exact T.ret ⟨rfl,a1,a2,fun e=>by have:=a3 e;omega⟩
theorem pname {m:Ka}(h:PI m):T (Kc5 m) fun r=>PQ m 0 1 r.2:=by
 unfold Kc5;refine T.bind (plook h) fun t ht=>T.cond (fun _=>?_) fun e=>?_
 ·exact T.bind (pfail h h.lo h.hi (by decide)) fun r hr=>T.ret (perr hr.1 hr.2.1 hr.2.2)
 have:t.gKind=1:=by simpa using e
 obtain ⟨a1,a2,a3⟩:=padv h (ht (by rw [this];decide));exact T.ret ⟨rfl,a1,a2,fun e=>by have:=a3 e;simp only;omega⟩
theorem ppick (a b:ByteArray)(x:Int)(c:ByteArray)(y:Int):T (Kc0 a b x c y) fun _=>True:=by
 unfold Kc0;repeat' (first|exact T.ret trivial|(refine T.cond (fun _=>?_) (fun _=>?_)))
theorem pbetween (a:Int)(s:ByteArray):T (Kdv a s) fun _=>True:=by
 unfold Kdv;repeat' (first|exact T.ret trivial|exact ppick _ _ _ _ _|(refine T.cond (fun _=>?_) (fun _=>?_))|(refine T.bind (P:=fun _=>True) ?_ (fun _ _=>?_)))
theorem deep_g:∀ (n:Nat) (e:Kc),dpE e≤n→szE e≤1048576→T (KcI n e) fun _=>True
 | 0,e,h,_=>by have:=Ke9 e;omega
 |
  n+1,e,h,hs=>by
  show T (KdO (KcI n) e) _
  have h1:=Ke9 e;have h2:=Kf7 e;have h3:=Khp e.gKids
  unfold KdO;refine T.bind (P:=fun _=>True) (T.loop (fun s=>∃ k:Nat,s.2=(k:Int)∧k≤e.gKids.length) (fun s=>e.gKids.length - s.2.toNat) ⟨0,rfl,Nat.zero_le _⟩ fun s hs'=>?_) fun _ _=>T.ret trivial
  obtain ⟨k,hk,hk2⟩:=hs';obtain ⟨s1,s2⟩:=s;simp only at hk;subst hk;refine T.cond (fun hc=>?_) fun _=>T.ret trivial
  have hlt:k < e.gKids.length:=by have:=of_decide_eq_true hc;simp only at this;omega
  refine T.bind (P:=fun x=>x∈e.gKids) (T.idx hlt fun x hx=>List.mem_of_getElem? hx) fun x hx=>?_
  have:=KgA hx;have:=KfP hx
  refine T.bind (deep_g n x (by omega) (by omega)) fun _ _=>T.ret ?_
  have hw:=wn (n:=k) (by omega);exact ⟨⟨k+1,hw,hlt⟩,by simp only [hw,Int.toNat_natCast];omega⟩
theorem deep_t {e:Kc}(h:szE e≤1048576):T (Ki4 e) fun _=>True:=by
 obtain ⟨r,h1,_⟩:=deep_g (dpE e) e (Nat.le_refl _) h;exact ⟨r,Knk e _ h1,trivial⟩
theorem psound {m:Ka}(h:PI m){e:Kc}(hs:m.gE=0→szE e≤1048576){a:Int}(h1:0≤a)(h2:a≤(m.gL.length:Int)):T (Kcm m e a) fun r=>r.2.gL=m.gL∧PI r.2∧(r.2.gE=0→m.gE=0∧r.1=e∧r.2=m):=by
 unfold Kcm;refine T.cond (fun he=>T.ret ⟨rfl,h,fun e0=>?_⟩) fun he=>?_
 ·simp at he;exact absurd e0 he
 have he':m.gE=0:=by simpa using he
 refine T.bind (deep_t (hs he')) fun d _=>T.cond (fun _=>?_) fun _=>T.ret ⟨rfl,h,fun _=>⟨he',rfl,rfl⟩⟩
 exact T.bind (pfail h h1 h2 (by decide)) fun r hr=>T.ret ⟨hr.1,hr.2.1,fun e0=>absurd e0 hr.2.2⟩
theorem xeta (x:Kc):(⟨x.gOp,x.gN,x.gName,x.gKids,x.gAt⟩:Kc)=x:=by cases x;rfl
theorem Kj0 (a b:Int)(n:ByteArray)(ks:List Kc)(c:Int):szE ⟨a,b,n,ks,c⟩=1+szEs ks:=by simp only [szE]
theorem szE_1 (a b:Int)(n:ByteArray)(c:Int):szE ⟨a,b,n,[],c⟩=1:=by simp [szE,szEs]
abbrev PG (N:Nat):=Kn N
theorem PQ.trans {m r q:Ka}{c s s':Nat}(h1:PQ m c s r)(h2:PQ r 0 s' q){t:Nat}(ht:r.gE=0→q.gE=0→s+prem r≤prem m+c→s'+prem q≤prem r→t+prem q≤prem m+c):PQ m c t q:=by
 refine ⟨h2.l.trans h1.l,h2.i,Nat.le_trans h2.le h1.le,fun e=>?_⟩;have:=h2.i.pos e;have e1:r.gE=0:=by
  rcases Classical.em (r.gE=0) with e1|e1
  ·exact e1
  have:=h2.le;rw [KiJ e1] at this;omega
 exact ht e1 e (h1.sz e1) (by have:=h2.sz e;omega)
theorem ptot:∀ N:Nat,
  (∀ (m:Ka) (a:Nat),PI m→a≤6→12*prem m+(8 - a)≤N→T ((PG N).1 m (a:Int)) fun r=>PQ m 0 (szE r.1) r.2) ∧
  (∀ m:Ka,PI m→12*prem m+1≤N→T ((PG N).2.1 m) fun r=>PQ m 0 (szE r.1) r.2) ∧
  (∀ (m:Ka) (x:Kc) (k at_:Int),PI m→x.gKids=[]→0≤at_→at_≤(m.gL.length:Int)→12*prem m+1≤N→T ((PG N).2.2.1 m x k at_) fun r=>PQ m 1 (szE r.1) r.2) ∧
  (∀ (m:Ka) (s:ByteArray),PI m→12*prem m+9≤N→T ((PG N).2.2.2.1 m s) fun r=>PQ m 0 (szE r.1) r.2) ∧
  (∀ (m:Ka) (t:KB) (at_:Int),PI m→0≤at_→at_≤(m.gL.length:Int)→12*prem m+10≤N→T ((PG N).2.2.2.2 m t at_) fun r=>PQ m 1 (szE r.1) r.2)
 | 0=>⟨fun m a _ _ h=>by omega,fun m _ h=>by omega,fun m x k a _ _ _ _ h=>by omega,fun m s _ h=>by omega,fun m t a _ _ _ h=>by omega⟩
 |
  N+1=>by
  obtain ⟨iR,iU,iI,iA,iS⟩:=ptot N;refine ⟨fun m a hm ha hN=>?_,fun m hm hN=>?_,fun m x k at_ hm hx h1 h2 hN=>?_,fun m s hm hN=>?_,fun m t at_ hm h1 h2 hN=>?_⟩
  ·show T (Kbm (PG N).1 (PG N).2.1 (PG N).2.2.1 (PG N).2.2.2.1 (PG N).2.2.2.2 m (a:Int)) _
   unfold Kbm;refine T.cond (fun e=>?_) fun e=>?_
   ·have:a=6:=by
         have:(a:Int)=6:=by simpa using e
         omega
    exact T.bind (iU m hm (by omega)) fun r hr=>T.ret hr
   have ha':a < 6:=by
    have:¬ (a:Int)=6:=by simpa using e
    omega
   rw [wn (by omega)];refine T.bind (iR m (a+1) hm ha' (by omega)) fun x hx=>?_
   refine T.bind (P:=fun s:List KB×Int×Int×Int×Int×ByteArray×List Kc×Int=>PQ m 0 (szE ⟨s.2.2.2.1,s.2.2.2.2.1,s.2.2.2.2.2.1,s.2.2.2.2.2.2.1,s.2.2.2.2.2.2.2⟩) ⟨s.1,s.2.1,s.2.2.1⟩) ?_ fun s hs=>T.ret hs
   refine T.loop (fun s:List KB×Int×Int×Int×Int×ByteArray×List Kc×Int=>PQ m 0 (szE ⟨s.2.2.2.1,s.2.2.2.2.1,s.2.2.2.2.2.1,s.2.2.2.2.2.2.1,s.2.2.2.2.2.2.2⟩) ⟨s.1,s.2.1,s.2.2.1⟩) (fun s=>prem ⟨s.1,s.2.1,s.2.2.1⟩) (by simp only;rw [xeta];exact hx) fun s hs=>?_
   obtain ⟨L,p,e0,o1,o2,o3,o4,o5⟩:=s;simp only at hs ⊢;refine T.cond (fun he=>?_) fun _=>T.ret hs
   have he0:e0=0:=by simpa using he
   refine T.bind (plook hs.i) fun t ht=>?_
   refine T.bind (P:=fun op=>op ≠ 0→p < (L.length:Int)) (T.cond (fun hk=>?_) fun _=>T.ret (by simp)) fun op hop=>T.cond (fun _=>T.ret hs) fun hne=>?_
   ·have hk':t.gKind=3:=by simpa using hk
    exact T.bind (pbetween _ _) fun b _=>T.ret fun _=>ht (by rw [hk'];decide)
   have hlt:=hop (by simpa using hne);obtain ⟨a1,a2,a3⟩:=padv hs.i hlt;have a4:=a3 he0;have hsz:=hs.sz he0;have hl0:=hs.le;simp only at a1 a2 a3 a4;refine T.bind (iR _ (a+1) a1 ha' (by omega)) fun r hr=>?_
   have hrl:r.2.gL=L:=hr.l;have h5:=hm.le;refine T.bind (psound (m:=r.2) hr.i (e:=⟨op,0,ByteArray.empty,[⟨o1,o2,o3,o4,o5⟩,r.1],t.gAt⟩) (fun e=>?_) (a:=p) hs.i.lo (by rw [hrl];exact hs.i.hi)) fun q hq=>T.ret ?_
   ·have:=hr.sz e;rw [Kj0];simp only [szEs];omega
   obtain ⟨q1,q2,q3⟩:=hq;have hnode:szE ⟨op,0,ByteArray.empty,[⟨o1,o2,o3,o4,o5⟩,r.1],t.gAt⟩=1+(szE ⟨o1,o2,o3,o4,o5⟩+szE r.1):=by rw [Kj0];simp [szEs]
   by_cases eq0:q.2.gE=0
   ·obtain ⟨e1,e2,e3⟩:=q3 eq0;have:=hr.sz e1;have:=hr.le;refine ⟨?_,?_⟩
    ·simp only;rw [xeta,e2];show PQ m 0 _ q.2
     rw [e3];exact ⟨hrl.trans hs.l,hr.i,by omega,fun _=>by rw [hnode];omega⟩
    show prem q.2 < _
    rw [e3];omega
   refine ⟨perr (q1.trans (hrl.trans hs.l)) q2 eq0,?_⟩;show prem q.2 < _
   rw [KiJ eq0];omega
  ·show T (Ka8 (PG N).1 (PG N).2.1 (PG N).2.2.1 (PG N).2.2.2.1 (PG N).2.2.2.2 m) _
   unfold Ka8;refine T.bind (plook hm) fun t ht=>T.cond (fun e=>T.ret (perr rfl hm (by simpa using e))) fun e=>?_
   have e0:m.gE=0:=by simpa using e
   have hp:=hm.pos e0;have adv:t.gKind ≠ 0→PI ⟨m.gL,IntKind.i64.wrap (m.gAt+1),m.gE⟩∧prem ⟨m.gL,IntKind.i64.wrap (m.gAt+1),m.gE⟩+1=prem m:=fun h=>by
    obtain ⟨a1,a2,a3⟩:=padv hm (ht h);exact ⟨a1,a3 e0⟩
   have fin:t.gKind ≠ 0→∀ {x:Kc} {r:Ka},PQ ⟨m.gL,IntKind.i64.wrap (m.gAt+1),m.gE⟩ 1 (szE x) r→PQ m 0 (szE x) r:=fun h x r hr=>by
    obtain ⟨a1,a2⟩:=adv h;exact ⟨hr.l,hr.i,by have:=hr.le;omega,fun e=>by have:=hr.sz e;omega⟩
   refine T.cond (fun k=>?_) fun _=>T.cond (fun k=>?_) fun _=>T.cond (fun k=>?_) fun k=>?_
   ·have hk:t.gKind=2:=by simpa using k
    obtain ⟨a1,a2⟩:=adv (by rw [hk];decide);exact T.ret ⟨rfl,a1,by simp only;omega,fun _=>by simp only;rw [szE_1];omega⟩
   ·have hk:t.gKind=1:=by simpa using k
    have hk0:t.gKind ≠ 0:=by rw [hk];decide
    obtain ⟨a1,a2⟩:=adv hk0;exact T.bind (iI _ _ _ _ a1 rfl hm.lo hm.hi (by omega)) fun r hr=>T.ret (fin hk0 hr)
   ·have hk:t.gKind=3:=by simpa using k
    have hk0:t.gKind ≠ 0:=by rw [hk];decide
    obtain ⟨a1,a2⟩:=adv hk0;exact T.bind (iS _ _ _ a1 hm.lo hm.hi (by omega)) fun r hr=>T.ret (fin hk0 hr)
   by_cases hlt:m.gAt < (m.gL.length:Int)
   ·obtain ⟨a1,a2,a3⟩:=padv hm hlt;exact T.bind (pfail a1 hm.lo hm.hi (by decide)) fun r hr=>T.ret (perr hr.1 hr.2.1 hr.2.2)
   have h1:=hm.lo;have h2:=hm.hi;have h3:=hm.len
   unfold Kbu;rw [e0];exact T.bind (P:=fun r=>r=⟨m.gL,m.gAt,3⟩) (T.ret rfl) fun r hr=>by subst hr;exact T.ret (perr rfl ⟨h1,h2,h3⟩ (by simp))
  ·show T (KaX (PG N).1 (PG N).2.1 (PG N).2.2.1 (PG N).2.2.2.1 (PG N).2.2.2.2 m x k at_) _
   unfold KaX;refine T.bind (P:=fun b=>b=false→m.gE=0∧m.gAt < (m.gL.length:Int)) (T.cond (fun _=>T.ret (by simp)) fun e=>?_) fun b hb=>T.cond (fun _=>T.ret ?_) fun e=>?_
   ·exact T.bind (pis hm _) fun b hb=>T.ret fun h=>⟨by simpa using e,hb (by simpa using h)⟩
   ·refine ⟨rfl,hm,Nat.le_refl _,fun _=>?_⟩;have:szE x=1:=by rw [Kf7,hx];simp [szEs]
    simp only;omega
   obtain ⟨e0,hlt⟩:=hb e;obtain ⟨a1,a2,a3⟩:=padv hm hlt;have a4:=a3 e0;have h5:=hm.le;refine T.bind (iA _ _ a1 (by omega)) fun r hr=>?_
   refine T.bind (psound (m:=r.2) hr.i (e:=⟨k,x.gN,x.gName,[r.1],x.gAt⟩) (fun e=>?_) (a:=at_) h1 (by rw [hr.l];exact h2)) fun q hq=>T.ret ?_
   ·have:=hr.sz e;rw [Kj0];simp only [szEs];omega
   obtain ⟨q1,q2,q3⟩:=hq;by_cases eq0:q.2.gE=0
   ·obtain ⟨e1,e2,e3⟩:=q3 eq0;have:=hr.sz e1;have:=hr.le
    rw [e2,e3];exact ⟨hr.l,hr.i,by omega,fun _=>by rw [Kj0];simp only [szEs];omega⟩
   exact perr (q1.trans hr.l) q2 eq0
  ·show T (Kbn (PG N).1 (PG N).2.1 (PG N).2.2.1 (PG N).2.2.2.1 (PG N).2.2.2.2 m s) _
   unfold Kbn;refine T.bind (iR m 0 hm (by omega) (by omega)) fun r hr=>T.cond (fun _=>?_) fun _=>T.ret hr
   exact T.bind (peat hr.i s) fun q hq=>T.ret (hr.trans hq fun _ _ h1 h2=>by simp only at *;omega)
  show T (Ka9 (PG N).1 (PG N).2.1 (PG N).2.2.1 (PG N).2.2.2.1 (PG N).2.2.2.2 m t at_) _
  unfold Ka9;have h5:=hm.le;refine T.bind (P:=fun _=>True) (T.cond (fun _=>T.ret trivial) fun _=>T.ret trivial) fun b _=>T.cond (fun _=>?_) fun _=>T.cond (fun _=>?_) fun _=>T.cond (fun _=>?_) fun _=>T.cond (fun _=>?_) fun _=>T.cond (fun _=>?_) fun _=>?_
  ·refine T.bind (ppick _ _ _ _ _) fun op _=>T.bind (iU m hm (by omega)) fun r hr=>?_
   refine T.bind (psound (m:=r.2) hr.i (e:=⟨op,0,ByteArray.empty,[r.1],t.gAt⟩) (fun e=>?_) (a:=at_) h1 (by rw [hr.l];exact h2)) fun q hq=>T.ret ?_
   ·have:=hr.sz e;rw [Kj0];simp only [szEs];omega
   obtain ⟨q1,q2,q3⟩:=hq;by_cases eq0:q.2.gE=0
   ·obtain ⟨e1,e2,e3⟩:=q3 eq0;have:=hr.sz e1;have:=hr.le
    rw [e2,e3];exact ⟨hr.l,hr.i,by omega,fun _=>by rw [Kj0];simp only [szEs];omega⟩
   exact perr (q1.trans hr.l) q2 eq0
  ·exact T.bind (pname hm) fun r hr=>T.ret ⟨hr.l,hr.i,hr.le,fun e=>by have:=hr.sz e;simp only;rw [szE_1];omega⟩
  ·refine T.bind (pname hm) fun r hr=>?_
   have hle:=hr.le;refine T.bind (iI r.2 _ _ _ hr.i rfl h1 (by rw [hr.l];exact h2) (by omega)) fun q hq=>T.ret ?_
   refine ⟨hq.l.trans hr.l,hq.i,Nat.le_trans hq.le hr.le,fun e=>?_⟩;have:=hq.sz e;simp only;omega
  ·exact T.ret ⟨rfl,hm,Nat.le_refl _,fun _=>by simp only;rw [szE_1];omega⟩
  ·exact T.bind (iA m _ hm (by omega)) fun r hr=>T.ret ⟨hr.l,hr.i,hr.le,fun e=>by have:=hr.sz e;simp only;omega⟩
  exact T.bind (pfail hm h1 h2 (by decide)) fun r hr=>T.ret (perr hr.1 hr.2.1 hr.2.2)
theorem pexpr {L:List KB}{a:Int}(h1:0≤a)(h2:a≤(L.length:Int))(hL:L.length≤5000):T (KeS L a) fun r=>0≤r.2.1∧r.2.1≤(L.length:Int)∧(r.2.2=0→a≤r.2.1∧(szE r.1:Int)≤r.2.1 - a):=by
 have hm:PI ⟨L,a,0⟩:=⟨h1,h2,hL⟩;have p0:prem ⟨L,a,0⟩=L.length+1 - a.toNat:=Kh4 rfl;unfold KeS;refine T.bind (P:=fun b=>b=false) (T.cond (fun e=>?_) fun _=>T.ret ?_) fun b hb=>?_
 ·have:=of_decide_eq_true e;omega
 ·simp;omega
 subst hb;rw [cond_false];obtain ⟨r,k1,k2⟩:=(ptot (12*prem ⟨L,a,0⟩+8)).1 ⟨L,a,0⟩ 0 hm (by omega) (by omega);have k1':=Kg4 _ _ _ k1;rw [show Kd0 (⟨L,a,0⟩:Ka) 0=_ from k1',Option.bind_some];have hl:r.2.gL=L:=k2.l;have i1:=k2.i.lo;have i2:=k2.i.hi
 rw [hl] at i2;refine T.cond (fun _=>T.ret ⟨i1,i2,?_⟩) fun e=>T.ret ⟨i1,i2,fun _=>?_⟩
 ·rename_i e;intro h;simp at e;exact absurd h e
 have e0:r.2.gE=0:=by simpa using e
 have:=k2.sz e0;have p1:=Kh4 e0;rw [hl] at p1;have:=Kf7 r.1;simp only;omega
end
section
open Go
set_option linter.all false
def grem (m:Kf):Nat:=if m.gE=0 then m.gL.length+1 - m.gAt.toNat else 0
theorem Kh5 {m:Kf}(h:m.gE=0):grem m=m.gL.length+1 - m.gAt.toNat:=if_pos h
theorem Kkx {m:Kf}(h:m.gE ≠ 0):grem m=0:=if_neg h
structure GI (m:Kf):Prop where
 lo:0≤m.gAt
 hi:m.gAt≤(m.gL.length:Int)
 len:m.gL.length≤5000
structure GQ (m:Kf) (c s:Nat) (r:Kf):Prop where
 l:r.gL=m.gL
 i:GI r
 le:grem r≤grem m
 sz:r.gE=0→s+grem r≤grem m+c
theorem GI.pos {m:Kf}(h:GI m)(e:m.gE=0):1≤grem m:=by
 have:=h.lo;have:=h.hi
 rw [Kh5 e];omega
theorem GI.le {m:Kf}(h:GI m):grem m≤5001:=by
 have:=h.len;by_cases e:m.gE=0
 ·rw [Kh5 e];omega
 rw [Kkx e];omega
theorem GQ.refl {m:Kf}(h:GI m):GQ m 0 0 m:=⟨rfl,h,Nat.le_refl _,fun _=>by omega⟩
theorem gerr {m r:Kf}{c s:Nat}(h1:r.gL=m.gL)(h2:GI r)(h3:r.gE ≠ 0):GQ m c s r:=⟨h1,h2,by rw [Kkx h3];omega,fun e=>absurd e h3⟩
theorem GQ.trans {m r q:Kf}{c s s' c' t:Nat}(h1:GQ m c s r)(h2:GQ r c' s' q)(ht:t+c'≤s+s'):GQ m c t q:=by
 refine ⟨h2.l.trans h1.l,h2.i,Nat.le_trans h2.le h1.le,fun e=>?_⟩;have:=h2.i.pos e;have e1:r.gE=0:=by
  rcases Classical.em (r.gE=0) with e1|e1
  ·exact e1
  have:=h2.le;rw [Kkx e1] at this;omega
 have:=h1.sz e1;have:=h2.sz e
 omega
theorem GQ.vo {m r:Kf}{c s:Nat}(h:GQ m c s r)(v o:Int):GQ m c s ⟨r.gL,r.gAt,r.gE,v,o⟩:=⟨h.l,⟨h.i.lo,h.i.hi,h.i.len⟩,h.le,h.sz⟩
theorem GQ.less {m r:Kf}{s:Nat}(h:GQ m 0 s r)(hs:1≤s)(hm:GI m)(e:m.gE=0):grem r+1≤grem m:=by
 have:=hm.pos e;by_cases e1:r.gE=0
 ·have:=h.sz e1;omega
 rw [Kkx e1];omega
theorem gadv {m:Kf}(h:GI m)(hlt:m.gAt < (m.gL.length:Int))(e:m.gE=0):GQ m 0 1 ⟨m.gL,IntKind.i64.wrap (m.gAt+1),m.gE,m.gVars,m.gOpen⟩:=by
 have h1:=h.lo;have h2:=h.len
 have hw:IntKind.i64.wrap (m.gAt+1)=m.gAt+1:=by rw [IntKind.wrap_i64];omega
 rw [hw];have k1:=Kh5 e;have k2:=Kh5 (m:=⟨m.gL,m.gAt+1,m.gE,m.gVars,m.gOpen⟩) e;simp only at k2;exact ⟨rfl,⟨by simp only;omega,by simp only;omega,h2⟩,by omega,fun _=>by omega⟩
theorem glook {m:Kf}(h:GI m){a:Int}(ha:a=0∨a=1):T (KaM m a) fun t=>a=0→t.gKind ≠ 0→m.gAt < (m.gL.length:Int):=by
 have h1:=h.lo;have h2:=h.hi;have h3:=h.len
 have hw:IntKind.i64.wrap (m.gAt+a)=m.gAt+a:=by rw [IntKind.wrap_i64];omega
 unfold KaM;rw [hw];refine T.cond (fun _=>T.ret fun _ e=>absurd rfl e) fun hc=>?_
 have hc':m.gAt+a < (m.gL.length:Int):=by have:=of_decide_eq_false hc;omega
 obtain ⟨k,hk⟩:=Int.eq_ofNat_of_zero_le (show 0≤m.gAt+a by omega);rw [hk] at hc' ⊢;exact T.bind (P:=fun _=>True) (T.idx (by omega) fun _ _=>trivial) fun x _=>T.ret fun _ _=>by omega
theorem gis {m:Kf}(h:GI m){a:Int}(ha:a=0∨a=1)(s:ByteArray):T (Kbc m a s) fun b=>a=0→b=true→m.gAt < (m.gL.length:Int):=by
 unfold Kbc;refine T.bind (glook h ha) fun t ht=>T.cond (fun e=>T.ret fun a0 _=>ht a0 ?_) fun _=>T.ret (by simp)
 have:t.gKind=3:=by simpa using e
 rw [this];decide
theorem gfail {m:Kf}(h:GI m){a e:Int}(h1:0≤a)(h2:a≤(m.gL.length:Int))(he:e ≠ 0):T (KaG m a e) fun r=>r.gL=m.gL∧GI r∧r.gE ≠ 0:=by
 unfold KaG;refine T.cond (fun _=>T.ret ⟨rfl,⟨h1,h2,h.len⟩,he⟩) fun e=>T.ret ⟨rfl,h,by simpa using e⟩
theorem geat {m:Kf}(h:GI m)(l:List ByteArray)(hl:l.length≤1000):T (K0 m l) (GQ m 0 0):=by
 unfold K0;refine T.bind (P:=fun r=>(∀ p,r=Sum.inl p→GQ m 0 0 ⟨m.gL,p,m.gE,m.gVars,m.gOpen⟩)∧∀ q,r=Sum.inr q→GQ m 0 0 q) ?_ fun r hr=>?_
 ·refine T.loop (fun s=>(∃ k:Nat,s.1=(k:Int)∧k≤l.length)∧GQ m 0 0 ⟨m.gL,s.2,m.gE,m.gVars,m.gOpen⟩) (fun s=>l.length - s.1.toNat) ⟨⟨0,rfl,by omega⟩,GQ.refl h⟩ fun s hs=>?_
  obtain ⟨⟨k,hk,hk2⟩,hq⟩:=hs;obtain ⟨s1,s2⟩:=s;simp only at hk hq ⊢;subst hk;refine T.cond (fun hc=>?_) fun _=>T.ret ⟨fun p e=>(by cases e;exact hq),fun q e=>(by cases e)⟩
  have hlt:k < l.length:=by have:=of_decide_eq_true hc;omega
  refine T.bind (P:=fun _=>True) (T.idx hlt fun _ _=>trivial) fun x _=>T.cond (fun _=>T.ret ⟨fun p e=>(by cases e),fun q e=>(by cases e;exact hq)⟩) fun e=>?_
  have e0:m.gE=0:=by simpa using e
  refine T.bind (gis hq.i (.inl rfl) x) fun b hb=>T.cond (fun _=>?_) fun e=>?_
  ·exact T.bind (gfail hq.i hq.i.lo hq.i.hi (by decide)) fun r hr=>T.ret ⟨fun p e=>(by cases e),fun q e=>(by cases e;exact gerr hr.1 hr.2.1 hr.2.2)⟩
  have hadv:=hq.trans (gadv hq.i (hb rfl (by simpa using e)) e0) (t:=0) (by omega);have hw:=wn (n:=k) (by omega);exact T.ret ⟨⟨⟨k+1,hw,hlt⟩,hadv⟩,by simp only [hw,Int.toNat_natCast];omega⟩
 cases r with
 | inl p=>exact T.ret (hr.1 p rfl)
 | inr q=>exact T.ret (hr.2 q rfl)
theorem gmay {m:Kf}(h:GI m)(s:ByteArray):T (Kam m s) fun r=>(r.1=true→m.gE=0∧r.2.gE=0∧GQ m 0 1 r.2)∧(r.1=false→r.2=m):=by
 unfold Kam;refine T.bind (P:=fun b=>b=false→m.gE=0∧m.gAt < (m.gL.length:Int)) (T.cond (fun _=>T.ret (by simp)) fun e=>?_) fun b hb=>T.cond (fun _=>T.ret ⟨fun h=>(by cases h),fun _=>rfl⟩) fun e=>?_
 ·exact T.bind (gis h (.inl rfl) s) fun b hb=>T.ret fun h=>⟨by simpa using e,hb rfl (by simpa using h)⟩
 obtain ⟨e0,hlt⟩:=hb e;exact T.ret ⟨fun _=>⟨e0,e0,gadv h hlt e0⟩,fun h=>(by cases h)⟩
theorem gmayQ {m:Kf}(h:GI m)(s:ByteArray):T (Kam m s) fun r=>GQ m 0 0 r.2∧(r.1=true→m.gE=0∧r.2.gE=0∧GQ m 0 1 r.2)∧(r.1=false→r.2=m):=(gmay h s).imp fun r hr=>by
 refine ⟨?_,hr⟩;cases e:r.1 with
 | true=>exact (hr.1 e).2.2.trans (GQ.refl (hr.1 e).2.2.i) (by omega)
 | false=>rw [hr.2 e];exact GQ.refl h
theorem gname {m:Kf}(h:GI m):T (KaU m) fun r=>GQ m 0 1 r.2:=by
 unfold KaU;refine T.cond (fun e=>T.ret (gerr rfl h (by simpa using e))) fun e=>T.bind (glook h (.inl rfl)) fun t ht=>T.cond (fun _=>?_) fun k=>?_
 ·exact T.bind (gfail h h.lo h.hi (by decide)) fun r hr=>T.ret (gerr hr.1 hr.2.1 hr.2.2)
 have hk:t.gKind=1:=by simpa using k
 exact T.ret (gadv h (ht rfl (by rw [hk];decide)) (by simpa using e))
theorem gexpr {m:Kf}(h:GI m):T (KaN m) fun r=>GQ m 0 (szE r.1) r.2:=by
 have h1:=h.lo;have h2:=h.hi
 unfold KaN;refine T.cond (fun e=>T.ret (gerr rfl h (by simpa using e))) fun e=>?_
 have e0:m.gE=0:=by simpa using e
 rw [show min m.gAt (m.gL.length:Int)=m.gAt by omega];refine T.bind (pexpr h1 h2 h.len) fun x hx=>T.cond (fun k=>?_) fun k=>T.ret ?_
 ·exact T.bind (gfail h hx.1 hx.2.1 (by simpa using k)) fun r hr=>T.ret (gerr hr.1 hr.2.1 hr.2.2)
 obtain ⟨k1,k2⟩:=hx.2.2 (by simpa using k);have i1:=hx.2.1;have g1:=Kh5 e0;have g2:=Kh5 (m:=⟨m.gL,x.2.1,m.gE,m.gVars,m.gOpen⟩) e0;simp only at g2;exact ⟨rfl,⟨hx.1,hx.2.1,h.len⟩,by simp only;omega,fun _=>by simp only;omega⟩
theorem gvar {m:Kf}(h:GI m):T (KbW m) fun r=>GQ m 0 1 r.2:=by
 unfold KbW;refine T.bind (geat h _ (by simp)) fun x1 h1=>T.bind (gmayQ h1.i _) fun x2 h2=>T.bind (gname h2.1.i) fun x3 h3=>?_
 have q:GQ m 0 1 x3.2:=(h1.trans h2.1 (by omega)).trans h3 (t:=1) (s:=0) (by omega);have q':=q.vo (IntKind.i64.wrap (x3.2.gVars+1)) x3.2.gOpen;refine T.cond (fun _=>?_) fun _=>T.ret q'
 have e3:x3.2.gL=x2.2.gL:=h3.l;refine T.bind (gfail q'.i (a:=x2.2.gAt) h2.1.i.lo (by simp only;rw [e3];exact h2.1.i.hi) (by decide)) fun r hr=>T.ret (gerr (hr.1.trans q'.l) hr.2.1 hr.2.2)
theorem glist {A:Type}{one:Kf→Option (A×Kf)}{sz:A→Nat}(hone:∀ {m},GI m→T (one m) fun r=>GQ m 0 (sz r.1) r.2)(szL:List A→Nat)(h0:szL []=0)(ha:∀ l x,szL (l++[x])=szL l+sz x){bb:Nat}(hbb:bb≤4096)
  {F:List A×List KB×Int×Int×Int×Int→Option (Step (List A×List KB×Int×Int×Int×Int) (List A×List KB×Int×Int×Int×Int))}
  (hF:∀ s,F s=(bif (s.2.2.2.1==(0:Int)) then ((one (⟨s.2.1,s.2.2.1,s.2.2.2.1,s.2.2.2.2.1,s.2.2.2.2.2⟩:Kf)).bind fun x43=>((app bb s.1 ([x43.1]:List A)).bind fun x44=>((Kam x43.2 (ByteArray.mk #[44])).bind fun x45=>(bif (!x45.1) then some (.done (x44,x45.2.gL,x45.2.gAt,x45.2.gE,x45.2.gVars,x45.2.gOpen)) else some (.next (x44,x45.2.gL,x45.2.gAt,x45.2.gE,x45.2.gVars,x45.2.gOpen)))))) else some (.done (s.1,s.2.1,s.2.2.1,s.2.2.2.1,s.2.2.2.2.1,s.2.2.2.2.2))))
  {m:Kf} (h:GI m) :
  T ((K0 m qZ11).bind fun x1=>((Kam x1 qZ12).bind fun x2=>(bif x2.1 then some (([]:List A),x2.2) else (Option.bind (loopM F (([]:List A),x2.2.gL,x2.2.gAt,x2.2.gE,x2.2.gVars,x2.2.gOpen)) fun y27=>((K0 (⟨y27.2.1,y27.2.2.1,y27.2.2.2.1,y27.2.2.2.2.1,y27.2.2.2.2.2⟩:Kf) ([qZ12]:List ByteArray)).bind fun x47=>some (y27.1,x47)))))) fun r=>GQ m 0 (szL r.1) r.2∧r.1.length≤5002:=by
 refine T.bind (geat h _ (by simp)) fun x1 h1=>T.bind (gmayQ h1.i _) fun x2 h2=>?_
 have q2:GQ m 0 0 x2.2:=h1.trans h2.1 (by omega);refine T.cond (fun _=>T.ret ⟨by simp only;rw [h0];exact q2,by simp⟩) fun _=>?_
 refine T.bind (P:=fun s:List A×List KB×Int×Int×Int×Int=>GQ m 0 (szL s.1) ⟨s.2.1,s.2.2.1,s.2.2.2.1,s.2.2.2.2.1,s.2.2.2.2.2⟩∧s.1.length≤5002) ?_ fun s hs=>T.bind (geat hs.1.i _ (by simp)) fun x3 h3=>T.ret ⟨hs.1.trans h3 (by simp only;omega),hs.2⟩
 have hm:=h.le;refine T.loop (fun s:List A×List KB×Int×Int×Int×Int=>GQ m 0 (szL s.1) ⟨s.2.1,s.2.2.1,s.2.2.2.1,s.2.2.2.2.1,s.2.2.2.2.2⟩∧s.1.length+grem ⟨s.2.1,s.2.2.1,s.2.2.2.1,s.2.2.2.2.1,s.2.2.2.2.2⟩≤grem m) (fun s=>grem ⟨s.2.1,s.2.2.1,s.2.2.2.1,s.2.2.2.2.1,s.2.2.2.2.2⟩) ⟨by simp only;rw [h0];exact q2,by simp only [List.length_nil,Nat.zero_add];exact q2.le⟩ fun s hs=>?_
 obtain ⟨acc,L,p,e,v,o⟩:=s;obtain ⟨hs,hl⟩:=hs;rw [hF];simp only at hs hl ⊢;refine T.cond (fun he=>?_) fun _=>T.ret ⟨hs,by simp only;omega⟩
 refine T.bind (hone hs.i) fun x hx=>?_
 rw [Kdj hbb (by simp;omega),Option.bind_some];have hq:GQ m 0 (szL (acc++[x.1])) x.2:=hs.trans hx (by rw [ha];omega);refine T.bind (gmay hx.i _) fun y hy=>T.cond (fun k=>T.ret ?_) fun k=>T.ret ?_
 ·have:=hy.2 (by simpa using k);rw [this];exact ⟨hq,by simp;omega⟩
 obtain ⟨y1,y2,y3⟩:=hy.1 (by simpa using k);have:=y3.sz y2;have:=hx.le;refine ⟨⟨(hq.trans y3 (t:=szL (acc++[x.1])) (by omega)).vo _ _,?_⟩,?_⟩
 ·show (acc++[x.1]).length+grem y.2≤_
  simp only [List.length_append,List.length_singleton];omega
 show grem y.2 < _
 omega
theorem glistE {m:Kf}(h:GI m):T (KcN m) fun r=>GQ m 0 (szEs r.1) r.2∧r.1.length≤5002:=by
 unfold KcN;exact glist (fun h=>gexpr h) szEs (by simp [szEs]) (fun l x=>by rw [Kls];simp [szEs]) (by omega) (fun _=>rfl) h
theorem glistV {m:Kf}(h:GI m):T (KbZ m) fun r=>GQ m 0 (r.1.length*1) r.2∧r.1.length≤5002:=by
 unfold KbZ;exact glist (sz:=fun _=>1) (fun h=>gvar h) (fun l=>l.length*1) (by simp) (fun l x=>by simp) (by omega) (fun _=>rfl) h
theorem Kf8 (a:Int)(b c:ByteArray)(es:List Kc)(ks ls:List Km)(d:Int):szS ⟨a,b,c,es,ks,ls,d⟩=1+szSs ks+szSs ls+szEs es:=by rw [KhE]
theorem Kf9:szSs []=0:=by simp [szSs]
theorem szEs_0:szEs []=0:=by simp [szEs]
theorem szEs_1 (x:Kc):szEs [x]=szE x:=by simp [szEs]
theorem szEs_2 (x y:Kc):szEs [x,y]=szE x+szE y:=by simp [szEs]
theorem gcall {m:Kf}(h:GI m){a:Km}(hk:a.gKids=[])(he:a.gElse=[]):T (KcD m a) fun r=>GQ m 0 (szS r.1) r.2:=by
 unfold KcD;refine T.bind (gname h) fun x1 h1=>T.bind (glistE h1.i) fun x2 h2=>T.bind (geat h2.1.i _ (by simp)) fun x3 h3=>T.ret ?_
 simp only;rw [Kf8,hk,he,Kf9];exact (h1.trans h2.1 (t:=1+szEs x2.1) (by omega)).trans h3 (by omega)
theorem gassign {m:Kf}(h:GI m){a:Km}(hk:a.gKids=[])(he:a.gElse=[])(hx:a.gExps=[]):T (KcO m a) fun r=>GQ m 1 (szS r.1) r.2:=by
 have lift:∀ {s:Nat} {r:Kf},GQ m 0 s r→GQ m 1 (s+1) r:=fun q=>⟨q.l,q.i,q.le,fun e=>by have:=q.sz e;omega⟩
 have low:∀ {s:Nat} {r:Kf},GQ m 0 s r→GQ m 1 s r:=fun q=>⟨q.l,q.i,q.le,fun e=>by have:=q.sz e;omega⟩
 unfold KcO;refine T.bind (gmayQ h _) fun x1 h1=>T.cond (fun k=>?_) fun k=>?_
 ·refine T.bind (geat h1.1.i _ (by simp)) fun x2 h2=>T.ret ?_
  simp only;rw [Kf8,hk,he,hx,Kf9,szEs_0];exact low ((h1.2.1 k).2.2.trans h2 (by omega))
 rw [h1.2.2 k];refine T.bind (P:=fun _=>True) (T.bind (glook h (.inl rfl)) fun t _=>T.cond (fun _=>T.bind (gis h (.inr rfl) _) fun _ _=>T.ret trivial) fun _=>T.ret trivial) fun b _=>T.cond (fun _=>?_) fun _=>?_
 ·exact T.bind (gcall h hk he) fun x hx=>T.ret (low hx)
 refine T.bind (gexpr h) fun x2 h2=>T.bind (geat h2.i _ (by simp)) fun x3 h3=>T.ret ?_
 simp only;rw [Kf8,hk,he,Kf9,szEs_1,show 1+0+0+szE x2.1=szE x2.1+1 by omega];exact lift (h2.trans h3 (by omega))
theorem gnamed {m:Kf}(h:GI m){a:Km}(hk:a.gKids=[])(he:a.gElse=[])(hx:a.gExps=[]):T (Kc1 m a) fun r=>GQ m 0 (szS r.1) r.2:=by
 unfold Kc1;refine T.bind (gis h (.inr rfl) _) fun b _=>T.cond (fun _=>T.bind (gcall h hk he) fun x hx=>T.ret hx) fun _=>?_
 refine T.bind (gname h) fun x1 h1=>T.bind (gmayQ h1.i _) fun x2 h2=>T.cond (fun k=>?_) fun k=>?_
 ·refine T.bind (gexpr h2.1.i) fun x3 h3=>T.bind (geat h3.i _ (by simp)) fun x4 h4=>T.bind (gexpr h4.i) fun x5 h5=>T.bind (geat h5.i _ (by simp)) fun x6 h6=>T.ret ?_
  simp only;rw [Kf8,hk,he,Kf9,szEs_2];exact ((((h1.trans h2.1 (t:=1) (by omega)).trans h3 (t:=1+szE x3.1) (by omega)).trans h4 (t:=1+szE x3.1) (by omega)).trans h5 (t:=1+szE x3.1+szE x5.1) (by omega)).trans h6 (by omega)
 refine T.bind (geat h2.1.i _ (by simp)) fun x3 h3=>T.bind (gassign h3.i (a:=⟨a.gOp,x1.1,a.gFunc,a.gExps,a.gKids,a.gElse,a.gAt⟩) hk he hx) fun x4 h4=>T.ret ?_
 exact ((h1.trans h2.1 (t:=1) (by omega)).trans h3 (t:=1) (by omega)).trans h4 (by simp only;omega)
theorem gtest {m:Kf}(h:GI m):T (Kce m) fun r=>GQ m 0 (szEs r.1) r.2:=by
 unfold Kce;refine T.bind (geat h _ (by simp)) fun x1 h1=>T.bind (gexpr h1.i) fun x2 h2=>T.bind (geat h2.i _ (by simp)) fun x3 h3=>T.ret ?_
 simp only;rw [szEs_1];exact (h1.trans h2 (t:=szE x2.1) (by omega)).trans h3 (by omega)
theorem gblk {one:Kf→Option (Km×Kf)}{m:Kf}(h:GI m)(hone:∀ {r},GI r→grem r≤grem m→T (one r) fun q=>GQ r 0 (szS q.1) q.2){F:List Km×List KB×Int×Int×Int×Int→Option (Step (List Km×List KB×Int×Int×Int×Int) (List Km×List KB×Int×Int×Int×Int))}
  (hF:∀ s38,F s38=(Option.bind (α:=Bool×List KB×Int×Int×Int×Int) (bif (s38.2.2.2.1==(0:Int)) then ((Kam (⟨s38.2.1,s38.2.2.1,s38.2.2.2.1,s38.2.2.2.2.1,s38.2.2.2.2.2⟩:Kf) (ByteArray.mk #[125])).bind fun x62=>some ((!x62.1),x62.2.gL,x62.2.gAt,x62.2.gE,x62.2.gVars,x62.2.gOpen)) else some (false,s38.2.1,s38.2.2.1,s38.2.2.2.1,s38.2.2.2.2.1,s38.2.2.2.2.2)) fun y60=>(bif y60.1 then ((one (⟨y60.2.1,y60.2.2.1,y60.2.2.2.1,y60.2.2.2.2.1,y60.2.2.2.2.2⟩:Kf)).bind fun x64=>((app 120 s38.1 ([x64.1]:List Km)).bind fun x65=>some (.next (x65,x64.2.gL,x64.2.gAt,x64.2.gE,x64.2.gVars,x64.2.gOpen)))) else some (.done (s38.1,y60.2.1,y60.2.2.1,y60.2.2.2.1,y60.2.2.2.2.1,y60.2.2.2.2.2))))) :
  T (loopM F (([]:List Km),m.gL,m.gAt,m.gE,m.gVars,m.gOpen)) fun s=>GQ m 0 (szSs s.1) ⟨s.2.1,s.2.2.1,s.2.2.2.1,s.2.2.2.2.1,s.2.2.2.2.2⟩:=by
 have hm:=h.le;refine T.loop (fun s:List Km×List KB×Int×Int×Int×Int=>GQ m 0 (szSs s.1) ⟨s.2.1,s.2.2.1,s.2.2.2.1,s.2.2.2.2.1,s.2.2.2.2.2⟩∧s.1.length+grem ⟨s.2.1,s.2.2.1,s.2.2.2.1,s.2.2.2.2.1,s.2.2.2.2.2⟩≤grem m) (fun s=>grem ⟨s.2.1,s.2.2.1,s.2.2.2.1,s.2.2.2.2.1,s.2.2.2.2.2⟩) ⟨by simp only;rw [Kf9];exact GQ.refl h,by simp only [List.length_nil,Nat.zero_add];exact Nat.le_refl _⟩ fun s hs=>?_
 obtain ⟨acc,L,p,e,v,o⟩:=s;obtain ⟨hs,hl⟩:=hs;rw [hF];simp only at hs hl ⊢;refine T.bind (P:=fun y:Bool×List KB×Int×Int×Int×Int=>(y.1=true→e=0∧y.2=(L,p,e,v,o))∧GQ m 0 (szSs acc) ⟨y.2.1,y.2.2.1,y.2.2.2.1,y.2.2.2.2.1,y.2.2.2.2.2⟩) (T.cond (fun he=>?_) fun _=>T.ret ⟨fun h=>(by cases h),hs⟩) fun y hy=>T.cond (fun k=>?_) fun _=>T.ret hy.2
 ·refine T.bind (gmayQ hs.i _) fun x hx=>T.ret ⟨fun k=>?_,(hs.trans hx.1 (t:=szSs acc) (by omega)).vo _ _⟩
  have:=hx.2.2 (by simpa using k);rw [this];exact ⟨by simpa using he,rfl⟩
 obtain ⟨e0,ey⟩:=hy.1 k;rw [ey];simp only;refine T.bind (hone hs.i hs.le) fun x hx=>?_
 rw [Kdj (by omega) (by simp;omega),Option.bind_some];have h1:1≤szS x.1:=by rw [KhE];omega
 have h2:=hx.less h1 hs.i e0;refine T.ret ⟨⟨(hs.trans hx (t:=szSs (acc++[x.1])) (by rw [Klt];simp only [szSs];omega)).vo _ _,?_⟩,?_⟩
 ·show (acc++[x.1]).length+grem x.2≤_
  simp only [List.length_append,List.length_singleton];omega
 show grem x.2 < _
 omega
theorem gopen {m:Kf}(h:GI m){β:Type}{f:List KB×Int×Int×Int×Int→Option β}{Q:β→Prop}(g:∀ y:List KB×Int×Int×Int×Int,GQ m 0 0 ⟨y.1,y.2.1,y.2.2.1,y.2.2.2.1,IntKind.i64.wrap (y.2.2.2.2+1)⟩→T (f y) Q) :
  T ((K0 m qZ15).bind fun x1=>(Option.bind (α:=List KB×Int×Int×Int×Int) (bif (decide ((24:Int)≤x1.gOpen)) then ((KaG x1 m.gAt (5:Int)).bind fun x6=>some (x6.gL,x6.gAt,x6.gE,x6.gVars,x6.gOpen)) else some (x1.gL,x1.gAt,x1.gE,x1.gVars,x1.gOpen)) f)) Q:=by
 refine T.bind (geat h _ (by simp)) fun x1 h1=>T.bind (P:=fun y:List KB×Int×Int×Int×Int=>GQ m 0 0 ⟨y.1,y.2.1,y.2.2.1,y.2.2.2.1,IntKind.i64.wrap (y.2.2.2.2+1)⟩) (T.cond (fun _=>?_) fun _=>T.ret (h1.vo _ _)) fun y hy=>g y hy
 refine T.bind (gfail h1.i (a:=m.gAt) h.lo (by rw [h1.l];exact h.hi) (by decide)) fun r hr=>T.ret ?_
 exact (gerr (m:=m) (c:=0) (s:=0) (hr.1.trans h1.l) hr.2.1 hr.2.2).vo _ _
abbrev SG (N:Nat):=K6 N
theorem stot:∀ N:Nat,(∀ m:Kf,GI m→2*grem m+1≤N→T ((SG N).1 m) fun r=>GQ m 0 (szS r.1) r.2)∧(∀ m:Kf,GI m→2*grem m+2≤N→T ((SG N).2 m) fun r=>GQ m 0 (szSs r.1) r.2)
 | 0=>⟨fun m _ h=>by omega,fun m _ h=>by omega⟩
 |
  N+1=>by
  obtain ⟨iS,iB⟩:=stot N;refine ⟨fun m hm hN=>?_,fun m hm hN=>?_⟩
  ·show T (Ka3 (SG N).1 (SG N).2 m) _
   unfold Ka3;refine T.bind (glook hm (.inl rfl)) fun t _=>T.cond (fun _=>T.bind (gnamed hm rfl rfl rfl) fun x hx=>T.ret hx) fun _=>?_
   refine T.bind (gmay hm _) fun x1 h1=>T.cond (fun k=>?_) fun k=>?_
   ·obtain ⟨_,_,q1⟩:=h1.1 k;refine T.bind (gname q1.i) fun x2 h2=>T.bind (geat h2.i _ (by simp)) fun x3 h3=>T.bind (gexpr h3.i) fun x4 h4=>T.bind (geat h4.i _ (by simp)) fun x5 h5=>T.ret ?_
    simp only;rw [Kf8,Kf9,szEs_1];exact (((q1.trans h2 (t:=1) (by omega)).trans h3 (t:=1) (by omega)).trans h4 (t:=1+szE x4.1) (by omega)).trans h5 (by omega)
   rw [h1.2 k];refine T.bind (gmay hm _) fun x1 h1=>T.cond (fun k=>?_) fun k=>?_
   ·obtain ⟨_,_,q1⟩:=h1.1 k;have l1:=q1.sz (h1.1 k).2.1;refine T.bind (gtest q1.i) fun x2 h2=>?_
    have l2:=h2.le;refine T.bind (iB x2.2 h2.i (by omega)) fun x3 h3=>?_
    have l3:=h3.le;refine T.bind (gmayQ h3.i _) fun x4 h4=>?_
    have l4:=h4.1.le;have q3:GQ m 0 (1+szEs x2.1+szSs x3.1) x4.2:=((q1.trans h2 (t:=1+szEs x2.1) (by omega)).trans h3 (t:=1+szEs x2.1+szSs x3.1) (by omega)).trans h4.1 (by omega);refine T.cond (fun _=>T.bind (iB x4.2 h4.1.i (by omega)) fun x5 h5=>T.ret ?_) fun _=>T.ret ?_
    ·simp only;rw [Kf8];exact q3.trans h5 (by omega)
    simp only;rw [Kf8,Kf9];exact q3.trans (GQ.refl q3.i) (by omega)
   rw [h1.2 k];refine T.bind (gmay hm _) fun x1 h1=>T.cond (fun k=>?_) fun k=>?_
   ·obtain ⟨_,_,q1⟩:=h1.1 k;have l1:=q1.sz (h1.1 k).2.1;refine T.bind (gtest q1.i) fun x2 h2=>?_
    have l2:=h2.le;refine T.bind (iB x2.2 h2.i (by omega)) fun x3 h3=>T.ret ?_
    simp only;rw [Kf8,Kf9];exact (q1.trans h2 (t:=1+szEs x2.1) (by omega)).trans h3 (by omega)
   rw [h1.2 k];refine T.bind (gmay hm _) fun x1 h1=>T.cond (fun k=>?_) fun k=>?_
   ·obtain ⟨_,_,q1⟩:=h1.1 k;refine T.bind (gexpr q1.i) fun x2 h2=>T.bind (geat h2.i _ (by simp)) fun x3 h3=>T.ret ?_
    simp only;rw [Kf8,Kf9,szEs_1];exact (q1.trans h2 (t:=1+szE x2.1) (by omega)).trans h3 (by omega)
   rw [h1.2 k];refine T.bind (gmay hm _) fun x1 h1=>T.cond (fun k=>?_) fun k=>?_
   ·obtain ⟨_,_,q1⟩:=h1.1 k;refine T.bind (gtest q1.i) fun x2 h2=>T.bind (geat h2.i _ (by simp)) fun x3 h3=>T.ret ?_
    simp only;rw [Kf8,Kf9];exact (q1.trans h2 (t:=1+szEs x2.1) (by omega)).trans h3 (by omega)
   rw [h1.2 k];exact T.bind (gfail hm hm.lo hm.hi (by decide)) fun r hr=>T.ret (gerr hr.1 hr.2.1 hr.2.2)
  show T (KaS (SG N).1 (SG N).2 m) _
  unfold KaS grammar_nothing;refine gopen hm fun y hy=>?_
  rw [Option.bind_some];have l1:=hy.le;refine T.bind (gblk (m:=⟨y.1,y.2.1,y.2.2.1,y.2.2.2.1,IntKind.i64.wrap (y.2.2.2.2+1)⟩) hy.i (fun hr hl=>iS _ hr (by omega)) (fun _=>rfl)) fun s hs=>T.ret ?_
  exact (hy.trans hs (by simp only;omega)).vo _ _
theorem gstmt {m:Kf}(h:GI m):T (Kdc m) fun r=>GQ m 0 (szS r.1) r.2:=by
 obtain ⟨r,h1,h2⟩:=(stot (2*grem m+1)).1 m h (Nat.le_refl _);exact ⟨r,Kf4 m _ h1,h2⟩
theorem glocals {m:Kf}(h:GI m)(f:Kq)(hf:f.gLocals=[]):T (Kbf f m) fun r=>GQ m 0 0 r.1∧r.2.gParams=f.gParams∧r.2.gLocals.length≤5001:=by
 have hm:=h.le;unfold Kbf;refine T.bind (P:=fun s:List KB×Int×Int×Int×Int×List Kab=>GQ m 0 0 ⟨s.1,s.2.1,s.2.2.1,s.2.2.2.1,s.2.2.2.2.1⟩∧s.2.2.2.2.2.length≤5001) ?_ fun s hs=>T.ret ⟨hs.1,rfl,hs.2⟩
 refine T.loop (fun s:List KB×Int×Int×Int×Int×List Kab=>GQ m 0 0 ⟨s.1,s.2.1,s.2.2.1,s.2.2.2.1,s.2.2.2.2.1⟩∧s.2.2.2.2.2.length+grem ⟨s.1,s.2.1,s.2.2.1,s.2.2.2.1,s.2.2.2.2.1⟩≤grem m) (fun s=>grem ⟨s.1,s.2.1,s.2.2.1,s.2.2.2.1,s.2.2.2.2.1⟩) ⟨GQ.refl h,by simp only [hf,List.length_nil,Nat.zero_add];exact Nat.le_refl _⟩ fun s hs=>?_
 obtain ⟨L,p,e,v,o,acc⟩:=s;obtain ⟨hs,hl⟩:=hs;simp only at hs hl ⊢;refine T.bind (P:=fun b=>b=true→e=0) (T.cond (fun he=>T.bind (gis hs.i (.inl rfl) _) fun b _=>T.ret fun _=>by simpa using he) fun _=>T.ret (by simp)) fun b hb=>T.cond (fun k=>?_) fun _=>T.ret ⟨hs,by simp only;omega⟩
 refine T.bind (gvar hs.i) fun x hx=>?_
 have h2:=hx.less (Nat.le_refl _) hs.i (hb k);rw [Kdj (by omega) (by simp;omega),Option.bind_some];refine T.bind (geat hx.i _ (by simp)) fun y hy=>T.ret ⟨⟨(hs.trans hx (t:=1) (by omega)).trans hy (by omega),?_⟩,?_⟩
 ·have:=hy.le;show (acc++[x.1]).length+grem y≤_
  simp only [List.length_append,List.length_singleton];omega
 have:=hy.le;show grem y < _
 omega
theorem gblock {m:Kf}(h:GI m)(f:Kq)(hf:f.gLocals=[]):T (Kb0 m f) fun r=>GQ m 0 (szSs r.1) r.2.1∧r.2.2.gParams=f.gParams∧r.2.2.gLocals.length≤5001:=by
 unfold Kb0;refine gopen h fun y hy=>T.bind (glocals hy.i f hf) fun x hx=>?_
 refine T.bind (gblk (m:=x.1) hx.1.i (fun hr _=>gstmt hr) (fun _=>rfl)) fun s hs=>T.ret ⟨?_,hx.2⟩
 exact ((hy.trans hx.1 (t:=0) (by omega)).trans hs (by simp only;omega)).vo _ _
theorem size_t':∀ (n:Nat) (e:Kc),dpE e≤n→szE e≤1048576→T (Kcr n e) fun _=>True
 | 0,e,h,_=>by have:=Ke9 e;omega
 |
  n+1,e,h,hs=>by
  show T (KcV (Kcr n) e) _
  have h1:=Ke9 e;have h2:=Kf7 e;have h3:=Khp e.gKids
  unfold KcV;refine T.bind (P:=fun _=>True) (T.loop (fun s=>∃ k:Nat,s.2=(k:Int)∧k≤e.gKids.length) (fun s=>e.gKids.length - s.2.toNat) ⟨0,rfl,Nat.zero_le _⟩ fun s hs'=>?_) fun _ _=>T.ret trivial
  obtain ⟨k,hk,hk2⟩:=hs';obtain ⟨s1,s2⟩:=s;simp only at hk;subst hk;refine T.cond (fun hc=>?_) fun _=>T.ret trivial
  have hlt:k < e.gKids.length:=by have:=of_decide_eq_true hc;simp only at this;omega
  refine T.bind (P:=fun x=>x∈e.gKids) (T.idx hlt fun x hx=>List.mem_of_getElem? hx) fun x hx=>?_
  have:=KgA hx;have:=KfP hx
  refine T.bind (size_t' n x (by omega) (by omega)) fun _ _=>T.ret ?_
  have hw:=wn (n:=k) (by omega);exact ⟨⟨k+1,hw,hlt⟩,by simp only [hw,Int.toNat_natCast];omega⟩
theorem size_t {e:Kc}(h:szE e≤1048576):T (Khy e) fun _=>True:=by
 obtain ⟨r,h1,_⟩:=size_t' (dpE e) e (Nat.le_refl _) h;exact ⟨r,Kk0 e _ h1,trivial⟩
theorem KlZ:∀ (n:Nat) (l:List Km),hSs l≤n→szSs l≤1048576→T (Kb6 n l) fun _=>True
 | 0,l,h,_=>by have:=Kh3 l;omega
 |
  n+1,l,h,hs=>by
  show T (KcJ (Kb6 n) l) _
  have h3:=Khq l;unfold KcJ;refine T.bind (P:=fun _=>True) (T.loop (fun s=>∃ k:Nat,s.2=(k:Int)∧k≤l.length) (fun s=>l.length - s.2.toNat) ⟨0,rfl,Nat.zero_le _⟩ fun s hs'=>?_) fun _ _=>T.ret trivial
  obtain ⟨k,hk,hk2⟩:=hs';obtain ⟨s1,s2⟩:=s;simp only at hk;subst hk;refine T.cond (fun hc=>?_) fun _=>T.ret trivial
  have hlt:k < l.length:=by have:=of_decide_eq_true hc;simp only at this;omega
  refine T.bind (P:=fun x=>x∈l) (T.idx hlt fun x hx=>List.mem_of_getElem? hx) fun x hx=>?_
  have:=KjZ hx;have:=Kh2 hx;have:=hS_eq x;have:=KhE x;have h4:=Khp x.gExps
  refine T.bind (KlZ n x.gKids (by omega) (by omega)) fun _ _=>T.bind (KlZ n x.gElse (by omega) (by omega)) fun _ _=>?_
  refine T.bind (P:=fun _=>True) (T.loop (fun s=>∃ k:Nat,s.2=(k:Int)∧k≤x.gExps.length) (fun s=>x.gExps.length - s.2.toNat) ⟨0,rfl,Nat.zero_le _⟩ fun s hs'=>?_) fun _ _=>T.ret ?_
  ·obtain ⟨j,hj,hj2⟩:=hs';obtain ⟨s1,s2⟩:=s;simp only at hj;subst hj;refine T.cond (fun hc=>?_) fun _=>T.ret trivial
   have hlt:j < x.gExps.length:=by have:=of_decide_eq_true hc;simp only at this;omega
   refine T.bind (P:=fun y=>y∈x.gExps) (T.idx hlt fun y hy=>List.mem_of_getElem? hy) fun y hy=>?_
   have:=KfP hy;refine T.bind (size_t (by omega)) fun _ _=>T.ret ?_
   have hw:=wn (n:=j) (by omega);exact ⟨⟨j+1,hw,hlt⟩,by simp only [hw,Int.toNat_natCast];omega⟩
  have hw:=wn (n:=k) (by omega);exact ⟨⟨k+1,hw,hlt⟩,by simp only [hw,Int.toNat_natCast];omega⟩
theorem sizes_t {l:List Km}(h:szSs l≤1048576):T (KgR l) fun _=>True:=by
 obtain ⟨r,h1,_⟩:=KlZ (hSs l) l (Nat.le_refl _) h;exact ⟨r,KkI l _ h1,trivial⟩
theorem gfunction {m:Kf}(h:GI m):T (Kbv m) fun r=>r.2.gL=m.gL∧GI r.2∧(r.2.gE=0→FS r.1):=by
 have hm:=h.le;unfold Kbv;refine T.bind (glook h (.inl rfl)) fun t _=>T.bind (geat h _ (by simp)) fun x1 h1=>T.bind (gname h1.i) fun x2 h2=>T.bind (glistV h2.i) fun x3 h3=>?_
 refine T.bind (gblock h3.1.i ⟨x2.1,x3.1,[],[],t.gAt⟩ rfl) fun x4 h4=>?_
 have q:GQ m 0 (szSs x4.1) x4.2.1:=((h1.trans h2 (t:=0) (by omega)).trans h3.1 (t:=0) (by omega)).trans h4.1 (by omega);have fs:x4.2.1.gE=0→FS ⟨x4.2.2.gName,x4.2.2.gParams,x4.2.2.gLocals,x4.1,x4.2.2.gAt⟩:=fun e=>by
  have:=q.sz e;refine ⟨?_,?_,?_⟩
  ·simp only;rw [h4.2.1];have:=h3.2;simp only;omega
  ·have:=h4.2.2;simp only;omega
  simp only;omega
 refine T.bind (P:=fun _=>True) (T.cond (fun e=>?_) fun _=>T.ret trivial) fun b _=>T.cond (fun _=>?_) fun _=>T.ret ⟨q.l,q.i,fs⟩
 ·have:=q.sz (by simpa using e);exact T.bind (sizes_t (by omega)) fun _ _=>T.ret trivial
 exact T.bind (gfail q.i (a:=x1.gAt) h1.i.lo (by rw [q.l,← h1.l];exact h1.i.hi) (by decide)) fun r hr=>T.ret ⟨hr.1.trans q.l,hr.2.1,fun e=>absurd e hr.2.2⟩
theorem gtext {A:Type}{b:List UInt8}{none_:A}{at_:KB→Int}{of:List KB→Int→Option (A×Int×Int)}{P:A→Prop}(hof:∀ l:List KB,l.length≤5000→T (of l 0) fun r=>0≤r.2.1∧(r.2.2=0→P r.1)) :
  T ((KdB b).bind fun x4=>(bif (x4.2.2 != (0:Int)) then some (none_,x4.2.1,x4.2.2) else ((of x4.1 (0:Int)).bind fun x14=>((idx x4.1 (min x14.2.1 (IntKind.i64.wrap ((x4.1.length:Int) - (1:Int))))).bind fun x16=>(bif (x14.2.2 != (0:Int)) then some (none_,x16.gAt,x14.2.2) else (bif (x16.gKind != (0:Int)) then some (none_,x16.gAt,(3:Int)) else some (x14.1,(0:Int),(0:Int)))))))) fun r=>r.2.2=0→P r.1:=by
 refine T.bind (tread b) fun x hx=>T.cond (fun e=>T.ret fun h=>?_) fun e=>?_
 ·simp at e;exact absurd h e
 obtain ⟨k1,k2⟩:=hx (by simpa using e);refine T.bind (hof x.1 (by omega)) fun y hy=>?_
 have hw:IntKind.i64.wrap ((x.1.length:Int) - 1)=(x.1.length:Int) - 1:=by rw [IntKind.wrap_i64];omega
 rw [hw];have h0:=hy.1;obtain ⟨k,hk⟩:=Int.eq_ofNat_of_zero_le (show 0≤min y.2.1 ((x.1.length:Int) - 1) by omega);rw [hk];refine T.bind (P:=fun _=>True) (T.idx (by omega) fun _ _=>trivial) fun t _=>T.cond (fun e=>T.ret fun h=>?_) fun e=>T.cond (fun _=>T.ret (by simp)) fun _=>T.ret fun _=>hy.2 (by simpa using e)
 simp at e;exact absurd h e
theorem readsF:ReadsF:=fun b=>by
 have key:T (Kcn b) fun r=>r.2.2=0→FS r.1:=by
  unfold Kcn Kci;refine T.bind (gtext (P:=FS) (at_:=fun t=>t.gAt) fun l hl=>?_) fun x hx=>T.ret hx
  unfold Kez Kc7;refine T.bind (P:=fun r:Kf×Bool=>GI r.1) (T.cond (fun _=>T.ret ⟨by simp,by simp,hl⟩) fun _=>T.ret ⟨by simp,by simp,hl⟩) fun x hx=>T.cond (fun _=>T.ret (by simp)) fun _=>?_
  refine T.bind (gfunction hx) fun r hr=>T.cond (fun e=>T.ret ⟨hr.2.1.lo,fun h=>?_⟩) fun e=>T.ret ⟨hr.2.1.lo,fun _=>hr.2.2 (by simpa using e)⟩
  simp at e;exact absurd h e
 obtain ⟨⟨f,a,e⟩,h1,h2⟩:=key;exact ⟨f,a,e,h1,h2⟩
theorem gglobal {m:Kf}(h:GI m):T (KcP m) fun r=>GI r.2:=by
 unfold KcP;refine T.bind (glook h (.inl rfl)) fun t _=>T.bind (geat h _ (by simp)) fun x1 h1=>T.bind (gmayQ h1.i _) fun x2 h2=>T.bind (gname h2.1.i) fun x3 h3=>?_
 refine T.bind (P:=fun y:Bool×List KB×Int×Int×Int×Int=>GI ⟨y.2.1,y.2.2.1,y.2.2.2.1,y.2.2.2.2.1,y.2.2.2.2.2⟩) (T.cond (fun _=>T.bind (gmayQ h3.i _) fun x hx=>T.ret ⟨hx.1.i.lo,hx.1.i.hi,hx.1.i.len⟩) fun _=>T.ret ⟨h3.i.lo,h3.i.hi,h3.i.len⟩) fun y hy=>?_
 refine T.bind (P:=fun y:List KB×Int×Int×Int×Int×Int=>GI ⟨y.1,y.2.1,y.2.2.1,y.2.2.2.1,y.2.2.2.2.1⟩) (T.cond (fun _=>?_) fun _=>T.ret hy) fun z hz=>T.bind (geat hz _ (by simp)) fun r hr=>T.ret hr.i
 refine T.bind (glook hy (.inl rfl)) fun t ht=>?_
 refine T.bind (P:=fun y:List KB×Int×Int×Int×Int×Int=>GI ⟨y.1,y.2.1,y.2.2.1,y.2.2.2.1,y.2.2.2.2.1⟩) ?_ fun z hz=>T.bind (geat hz _ (by simp)) fun r hr=>T.ret ⟨hr.i.lo,hr.i.hi,hr.i.len⟩
 refine T.bind (P:=fun y:List KB×Int×Int×Int×Int×Int=>GI ⟨y.1,y.2.1,y.2.2.1,y.2.2.2.1,y.2.2.2.2.1⟩) (T.cond (fun _=>?_) fun k=>?_) fun z hz=>T.ret hz
 ·exact T.bind (gfail hy hy.lo hy.hi (by decide)) fun r hr=>T.ret ⟨hr.2.1.lo,hr.2.1.hi,hr.2.1.len⟩
 have hk:t.gKind=2:=by simpa using k
 have hlt:=ht rfl (by rw [hk];decide);refine T.bind (P:=fun _=>True) (T.cond (fun _=>T.ret trivial) fun _=>T.ret trivial) fun b _=>T.bind (P:=fun y:List KB×Int×Int×Int×Int×Int=>GI ⟨y.1,y.2.1,y.2.2.1,y.2.2.2.1,y.2.2.2.2.1⟩) (T.cond (fun _=>?_) fun _=>T.ret ?_) fun z hz=>T.ret hz
 ·exact T.bind (gfail hy hy.lo hy.hi (by decide)) fun r hr=>T.ret ⟨hr.2.1.lo,hr.2.1.hi,hr.2.1.len⟩
 have h1:=hy.lo;have h2:=hy.len
 simp only at hlt h1 h2;have hw:IntKind.i64.wrap (y.2.2.1+1)=y.2.2.1+1:=by rw [IntKind.wrap_i64];omega
 simp only;rw [hw];exact ⟨by simp only;omega,by simp only;omega,h2⟩
theorem readsG:ReadsG:=fun b=>by
 have key:T (KcQ b) fun _=>True:=by
  unfold KcQ Kc8;refine T.bind ((gtext (P:=fun _=>True) (at_:=fun t=>t.gAt) fun l hl=>?_)) fun x hx=>T.ret trivial
  unfold KfO Kc7;refine T.bind (P:=fun r:Kf×Bool=>GI r.1) (T.cond (fun _=>T.ret ⟨by simp,by simp,hl⟩) fun _=>T.ret ⟨by simp,by simp,hl⟩) fun x hx=>T.cond (fun _=>T.ret (by simp)) fun _=>?_
  exact T.bind (gglobal hx) fun r hr=>T.cond (fun e=>T.ret ⟨hr.lo,fun _=>trivial⟩) fun e=>T.ret ⟨hr.lo,fun _=>trivial⟩
 obtain ⟨⟨f,a,e⟩,h1,_⟩:=key;exact ⟨f,a,e,h1⟩
end
section
open Go
set_option linter.all false
def Kfh (x:KaZ):Prop:=(Lit.int .i64 x.gKind).wf=true∧(x.gText.length≤maxLen∧∀ y∈x.gText,True)∧x.gName.size≤maxLen
theorem Kj1 {n:Nat}{d:D}(g:GoodT tab n 35 d):∃ x:KaZ,d=KbU x∧Kfh x:=by
 obtain ⟨n',ds,_,rfl,hl,h⟩:=Knt ti35 rfl g;match ds,hl with
 |
  [d0,d1,d2],_=>
  obtain ⟨x1,rfl,w1⟩:=good_int ti3 rfl (h 0 _ _ rfl rfl);obtain ⟨n2,zs2,_,rfl,hl2,hz2⟩:=Kl8 ti33 rfl ti5 (h 1 _ _ rfl rfl);obtain ⟨x2,rfl,w2⟩:=KkV (f:=byteD) (K:=(fun y=>True)) (p:=fun x=>GoodT tab n2 5 x) (fun x hx=>by obtain ⟨x3,rfl⟩:=good_u8 ti5 rfl (hx);exact ⟨x3,rfl,trivial⟩) zs2 hz2;obtain ⟨x4,rfl,w4⟩:=good_str ti9 rfl (h 2 _ _ rfl rfl);exact ⟨⟨x1,x2,x4⟩,rfl,w1,⟨by simpa using hl2,w2⟩,w4⟩
def wfL22:List KaZ→Prop:=(fun y=>(y.length≤maxLen∧∀ z∈y,Kfh z))
theorem goodL22 {n:Nat}{d:D}(g:GoodT tab n 22 d):∃ x:List KaZ,d=.lst 3 (x.map KbU) .no∧wfL22 x:=by
 obtain ⟨n1,zs1,_,rfl,hl1,hz1⟩:=Kl8 ti22 rfl ti35 (g);obtain ⟨x1,rfl,w1⟩:=KkV (f:=KbU) (K:=(fun y=>Kfh y)) (p:=fun x=>GoodT tab n1 35 x) (fun x hx=>by obtain ⟨x2,rfl,w2⟩:=Kj1 (hx);exact ⟨x2,rfl,w2⟩) zs1 hz1;exact ⟨x1,rfl,⟨by simpa using hl1,w1⟩⟩
theorem lives36:l36_lives=some true:=(Knf 70).of (by kernel_rfl)
theorem StoreRight_true (a0:List KaZ)(h:wfL22 a0):KeA a0=some true:=KmC readsF readsG lives36 (by have:=h.1;unfold maxLen at this;omega)
end
end Go.Proofs.YtipfljkjjddapaaGreat.Ab
namespace Go.Proofs.YtipfljkjjddapaaGreat
open Go.ChangeShapes Go.WideShapes Go.ChangeAt Go.RowKit Go.Joins
set_option linter.all false
theorem Kl0 (os:Os)(started:os.Started)(H:Type)(enc:TypeId×Value→H) :
  ReturnsInHanded {} Tryz.checked os 3 .any (Rows.storeRightSpec.pre6 enc Tryz.prog Tryz.f3 Rows.storeRightRow.domain false) (Rows.storeRightSpec.post enc Tryz.prog Tryz.f3 false true false false):=by
 refine returnsInHanded_of_change (C:=Tryz.checked) own started (by kernel_rfl) Tryz.func3
  (ChangeSpec.witness6 (enc:=enc) (C:=Tryz.checked) false ⟨#[],#[.slice none 0 0],[]⟩ 8 (by kernel_rfl) (by kernel_rfl) (by kernel_rfl) (by kernel_rfl)) ?_
 intro W base args ds gs before hval0 hW hcnd _;have hval:∀ (j:Nat) t v,Tryz.f3.params[j]? = some t→args[j]? = some v→Value.okWide Tryz.prog W .any base t v:=hval0;have hW':=hW;obtain ⟨p,q,hA0,hV,rfl,hfz,hnd⟩:=hW;have hA:DataW.TrodAll enc Tryz.prog W 0 (fun _=>true) true Tryz.f3.params.toList args.toList ds p:=hA0;obtain ⟨rfl,rfl⟩:=trodVars_none hV;simp only [List.append_nil] at hW';have hback:=KmW laidOut' (by kernel_rfl) hA (fun x hx=>hW'.lt x hx);rw [Tryz.params3] at hA hval;obtain ⟨v0,vs0,d0,ds0,p0,q0,hargs,rfl,hp0,h0,r0⟩:=trodAll_cons hA;obtain ⟨rfl,rfl,hpn⟩:=trodAll_nil r0;obtain rfl:args=#[v0]:=by cases args;simp_all
 obtain ⟨n0,x0,g0,rep0⟩:=Ab.rd_arg (t:=22) Ab.htab [3,5,9,22,33,35] (by kernel_rfl) (by kernel_rfl) (hval 0 22 v0 rfl rfl) h0;obtain ⟨a0,rfl,k0⟩:=Ab.goodL22 g0;clear hA0 hval0;refine (Ab.to_calls (us:=#[v0]) (Ab.l36_StoreRight_ok a0 true (Ab.StoreRight_true a0 k0)) (Ab.ag_all W) (by simp only [Ab.RepsV];exact ⟨_,_,rfl,rep0,rfl⟩)).mono fun e W' ⟨he,hb⟩=>?_
 subst he;exact ⟨_,rfl,_,_,_,[],p,[],hW',trodAll_cons_mk (shut_bool Tryz.underlying4 _) trodAll_mk0,hback W' hb _ (fun x hx=>by simpa using hW'.lt x hx),rfl,hb.frame _,fun h=>by cases h⟩
theorem storeRight_holds:Rows.StoreRightSaid:=
 OpenClaim.holds_of_wide 3 Tryz.f3 rfl rfl rfl rfl rfl rfl rfl ⟨rfl,rfl,rfl,rfl,rfl⟩ rfl rfl rfl rfl rfl (by kernel_rfl) Tryz.func3 (by kernel_rfl)
  (of_decide_eq_true (by kernel_rfl)) (by unfold Func.isWrapper;rw [if_neg (of_decide_eq_false (by kernel_rfl))];exact ⟨rfl,rfl⟩)
  (fun os started H enc _=>Kl0 os started H enc)
#print axioms storeRight_holds
end Go.Proofs.YtipfljkjjddapaaGreat
end
