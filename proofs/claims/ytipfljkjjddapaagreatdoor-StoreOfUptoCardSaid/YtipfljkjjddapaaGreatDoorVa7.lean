/- The texts that storeOfUptoCard_holds leans on, part 7. -/
import Derived.Test.YtipfljkjjddapaaGreatDoorVa6
set_option maxRecDepth 100000
set_option maxHeartbeats 80000000
namespace Go.Proofs.YtipfljkjjddapaaGreatDoor.Ab
open Go
set_option linter.all false
def Kce (fu : Nat) (a0 : Kh) (a1 : Int) : Option ((Int × Int) ⊕ (Unit)) :=
 (bif (a1 != (1 : Int)) then ((Kaz a0.gAt (9 : Int)).bind fun x3 => Sum.elim (fun pe3 => some (.inl pe3)) (fun z3 => some (.inr ())) x3) else some (.inr ()))
theorem KgG (fu : Nat)   (a0 : Kh) (a1 : Int) : Le (Kce fu  a0 a1) (Kbu  a0 a1) := by
 unfold Kce Kbu
 repeat (first | exact Le.refl _ | assumption | (refine Le.bind ?_ (fun _ => ?_)) | (refine Le.cond ?_ ?_) | (refine Le.loopC (fun _ => ?_)) | (refine Le.elim (fun _ => ?_) (fun _ => ?_)))
def KfW (fu : Nat) (a0 : Int) (a1 : Int) (a2 : List Int) : Option ((Int × Int) ⊕ (Int)) :=
 (Option.bind (α := (Unit) ⊕ ((Int × Int) ⊕ (Int))) (bif (a0 == (0 : Int)) then ((Kaz a1 (7 : Int)).bind fun x5 => Sum.elim (fun pe5 => some (.inr (.inl pe5))) (fun z5 => some (.inl ())) x5) else some (.inl ())) (Sum.elim (fun y3 => (Option.bind (α := (Unit) ⊕ ((Int × Int) ⊕ (Int))) (loopC fu (fun (s21 : Int) => (bif (decide (s21 < (a2.length : Int))) then ((idx a2 s21).bind fun x31 => (bif (x31 == a0) then some (.done (.inr (.inr a0))) else some (.next (IntKind.i64.wrap (s21 + (1 : Int)))))) else some (.done (.inl ())))) (0 : Int)) (Sum.elim (fun y20 => ((Kaz a1 (9 : Int)).bind fun x34 => Sum.elim (fun pe34 => some (.inl pe34)) (fun z34 => some (.inr (0 : Int))) x34)) (fun r => some r)))) (fun r => some r)))
theorem Kiw (fu : Nat)   (a0 : Int) (a1 : Int) (a2 : List Int) : Le (KfW fu  a0 a1 a2) (Kdk  a0 a1 a2) := by
 unfold KfW Kdk
 repeat (first | exact Le.refl _ | assumption | (refine Le.bind ?_ (fun _ => ?_)) | (refine Le.cond ?_ ?_) | (refine Le.loopC (fun _ => ?_)) | (refine Le.elim (fun _ => ?_) (fun _ => ?_)))
def KdI (fu : Nat) (a0 : Bool) : Option (Int) :=
 (bif a0 then some (2 : Int) else some (1 : Int))
theorem Kfs (fu : Nat)   (a0 : Bool) : Le (KdI fu  a0) (KbS  a0) := by
 unfold KdI KbS
 repeat (first | exact Le.refl _ | assumption | (refine Le.bind ?_ (fun _ => ?_)) | (refine Le.cond ?_ ?_) | (refine Le.loopC (fun _ => ?_)) | (refine Le.elim (fun _ => ?_) (fun _ => ?_)))
def Kc9 (fu : Nat) (a0 : Kv) (a1 : ByteArray) : Option (Int) :=
 (Option.bind (α := (Unit) ⊕ (Int)) (loopC fu (fun (s125 : Int) => (bif (decide (s125 < (2 : Int))) then ((idx ([a0.gF.gParams, a0.gF.gLocals] : List (List K8)) s125).bind fun x207 => (Option.bind (α := (Unit) ⊕ (Int)) (loopC fu (fun (s227 : Int) => (bif (decide (s227 < (x207.length : Int))) then ((idx x207 s227).bind fun x241 => (bif (decide (x241.gName = a1)) then ((KdI fu x241.gPtr).bind fun x244 => some (.done (.inr x244))) else some (.next (IntKind.i64.wrap (s227 + (1 : Int)))))) else some (.done (.inl ())))) (0 : Int)) (Sum.elim (fun y226 => some (.next (IntKind.i64.wrap (s125 + (1 : Int))))) (fun r => some (.done (.inr r)))))) else some (.done (.inl ())))) (0 : Int)) (Sum.elim (fun y124 => some (0 : Int)) (fun r => some r)))
theorem KfC (fu : Nat)   (a0 : Kv) (a1 : ByteArray) : Le (Kc9 fu  a0 a1) (KbB  a0 a1) := by
 unfold Kc9 KbB
 repeat (first | exact Le.refl _ | assumption | exact Kfs fu _ | (refine Le.bind ?_ (fun _ => ?_)) | (refine Le.cond ?_ ?_) | (refine Le.loopC (fun _ => ?_)) | (refine Le.elim (fun _ => ?_) (fun _ => ?_)))
def Kcf (fu : Nat) (a0 : Kv) (a1 : ByteArray) : Option (Int) :=
 (Option.bind (α := (Unit) ⊕ (Int)) (loopC fu (fun (s35 : Int) => (bif (decide (s35 < (a0.gP.gGlobals.length : Int))) then ((idx a0.gP.gGlobals s35).bind fun x57 => (bif (decide (x57.gName = a1)) then (Option.bind (α := Bool) (bif (decide ((0 : Int) < x57.gSize)) then some (!x57.gPtr) else some false) fun y61 => (bif y61 then some (.done (.inr (3 : Int))) else ((KdI fu x57.gPtr).bind fun x65 => some (.done (.inr x65))))) else some (.next (IntKind.i64.wrap (s35 + (1 : Int)))))) else some (.done (.inl ())))) (0 : Int)) (Sum.elim (fun y34 => some (0 : Int)) (fun r => some r)))
theorem Kdx (fu : Nat)   (a0 : Kv) (a1 : ByteArray) : Le (Kcf fu  a0 a1) (KaO  a0 a1) := by
 unfold Kcf KaO
 repeat (first | exact Le.refl _ | assumption | exact Kfs fu _ | (refine Le.bind ?_ (fun _ => ?_)) | (refine Le.cond ?_ ?_) | (refine Le.loopC (fun _ => ?_)) | (refine Le.elim (fun _ => ?_) (fun _ => ?_)))
def Ka2 (fu : Nat) (a0 : Kv) (a1 : ByteArray) (a2 : Int) (a3 : List Int) : Option ((Int × Int) ⊕ (Int)) :=
 ((Kc9 fu a0 a1).bind fun x2 => (Option.bind (α := Int) (bif (x2 == (0 : Int)) then ((Kcf fu a0 a1).bind fun x7 => some x7) else some x2) fun y5 => ((KfW fu y5 a2 a3).bind fun x8 => Sum.elim (fun pe8 => some (.inl pe8)) (fun z8 => some (.inr z8)) x8)))
theorem Kd4 (fu : Nat)   (a0 : Kv) (a1 : ByteArray) (a2 : Int) (a3 : List Int) : Le (Ka2 fu  a0 a1 a2 a3) (KaG  a0 a1 a2 a3) := by
 unfold Ka2 KaG
 repeat (first | exact Le.refl _ | assumption | exact KfC fu _ _ | exact Kdx fu _ _ | exact Kiw fu _ _ _ | (refine Le.bind ?_ (fun _ => ?_)) | (refine Le.cond ?_ ?_) | (refine Le.loopC (fun _ => ?_)) | (refine Le.elim (fun _ => ?_) (fun _ => ?_)))
def KcK (fu : Nat) (a0 : Kv) (a1 : Kh) (a2 : Int) : Option ((Int × Int) ⊕ (Int)) :=
 ((Kcf fu a0 a1.gName).bind fun x3 => ((Kc9 fu a0 a1.gName).bind fun x4 => (Option.bind (α := Int) (bif (x4 != (0 : Int)) then some (2 : Int) else some x3) fun y6 => ((KfW fu y6 a1.gAt ([a2] : List Int)).bind fun x8 => Sum.elim (fun pe8 => some (.inl pe8)) (fun z8 => some (.inr (2 : Int))) x8))))
theorem KhB (fu : Nat)   (a0 : Kv) (a1 : Kh) (a2 : Int) : Le (KcK fu  a0 a1 a2) (Kbg  a0 a1 a2) := by
 unfold KcK Kbg
 repeat (first | exact Le.refl _ | assumption | exact Kdx fu _ _ | exact KfC fu _ _ | exact Kiw fu _ _ _ | (refine Le.bind ?_ (fun _ => ?_)) | (refine Le.cond ?_ ?_) | (refine Le.loopC (fun _ => ?_)) | (refine Le.elim (fun _ => ?_) (fun _ => ?_)))
def Kep (fu : Nat) (a0 : Kv) : Option ((Int × Int) ⊕ (Unit)) :=
 (Option.bind (α := (List (ByteArray × Int)) ⊕ ((Int × Int) ⊕ (Unit))) (loopC fu (fun (s374 : Int × List (ByteArray × Int)) => (bif (decide (s374.1 < (2 : Int))) then ((idx ([a0.gF.gParams, a0.gF.gLocals] : List (List K8)) s374.1).bind fun x652 => (Option.bind (α := (List (ByteArray × Int)) ⊕ ((Int × Int) ⊕ (Unit))) (loopC fu (fun (s698 : Int × List (ByteArray × Int)) => (bif (decide (s698.1 < (x652.length : Int))) then ((idx x652 s698.1).bind fun x733 => (Option.bind (α := Bool) (bif (decide ((1 : Int) < (mgetD (mput s698.2 x733.gName (IntKind.i64.wrap ((mgetD s698.2 x733.gName (0 : Int)) + (1 : Int)))) x733.gName (0 : Int)))) then some true else ((Kcf fu a0 x733.gName).bind fun x739 => some (x739 != (0 : Int)))) fun y737 => (bif y737 then ((Kaz a0.gF.gAt (8 : Int)).bind fun x741 => Sum.elim (fun pe741 => some (.done (.inr (.inl pe741)))) (fun z741 => some (.next ((IntKind.i64.wrap (s698.1 + (1 : Int))), (mput s698.2 x733.gName (IntKind.i64.wrap ((mgetD s698.2 x733.gName (0 : Int)) + (1 : Int))))))) x741) else some (.next ((IntKind.i64.wrap (s698.1 + (1 : Int))), (mput s698.2 x733.gName (IntKind.i64.wrap ((mgetD s698.2 x733.gName (0 : Int)) + (1 : Int))))))))) else some (.done (.inl s698.2)))) ((0 : Int), s374.2)) (Sum.elim (fun y697 => some (.next ((IntKind.i64.wrap (s374.1 + (1 : Int))), y697))) (fun r => some (.done (.inr r)))))) else some (.done (.inl s374.2)))) ((0 : Int), ([] : List (ByteArray × Int)))) (Sum.elim (fun y373 => some (.inr ())) (fun r => some r)))
theorem Kix (fu : Nat)   (a0 : Kv) : Le (Kep fu  a0) (Kbi  a0) := by
 unfold Kep Kbi
 repeat (first | exact Le.refl _ | assumption | exact Kdx fu _ _ | (refine Le.bind ?_ (fun _ => ?_)) | (refine Le.cond ?_ ?_) | (refine Le.loopC (fun _ => ?_)) | (refine Le.elim (fun _ => ?_) (fun _ => ?_)))
def Khl (fu : Nat) (a0 : Ki) : Option (Int) :=
 (Option.bind (α := Bool) (bif (a0.gOp == (1 : Int)) then some (a0.gOp == (1 : Int)) else (Option.bind (α := Bool) (bif (a0.gOp == (3 : Int)) then some (a0.gOp == (3 : Int)) else (Option.bind (α := Bool) (bif (a0.gOp == (6 : Int)) then some (a0.gOp == (6 : Int)) else (Option.bind (α := Bool) (bif (a0.gOp == (7 : Int)) then some (a0.gOp == (7 : Int)) else (Option.bind (α := Bool) (bif (a0.gOp == (8 : Int)) then some (a0.gOp == (8 : Int)) else some (a0.gOp == (9 : Int))) fun y25 => some y25)) fun y22 => some y22)) fun y18 => some y18)) fun y13 => some y13)) fun y7 => (bif y7 then some (1 : Int) else (bif (a0.gOp == (2 : Int)) then some (2 : Int) else (bif (a0.gOp == (4 : Int)) then some (a0.gExps.length : Int) else (bif (a0.gOp == (5 : Int)) then some (0 : Int) else some (-1 : Int))))))
theorem Klf (fu : Nat)   (a0 : Ki) : Le (Khl fu  a0) (KdZ  a0) := by
 unfold Khl KdZ
 repeat (first | exact Le.refl _ | assumption | (refine Le.bind ?_ (fun _ => ?_)) | (refine Le.cond ?_ ?_) | (refine Le.loopC (fun _ => ?_)) | (refine Le.elim (fun _ => ?_) (fun _ => ?_)))
def Khm (fu : Nat) (a0 : Int) : Option (Int) :=
 (Option.bind (α := (Unit) ⊕ (Int)) (Option.bind (α := Bool) (bif (a0 == (1 : Int)) then some (a0 == (1 : Int)) else (Option.bind (α := Bool) (bif (a0 == (2 : Int)) then some (a0 == (2 : Int)) else (Option.bind (α := Bool) (bif (a0 == (4 : Int)) then some (a0 == (4 : Int)) else (Option.bind (α := Bool) (bif (a0 == (18 : Int)) then some (a0 == (18 : Int)) else some (a0 == (19 : Int))) fun y44 => some y44)) fun y41 => some y41)) fun y37 => some y37)) fun y32 => (Option.bind (α := (Unit) ⊕ (Int)) (bif y32 then some (.inr (0 : Int)) else (Option.bind (α := Bool) (bif (a0 == (3 : Int)) then some (a0 == (3 : Int)) else (Option.bind (α := Bool) (bif (a0 == (20 : Int)) then some (a0 == (20 : Int)) else (Option.bind (α := Bool) (bif (a0 == (5 : Int)) then some (a0 == (5 : Int)) else some (a0 == (6 : Int))) fun y67 => some y67)) fun y64 => some y64)) fun y60 => (bif y60 then some (.inr (1 : Int)) else some (.inl ())))) (Sum.elim (fun y54 => some (.inl ())) (fun r => some (.inr r))))) (Sum.elim (fun y27 => (bif (decide ((7 : Int) ≤ a0)) then (bif (decide (a0 ≤ (17 : Int))) then some (2 : Int) else some (-1 : Int)) else some (-1 : Int))) (fun r => some r)))
theorem Klg (fu : Nat)   (a0 : Int) : Le (Khm fu  a0) (Kd0  a0) := by
 unfold Khm Kd0
 repeat (first | exact Le.refl _ | assumption | (refine Le.bind ?_ (fun _ => ?_)) | (refine Le.cond ?_ ?_) | (refine Le.loopC (fun _ => ?_)) | (refine Le.elim (fun _ => ?_) (fun _ => ?_)))
def Kd5 (fu : Nat) (g0 : (Kv) → (List Kh) → Option ((Int × Int) ⊕ (List Int))) (g1 : (Kv) → (Kh) → Option ((Int × Int) ⊕ (Int))) (a0 : Kv) (a1 : List Kh) : Option ((Int × Int) ⊕ (List Int)) :=
 (Option.bind (α := (List Int) ⊕ ((Int × Int) ⊕ (List Int))) (loopC fu (fun (s23 : List Int × Int) => (bif (decide (s23.2 < (a1.length : Int))) then ((idx a1 s23.2).bind fun x38 => ((g1 a0 x38).bind fun x40 => Sum.elim (fun pe40 => some (.done (.inr (.inl pe40)))) (fun z40 => ((app 8 s23.1 ([z40] : List Int)).bind fun x42 => some (.next (x42, (IntKind.i64.wrap (s23.2 + (1 : Int))))))) x40)) else some (.done (.inl s23.1)))) (([] : List Int), (0 : Int))) (Sum.elim (fun y22 => some (.inr y22)) (fun r => some r)))
theorem Kh8 (fu : Nat) (g0 g0' : (Kv) → (List Kh) → Option ((Int × Int) ⊕ (List Int))) (g1 g1' : (Kv) → (Kh) → Option ((Int × Int) ⊕ (Int))) (hg0 : ∀ x0 x1, Le (g0 x0 x1) (g0' x0 x1)) (hg1 : ∀ x0 x1, Le (g1 x0 x1) (g1' x0 x1)) (a0 : Kv) (a1 : List Kh) : Le (Kd5 fu g0 g1 a0 a1) (KaX g0' g1' a0 a1) := by
 unfold Kd5 KaX
 repeat (first | exact Le.refl _ | assumption | exact hg0 _ _ | exact hg1 _ _ | (refine Le.bind ?_ (fun _ => ?_)) | (refine Le.cond ?_ ?_) | (refine Le.loopC (fun _ => ?_)) | (refine Le.elim (fun _ => ?_) (fun _ => ?_)))
def Kd6 (fu : Nat) (g0 : (Kv) → (List Kh) → Option ((Int × Int) ⊕ (List Int))) (g1 : (Kv) → (Kh) → Option ((Int × Int) ⊕ (Int))) (a0 : Kv) (a1 : Kh) : Option ((Int × Int) ⊕ (Int)) :=
 ((Khm fu a1.gOp).bind fun x3 => (Option.bind (α := Bool) (bif (decide (x3 < (0 : Int))) then some true else some ((a1.gKids.length : Int) != x3)) fun y5 => (Option.bind (α := (Unit) ⊕ ((Int × Int) ⊕ (Int))) (bif y5 then ((Kaz a1.gAt (2 : Int)).bind fun x11 => Sum.elim (fun pe11 => some (.inr (.inl pe11))) (fun z11 => some (.inl ())) x11) else some (.inl ())) (Sum.elim (fun y9 => ((g0 a0 a1.gKids).bind fun x14 => Sum.elim (fun pe14 => some (.inl pe14)) (fun z14 => (Option.bind (α := Bool) (bif (a1.gOp == (14 : Int)) then some true else some (a1.gOp == (15 : Int))) fun y17 => (bif y17 then ((idx z14 (0 : Int)).bind fun x26 => ((idx z14 (1 : Int)).bind fun x27 => (Option.bind (α := (Unit) ⊕ ((Int × Int) ⊕ (Int))) (bif (x26 != x27) then ((idx a1.gKids (1 : Int)).bind fun x33 => ((Kaz x33.gAt (9 : Int)).bind fun x34 => Sum.elim (fun pe34 => some (.inr (.inl pe34))) (fun z34 => some (.inl ())) x34)) else some (.inl ())) (Sum.elim (fun y31 => some (.inr (1 : Int))) (fun r => some r))))) else (Option.bind (α := (Unit) ⊕ ((Int × Int) ⊕ (Int))) (loopC fu (fun (s57 : Int) => (bif (decide (s57 < (a1.gKids.length : Int))) then ((idx a1.gKids s57).bind fun x71 => ((idx z14 s57).bind fun x73 => ((Kce fu x71 x73).bind fun x74 => Sum.elim (fun pe74 => some (.done (.inr (.inl pe74)))) (fun z74 => some (.next (IntKind.i64.wrap (s57 + (1 : Int))))) x74))) else some (.done (.inl ())))) (0 : Int)) (Sum.elim (fun y56 => (bif (a1.gOp == (2 : Int)) then ((Ka2 fu a0 a1.gName a1.gAt ([(1 : Int), (2 : Int)] : List Int)).bind fun x77 => Sum.elim (fun pe77 => some (.inl pe77)) (fun z77 => some (.inr z77)) x77) else (bif (a1.gOp == (3 : Int)) then ((Ka2 fu a0 a1.gName a1.gAt ([(3 : Int)] : List Int)).bind fun x81 => Sum.elim (fun pe81 => some (.inl pe81)) (fun z81 => some (.inr (1 : Int))) x81) else (bif (a1.gOp == (4 : Int)) then ((Ka2 fu a0 a1.gName a1.gAt ([(2 : Int)] : List Int)).bind fun x85 => Sum.elim (fun pe85 => some (.inl pe85)) (fun z85 => some (.inr (1 : Int))) x85) else (bif (a1.gOp == (18 : Int)) then some (.inr (2 : Int)) else (bif (a1.gOp == (19 : Int)) then ((KcK fu a0 a1 (1 : Int)).bind fun x91 => Sum.elim (fun pe91 => some (.inl pe91)) (fun z91 => some (.inr z91)) x91) else (bif (a1.gOp == (20 : Int)) then ((KcK fu a0 a1 (3 : Int)).bind fun x95 => Sum.elim (fun pe95 => some (.inl pe95)) (fun z95 => some (.inr z95)) x95) else some (.inr (1 : Int))))))))) (fun r => some r)))))) x14)) (fun r => some r)))))
theorem Kh9 (fu : Nat) (g0 g0' : (Kv) → (List Kh) → Option ((Int × Int) ⊕ (List Int))) (g1 g1' : (Kv) → (Kh) → Option ((Int × Int) ⊕ (Int))) (hg0 : ∀ x0 x1, Le (g0 x0 x1) (g0' x0 x1)) (hg1 : ∀ x0 x1, Le (g1 x0 x1) (g1' x0 x1)) (a0 : Kv) (a1 : Kh) : Le (Kd6 fu g0 g1 a0 a1) (KaY g0' g1' a0 a1) := by
 unfold Kd6 KaY
 repeat (first | exact Le.refl _ | assumption | exact hg0 _ _ | exact hg1 _ _ | exact Klg fu _ | exact KgG fu _ _ | exact Kd4 fu _ _ _ _ | exact KhB fu _ _ _ | (refine Le.bind ?_ (fun _ => ?_)) | (refine Le.cond ?_ ?_) | (refine Le.loopC (fun _ => ?_)) | (refine Le.elim (fun _ => ?_) (fun _ => ?_)))
def Kbs (fu : Nat) : Nat → ((Kv) → (List Kh) → Option ((Int × Int) ⊕ (List Int))) × ((Kv) → (Kh) → Option ((Int × Int) ⊕ (Int)))
 | 0 => (fun _ _ => none, fun _ _ => none)
 | n + 1 => (Kd5 fu ((Kbs fu n).1) ((Kbs fu n).2), Kd6 fu ((Kbs fu n).1) ((Kbs fu n).2))
theorem Kfc (fu : Nat) : ∀ n, (∀ (a0 : Kv) (a1 : List Kh), Le ((Kbs fu n).1 a0 a1) ((K2 n).1 a0 a1)) ∧ (∀ (a0 : Kv) (a1 : Kh), Le ((Kbs fu n).2 a0 a1) ((K2 n).2 a0 a1))
  | 0 => ⟨fun _ _ => Le.none _, fun _ _ => Le.none _⟩
  | n + 1 => by
    have ih := Kfc fu n
    exact ⟨fun a0 a1 => Kh8 fu _ _ _ _ ih.1 ih.2 a0 a1, fun a0 a1 => Kh9 fu _ _ _ _ ih.1 ih.2 a0 a1⟩
def Kgv (fu : Nat) (a0 : Kv) (a1 : List Kh) : Option ((Int × Int) ⊕ (List Int)) := (Kbs fu fu).1 a0 a1
theorem Kjc (fu : Nat) (a0 : Kv) (a1 : List Kh) : Le (Kgv fu a0 a1) (Kc3 a0 a1) := fun r h => Kf5 a0 a1 fu (((Kfc fu fu).1 a0 a1) r h)
def KeK (fu : Nat) (a0 : Kv) (a1 : Ki) (a2 : List Int) : Option ((Int × Int) ⊕ (Unit)) :=
 (Option.bind (α := (Unit) ⊕ ((Int × Int) ⊕ (Unit))) (loopC fu (fun (s208 : Int) => (bif (decide (s208 < (a0.gP.gFuncs.length : Int))) then ((idx a0.gP.gFuncs s208).bind fun x344 => (bif (!decide (x344.gName = a1.gFunc)) then some (.next (IntKind.i64.wrap (s208 + (1 : Int)))) else (Option.bind (α := (Unit) ⊕ ((Int × Int) ⊕ (Unit))) (bif ((x344.gParams.length : Int) != (a2.length : Int)) then ((Kaz a1.gAt (2 : Int)).bind fun x351 => Sum.elim (fun pe351 => some (.inr (.inl pe351))) (fun z351 => some (.inl ())) x351) else some (.inl ())) (Sum.elim (fun y349 => (Option.bind (α := (Unit) ⊕ ((Int × Int) ⊕ (Unit))) (loopC fu (fun (s381 : Int) => (bif (decide (s381 < (x344.gParams.length : Int))) then ((idx x344.gParams s381).bind fun x401 => ((KdI fu x401.gPtr).bind fun x403 => ((idx a2 s381).bind fun x404 => (bif (x403 != x404) then ((idx a1.gExps s381).bind fun x406 => ((Kaz x406.gAt (9 : Int)).bind fun x407 => Sum.elim (fun pe407 => some (.done (.inr (.inl pe407)))) (fun z407 => some (.next (IntKind.i64.wrap (s381 + (1 : Int))))) x407)) else some (.next (IntKind.i64.wrap (s381 + (1 : Int)))))))) else some (.done (.inl ())))) (0 : Int)) (Sum.elim (fun y380 => (bif (!decide (a1.gName = (ByteArray.mk #[]))) then ((Ka2 fu a0 a1.gName a1.gAt ([(1 : Int)] : List Int)).bind fun x410 => Sum.elim (fun pe410 => some (.done (.inr (.inl pe410)))) (fun z410 => some (.done (.inr (.inr ())))) x410) else some (.done (.inr (.inr ()))))) (fun r => some (.done (.inr r)))))) (fun r => some (.done (.inr r))))))) else some (.done (.inl ())))) (0 : Int)) (Sum.elim (fun y207 => ((Kaz a1.gAt (7 : Int)).bind fun x414 => Sum.elim (fun pe414 => some (.inl pe414)) (fun z414 => some (.inr ())) x414)) (fun r => some r)))
theorem Kjd (fu : Nat)   (a0 : Kv) (a1 : Ki) (a2 : List Int) : Le (KeK fu  a0 a1 a2) (Kb3  a0 a1 a2) := by
 unfold KeK Kb3
 repeat (first | exact Le.refl _ | assumption | exact Kfs fu _ | exact Kd4 fu _ _ _ _ | (refine Le.bind ?_ (fun _ => ?_)) | (refine Le.cond ?_ ?_) | (refine Le.loopC (fun _ => ?_)) | (refine Le.elim (fun _ => ?_) (fun _ => ?_)))
def KdJ (fu : Nat) (g0 : (Kv) → (List Ki) → Option ((Int × Int) ⊕ (Unit))) (g1 : (Kv) → (Ki) → Option ((Int × Int) ⊕ (Unit))) (a0 : Kv) (a1 : List Ki) : Option ((Int × Int) ⊕ (Unit)) :=
 (Option.bind (α := (Unit) ⊕ ((Int × Int) ⊕ (Unit))) (loopC fu (fun (s19 : Int) => (bif (decide (s19 < (a1.length : Int))) then ((idx a1 s19).bind fun x31 => ((g1 a0 x31).bind fun x33 => Sum.elim (fun pe33 => some (.done (.inr (.inl pe33)))) (fun z33 => some (.next (IntKind.i64.wrap (s19 + (1 : Int))))) x33)) else some (.done (.inl ())))) (0 : Int)) (Sum.elim (fun y18 => some (.inr ())) (fun r => some r)))
theorem KhC (fu : Nat) (g0 g0' : (Kv) → (List Ki) → Option ((Int × Int) ⊕ (Unit))) (g1 g1' : (Kv) → (Ki) → Option ((Int × Int) ⊕ (Unit))) (hg0 : ∀ x0 x1, Le (g0 x0 x1) (g0' x0 x1)) (hg1 : ∀ x0 x1, Le (g1 x0 x1) (g1' x0 x1)) (a0 : Kv) (a1 : List Ki) : Le (KdJ fu g0 g1 a0 a1) (KaS g0' g1' a0 a1) := by
 unfold KdJ KaS
 repeat (first | exact Le.refl _ | assumption | exact hg0 _ _ | exact hg1 _ _ | (refine Le.bind ?_ (fun _ => ?_)) | (refine Le.cond ?_ ?_) | (refine Le.loopC (fun _ => ?_)) | (refine Le.elim (fun _ => ?_) (fun _ => ?_)))
def Kd7 (fu : Nat) (g0 : (Kv) → (List Ki) → Option ((Int × Int) ⊕ (Unit))) (g1 : (Kv) → (Ki) → Option ((Int × Int) ⊕ (Unit))) (a0 : Kv) (a1 : Ki) : Option ((Int × Int) ⊕ (Unit)) :=
 ((Khl fu a1).bind fun x3 => (Option.bind (α := Bool) (bif (decide (x3 < (0 : Int))) then some true else some ((a1.gExps.length : Int) != x3)) fun y5 => (Option.bind (α := (Unit) ⊕ ((Int × Int) ⊕ (Unit))) (bif y5 then ((Kaz a1.gAt (2 : Int)).bind fun x11 => Sum.elim (fun pe11 => some (.inr (.inl pe11))) (fun z11 => some (.inl ())) x11) else some (.inl ())) (Sum.elim (fun y9 => ((Kgv fu a0 a1.gExps).bind fun x14 => Sum.elim (fun pe14 => some (.inl pe14)) (fun z14 => (Option.bind (α := (Unit) ⊕ ((Int × Int) ⊕ (Unit))) (Option.bind (α := (Unit) ⊕ ((Int × Int) ⊕ (Unit))) (bif (a1.gOp == (1 : Int)) then ((idx z14 (0 : Int)).bind fun x69 => ((Ka2 fu a0 a1.gName a1.gAt ([(1 : Int), (2 : Int)] : List Int)).bind fun x70 => Sum.elim (fun pe70 => some (.inr (.inl pe70))) (fun z70 => (Option.bind (α := (Unit) ⊕ ((Int × Int) ⊕ (Unit))) (bif (z70 != x69) then ((Kaz a1.gAt (9 : Int)).bind fun x76 => Sum.elim (fun pe76 => some (.inr (.inl pe76))) (fun z76 => some (.inl ())) x76) else some (.inl ())) (Sum.elim (fun y74 => some (.inl ())) (fun r => some (.inr r))))) x70)) else (Option.bind (α := (Unit) ⊕ ((Int × Int) ⊕ (Unit))) (bif (a1.gOp == (2 : Int)) then ((idx a1.gExps (0 : Int)).bind fun x100 => ((idx z14 (0 : Int)).bind fun x101 => ((Kce fu x100 x101).bind fun x102 => Sum.elim (fun pe102 => some (.inr (.inl pe102))) (fun z102 => ((idx a1.gExps (1 : Int)).bind fun x104 => ((idx z14 (1 : Int)).bind fun x105 => ((Kce fu x104 x105).bind fun x106 => Sum.elim (fun pe106 => some (.inr (.inl pe106))) (fun z106 => ((Ka2 fu a0 a1.gName a1.gAt ([(3 : Int)] : List Int)).bind fun x108 => Sum.elim (fun pe108 => some (.inr (.inl pe108))) (fun z108 => some (.inl ())) x108)) x106)))) x102))) else (Option.bind (α := (Unit) ⊕ ((Int × Int) ⊕ (Unit))) (bif (a1.gOp == (3 : Int)) then ((idx a1.gExps (0 : Int)).bind fun x124 => ((idx z14 (0 : Int)).bind fun x125 => ((Kce fu x124 x125).bind fun x126 => Sum.elim (fun pe126 => some (.inr (.inl pe126))) (fun z126 => ((Ka2 fu a0 a1.gName a1.gAt ([(2 : Int)] : List Int)).bind fun x128 => Sum.elim (fun pe128 => some (.inr (.inl pe128))) (fun z128 => some (.inl ())) x128)) x126))) else (Option.bind (α := (Unit) ⊕ ((Int × Int) ⊕ (Unit))) (bif (a1.gOp == (4 : Int)) then ((KeK fu a0 a1 z14).bind fun x139 => Sum.elim (fun pe139 => some (.inr (.inl pe139))) (fun z139 => some (.inl ())) x139) else (Option.bind (α := (Unit) ⊕ ((Int × Int) ⊕ (Unit))) (bif (a1.gOp == (5 : Int)) then ((Ka2 fu a0 a1.gName a1.gAt ([(1 : Int)] : List Int)).bind fun x148 => Sum.elim (fun pe148 => some (.inr (.inl pe148))) (fun z148 => some (.inl ())) x148) else ((idx a1.gExps (0 : Int)).bind fun x150 => ((idx z14 (0 : Int)).bind fun x151 => ((Kce fu x150 x151).bind fun x152 => Sum.elim (fun pe152 => some (.inr (.inl pe152))) (fun z152 => some (.inl ())) x152)))) (Sum.elim (fun y146 => some (.inl ())) (fun r => some (.inr r))))) (Sum.elim (fun y137 => some (.inl ())) (fun r => some (.inr r))))) (Sum.elim (fun y122 => some (.inl ())) (fun r => some (.inr r))))) (Sum.elim (fun y98 => some (.inl ())) (fun r => some (.inr r))))) (Sum.elim (fun y67 => some (.inl ())) (fun r => some (.inr r)))) (Sum.elim (fun y41 => ((g0 a0 a1.gKids).bind fun x154 => Sum.elim (fun pe154 => some (.inl pe154)) (fun z154 => ((g0 a0 a1.gElse).bind fun x156 => Sum.elim (fun pe156 => some (.inl pe156)) (fun z156 => some (.inr ())) x156)) x154)) (fun r => some r)))) x14)) (fun r => some r)))))
theorem Kia (fu : Nat) (g0 g0' : (Kv) → (List Ki) → Option ((Int × Int) ⊕ (Unit))) (g1 g1' : (Kv) → (Ki) → Option ((Int × Int) ⊕ (Unit))) (hg0 : ∀ x0 x1, Le (g0 x0 x1) (g0' x0 x1)) (hg1 : ∀ x0 x1, Le (g1 x0 x1) (g1' x0 x1)) (a0 : Kv) (a1 : Ki) : Le (Kd7 fu g0 g1 a0 a1) (KaZ g0' g1' a0 a1) := by
 unfold Kd7 KaZ
 repeat (first | exact Le.refl _ | assumption | exact hg0 _ _ | exact hg1 _ _ | exact Klf fu _ | exact Kjc fu _ _ | exact Kd4 fu _ _ _ _ | exact KgG fu _ _ | exact Kjd fu _ _ _ | (refine Le.bind ?_ (fun _ => ?_)) | (refine Le.cond ?_ ?_) | (refine Le.loopC (fun _ => ?_)) | (refine Le.elim (fun _ => ?_) (fun _ => ?_)))
def Kbl (fu : Nat) : Nat → ((Kv) → (List Ki) → Option ((Int × Int) ⊕ (Unit))) × ((Kv) → (Ki) → Option ((Int × Int) ⊕ (Unit)))
 | 0 => (fun _ _ => none, fun _ _ => none)
 | n + 1 => (KdJ fu ((Kbl fu n).1) ((Kbl fu n).2), Kd7 fu ((Kbl fu n).1) ((Kbl fu n).2))
theorem KeX (fu : Nat) : ∀ n, (∀ (a0 : Kv) (a1 : List Ki), Le ((Kbl fu n).1 a0 a1) ((KV n).1 a0 a1)) ∧ (∀ (a0 : Kv) (a1 : Ki), Le ((Kbl fu n).2 a0 a1) ((KV n).2 a0 a1))
  | 0 => ⟨fun _ _ => Le.none _, fun _ _ => Le.none _⟩
  | n + 1 => by
    have ih := KeX fu n
    exact ⟨fun a0 a1 => KhC fu _ _ _ _ ih.1 ih.2 a0 a1, fun a0 a1 => Kia fu _ _ _ _ ih.1 ih.2 a0 a1⟩
def Kf8 (fu : Nat) (a0 : Kv) (a1 : List Ki) : Option ((Int × Int) ⊕ (Unit)) := (Kbl fu fu).1 a0 a1
theorem Kiy (fu : Nat) (a0 : Kv) (a1 : List Ki) : Le (Kf8 fu a0 a1) (KcN a0 a1) := fun r h => KfQ a0 a1 fu (((KeX fu fu).1 a0 a1) r h)
def KgE (fu : Nat) (a0 : Kl) : Option (Int) :=
 (Option.bind (α := (List (ByteArray × Int)) ⊕ (Int)) (loopC fu (fun (s25 : Int × List (ByteArray × Int)) => (bif (decide (s25.1 < (a0.gGlobals.length : Int))) then ((idx a0.gGlobals s25.1).bind fun x42 => (bif (decide ((1 : Int) < (mgetD (mput s25.2 x42.gName (IntKind.i64.wrap ((mgetD s25.2 x42.gName (0 : Int)) + (1 : Int)))) x42.gName (0 : Int)))) then some (.done (.inr s25.1)) else some (.next ((IntKind.i64.wrap (s25.1 + (1 : Int))), (mput s25.2 x42.gName (IntKind.i64.wrap ((mgetD s25.2 x42.gName (0 : Int)) + (1 : Int)))))))) else some (.done (.inl s25.2)))) ((0 : Int), ([] : List (ByteArray × Int)))) (Sum.elim (fun y24 => (Option.bind (α := (List (ByteArray × Int)) ⊕ (Int)) (loopC fu (fun (s68 : Int × List (ByteArray × Int)) => (bif (decide (s68.1 < (a0.gFuncs.length : Int))) then ((idx a0.gFuncs s68.1).bind fun x85 => (bif (decide ((1 : Int) < (mgetD (mput s68.2 x85.gName (IntKind.i64.wrap ((mgetD s68.2 x85.gName (0 : Int)) + (1 : Int)))) x85.gName (0 : Int)))) then some (.done (.inr (IntKind.i64.wrap ((a0.gGlobals.length : Int) + s68.1)))) else some (.next ((IntKind.i64.wrap (s68.1 + (1 : Int))), (mput s68.2 x85.gName (IntKind.i64.wrap ((mgetD s68.2 x85.gName (0 : Int)) + (1 : Int)))))))) else some (.done (.inl s68.2)))) ((0 : Int), y24)) (Sum.elim (fun y67 => some (-1 : Int)) (fun r => some r)))) (fun r => some r)))
theorem Kk3 (fu : Nat)   (a0 : Kl) : Le (KgE fu  a0) (KcX  a0) := by
 unfold KgE KcX
 repeat (first | exact Le.refl _ | assumption | (refine Le.bind ?_ (fun _ => ?_)) | (refine Le.cond ?_ ?_) | (refine Le.loopC (fun _ => ?_)) | (refine Le.elim (fun _ => ?_) (fun _ => ?_)))
def Kky (fu : Nat) (p : Kl) (f : Km) : Option ((Int × Int) ⊕ Unit) :=
 (Kep fu ⟨p, f⟩).bind (Sum.elim (fun pe => some (.inl pe)) fun _ => Kf8 fu ⟨p, f⟩ f.gBody)
theorem checkP_cle (fu : Nat)   (p : Kl) (f : Km) : Le (Kky fu  p f) (Kha  p f) := by
 unfold Kky Kha
 repeat (first | exact Le.refl _ | assumption | exact Kix fu _ | exact Kiy fu _ _ | (refine Le.bind ?_ (fun _ => ?_)) | (refine Le.cond ?_ ?_) | (refine Le.loopC (fun _ => ?_)) | (refine Le.elim (fun _ => ?_) (fun _ => ?_)))
def Kkz (fu : Nat) (p : Kl) (f : Km) : Option (Int × Int) :=
 (Kky fu p f).bind fun pr => some (wr pr)
theorem checkF_cle (fu : Nat)   (p : Kl) (f : Km) : Le (Kkz fu  p f) (Khb  p f) := by
 unfold Kkz Khb
 repeat (first | exact Le.refl _ | assumption | exact checkP_cle fu _ _ | (refine Le.bind ?_ (fun _ => ?_)) | (refine Le.cond ?_ ?_) | (refine Le.loopC (fun _ => ?_)) | (refine Le.elim (fun _ => ?_) (fun _ => ?_)))
def KfX (fu : Nat) (a0 : Kl) : Option (Int × Int × Int) :=
 (Option.bind (α := Bool) (bif (decide ((24 : Int) < (a0.gGlobals.length : Int))) then some true else some (decide ((24 : Int) < (a0.gFuncs.length : Int)))) fun y3 => (bif y3 then some ((0 : Int), (0 : Int), (6 : Int)) else ((KgE fu a0).bind fun x8 => (bif (decide ((0 : Int) ≤ x8)) then some (x8, (0 : Int), (8 : Int)) else (Option.bind (α := (Unit) ⊕ (Int × Int × Int)) (loopC fu (fun (s32 : Int) => (bif (decide (s32 < (a0.gFuncs.length : Int))) then ((idx a0.gFuncs s32).bind fun x46 => ((Kkz fu a0 x46).bind fun x48 => (bif (x48.2 != (0 : Int)) then some (.done (.inr ((IntKind.i64.wrap ((a0.gGlobals.length : Int) + s32)), x48.1, x48.2))) else some (.next (IntKind.i64.wrap (s32 + (1 : Int))))))) else some (.done (.inl ())))) (0 : Int)) (Sum.elim (fun y31 => some ((0 : Int), (0 : Int), (0 : Int))) (fun r => some r)))))))
theorem Kj1 (fu : Nat)   (a0 : Kl) : Le (KfX fu  a0) (KbZ  a0) := by
 unfold KfX KbZ
 repeat (first | exact Le.refl _ | assumption | exact Kk3 fu _ | exact checkF_cle fu _ _ | (refine Le.bind ?_ (fun _ => ?_)) | (refine Le.cond ?_ ?_) | (refine Le.loopC (fun _ => ?_)) | (refine Le.elim (fun _ => ?_) (fun _ => ?_)))
def KfY (fu : Nat) (a0 : Int) : Option (Int) :=
 (Option.bind (α := Bool) (bif (a0 == (32 : Int)) then some true else (bif (a0 == (9 : Int)) then some true else (bif (a0 == (10 : Int)) then some true else some (a0 == (13 : Int))))) fun y4 => (bif y4 then some (1 : Int) else (Option.bind (α := Bool) (bif (decide ((97 : Int) ≤ a0)) then (bif (decide (a0 ≤ (122 : Int))) then some true else (bif (decide ((65 : Int) ≤ a0)) then (bif (decide (a0 ≤ (90 : Int))) then some true else some (a0 == (95 : Int))) else some (a0 == (95 : Int)))) else (bif (decide ((65 : Int) ≤ a0)) then (bif (decide (a0 ≤ (90 : Int))) then some true else some (a0 == (95 : Int))) else some (a0 == (95 : Int)))) fun y16 => (bif y16 then some (2 : Int) else (bif (decide ((48 : Int) ≤ a0)) then (bif (decide (a0 ≤ (57 : Int))) then some (3 : Int) else some (0 : Int)) else some (0 : Int))))))
theorem Kiz (fu : Nat)   (a0 : Int) : Le (KfY fu  a0) (KeV  a0) := by
 unfold KfY KeV
 repeat (first | exact Le.refl _ | assumption | (refine Le.bind ?_ (fun _ => ?_)) | (refine Le.cond ?_ ?_) | (refine Le.loopC (fun _ => ?_)) | (refine Le.elim (fun _ => ?_) (fun _ => ?_)))
def Kcq (fu : Nat) (m0 : K6) (a1 : Bool) : Option (Int) :=
 (Option.bind (α := Int) (loopC fu (fun (s24 : Int) => (bif (decide ((IntKind.i64.wrap (m0.gAt + s24)) < (m0.gB.length : Int))) then ((idx m0.gB (IntKind.i64.wrap (m0.gAt + s24))).bind fun x40 => ((KfY fu (IntKind.i32.wrap (x40.toNat : Int))).bind fun x41 => (bif (x41 != (3 : Int)) then (bif (x41 != (2 : Int)) then some (.done s24) else (bif (!a1) then some (.done s24) else some (.next (IntKind.i64.wrap (s24 + (1 : Int)))))) else some (.next (IntKind.i64.wrap (s24 + (1 : Int))))))) else none)) (0 : Int)) fun y23 => some y23)
theorem KfD (fu : Nat)   (m0 : K6) (a1 : Bool) : Le (Kcq fu  m0 a1) (KbO  m0 a1) := by
 unfold Kcq KbO
 repeat (first | exact Le.refl _ | assumption | exact Kiz fu _ | (refine Le.bind ?_ (fun _ => ?_)) | (refine Le.cond ?_ ?_) | (refine Le.loopC (fun _ => ?_)) | (refine Le.elim (fun _ => ?_) (fun _ => ?_)))
def Kcv (fu : Nat) (a0 : List ByteArray) (a1 : ByteArray) : Option (Int) :=
 (Option.bind (α := (Unit) ⊕ (Int)) (loopC fu (fun (s15 : Int) => (bif (decide (s15 < (a0.length : Int))) then ((idx a0 s15).bind fun x25 => (bif (decide (a1 = x25)) then some (.done (.inr s15)) else some (.next (IntKind.i64.wrap (s15 + (1 : Int)))))) else some (.done (.inl ())))) (0 : Int)) (Sum.elim (fun y14 => some (-1 : Int)) (fun r => some r)))
theorem KfZ (fu : Nat)   (a0 : List ByteArray) (a1 : ByteArray) : Le (Kcv fu  a0 a1) (Kbw  a0 a1) := by
 unfold Kcv Kbw
 repeat (first | exact Le.refl _ | assumption | (refine Le.bind ?_ (fun _ => ?_)) | (refine Le.cond ?_ ?_) | (refine Le.loopC (fun _ => ?_)) | (refine Le.elim (fun _ => ?_) (fun _ => ?_)))
def Kbx (fu : Nat) (a0 : List ByteArray) (a1 : ByteArray) : Option (Bool) :=
 ((Kcv fu a0 a1).bind fun x1 => some (decide ((0 : Int) ≤ x1)))
theorem Kc1 (fu : Nat)   (a0 : List ByteArray) (a1 : ByteArray) : Le (Kbx fu  a0 a1) (KaV  a0 a1) := by
 unfold Kbx KaV
 repeat (first | exact Le.refl _ | assumption | exact KfZ fu _ _ | (refine Le.bind ?_ (fun _ => ?_)) | (refine Le.cond ?_ ?_) | (refine Le.loopC (fun _ => ?_)) | (refine Le.elim (fun _ => ?_) (fun _ => ?_)))
def Khn (fu : Nat) (a0 : ByteArray) : Option (Bool) :=
 ((Kbx fu ([(ByteArray.mk #[105, 110, 116]), (ByteArray.mk #[105, 102]), (ByteArray.mk #[101, 108, 115, 101]), (ByteArray.mk #[119, 104, 105, 108, 101]), (ByteArray.mk #[114, 101, 116, 117, 114, 110]), (ByteArray.mk #[97, 115, 115, 101, 114, 116]), (ByteArray.mk #[105, 110, 112, 117, 116]), (ByteArray.mk #[110, 117, 108, 108])] : List ByteArray) a0).bind fun x1 => some x1)
theorem Klh (fu : Nat)   (a0 : ByteArray) : Le (Khn fu  a0) (KfS  a0) := by
 unfold Khn KfS
 repeat (first | exact Le.refl _ | assumption | exact Kc1 fu _ _ | (refine Le.bind ?_ (fun _ => ?_)) | (refine Le.cond ?_ ?_) | (refine Le.loopC (fun _ => ?_)) | (refine Le.elim (fun _ => ?_) (fun _ => ?_)))
def Kb8 (fu : Nat) (m0 : K6) (a1 : Int) (a2 : Int) (a3 : Int) : Option (Int × K6) :=
 (bif (decide ((4000 : Int) ≤ (m0.gL.length : Int))) then none else ((cutL m0.gB m0.gAt (IntKind.i64.wrap (m0.gAt + a2))).bind fun x3 => ((app 40 m0.gL ([(⟨a1, (ByteArray.mk x3.toArray), a3, m0.gAt⟩ : Kac)] : List Kac)).bind fun x4 => some ((0 : Int), (⟨m0.gB, (IntKind.i64.wrap (m0.gAt + a2)), x4⟩ : K6)))))
theorem Kd8 (fu : Nat)   (m0 : K6) (a1 : Int) (a2 : Int) (a3 : Int) : Le (Kb8 fu  m0 a1 a2 a3) (KbI  m0 a1 a2 a3) := by
 unfold Kb8 KbI
 repeat (first | exact Le.refl _ | assumption | (refine Le.bind ?_ (fun _ => ?_)) | (refine Le.cond ?_ ?_) | (refine Le.loopC (fun _ => ?_)) | (refine Le.elim (fun _ => ?_) (fun _ => ?_)))
def Keq (fu : Nat) (m0 : K6) : Option (Int × K6) :=
 ((Kcq fu m0 true).bind fun x1 => ((cutL m0.gB m0.gAt (IntKind.i64.wrap (m0.gAt + x1))).bind fun x2 => (bif (decide ((20 : Int) < x1)) then none else ((Khn fu (ByteArray.mk x2.toArray)).bind fun x14 => (bif x14 then ((Kb8 fu m0 (3 : Int) x1 (0 : Int)).bind fun x20 => some (x20.1, x20.2)) else ((Kb8 fu m0 (1 : Int) x1 (0 : Int)).bind fun x23 => some (x23.1, x23.2)))))))
theorem KiA (fu : Nat)   (m0 : K6) : Le (Keq fu  m0) (KcO  m0) := by
 unfold Keq KcO
 repeat (first | exact Le.refl _ | assumption | exact KfD fu _ _ | exact Klh fu _ | exact Kd8 fu _ _ _ _ | (refine Le.bind ?_ (fun _ => ?_)) | (refine Le.cond ?_ ?_) | (refine Le.loopC (fun _ => ?_)) | (refine Le.elim (fun _ => ?_) (fun _ => ?_)))
def KdK (fu : Nat) (m0 : K6) : Option (Int × K6) :=
 (bif (decide ((4000 : Int) ≤ (m0.gL.length : Int))) then none else ((Kcq fu m0 false).bind fun x3 => (Option.bind (α := Bool) ((Kcq fu m0 true).bind fun x9 => (bif (decide (x3 < x9)) then none else ((idx m0.gB m0.gAt).bind fun x11 => (bif ((x11.toNat : Int) == (48 : Int)) then some (decide ((1 : Int) < x3)) else some false)))) fun y8 => (bif y8 then none else ((cutL m0.gB m0.gAt (IntKind.i64.wrap (m0.gAt + x3))).bind fun x15 => (Option.bind (α := Int) (loopC fu (fun (s31 : Int × Int) => (bif (decide (s31.2 < (x15.length : Int))) then ((idx x15 s31.2).bind fun x41 => (bif (decide ((IntKind.u64.wrap ((IntKind.u64.wrap ((9223372036854775807 : Int) - (IntKind.u64.wrap (IntKind.u8.wrap ((x41.toNat : Int) - (48 : Int)))))).tdiv (10 : Int))) < s31.1)) then none else some (.next ((IntKind.u64.wrap ((IntKind.u64.wrap ((10 : Int) * s31.1)) + (IntKind.u64.wrap (IntKind.u8.wrap ((x41.toNat : Int) - (48 : Int)))))), (IntKind.i64.wrap (s31.2 + (1 : Int))))))) else some (.done s31.1))) ((0 : Int), (0 : Int))) fun y30 => ((Kb8 fu m0 (2 : Int) x3 (IntKind.i64.wrap y30)).bind fun x44 => some (x44.1, x44.2))))))))
theorem KhD (fu : Nat)   (m0 : K6) : Le (KdK fu  m0) (Kcm  m0) := by
 unfold KdK Kcm
 repeat (first | exact Le.refl _ | assumption | exact KfD fu _ _ | exact Kd8 fu _ _ _ _ | (refine Le.bind ?_ (fun _ => ?_)) | (refine Le.cond ?_ ?_) | (refine Le.loopC (fun _ => ?_)) | (refine Le.elim (fun _ => ?_) (fun _ => ?_)))
def Ker (fu : Nat) (m0 : K6) : Option (Int) :=
 ((cutL m0.gB m0.gAt ((m0.gB).length : Int)).bind fun x1 => (Option.bind (α := Bool) (bif (decide ((1 : Int) < (x1.length : Int))) then ((cutL x1 (0 : Int) (2 : Int)).bind fun x7 => ((Kbx fu ([(ByteArray.mk #[61, 61]), (ByteArray.mk #[33, 61]), (ByteArray.mk #[60, 61]), (ByteArray.mk #[38, 38]), (ByteArray.mk #[124, 124])] : List ByteArray) (ByteArray.mk x7.toArray)).bind fun x8 => some x8)) else some false) fun y5 => (bif y5 then none else ((idx x1 (0 : Int)).bind fun x11 => (bif (decide ((0 : Int) ≤ (indexB (ByteArray.mk #[40, 41, 123, 125, 91, 93, 59, 44, 61, 60, 43, 45, 42, 47, 37, 33, 38]) (x11.toNat : Int)))) then some (1 : Int) else none)))))
theorem KiB (fu : Nat)   (m0 : K6) : Le (Ker fu  m0) (KcP  m0) := by
 unfold Ker KcP
 repeat (first | exact Le.refl _ | assumption | exact Kc1 fu _ _ | (refine Le.bind ?_ (fun _ => ?_)) | (refine Le.cond ?_ ?_) | (refine Le.loopC (fun _ => ?_)) | (refine Le.elim (fun _ => ?_) (fun _ => ?_)))
def Kes (fu : Nat) (m0 : K6) : Option (Int × K6) :=
 ((idx m0.gB m0.gAt).bind fun x1 => ((KfY fu (IntKind.i32.wrap (x1.toNat : Int))).bind fun x2 => (bif (x2 == (1 : Int)) then some ((0 : Int), (⟨m0.gB, (IntKind.i64.wrap (m0.gAt + (1 : Int))), m0.gL⟩ : K6)) else (bif (x2 == (2 : Int)) then ((Keq fu m0).bind fun x27 => some (x27.1, x27.2)) else (bif (x2 == (3 : Int)) then ((KdK fu m0).bind fun x34 => some (x34.1, x34.2)) else ((Ker fu m0).bind fun x36 => (bif (x36 == (0 : Int)) then none else ((Kb8 fu m0 (3 : Int) x36 (0 : Int)).bind fun x40 => some (x40.1, x40.2)))))))))
theorem KiC (fu : Nat)   (m0 : K6) : Le (Kes fu  m0) (KcQ  m0) := by
 unfold Kes KcQ
 repeat (first | exact Le.refl _ | assumption | exact Kiz fu _ | exact KiA fu _ | exact KhD fu _ | exact KiB fu _ | exact Kd8 fu _ _ _ _ | (refine Le.bind ?_ (fun _ => ?_)) | (refine Le.cond ?_ ?_) | (refine Le.loopC (fun _ => ?_)) | (refine Le.elim (fun _ => ?_) (fun _ => ?_)))
def Kho (fu : Nat) (a0 : List UInt8) : Option (List Kac × Int × Int) :=
 (bif (decide ((20000 : Int) < (a0.length : Int))) then none else (Option.bind (α := List UInt8 × Int × List Kac) (loopC fu (fun (s23 : List UInt8 × Int × List Kac) => (bif (decide (s23.2.1 < (a0.length : Int))) then ((Kes fu (⟨s23.1, s23.2.1, s23.2.2⟩ : K6)).bind fun x38 => (bif (x38.1 != (0 : Int)) then none else some (.next (x38.2.gB, x38.2.gAt, x38.2.gL)))) else some (.done (s23.1, s23.2.1, s23.2.2)))) (a0, (0 : Int), ([] : List Kac))) fun y22 => ((app 40 y22.2.2 ([(⟨(0 : Int), ByteArray.empty, (0 : Int), (a0.length : Int)⟩ : Kac)] : List Kac)).bind fun x40 => some (x40, (0 : Int), (0 : Int)))))
theorem Kli (fu : Nat)   (a0 : List UInt8) : Le (Kho fu  a0) (KfT  a0) := by
 unfold Kho KfT
 repeat (first | exact Le.refl _ | assumption | exact KiC fu _ | (refine Le.bind ?_ (fun _ => ?_)) | (refine Le.cond ?_ ?_) | (refine Le.loopC (fun _ => ?_)) | (refine Le.elim (fun _ => ?_) (fun _ => ?_)))
def Kf0 (fu : Nat) (a0 : List Kac) (a1 : Int) : Option (Ku × Bool) :=
 (bif (decide ((0 : Int) ≤ a1)) then some ((⟨a0, a1, (0 : Int), (0 : Int), (0 : Int)⟩ : Ku), (decide (a1 ≤ (a0.length : Int)))) else some ((⟨a0, a1, (0 : Int), (0 : Int), (0 : Int)⟩ : Ku), false))
theorem Kj2 (fu : Nat)   (a0 : List Kac) (a1 : Int) : Le (Kf0 fu  a0 a1) (Kee  a0 a1) := by
 unfold Kf0 Kee
 repeat (first | exact Le.refl _ | assumption | (refine Le.bind ?_ (fun _ => ?_)) | (refine Le.cond ?_ ?_) | (refine Le.loopC (fun _ => ?_)) | (refine Le.elim (fun _ => ?_) (fun _ => ?_)))
def KbH (fu : Nat) (m0 : Ku) (a1 : Int) : Option (Kac) :=
 (bif (decide ((m0.gL.length : Int) ≤ (IntKind.i64.wrap (m0.gAt + a1)))) then none else ((idx m0.gL (IntKind.i64.wrap (m0.gAt + a1))).bind fun x4 => some x4))
theorem Kcj (fu : Nat)   (m0 : Ku) (a1 : Int) : Le (KbH fu  m0 a1) (Kbh  m0 a1) := by
 unfold KbH Kbh
 repeat (first | exact Le.refl _ | assumption | (refine Le.bind ?_ (fun _ => ?_)) | (refine Le.cond ?_ ?_) | (refine Le.loopC (fun _ => ?_)) | (refine Le.elim (fun _ => ?_) (fun _ => ?_)))
def Kcr (fu : Nat) (m0 : Ku) (a1 : Int) (a2 : ByteArray) : Option (Bool) :=
 ((KbH fu m0 a1).bind fun x1 => (bif (x1.gKind == (3 : Int)) then some (decide (x1.gText = a2)) else some false))
theorem KdL (fu : Nat)   (m0 : Ku) (a1 : Int) (a2 : ByteArray) : Le (Kcr fu  m0 a1 a2) (KbP  m0 a1 a2) := by
 unfold Kcr KbP
 repeat (first | exact Le.refl _ | assumption | exact Kcj fu _ _ | (refine Le.bind ?_ (fun _ => ?_)) | (refine Le.cond ?_ ?_) | (refine Le.loopC (fun _ => ?_)) | (refine Le.elim (fun _ => ?_) (fun _ => ?_)))
def KbM (fu : Nat) (m0 : Ku) (a1 : List ByteArray) : Option (Ku) :=
 (Option.bind (α := Int) (loopC fu (fun (s28 : Int × Int) => (bif (decide (s28.1 < (a1.length : Int))) then ((idx a1 s28.1).bind fun x42 => (bif (m0.gE != (0 : Int)) then none else ((Kcr fu (⟨m0.gL, s28.2, m0.gE, m0.gVars, m0.gOpen⟩ : Ku) (0 : Int) x42).bind fun x44 => (bif (!x44) then none else some (.next ((IntKind.i64.wrap (s28.1 + (1 : Int))), (IntKind.i64.wrap (s28.2 + (1 : Int))))))))) else some (.done s28.2))) ((0 : Int), m0.gAt)) fun y27 => some (⟨m0.gL, y27, m0.gE, m0.gVars, m0.gOpen⟩ : Ku))
theorem KcB (fu : Nat)   (m0 : Ku) (a1 : List ByteArray) : Le (KbM fu  m0 a1) (Kbn  m0 a1) := by
 unfold KbM Kbn
 repeat (first | exact Le.refl _ | assumption | exact KdL fu _ _ _ | (refine Le.bind ?_ (fun _ => ?_)) | (refine Le.cond ?_ ?_) | (refine Le.loopC (fun _ => ?_)) | (refine Le.elim (fun _ => ?_) (fun _ => ?_)))
def KdM (fu : Nat) (m0 : Ku) : Option (ByteArray × Ku) :=
 (bif (m0.gE != (0 : Int)) then none else ((KbH fu m0 (0 : Int)).bind fun x3 => (bif (x3.gKind != (1 : Int)) then none else some (x3.gText, (⟨m0.gL, (IntKind.i64.wrap (m0.gAt + (1 : Int))), m0.gE, m0.gVars, m0.gOpen⟩ : Ku)))))
theorem KhE (fu : Nat)   (m0 : Ku) : Le (KdM fu  m0) (Kcn  m0) := by
 unfold KdM Kcn
 repeat (first | exact Le.refl _ | assumption | exact Kcj fu _ _ | (refine Le.bind ?_ (fun _ => ?_)) | (refine Le.cond ?_ ?_) | (refine Le.loopC (fun _ => ?_)) | (refine Le.elim (fun _ => ?_) (fun _ => ?_)))
def Kbb (fu : Nat) (m0 : Ku) (a1 : ByteArray) : Option (Bool × Ku) :=
 (Option.bind (α := Bool) (bif (m0.gE != (0 : Int)) then some true else ((Kcr fu m0 (0 : Int) a1).bind fun x5 => some (!x5))) fun y3 => (bif y3 then some (false, m0) else some (true, (⟨m0.gL, (IntKind.i64.wrap (m0.gAt + (1 : Int))), m0.gE, m0.gVars, m0.gOpen⟩ : Ku))))
theorem Kdy (fu : Nat)   (m0 : Ku) (a1 : ByteArray) : Le (Kbb fu  m0 a1) (Ka0  m0 a1) := by
 unfold Kbb Ka0
 repeat (first | exact Le.refl _ | assumption | exact KdL fu _ _ _ | (refine Le.bind ?_ (fun _ => ?_)) | (refine Le.cond ?_ ?_) | (refine Le.loopC (fun _ => ?_)) | (refine Le.elim (fun _ => ?_) (fun _ => ?_)))
def Kdz (fu : Nat) (m0 : Ku) : Option (List K8 × Ku) :=
 ((KbM fu m0 ([(ByteArray.mk #[40])] : List ByteArray)).bind fun x1 => ((Kbb fu x1 (ByteArray.mk #[41])).bind fun x2 => (bif x2.1 then some (([] : List K8), x2.2) else none)))
theorem Khp (fu : Nat)   (m0 : Ku) : Le (Kdz fu  m0) (Kcc  m0) := by
 unfold Kdz Kcc
 repeat (first | exact Le.refl _ | assumption | exact KcB fu _ _ | exact Kdy fu _ _ | (refine Le.bind ?_ (fun _ => ?_)) | (refine Le.cond ?_ ?_) | (refine Le.loopC (fun _ => ?_)) | (refine Le.elim (fun _ => ?_) (fun _ => ?_)))
def KcH (fu : Nat) (m2 : Km) (m1 : Ku) : Option (Unit) :=
 (Option.bind (α := Unit) (loopC fu (fun (s17 : Unit) => (Option.bind (α := Bool) (bif (m1.gE == (0 : Int)) then ((Kcr fu m1 (0 : Int) (ByteArray.mk #[105, 110, 116])).bind fun x29 => some x29) else some false) fun y27 => (bif y27 then none else some (.done ())))) ()) fun y16 => some ())
theorem Kf4 (fu : Nat)   (m2 : Km) (m1 : Ku) : Le (KcH fu  m2 m1) (KbD  m2 m1) := by
 unfold KcH KbD
 repeat (first | exact Le.refl _ | assumption | exact KdL fu _ _ _ | (refine Le.bind ?_ (fun _ => ?_)) | (refine Le.cond ?_ ?_) | (refine Le.loopC (fun _ => ?_)) | (refine Le.elim (fun _ => ?_) (fun _ => ?_)))
def Kda (fu : Nat) (m0 : KS) : Option (Kac) :=
 (bif (decide ((m0.gL.length : Int) ≤ m0.gAt)) then none else ((idx m0.gL m0.gAt).bind fun x4 => some x4))
theorem KfE (fu : Nat)   (m0 : KS) : Le (Kda fu  m0) (Kcg  m0) := by
 unfold Kda Kcg
 repeat (first | exact Le.refl _ | assumption | (refine Le.bind ?_ (fun _ => ?_)) | (refine Le.cond ?_ ?_) | (refine Le.loopC (fun _ => ?_)) | (refine Le.elim (fun _ => ?_) (fun _ => ?_)))
def Ket (fu : Nat) (m0 : KS) : Option (Kh × KS) :=
 ((Kda fu m0).bind fun x2 => (bif (m0.gE != (0 : Int)) then none else (bif (x2.gKind == (2 : Int)) then some ((⟨(1 : Int), x2.gN, ByteArray.empty, [], x2.gAt⟩ : Kh), (⟨m0.gL, (IntKind.i64.wrap (m0.gAt + (1 : Int))), m0.gE⟩ : KS)) else none)))
theorem KiD (fu : Nat)   (m0 : KS) : Le (Ket fu  m0) (KcR  m0) := by
 unfold Ket KcR
 repeat (first | exact Le.refl _ | assumption | exact KfE fu _ | (refine Le.bind ?_ (fun _ => ?_)) | (refine Le.cond ?_ ?_) | (refine Le.loopC (fun _ => ?_)) | (refine Le.elim (fun _ => ?_) (fun _ => ?_)))
def KdN (fu : Nat) (a0 : ByteArray) (a1 : ByteArray) (a2 : Int) (a3 : ByteArray) (a4 : Int) : Option (Int) :=
 (bif (decide (a0 = a1)) then none else (bif (decide (a0 = a3)) then none else some (0 : Int)))
theorem Klj (fu : Nat)   (a0 : ByteArray) (a1 : ByteArray) (a2 : Int) (a3 : ByteArray) (a4 : Int) : Le (KdN fu  a0 a1 a2 a3 a4) (Kdo  a0 a1 a2 a3 a4) := by
 unfold KdN Kdo
 repeat (first | exact Le.refl _ | assumption | (refine Le.bind ?_ (fun _ => ?_)) | (refine Le.cond ?_ ?_) | (refine Le.loopC (fun _ => ?_)) | (refine Le.elim (fun _ => ?_) (fun _ => ?_)))
def Kf1 (fu : Nat) (a0 : Int) (a1 : ByteArray) : Option (Int) :=
 (bif (a0 == (0 : Int)) then (bif (decide (a1 = (ByteArray.mk #[124, 124]))) then none else some (0 : Int)) else (bif (a0 == (1 : Int)) then (bif (decide (a1 = (ByteArray.mk #[38, 38]))) then none else some (0 : Int)) else (bif (a0 == (2 : Int)) then ((KdN fu a1 (ByteArray.mk #[61, 61]) (14 : Int) (ByteArray.mk #[33, 61]) (15 : Int)).bind fun x8 => some x8) else (bif (a0 == (3 : Int)) then ((KdN fu a1 (ByteArray.mk #[60]) (12 : Int) (ByteArray.mk #[60, 61]) (13 : Int)).bind fun x11 => some x11) else (bif (a0 == (4 : Int)) then ((KdN fu a1 (ByteArray.mk #[43]) (10 : Int) (ByteArray.mk #[45]) (11 : Int)).bind fun x14 => some x14) else (bif (a0 == (5 : Int)) then (bif (decide (a1 = (ByteArray.mk #[37]))) then none else ((KdN fu a1 (ByteArray.mk #[42]) (7 : Int) (ByteArray.mk #[47]) (8 : Int)).bind fun x19 => some x19)) else none))))))
theorem Kj3 (fu : Nat)   (a0 : Int) (a1 : ByteArray) : Le (Kf1 fu  a0 a1) (Kef  a0 a1) := by
 unfold Kf1 Kef
 repeat (first | exact Le.refl _ | assumption | exact Klj fu _ _ _ _ _ | (refine Le.bind ?_ (fun _ => ?_)) | (refine Le.cond ?_ ?_) | (refine Le.loopC (fun _ => ?_)) | (refine Le.elim (fun _ => ?_) (fun _ => ?_)))
def Kd9 (fu : Nat) (g0 : (KS) → (Int) → Option (Kh × KS)) (m0 : KS) (a1 : Int) : Option (Kh × KS) :=
 (bif (a1 == (6 : Int)) then ((Ket fu m0).bind fun x5 => some (x5.1, x5.2)) else ((g0 m0 (IntKind.i64.wrap (a1 + (1 : Int)))).bind fun x7 => (Option.bind (α := Unit) (loopC fu (fun (s28 : Unit) => (bif (x7.2.gE == (0 : Int)) then ((Kda fu x7.2).bind fun x37 => (bif (x37.gKind == (3 : Int)) then ((Kf1 fu a1 x37.gText).bind fun x40 => (bif (x40 == (0 : Int)) then some (.done ()) else none)) else none)) else none)) ()) fun y27 => some (x7.1, x7.2))))
theorem Kib (fu : Nat) (g0 g0' : (KS) → (Int) → Option (Kh × KS)) (hg0 : ∀ x0 x1, Le (g0 x0 x1) (g0' x0 x1)) (m0 : KS) (a1 : Int) : Le (Kd9 fu g0 m0 a1) (Kbo g0' m0 a1) := by
 unfold Kd9 Kbo
 repeat (first | exact Le.refl _ | assumption | exact hg0 _ _ | exact KiD fu _ | exact KfE fu _ | exact Kj3 fu _ _ | (refine Le.bind ?_ (fun _ => ?_)) | (refine Le.cond ?_ ?_) | (refine Le.loopC (fun _ => ?_)) | (refine Le.elim (fun _ => ?_) (fun _ => ?_)))
def Kea (fu : Nat) : Nat → ((KS) → (Int) → Option (Kh × KS))
 | 0 => (fun _ _ => none)
 | n + 1 => (Kd9 fu ((Kea fu n)))
theorem Kfd (fu : Nat) : ∀ n, (∀ (m0 : KS) (a1 : Int), Le ((Kea fu n) m0 a1) ((Ka1 n) m0 a1))
  | 0 => fun _ _ => Le.none _
  | n + 1 => by
    have ih := Kfd fu n
    exact fun m0 a1 => Kib fu _ _ ih m0 a1
def Kgw (fu : Nat) (m0 : KS) (a1 : Int) : Option (Kh × KS) := (Kea fu fu) m0 a1
theorem Kje (fu : Nat) (m0 : KS) (a1 : Int) : Le (Kgw fu m0 a1) (Kd3 m0 a1) := fun r h => Kjx m0 a1 fu (((Kfd fu fu) m0 a1) r h)
def Khq (fu : Nat) (a0 : List Kac) (a1 : Int) : Option (Kh × Int × Int) :=
 (Option.bind (α := Bool) (bif (decide (a1 < (0 : Int))) then some true else some (decide ((a0.length : Int) < a1))) fun y3 => (bif y3 then none else ((Kgw fu (⟨a0, a1, (0 : Int)⟩ : KS) (0 : Int)).bind fun x8 => (bif (x8.2.gE != (0 : Int)) then none else some (x8.1, x8.2.gAt, (0 : Int))))))
theorem Klk (fu : Nat)   (a0 : List Kac) (a1 : Int) : Le (Khq fu  a0 a1) (KfV  a0 a1) := by
 unfold Khq KfV
 repeat (first | exact Le.refl _ | assumption | exact Kje fu _ _ | (refine Le.bind ?_ (fun _ => ?_)) | (refine Le.cond ?_ ?_) | (refine Le.loopC (fun _ => ?_)) | (refine Le.elim (fun _ => ?_) (fun _ => ?_)))
def KdO (fu : Nat) (m0 : Ku) : Option (Kh × Ku) :=
 (bif (m0.gE != (0 : Int)) then none else ((Khq fu m0.gL (min m0.gAt (m0.gL.length : Int))).bind fun x4 => (bif (x4.2.2 != (0 : Int)) then none else some (x4.1, (⟨m0.gL, x4.2.1, m0.gE, m0.gVars, m0.gOpen⟩ : Ku)))))
theorem KhF (fu : Nat)   (m0 : Ku) : Le (KdO fu  m0) (Kco  m0) := by
 unfold KdO Kco
 repeat (first | exact Le.refl _ | assumption | exact Klk fu _ _ | (refine Le.bind ?_ (fun _ => ?_)) | (refine Le.cond ?_ ?_) | (refine Le.loopC (fun _ => ?_)) | (refine Le.elim (fun _ => ?_) (fun _ => ?_)))
def KdP (fu : Nat) (m0 : Ku) : Option (Ki × Ku) :=
 ((KbH fu m0 (0 : Int)).bind fun x2 => (bif (x2.gKind == (1 : Int)) then none else ((Kbb fu m0 (ByteArray.mk #[42])).bind fun x6 => (bif x6.1 then none else ((Kbb fu x6.2 (ByteArray.mk #[105, 102])).bind fun x8 => (bif x8.1 then none else ((Kbb fu x8.2 (ByteArray.mk #[119, 104, 105, 108, 101])).bind fun x10 => (bif x10.1 then none else ((Kbb fu x10.2 (ByteArray.mk #[114, 101, 116, 117, 114, 110])).bind fun x12 => (bif x12.1 then ((KdO fu x12.2).bind fun x14 => ((KbM fu x14.2 ([(ByteArray.mk #[59])] : List ByteArray)).bind fun x15 => some ((⟨(8 : Int), ByteArray.empty, ByteArray.empty, ([x14.1] : List Kh), [], [], x2.gAt⟩ : Ki), x15))) else none))))))))))
theorem KhG (fu : Nat)   (m0 : Ku) : Le (KdP fu  m0) (Kcp  m0) := by
 unfold KdP Kcp
 repeat (first | exact Le.refl _ | assumption | exact Kcj fu _ _ | exact Kdy fu _ _ | exact KhF fu _ | exact KcB fu _ _ | (refine Le.bind ?_ (fun _ => ?_)) | (refine Le.cond ?_ ?_) | (refine Le.loopC (fun _ => ?_)) | (refine Le.elim (fun _ => ?_) (fun _ => ?_)))
def KdA (fu : Nat) (m0 : Ku) (m2 : Km) : Option (List Ki × Ku) :=
 ((KbM fu m0 ([(ByteArray.mk #[123])] : List ByteArray)).bind fun x1 => (bif (decide ((24 : Int) ≤ x1.gOpen)) then none else ((KcH fu m2 (⟨x1.gL, x1.gAt, x1.gE, x1.gVars, (IntKind.i64.wrap (x1.gOpen + (1 : Int)))⟩ : Ku)).bind fun x4 => (Option.bind (α := List Ki × List Kac × Int × Int × Int × Int) (loopC fu (fun (s35 : List Ki × List Kac × Int × Int × Int × Int) => (Option.bind (α := Bool × List Kac × Int × Int × Int × Int) (bif (s35.2.2.2.1 == (0 : Int)) then ((Kbb fu (⟨s35.2.1, s35.2.2.1, s35.2.2.2.1, s35.2.2.2.2.1, s35.2.2.2.2.2⟩ : Ku) (ByteArray.mk #[125])).bind fun x59 => some ((!x59.1), x59.2.gL, x59.2.gAt, x59.2.gE, x59.2.gVars, x59.2.gOpen)) else some (false, s35.2.1, s35.2.2.1, s35.2.2.2.1, s35.2.2.2.2.1, s35.2.2.2.2.2)) fun y57 => (bif y57.1 then ((KdP fu (⟨y57.2.1, y57.2.2.1, y57.2.2.2.1, y57.2.2.2.2.1, y57.2.2.2.2.2⟩ : Ku)).bind fun x61 => ((app 120 s35.1 ([x61.1] : List Ki)).bind fun x62 => some (.next (x62, x61.2.gL, x61.2.gAt, x61.2.gE, x61.2.gVars, x61.2.gOpen)))) else some (.done (s35.1, y57.2.1, y57.2.2.1, y57.2.2.2.1, y57.2.2.2.2.1, y57.2.2.2.2.2))))) (([] : List Ki), x1.gL, x1.gAt, x1.gE, x1.gVars, (IntKind.i64.wrap (x1.gOpen + (1 : Int))))) fun y34 => some (y34.1, (⟨y34.2.1, y34.2.2.1, y34.2.2.2.1, y34.2.2.2.2.1, (IntKind.i64.wrap (y34.2.2.2.2.2 - (1 : Int)))⟩ : Ku))))))
theorem Khr (fu : Nat)   (m0 : Ku) (m2 : Km) : Le (KdA fu  m0 m2) (Kcd  m0 m2) := by
 unfold KdA Kcd
 repeat (first | exact Le.refl _ | assumption | exact KcB fu _ _ | exact Kf4 fu _ _ | exact Kdy fu _ _ | exact KhG fu _ | (refine Le.bind ?_ (fun _ => ?_)) | (refine Le.cond ?_ ?_) | (refine Le.loopC (fun _ => ?_)) | (refine Le.elim (fun _ => ?_) (fun _ => ?_)))
def Kic (fu : Nat) (a0 : Kh) : Option (Int) :=
 (Option.bind (α := Unit) (loopC fu (fun (s8 : Unit) => (bif (decide ((0 : Int) < (a0.gKids.length : Int))) then none else some (.done ()))) ()) fun y7 => some (1 : Int))
theorem Kl1 (fu : Nat)   (a0 : Kh) : Le (Kic fu  a0) (Kgu  a0) := by
 unfold Kic Kgu
 repeat (first | exact Le.refl _ | assumption | (refine Le.bind ?_ (fun _ => ?_)) | (refine Le.cond ?_ ?_) | (refine Le.loopC (fun _ => ?_)) | (refine Le.elim (fun _ => ?_) (fun _ => ?_)))
def Kgj (fu : Nat) (g0 : (List Ki) → Option (Int)) (a0 : List Ki) : Option (Int) :=
 (Option.bind (α := Int) (loopC fu (fun (s115 : Int × Int) => (bif (decide (s115.2 < (a0.length : Int))) then ((idx a0 s115.2).bind fun x191 => ((g0 x191.gKids).bind fun x193 => ((g0 x191.gElse).bind fun x194 => (Option.bind (α := Int) (loopC fu (fun (s211 : Int × Int) => (bif (decide (s211.2 < (x191.gExps.length : Int))) then ((idx x191.gExps s211.2).bind fun x223 => ((Kic fu x223).bind fun x225 => some (.next ((IntKind.i64.wrap (s211.1 + x225)), (IntKind.i64.wrap (s211.2 + (1 : Int))))))) else some (.done s211.1))) ((IntKind.i64.wrap (s115.1 + (IntKind.i64.wrap ((IntKind.i64.wrap ((1 : Int) + x193)) + x194)))), (0 : Int))) fun y210 => some (.next (y210, (IntKind.i64.wrap (s115.2 + (1 : Int))))))))) else some (.done s115.1))) ((0 : Int), (0 : Int))) fun y114 => some y114)
theorem KkA (fu : Nat) (g0 g0' : (List Ki) → Option (Int)) (hg0 : ∀ x0, Le (g0 x0) (g0' x0)) (a0 : List Ki) : Le (Kgj fu g0 a0) (KcD g0' a0) := by
 unfold Kgj KcD
 repeat (first | exact Le.refl _ | assumption | exact hg0 _ | exact Kl1 fu _ | (refine Le.bind ?_ (fun _ => ?_)) | (refine Le.cond ?_ ?_) | (refine Le.loopC (fun _ => ?_)) | (refine Le.elim (fun _ => ?_) (fun _ => ?_)))
def Kgk (fu : Nat) : Nat → ((List Ki) → Option (Int))
 | 0 => (fun _ => none)
 | n + 1 => (Kgj fu ((Kgk fu n)))
theorem Khs (fu : Nat) : ∀ n, (∀ (a0 : List Ki), Le ((Kgk fu n) a0) ((KbW n) a0))
  | 0 => fun _ => Le.none _
  | n + 1 => by
    have ih := Khs fu n
    exact fun a0 => KkA fu _ _ ih a0
def KjO (fu : Nat) (a0 : List Ki) : Option (Int) := (Kgk fu fu) a0
theorem Kll (fu : Nat) (a0 : List Ki) : Le (KjO fu a0) (KgM a0) := fun r h => KlZ a0 fu (((Khs fu fu) a0) r h)
def KcT (fu : Nat) (m0 : Ku) : Option (Km × Ku) :=
 ((KbH fu m0 (0 : Int)).bind fun x3 => ((KbM fu m0 ([(ByteArray.mk #[105, 110, 116])] : List ByteArray)).bind fun x5 => ((KdM fu x5).bind fun x6 => ((Kdz fu x6.2).bind fun x8 => ((KdA fu x8.2 (⟨x6.1, x8.1, [], [], x3.gAt⟩ : Km)).bind fun x10 => (Option.bind (α := Bool) (bif (x10.2.gE == (0 : Int)) then ((KjO fu x10.1).bind fun x15 => some (decide ((800 : Int) < x15))) else some false) fun y13 => (bif y13 then none else some ((⟨x6.1, x8.1, [], x10.1, x3.gAt⟩ : Km), x10.2))))))))
theorem Kgx (fu : Nat)   (m0 : Ku) : Le (KcT fu  m0) (KbN  m0) := by
 unfold KcT KbN
 repeat (first | exact Le.refl _ | assumption | exact Kcj fu _ _ | exact KcB fu _ _ | exact KhE fu _ | exact Khp fu _ | exact Khr fu _ _ | exact Kll fu _ | (refine Le.bind ?_ (fun _ => ?_)) | (refine Le.cond ?_ ?_) | (refine Le.loopC (fun _ => ?_)) | (refine Le.elim (fun _ => ?_) (fun _ => ?_)))
def Kgl (fu : Nat) (a0 : List Kac) (a1 : Int) : Option (Km × Int × Int) :=
 ((Kf0 fu a0 a1).bind fun x3 => (bif (!x3.2) then none else ((KcT fu x3.1).bind fun x8 => (bif (x8.2.gE != (0 : Int)) then none else some (x8.1, x8.2.gAt, (0 : Int))))))
theorem KkB (fu : Nat)   (a0 : List Kac) (a1 : Int) : Le (Kgl fu  a0 a1) (KeJ  a0 a1) := by
 unfold Kgl KeJ
 repeat (first | exact Le.refl _ | assumption | exact Kj2 fu _ _ | exact Kgx fu _ | (refine Le.bind ?_ (fun _ => ?_)) | (refine Le.cond ?_ ?_) | (refine Le.loopC (fun _ => ?_)) | (refine Le.elim (fun _ => ?_) (fun _ => ?_)))
def Kdc (fu : Nat) (a0 : List UInt8) : Option (Km × Int × Int) :=
 ((Kho fu a0).bind fun x4 => (bif (x4.2.2 != (0 : Int)) then none else ((Kgl fu x4.1 (0 : Int)).bind fun x9 => ((idx x4.1 (min x9.2.1 (IntKind.i64.wrap ((x4.1.length : Int) - (1 : Int))))).bind fun x11 => (bif (x9.2.2 != (0 : Int)) then none else (bif (x11.gKind != (0 : Int)) then none else some (x9.1, (0 : Int), (0 : Int))))))))
theorem KgN (fu : Nat)   (a0 : List UInt8) : Le (Kdc fu  a0) (Kb7  a0) := by
 unfold Kdc Kb7
 repeat (first | exact Le.refl _ | assumption | exact Kli fu _ | exact KkB fu _ _ | (refine Le.bind ?_ (fun _ => ?_)) | (refine Le.cond ?_ ?_) | (refine Le.loopC (fun _ => ?_)) | (refine Le.elim (fun _ => ?_) (fun _ => ?_)))
def KeL (fu : Nat) (a0 : List UInt8) : Option (Km × Int × Int) :=
 ((Kdc fu a0).bind fun x4 => some (x4.1, x4.2.1, x4.2.2))
theorem Kjf (fu : Nat)   (a0 : List UInt8) : Le (KeL fu  a0) (Kc5  a0) := by
 unfold KeL Kc5
 repeat (first | exact Le.refl _ | assumption | exact KgN fu _ | (refine Le.bind ?_ (fun _ => ?_)) | (refine Le.cond ?_ ?_) | (refine Le.loopC (fun _ => ?_)) | (refine Le.elim (fun _ => ?_) (fun _ => ?_)))
def Kdd (fu : Nat) (g0 : (List Kh) → Option (List Kh)) (g1 : (Kh) → Option (Kh)) (a0 : List Kh) : Option (List Kh) :=
 ((need (mkOK 64 (a0.length : Int) (a0.length : Int))).bind fun x1 => ((need (decide (a0.length = (List.replicate (a0.length : Int).toNat (⟨(0 : Int), (0 : Int), ByteArray.empty, [], (0 : Int)⟩ : Kh)).length))).bind fun x2 => (Option.bind (α := List Kh) (loopC fu (fun (s29 : Int × List Kh) => (bif (decide (s29.1 < (a0.length : Int))) then ((idx s29.2 s29.1).bind fun x49 => ((g1 x49).bind fun x51 => ((idx s29.2 s29.1).bind fun x52 => some (.next ((IntKind.i64.wrap (s29.1 + (1 : Int))), (s29.2.set s29.1.toNat x51)))))) else some (.done s29.2))) ((0 : Int), a0)) fun y28 => some y28)))
theorem KgO (fu : Nat) (g0 g0' : (List Kh) → Option (List Kh)) (g1 g1' : (Kh) → Option (Kh)) (hg0 : ∀ x0, Le (g0 x0) (g0' x0)) (hg1 : ∀ x0, Le (g1 x0) (g1' x0)) (a0 : List Kh) : Le (Kdd fu g0 g1 a0) (KaA g0' g1' a0) := by
 unfold Kdd KaA
 repeat (first | exact Le.refl _ | assumption | exact hg0 _ | exact hg1 _ | (refine Le.bind ?_ (fun _ => ?_)) | (refine Le.cond ?_ ?_) | (refine Le.loopC (fun _ => ?_)) | (refine Le.elim (fun _ => ?_) (fun _ => ?_)))
def Kgm (fu : Nat) (g0 : (List Kh) → Option (List Kh)) (g1 : (Kh) → Option (Kh)) (a0 : Kh) : Option (Kh) :=
 ((g0 a0.gKids).bind fun x4 => some (⟨a0.gOp, a0.gN, a0.gName, x4, a0.gAt⟩ : Kh))
theorem KkC (fu : Nat) (g0 g0' : (List Kh) → Option (List Kh)) (g1 g1' : (Kh) → Option (Kh)) (hg0 : ∀ x0, Le (g0 x0) (g0' x0)) (hg1 : ∀ x0, Le (g1 x0) (g1' x0)) (a0 : Kh) : Le (Kgm fu g0 g1 a0) (KbU g0' g1' a0) := by
 unfold Kgm KbU
 repeat (first | exact Le.refl _ | assumption | exact hg0 _ | exact hg1 _ | (refine Le.bind ?_ (fun _ => ?_)) | (refine Le.cond ?_ ?_) | (refine Le.loopC (fun _ => ?_)) | (refine Le.elim (fun _ => ?_) (fun _ => ?_)))
def Ka7 (fu : Nat) : Nat → ((List Kh) → Option (List Kh)) × ((Kh) → Option (Kh))
 | 0 => (fun _ => none, fun _ => none)
 | n + 1 => (Kdd fu ((Ka7 fu n).1) ((Ka7 fu n).2), Kgm fu ((Ka7 fu n).1) ((Ka7 fu n).2))
theorem Kev (fu : Nat) : ∀ n, (∀ (a0 : List Kh), Le ((Ka7 fu n).1 a0) ((KH n).1 a0)) ∧ (∀ (a0 : Kh), Le ((Ka7 fu n).2 a0) ((KH n).2 a0))
  | 0 => ⟨fun _ => Le.none _, fun _ => Le.none _⟩
  | n + 1 => by
    have ih := Kev fu n
    exact ⟨fun a0 => KgO fu _ _ _ _ ih.1 ih.2 a0, fun a0 => KkC fu _ _ _ _ ih.1 ih.2 a0⟩
def KfF (fu : Nat) (a0 : List Kh) : Option (List Kh) := (Ka7 fu fu).1 a0
theorem KhH (fu : Nat) (a0 : List Kh) : Le (KfF fu a0) (Kck a0) := fun r h => Ke9 a0 fu (((Kev fu fu).1 a0) r h)
def Kde (fu : Nat) (g0 : (List Ki) → Option (List Ki)) (g1 : (Ki) → Option (Ki)) (a0 : List Ki) : Option (List Ki) :=
 ((need (mkOK 120 (a0.length : Int) (a0.length : Int))).bind fun x1 => ((need (decide (a0.length = (List.replicate (a0.length : Int).toNat (⟨(0 : Int), ByteArray.empty, ByteArray.empty, [], [], [], (0 : Int)⟩ : Ki)).length))).bind fun x2 => (Option.bind (α := List Ki) (loopC fu (fun (s29 : Int × List Ki) => (bif (decide (s29.1 < (a0.length : Int))) then ((idx s29.2 s29.1).bind fun x49 => ((g1 x49).bind fun x51 => ((idx s29.2 s29.1).bind fun x52 => some (.next ((IntKind.i64.wrap (s29.1 + (1 : Int))), (s29.2.set s29.1.toNat x51)))))) else some (.done s29.2))) ((0 : Int), a0)) fun y28 => some y28)))
theorem KgP (fu : Nat) (g0 g0' : (List Ki) → Option (List Ki)) (g1 g1' : (Ki) → Option (Ki)) (hg0 : ∀ x0, Le (g0 x0) (g0' x0)) (hg1 : ∀ x0, Le (g1 x0) (g1' x0)) (a0 : List Ki) : Le (Kde fu g0 g1 a0) (KaJ g0' g1' a0) := by
 unfold Kde KaJ
 repeat (first | exact Le.refl _ | assumption | exact hg0 _ | exact hg1 _ | (refine Le.bind ?_ (fun _ => ?_)) | (refine Le.cond ?_ ?_) | (refine Le.loopC (fun _ => ?_)) | (refine Le.elim (fun _ => ?_) (fun _ => ?_)))
def Kgn (fu : Nat) (g0 : (List Ki) → Option (List Ki)) (g1 : (Ki) → Option (Ki)) (a0 : Ki) : Option (Ki) :=
 ((KfF fu a0.gExps).bind fun x4 => ((g0 a0.gKids).bind fun x6 => ((g0 a0.gElse).bind fun x8 => some (⟨a0.gOp, a0.gName, a0.gFunc, x4, x6, x8, a0.gAt⟩ : Ki))))
theorem KkD (fu : Nat) (g0 g0' : (List Ki) → Option (List Ki)) (g1 g1' : (Ki) → Option (Ki)) (hg0 : ∀ x0, Le (g0 x0) (g0' x0)) (hg1 : ∀ x0, Le (g1 x0) (g1' x0)) (a0 : Ki) : Le (Kgn fu g0 g1 a0) (KbV g0' g1' a0) := by
 unfold Kgn KbV
 repeat (first | exact Le.refl _ | assumption | exact hg0 _ | exact hg1 _ | exact KhH fu _ | (refine Le.bind ?_ (fun _ => ?_)) | (refine Le.cond ?_ ?_) | (refine Le.loopC (fun _ => ?_)) | (refine Le.elim (fun _ => ?_) (fun _ => ?_)))
def Ka8 (fu : Nat) : Nat → ((List Ki) → Option (List Ki)) × ((Ki) → Option (Ki))
 | 0 => (fun _ => none, fun _ => none)
 | n + 1 => (Kde fu ((Ka8 fu n).1) ((Ka8 fu n).2), Kgn fu ((Ka8 fu n).1) ((Ka8 fu n).2))
theorem Kew (fu : Nat) : ∀ n, (∀ (a0 : List Ki), Le ((Ka8 fu n).1 a0) ((KJ n).1 a0)) ∧ (∀ (a0 : Ki), Le ((Ka8 fu n).2 a0) ((KJ n).2 a0))
  | 0 => ⟨fun _ => Le.none _, fun _ => Le.none _⟩
  | n + 1 => by
    have ih := Kew fu n
    exact ⟨fun a0 => KgP fu _ _ _ _ ih.1 ih.2 a0, fun a0 => KkD fu _ _ _ _ ih.1 ih.2 a0⟩
def KfG (fu : Nat) (a0 : List Ki) : Option (List Ki) := (Ka8 fu fu).1 a0
theorem KhI (fu : Nat) (a0 : List Ki) : Le (KfG fu a0) (Kcl a0) := fun r h => Kfa a0 fu (((Kew fu fu).1 a0) r h)
def KeZ (fu : Nat) (a0 : Km) : Option (Km) :=
 ((Ka4 a0.gParams).bind fun x4 => ((Ka4 a0.gLocals).bind fun x6 => ((KfG fu a0.gBody).bind fun x8 => some (⟨a0.gName, x4, x6, x8, a0.gAt⟩ : Km))))
theorem KjC (fu : Nat)   (a0 : Km) : Le (KeZ fu  a0) (KbQ  a0) := by
 unfold KeZ KbQ
 repeat (first | exact Le.refl _ | assumption | exact KhI fu _ | (refine Le.bind ?_ (fun _ => ?_)) | (refine Le.cond ?_ ?_) | (refine Le.loopC (fun _ => ?_)) | (refine Le.elim (fun _ => ?_) (fun _ => ?_)))
def KdQ (fu : Nat) (a0 : List Km) : Option (List Km) :=
 ((need (mkOK 96 (a0.length : Int) (a0.length : Int))).bind fun x1 => ((need (decide (a0.length = (List.replicate (a0.length : Int).toNat (⟨ByteArray.empty, [], [], [], (0 : Int)⟩ : Km)).length))).bind fun x2 => (Option.bind (α := List Km) (loopC fu (fun (s29 : Int × List Km) => (bif (decide (s29.1 < (a0.length : Int))) then ((idx s29.2 s29.1).bind fun x49 => ((KeZ fu x49).bind fun x51 => ((idx s29.2 s29.1).bind fun x52 => some (.next ((IntKind.i64.wrap (s29.1 + (1 : Int))), (s29.2.set s29.1.toNat x51)))))) else some (.done s29.2))) ((0 : Int), a0)) fun y28 => some y28)))
theorem KhJ (fu : Nat)   (a0 : List Km) : Le (KdQ fu  a0) (KbR  a0) := by
 unfold KdQ KbR
 repeat (first | exact Le.refl _ | assumption | exact KjC fu _ | (refine Le.bind ?_ (fun _ => ?_)) | (refine Le.cond ?_ ?_) | (refine Le.loopC (fun _ => ?_)) | (refine Le.elim (fun _ => ?_) (fun _ => ?_)))
def Kf2 (fu : Nat) (a0 : Kl) : Option (Kl) :=
 ((KaB a0.gGlobals).bind fun x4 => ((KdQ fu a0.gFuncs).bind fun x10 => some (⟨x4, x10⟩ : Kl)))
theorem Kj4 (fu : Nat)   (a0 : Kl) : Le (Kf2 fu  a0) (Kb0  a0) := by
 unfold Kf2 Kb0
 repeat (first | exact Le.refl _ | assumption | exact KhJ fu _ | (refine Le.bind ?_ (fun _ => ?_)) | (refine Le.cond ?_ ?_) | (refine Le.loopC (fun _ => ?_)) | (refine Le.elim (fun _ => ?_) (fun _ => ?_)))
def KdR (fu : Nat) (m0 : Kan) : Option (Kl) :=
 ((Kf2 fu m0.gP).bind fun x4 => some x4)
theorem KhK (fu : Nat)   (m0 : Kan) : Le (KdR fu  m0) (KbC  m0) := by
 unfold KdR KbC
 repeat (first | exact Le.refl _ | assumption | exact Kj4 fu _ | (refine Le.bind ?_ (fun _ => ?_)) | (refine Le.cond ?_ ?_) | (refine Le.loopC (fun _ => ?_)) | (refine Le.elim (fun _ => ?_) (fun _ => ?_)))
def Kid (fu : Nat)  : Option (Kan) :=
 some (⟨(⟨[], []⟩ : Kl)⟩ : Kan)
theorem Kl2 (fu : Nat)    : Le (Kid fu  ) (store_New  ) := by
 unfold Kid store_New
 repeat (first | exact Le.refl _ | assumption | (refine Le.bind ?_ (fun _ => ?_)) | (refine Le.cond ?_ ?_) | (refine Le.loopC (fun _ => ?_)) | (refine Le.elim (fun _ => ?_) (fun _ => ?_)))
def Keb (fu : Nat) (a0 : Km) (m0 : Km) : Option (Bool) :=
 some (decide (a0.gName = m0.gName))
theorem Kie (fu : Nat)   (a0 : Km) (m0 : Km) : Le (Keb fu  a0 m0) (KcE  a0 m0) := by
 unfold Keb KcE
 repeat (first | exact Le.refl _ | assumption | (refine Le.bind ?_ (fun _ => ?_)) | (refine Le.cond ?_ ?_) | (refine Le.loopC (fun _ => ?_)) | (refine Le.elim (fun _ => ?_) (fun _ => ?_)))
def KbJ (fu : Nat) (a0 : List Km) (m0 : Km) : Option (Int) :=
 (Option.bind (α := Unit) (loopC fu (fun (s18 : Int) => (bif (decide (s18 < (a0.length : Int))) then ((idx a0 s18).bind fun x30 => ((Keb fu x30 m0).bind fun x31 => (bif x31 then none else some (.next (IntKind.i64.wrap (s18 + (1 : Int))))))) else some (.done ()))) (0 : Int)) fun y17 => some (-1 : Int))
theorem Keu (fu : Nat)   (a0 : List Km) (m0 : Km) : Le (KbJ fu  a0 m0) (KaT  a0 m0) := by
 unfold KbJ KaT
 repeat (first | exact Le.refl _ | assumption | exact Kie fu _ _ | (refine Le.bind ?_ (fun _ => ?_)) | (refine Le.cond ?_ ?_) | (refine Le.loopC (fun _ => ?_)) | (refine Le.elim (fun _ => ?_) (fun _ => ?_)))
def Kec (fu : Nat) (a0 : List Km) (a1 : Km) (m0 : Km) : Option (List Km × Int) :=
 ((KaP a0).bind fun x3 => ((KbJ fu x3 m0).bind fun x4 => (bif (decide (x4 < (0 : Int))) then ((app 96 x3 ([a1] : List Km)).bind fun x8 => some (x8, (x3.length : Int))) else none)))
theorem Kif (fu : Nat)   (a0 : List Km) (a1 : Km) (m0 : Km) : Le (Kec fu  a0 a1 m0) (KcF  a0 a1 m0) := by
 unfold Kec KcF
 repeat (first | exact Le.refl _ | assumption | exact Keu fu _ _ | (refine Le.bind ?_ (fun _ => ?_)) | (refine Le.cond ?_ ?_) | (refine Le.loopC (fun _ => ?_)) | (refine Le.elim (fun _ => ?_) (fun _ => ?_)))
def Ke0 (fu : Nat) (m0 : Kan) (a1 : Kl) (a2 : Int) : Option (Int × Int × Kan) :=
 ((KfX fu a1).bind fun x2 => (bif (x2.2.2 == (0 : Int)) then some ((0 : Int), (0 : Int), (⟨a1⟩ : Kan)) else none))
theorem KjD (fu : Nat)   (m0 : Kan) (a1 : Kl) (a2 : Int) : Le (Ke0 fu  m0 a1 a2) (Kdp  m0 a1 a2) := by
 unfold Ke0 Kdp
 repeat (first | exact Le.refl _ | assumption | exact Kj1 fu _ | (refine Le.bind ?_ (fun _ => ?_)) | (refine Le.cond ?_ ?_) | (refine Le.loopC (fun _ => ?_)) | (refine Le.elim (fun _ => ?_) (fun _ => ?_)))
def KeM (fu : Nat) (m0 : Kan) (a1 : List UInt8) : Option (Int × Int × Kan) :=
 ((KeL fu a1).bind fun x3 => (bif (x3.2.2 != (0 : Int)) then none else ((Kec fu m0.gP.gFuncs x3.1 x3.1).bind fun x7 => ((Ke0 fu m0 (⟨m0.gP.gGlobals, x7.1⟩ : Kl) (IntKind.i64.wrap ((m0.gP.gGlobals.length : Int) + x7.2))).bind fun x8 => some (x8.1, x8.2.1, x8.2.2)))))
theorem Kjg (fu : Nat)   (m0 : Kan) (a1 : List UInt8) : Le (KeM fu  m0 a1) (Kc6  m0 a1) := by
 unfold KeM Kc6
 repeat (first | exact Le.refl _ | assumption | exact Kjf fu _ | exact Kif fu _ _ _ | exact KjD fu _ _ _ | (refine Le.bind ?_ (fun _ => ?_)) | (refine Le.cond ?_ ?_) | (refine Le.loopC (fun _ => ?_)) | (refine Le.elim (fun _ => ?_) (fun _ => ?_)))
def Kbt (fu : Nat) (a0 : List Kaw) (m0 : ByteArray) : Option (Int) :=
 (Option.bind (α := Unit) (loopC fu (fun (s7 : Unit) => (bif (decide ((0 : Int) < (a0.length : Int))) then none else some (.done ()))) ()) fun y6 => some (-1 : Int))
theorem KdS (fu : Nat)   (a0 : List Kaw) (m0 : ByteArray) : Le (Kbt fu  a0 m0) (KaL  a0 m0) := by
 unfold Kbt KaL
 repeat (first | exact Le.refl _ | assumption | (refine Le.bind ?_ (fun _ => ?_)) | (refine Le.cond ?_ ?_) | (refine Le.loopC (fun _ => ?_)) | (refine Le.elim (fun _ => ?_) (fun _ => ?_)))
def Kbm (fu : Nat) (a0 : List Kaw) (m0 : ByteArray) : Option (List Kaw) :=
 ((Kbt fu a0 m0).bind fun x1 => (bif (x1 == (-1 : Int)) then some a0 else none))
theorem KdB (fu : Nat)   (a0 : List Kaw) (m0 : ByteArray) : Le (Kbm fu  a0 m0) (KaH  a0 m0) := by
 unfold Kbm KaH
 repeat (first | exact Le.refl _ | assumption | exact KdS fu _ _ | (refine Le.bind ?_ (fun _ => ?_)) | (refine Le.cond ?_ ?_) | (refine Le.loopC (fun _ => ?_)) | (refine Le.elim (fun _ => ?_) (fun _ => ?_)))
def Ked (fu : Nat) (a0 : Km) (m0 : ByteArray) : Option (Bool) :=
 some (decide (a0.gName = m0))
theorem Kig (fu : Nat)   (a0 : Km) (m0 : ByteArray) : Le (Ked fu  a0 m0) (KcG  a0 m0) := by
 unfold Ked KcG
 repeat (first | exact Le.refl _ | assumption | (refine Le.bind ?_ (fun _ => ?_)) | (refine Le.cond ?_ ?_) | (refine Le.loopC (fun _ => ?_)) | (refine Le.elim (fun _ => ?_) (fun _ => ?_)))
def KbE (fu : Nat) (a0 : List Km) (m0 : ByteArray) : Option (Int) :=
 (Option.bind (α := Unit) (loopC fu (fun (s18 : Int) => (bif (decide (s18 < (a0.length : Int))) then ((idx a0 s18).bind fun x30 => ((Ked fu x30 m0).bind fun x31 => (bif x31 then none else some (.next (IntKind.i64.wrap (s18 + (1 : Int))))))) else some (.done ()))) (0 : Int)) fun y17 => some (-1 : Int))
theorem Keg (fu : Nat)   (a0 : List Km) (m0 : ByteArray) : Le (KbE fu  a0 m0) (KaQ  a0 m0) := by
 unfold KbE KaQ
 repeat (first | exact Le.refl _ | assumption | exact Kig fu _ _ | (refine Le.bind ?_ (fun _ => ?_)) | (refine Le.cond ?_ ?_) | (refine Le.loopC (fun _ => ?_)) | (refine Le.elim (fun _ => ?_) (fun _ => ?_)))
def KbF (fu : Nat) (a0 : List Km) (m0 : ByteArray) : Option (List Km) :=
 ((KbE fu a0 m0).bind fun x1 => (bif (x1 == (-1 : Int)) then some a0 else none))
theorem Keh (fu : Nat)   (a0 : List Km) (m0 : ByteArray) : Le (KbF fu  a0 m0) (KaR  a0 m0) := by
 unfold KbF KaR
 repeat (first | exact Le.refl _ | assumption | exact Keg fu _ _ | (refine Le.bind ?_ (fun _ => ?_)) | (refine Le.cond ?_ ?_) | (refine Le.loopC (fun _ => ?_)) | (refine Le.elim (fun _ => ?_) (fun _ => ?_)))
def KeN (fu : Nat) (m0 : Kan) (a1 : ByteArray) : Option (Int) :=
 ((KaB m0.gP.gGlobals).bind fun x3 => ((Kbm fu x3 a1).bind fun x4 => ((KaP m0.gP.gFuncs).bind fun x6 => ((KbF fu x6 a1).bind fun x7 => (bif ((x4.length : Int) == (m0.gP.gGlobals.length : Int)) then (bif ((x7.length : Int) == (m0.gP.gFuncs.length : Int)) then some (7 : Int) else none) else none)))))
theorem Kjh (fu : Nat)   (m0 : Kan) (a1 : ByteArray) : Le (KeN fu  m0 a1) (Kc7  m0 a1) := by
 unfold KeN Kc7
 repeat (first | exact Le.refl _ | assumption | exact KdB fu _ _ | exact Keh fu _ _ | (refine Le.bind ?_ (fun _ => ?_)) | (refine Le.cond ?_ ?_) | (refine Le.loopC (fun _ => ?_)) | (refine Le.elim (fun _ => ?_) (fun _ => ?_)))
def Kke (fu : Nat)  : Option (Bool) :=
 ((Kid fu).bind fun x4 => ((KeM fu x4 ([(105 : UInt8), (110 : UInt8), (116 : UInt8), (32 : UInt8), (109 : UInt8), (97 : UInt8), (105 : UInt8), (110 : UInt8), (40 : UInt8), (41 : UInt8), (32 : UInt8), (123 : UInt8), (32 : UInt8), (114 : UInt8), (101 : UInt8), (116 : UInt8), (117 : UInt8), (114 : UInt8), (110 : UInt8), (32 : UInt8), (51 : UInt8), (59 : UInt8), (32 : UInt8), (125 : UInt8)] : List UInt8)).bind fun x5 => (bif (x5.1 == (0 : Int)) then (bif (x5.2.1 == (0 : Int)) then ((KdR fu x5.2.2).bind fun x8 => (bif ((x8.gFuncs.length : Int) == (1 : Int)) then ((KeN fu x5.2.2 (ByteArray.mk #[102])).bind fun x10 => some (x10 == (7 : Int))) else some false)) else some false) else some false)))
theorem Kl3 (fu : Nat)    : Le (Kke fu  ) (l36_lives  ) := by
 unfold Kke l36_lives
 repeat (first | exact Le.refl _ | assumption | exact Kl2 fu | exact Kjg fu _ _ | exact KhK fu _ | exact Kjh fu _ _ | (refine Le.bind ?_ (fun _ => ?_)) | (refine Le.cond ?_ ?_) | (refine Le.loopC (fun _ => ?_)) | (refine Le.elim (fun _ => ?_) (fun _ => ?_)))
end Go.Proofs.YtipfljkjjddapaaGreatDoor.Ab
namespace Go.Proofs.YtipfljkjjddapaaGreatDoor.Ab
open Go
set_option linter.all false
noncomputable def KgQ (a0 : Kl) : Option (Unit × Int × Int × Int) :=
 ((KbZ a0).bind fun x2 => (bif (x2.2.2 != (0 : Int)) then some ((), x2.1, x2.2.1, x2.2.2) else ((Kb0 a0).bind fun x8 => none)))
theorem Kl4 (a0 : Kl) (r : Unit × Int × Int × Int) (h0 : KgQ a0 = some r) : CallsD Tryz.prog 19 [KL a0] [] [] (fun d h k => d = .tup [.v (.pointer none), .v (.int .i64 r.2.1), .v (.int .i64 r.2.2.1), .v (.int .i64 r.2.2.2)] ∧ h = [] ∧ k = []) := by
 have hm := Kw h0
 unfold KgQ at hm
 clear h0
 refine K0 htab Tryz.func19 rfl rfl rfl rfl rfl (fun C => ?_)
 refine Kd ?_
 refine p_box rfl rfl rfl rfl rfl rfl rfl (fun b1 => ?_)
 iterate 4 refine pu ?_
 refine KK ?_
 refine Kai (d := KL a0) 0 htab rfl rfl rfl rfl rfl rfl rfl rfl ?_
 obtain ⟨x2, q2, hm⟩ := Kc hm
 refine KN (Kfo a0 x2 q2) rfl rfl rfl rfl rfl Wl ?_
 rintro _ rfl
 iterate 7 refine pu ?_
 refine Kb ?_
 refine Kg ?_
 refine Kd ?_
 refine pu ?_
 refine pu ?_
 refine Kb ?_
 refine Kk rfl (fun hc4 => ?_) (fun hc4 => ?_)
 ·replace hm := yes_t hc4 hm
  refine Kd ?_
  iterate 7 refine pu ?_
  refine Kb ?_
  refine Kr ?_
  refine Kt ?_
  have er5 := Ke hm; subst er5
  refine rP (t' := [(2, .v (.pointer none)), (3, .v (.int .i64 x2.1)), (4, .v (.int .i64 x2.2.1)), (5, .v (.int .i64 x2.2.2))]) [] [] 0 (wC (wC (wC (wC wN)))) (lT (lT (lT (lT lN)))) ?_
  exact ⟨rfl, rfl, rfl⟩
 ·replace hm := yes_f hc4 hm
  refine Kp ?_
  refine Ka ?_
  refine Kd ?_
  refine Kai (d := KL a0) 0 htab rfl rfl rfl rfl rfl rfl rfl rfl ?_
  obtain ⟨x8, q8, hm⟩ := Kc hm
  refine pG (Kfr a0 x8 q8) Wl Pf Pf ?_
  rintro _ _ _ ⟨w6, w7, rfl, rfl, rfl⟩
  refine Kdg (r := [.lst 4 (x8.gGlobals.map Ks) (.cur w6), .lst 5 (x8.gFuncs.map Ko) (.cur w7)]) htab rfl rfl rfl rfl rfl rfl rfl rfl rfl ?_
  refine p_box rfl rfl rfl rfl rfl rfl rfl (fun b9 => ?_)
  iterate 4 refine pu ?_
  exact (KR hm).elim
noncomputable def Kdq (a1 : List UInt8) : Option (Int × Int) :=
 some ((0 : Int), (1 : Int))
theorem KiE (a1 : List UInt8) (r : Int × Int) (h0 : Kdq a1 = some r) : CallsD Tryz.prog 21 [.v (.pointer none), .lst 1 (a1.map byteD) .no] [] [] (fun d h k => d = .tup [.v (.int .i64 r.1), .v (.int .i64 r.2)] ∧ h = [] ∧ k = []) := by
 have hm := Kw h0
 unfold Kdq at hm
 clear h0
 refine K0 htab Tryz.func21 rfl rfl rfl rfl rfl (fun C => ?_)
 refine Kd ?_
 refine pu ?_
 refine pu ?_
 refine Kb ?_
 refine Kg ?_
 refine Kd ?_
 refine pu ?_
 refine p_eqP htab rfl rfl rfl rfl rfl rfl rfl rfl rfl rfl ?_
 refine Kb ?_
 refine Kfm rfl ?_
 refine Kd ?_
 refine pu ?_
 refine pu ?_
 refine Kb ?_
 refine Kr ?_
 refine Kt ?_
 have er1 := Ke hm; subst er1
 refine rP (t' := [(4, .v (.int .i64 (0 : Int))), (5, .v (.int .i64 (1 : Int)))]) [] [] 0 (wC (wC wN)) (lT (lT lN)) ?_
 exact ⟨rfl, rfl, rfl⟩
noncomputable def KcU (a1 : List UInt8) : Option (Int × Int) :=
 some ((0 : Int), (1 : Int))
theorem KhL (a1 : List UInt8) (r : Int × Int) (h0 : KcU a1 = some r) : CallsD Tryz.prog 22 [.v (.pointer none), .lst 1 (a1.map byteD) .no] [] [] (fun d h k => d = .tup [.v (.int .i64 r.1), .v (.int .i64 r.2)] ∧ h = [] ∧ k = []) := by
 have hm := Kw h0
 unfold KcU at hm
 clear h0
 refine K0 htab Tryz.func22 rfl rfl rfl rfl rfl (fun C => ?_)
 refine Kd ?_
 refine pu ?_
 refine pu ?_
 refine Kb ?_
 refine Kg ?_
 refine Kd ?_
 refine pu ?_
 refine p_eqP htab rfl rfl rfl rfl rfl rfl rfl rfl rfl rfl ?_
 refine Kb ?_
 refine Kfm rfl ?_
 refine Kd ?_
 refine pu ?_
 refine pu ?_
 refine Kb ?_
 refine Kr ?_
 refine Kt ?_
 have er1 := Ke hm; subst er1
 refine rP (t' := [(4, .v (.int .i64 (0 : Int))), (5, .v (.int .i64 (1 : Int)))]) [] [] 0 (wC (wC wN)) (lT (lT lN)) ?_
 exact ⟨rfl, rfl, rfl⟩
noncomputable def Kdr (a1 : ByteArray) : Option (Int) :=
 some (1 : Int)
theorem KiF (a1 : ByteArray) (r : Int) (h0 : Kdr a1 = some r) : CallsD Tryz.prog 23 [.v (.pointer none), .v (.string a1)] [] [] (fun d h k => d = .v (.int .i64 r) ∧ h = [] ∧ k = []) := by
 have hm := Kw h0
 unfold Kdr at hm
 clear h0
 refine K0 htab Tryz.func23 rfl rfl rfl rfl rfl (fun C => ?_)
 refine Kd ?_
 refine p_box rfl rfl rfl rfl rfl rfl rfl (fun b1 => ?_)
 refine pu ?_
 refine Kb ?_
 refine Kg ?_
 refine Kd ?_
 refine pu ?_
 refine p_eqP htab rfl rfl rfl rfl rfl rfl rfl rfl rfl rfl ?_
 refine Kb ?_
 refine Kfm rfl ?_
 refine Kd ?_
 refine pu ?_
 refine Kb ?_
 refine Kr ?_
 refine Kt ?_
 have er2 := Ke hm; subst er2
 refine rP (t' := [(4, .v (.int .i64 (1 : Int)))]) [] [] 0 (wC wN) (lT lN) ?_
 exact ⟨rfl, rfl, rfl⟩
structure KaU where
 gKind : Int
 gText : List UInt8
 gName : ByteArray
def Kbp (x : KaU) : D := .agg [.v (.int .i64 x.gKind), .lst 1 (x.gText.map byteD) .no, .v (.string x.gName)]
noncomputable def Kgo (a1 : KaU) : Option (Int × Int) :=
 (bif (a1.gKind == (0 : Int)) then ((Kdq a1.gText).bind fun x11 => some (x11.1, x11.2)) else (bif (a1.gKind == (1 : Int)) then ((KcU a1.gText).bind fun x16 => some (x16.1, x16.2)) else ((Kdr a1.gName).bind fun x18 => some ((0 : Int), x18))))
theorem Kkf (a1 : KaU) (r : Int × Int) (h0 : Kgo a1 = some r) : CallsD Tryz.prog 7 [.v (.pointer none), Kbp a1] [] [] (fun d h k => d = .tup [.v (.int .i64 r.1), .v (.int .i64 r.2)] ∧ h = [] ∧ k = []) := by
 have hm := Kw h0
 unfold Kgo at hm
 clear h0
 refine K0 htab Tryz.func7 rfl rfl rfl rfl rfl (fun C => ?_)
 refine Kd ?_
 refine p_box rfl rfl rfl rfl rfl rfl rfl (fun b1 => ?_)
 refine pu ?_
 refine pu ?_
 refine Kb ?_
 refine Kg ?_
 refine Kd ?_
 refine pu ?_
 refine pL 0 ?_
 refine Kb ?_
 refine KA ?_
 refine Kd ?_
 refine pu ?_
 refine pu ?_
 refine Kb ?_
 refine Kk rfl (fun hc10 => ?_) (fun hc10 => ?_)
 ·replace hm := yes_t hc10 hm
  refine Kd ?_
  refine pu ?_
  refine pu ?_
  refine pL 0 ?_
  obtain ⟨x11, q11, hm⟩ := Kc hm
  refine KN (KiE a1.gText x11 q11) rfl rfl rfl rfl rfl Wl ?_
  rintro _ rfl
  iterate 4 refine pu ?_
  refine Kb ?_
  refine Kr ?_
  refine KE ?_
  refine Kt ?_
  have er12 := Ke hm; subst er12
  refine rP (t' := [(4, .v (.int .i64 x11.1)), (5, .v (.int .i64 x11.2))]) [] [] 0 (wC (wC wN)) (lT (lT lN)) ?_
  exact ⟨rfl, rfl, rfl⟩
 ·replace hm := yes_f hc10 hm
  refine Kd ?_
  refine pu ?_
  refine pu ?_
  refine Kb ?_
  refine Kk rfl (fun hc15 => ?_) (fun hc15 => ?_)
  ·replace hm := yes_t hc15 hm
   refine Kd ?_
   refine pu ?_
   refine pu ?_
   refine pL 0 ?_
   obtain ⟨x16, q16, hm⟩ := Kc hm
   refine KN (KhL a1.gText x16 q16) rfl rfl rfl rfl rfl Wl ?_
   rintro _ rfl
   iterate 4 refine pu ?_
   refine Kb ?_
   refine Kr ?_
   refine KE ?_
   refine Kt ?_
   have er17 := Ke hm; subst er17
   refine rP (t' := [(4, .v (.int .i64 x16.1)), (5, .v (.int .i64 x16.2))]) [] [] 0 (wC (wC wN)) (lT (lT lN)) ?_
   exact ⟨rfl, rfl, rfl⟩
  ·replace hm := yes_f hc15 hm
   refine Kp ?_
   refine KF ?_
   refine Ka ?_
   refine Kd ?_
   refine pu ?_
   refine pu ?_
   refine pL 0 ?_
   obtain ⟨x18, q18, hm⟩ := Kc hm
   refine KN (KiF a1.gName x18 q18) rfl rfl rfl rfl rfl Wl ?_
   rintro _ rfl
   refine pu ?_
   refine pu ?_
   refine Kb ?_
   refine Kr ?_
   have er19 := Ke hm; subst er19
   refine rP (t' := [(4, .v (.int .i64 (0 : Int))), (5, .v (.int .i64 x18))]) [] [] 0 (wC (wC wN)) (lT (lT lN)) ?_
   exact ⟨rfl, rfl, rfl⟩
noncomputable def store_Store_Text_A : Option (ByteArray) :=
 some (ByteArray.mk #[])
theorem KfH  (r : ByteArray) (h0 : store_Store_Text_A = some r) : CallsD Tryz.prog 13 [.v (.pointer none)] [] [] (fun d h k => d = .v (.string r) ∧ h = [] ∧ k = []) := by
 have hm := Kw h0
 unfold store_Store_Text_A at hm
 clear h0
 refine K0 htab Tryz.func13 rfl rfl rfl rfl rfl (fun C => ?_)
 refine Kd ?_
 refine pu ?_
 refine Kb ?_
 refine Kg ?_
 refine Kd ?_
 refine pu ?_
 refine p_eqP htab rfl rfl rfl rfl rfl rfl rfl rfl rfl rfl ?_
 refine Kb ?_
 refine Kfm rfl ?_
 refine Kd ?_
 refine pu ?_
 refine Kb ?_
 refine Kr ?_
 refine Kt ?_
 have er1 := Ke hm; subst er1
 refine rP (t' := [(2, .v (.string (ByteArray.mk #[])))]) [] [] 0 (wC wN) (lT lN) ?_
 exact ⟨rfl, rfl, rfl⟩
noncomputable def store_Store_Program_A : Option (Kl) :=
 some (⟨[], []⟩ : Kl)
theorem KeO  (r : Kl) (h0 : store_Store_Program_A = some r) : CallsD Tryz.prog 12 [.v (.pointer none)] [] [] (fun d h k => d = KL r ∧ h = [] ∧ k = []) := by
 have hm := Kw h0
 unfold store_Store_Program_A at hm
 clear h0
 refine K0 htab Tryz.func12 rfl rfl rfl rfl rfl (fun C => ?_)
 refine Kd ?_
 refine Kar htab rfl rfl rfl rfl rfl rfl rfl (fun b1 => ?_)
 refine Kb ?_
 refine Kg ?_
 refine Kd ?_
 refine pu ?_
 refine p_eqP htab rfl rfl rfl rfl rfl rfl rfl rfl rfl rfl ?_
 refine Kb ?_
 refine Kfm rfl ?_
 refine Kd ?_
 refine Kdg (r := [.lst 1 [] .full, .lst 1 [] .full]) htab rfl rfl rfl rfl rfl rfl rfl rfl rfl ?_
 refine pS0 (ds' := [.lst 1 [] .full, .lst 1 [] .full]) ?_
 refine Kb ?_
 refine Kr ?_
 refine Kt ?_
 have er2 := Ke hm; subst er2
 refine retX.wk (WkS.bl0 (ds' := [.lst 4 (([] : List Kaw).map Ks) .no, .lst 5 (([] : List Km).map Ko) .no]) (WkR.cons (WkC.nil) rfl (WkR.cons (WkC.nil) rfl WkR.nil))) ?_
 refine rP (t' := [(2, .ptr b1 0)]) [0] [] 0 (wC wN) (lC 0 lN) ?_
 exact ⟨rfl, rfl, rfl⟩
abbrev Kht : List (List Nat) := nlD [] [(0,[]),(0,[]),(0,[0,1]),(3,[2]),(4,[3]),(5,[]),(5,[4,5]),(7,[6]),(8,[7]),(9,[8]),(9,[8]),(10,[9,10]),(12,[11]),(13,[12]),(14,[13]),(15,[14]),(15,[]),(15,[16]),(16,[15,16,17]),(19,[18]),(20,[19]),(21,[20]),(22,[21]),(23,[22]),(24,[23]),(25,[24]),(25,[]),(26,[25,26]),(28,[27]),(29,[28]),(30,[29])]
noncomputable def Kfi (a0 : Kl) (a1 : KaU) : Option (Bool) :=
 ((KgQ a0).bind fun x3 => ((Kel a0).bind fun x4 => (Option.bind (α := Bool) (bif (x3.2.2.2 != x4.2.2) then some true else (bif (x3.2.1 != x4.1) then some true else (bif (x3.2.2.1 != x4.2.1) then some true else (bif (!(true == (x4.2.2 != (0 : Int)))) then some true else some false)))) fun y9 => (bif y9 then some false else ((Kgo a1).bind fun x17 => (bif (x17.1 == (0 : Int)) then (bif (x17.2 == (1 : Int)) then (store_Store_Text_A.bind fun x20 => (bif (decide (x20 = (ByteArray.mk #[]))) then (store_Store_Program_A.bind fun x22 => (bif ((x22.gFuncs.length : Int) == (0 : Int)) then (l36_lives.bind fun x24 => some x24) else some false)) else some false)) else some false) else some false))))))
theorem KkE (a0 : Kl) (a1 : KaU) (r : Bool) (h0 : Kfi a0 a1 = some r) : CallsD Tryz.prog 5 [KL a0, Kbp a1] [] [] (fun d h k => d = .v (.bool r) ∧ h = [] ∧ k = []) := by
 have hm := Kw h0
 unfold Kfi at hm
 clear h0
 refine K0 htab Tryz.func5 rfl rfl rfl rfl rfl (fun C => ?_)
 refine Kd ?_
 refine p_box rfl rfl rfl rfl rfl rfl rfl (fun b1 => ?_)
 refine p_box rfl rfl rfl rfl rfl rfl rfl (fun b2 => ?_)
 refine pu ?_
 refine KK ?_
 refine Kai (d := KL a0) 0 htab rfl rfl rfl rfl rfl rfl rfl rfl ?_
 obtain ⟨x3, q3, hm⟩ := Kc hm
 refine KN (Kl4 a0 x3 q3) rfl rfl rfl rfl rfl Wl ?_
 rintro _ rfl
 iterate 9 refine pu ?_
 refine KK ?_
 refine Kai (d := KL a0) 0 htab rfl rfl rfl rfl rfl rfl rfl rfl ?_
 obtain ⟨x4, q4, hm⟩ := Kc hm
 refine KN (Kir a0 x4 q4) rfl rfl rfl rfl rfl Wl ?_
 rintro _ rfl
 iterate 7 refine pu ?_
 refine Kb ?_
 refine Kg ?_
 refine Kg ?_
 obtain ⟨y9, q9, ho9⟩ := Kc hm
 refine K5 (Y := Unit) (fun z9 => (⟨[(3, .ptr b2 0), (58, .v (.bool y9))], [(b2, Blk.cells [.v (.int .i64 a1.gKind), .lst 1 (a1.gText.map byteD) .no, .v (.string a1.gName)] 34)], []⟩ : S)) ?_ ?_
 ·clear hm; have hm := Kw q9
  refine bycB (x3.2.2.2 != x4.2.2) (fun hs10 => ?_) (fun hs10 => ?_)
  ·replace hm := yes_t hs10 hm
   refine KZ 27 [] [[],[],[],[],[],[],[],[],[],[],[],[],[],[],[],[],[],[],[],[],[],[],[],[],[],[],[]] [] Kht (by kernel_rfl) (by kernel_rfl) (by kernel_rfl) (by rfl) (by rfl) (by kernel_rfl) ?_
   intro bs
   iterate 4 refine zqp ?_
   refine Kas (j := 31) (b' := true) rfl hs10 ?_
   iterate 3 refine zK ?_
   refine z_q rfl rfl (KcI rfl rfl rfl) rfl rfl rfl rfl rfl rfl ?_
   refine zqp ?_
   iterate 3 refine zK ?_
   refine z_q rfl rfl (KcI rfl rfl rfl) rfl rfl rfl rfl rfl rfl ?_
   refine zqp ?_
   iterate 5 refine zK ?_
   refine z_q rfl rfl (KcI rfl rfl rfl) rfl rfl rfl rfl rfl rfl ?_
   refine zqp ?_
   iterate 6 refine zK ?_
   refine z_nil rfl rfl (fun e he => by simp [isAl] at he) ?_
   iterate 3 refine pK ?_
   refine K3 rfl rfl rfl rfl rfl rfl ?_
   refine Ky ?_
   have e9 := Ke hm; subst e9
   refine ⟨rfl, ?_⟩
   exact WkX.of () (WkS.perm (WkS.cons rfl (Wk.refl _) (WkS.cons rfl (Wk.refl _) (WkS.nil))) ((Kah (j := 1) rfl).trans (List.Perm.cons _ Pf)) Pf)
  ·replace hm := yes_f hs10 hm
   refine bycB (x3.2.1 != x4.1) (fun hs11 => ?_) (fun hs11 => ?_)
   ·replace hm := yes_t hs11 hm
    refine KZ 27 [] [[],[],[],[],[],[],[],[],[],[],[],[],[],[],[],[],[],[],[],[],[],[],[],[],[],[],[]] [] Kht (by kernel_rfl) (by kernel_rfl) (by kernel_rfl) (by rfl) (by rfl) (by kernel_rfl) ?_
    intro bs
    iterate 4 refine zqp ?_
    refine Kas (j := 31) (b' := false) rfl hs10 ?_
    iterate 3 refine zqp ?_
    refine z_q rfl rfl (Ka6 rfl rfl rfl) rfl rfl rfl rfl rfl rfl ?_
    refine zqp ?_
    refine Kas (j := 36) (b' := true) rfl hs11 ?_
    iterate 3 refine zK ?_
    refine z_q rfl rfl (KcI rfl rfl rfl) rfl rfl rfl rfl rfl rfl ?_
    refine zqp ?_
    iterate 5 refine zK ?_
    refine z_q rfl rfl (KcI rfl rfl rfl) rfl rfl rfl rfl rfl rfl ?_
    refine zqp ?_
    iterate 6 refine zK ?_
    refine z_nil rfl rfl (fun e he => by simp [isAl] at he) ?_
    iterate 3 refine pK ?_
    refine K3 rfl rfl rfl rfl rfl rfl ?_
    refine Ky ?_
    have e9 := Ke hm; subst e9
    refine ⟨rfl, ?_⟩
    exact WkX.of () (WkS.perm (WkS.cons rfl (Wk.refl _) (WkS.cons rfl (Wk.refl _) (WkS.nil))) ((Kah (j := 1) rfl).trans (List.Perm.cons _ Pf)) Pf)
   ·replace hm := yes_f hs11 hm
    refine bycB (x3.2.2.1 != x4.2.1) (fun hs12 => ?_) (fun hs12 => ?_)
    ·replace hm := yes_t hs12 hm
     refine KZ 27 [] [[],[],[],[],[],[],[],[],[],[],[],[],[],[],[],[],[],[],[],[],[],[],[],[],[],[],[]] [] Kht (by kernel_rfl) (by kernel_rfl) (by kernel_rfl) (by rfl) (by rfl) (by kernel_rfl) ?_
     intro bs
     iterate 4 refine zqp ?_
     refine Kas (j := 31) (b' := false) rfl hs10 ?_
     iterate 3 refine zqp ?_
     refine z_q rfl rfl (Ka6 rfl rfl rfl) rfl rfl rfl rfl rfl rfl ?_
     refine zqp ?_
     refine Kas (j := 36) (b' := false) rfl hs11 ?_
     iterate 3 refine zqp ?_
     refine z_q rfl rfl (Ka6 rfl rfl rfl) rfl rfl rfl rfl rfl rfl ?_
     refine zqp ?_
     refine Kas (j := 41) (b' := true) rfl hs12 ?_
     iterate 5 refine zK ?_
     refine z_q rfl rfl (KcI rfl rfl rfl) rfl rfl rfl rfl rfl rfl ?_
     refine zqp ?_
     iterate 6 refine zK ?_
     refine z_nil rfl rfl (fun e he => by simp [isAl] at he) ?_
     iterate 3 refine pK ?_
     refine K3 rfl rfl rfl rfl rfl rfl ?_
     refine Ky ?_
     have e9 := Ke hm; subst e9
     refine ⟨rfl, ?_⟩
     exact WkX.of () (WkS.perm (WkS.cons rfl (Wk.refl _) (WkS.cons rfl (Wk.refl _) (WkS.nil))) ((Kah (j := 1) rfl).trans (List.Perm.cons _ Pf)) Pf)
    ·replace hm := yes_f hs12 hm
     refine bycB (!(true == (x4.2.2 != (0 : Int)))) (fun hs13 => ?_) (fun hs13 => ?_)
     ·replace hm := yes_t hs13 hm
      refine KZ 27 [] [[],[],[],[],[],[],[],[],[],[],[],[],[],[],[],[14],[],[],[14],[14],[14],[14],[14],[14],[14],[14],[14]] [14] Kht (by kernel_rfl) (by kernel_rfl) (by kernel_rfl) (by rfl) (by rfl) (by kernel_rfl) ?_
      apply Exists.intro
      intro bs
      iterate 4 refine zqp ?_
      refine Kas (j := 31) (b' := false) rfl hs10 ?_
      iterate 3 refine zqp ?_
      refine z_q rfl rfl (Ka6 rfl rfl rfl) rfl rfl rfl rfl rfl rfl ?_
      refine zqp ?_
      refine Kas (j := 36) (b' := false) rfl hs11 ?_
      iterate 3 refine zqp ?_
      refine z_q rfl rfl (Ka6 rfl rfl rfl) rfl rfl rfl rfl rfl rfl ?_
      refine zqp ?_
      refine Kas (j := 41) (b' := false) rfl hs12 ?_
      refine zep ?_
      refine z_q rfl rfl (x_eqP htab rfl rfl rfl rfl rfl rfl rfl) rfl rfl rfl rfl rfl rfl ?_
      iterate 3 refine zqp ?_
      refine z_q rfl rfl (Ka6 rfl rfl rfl) rfl rfl rfl rfl rfl rfl ?_
      refine zqp ?_
      refine Kas (j := 48) (b' := true) rfl hs13 ?_
      iterate 6 refine zK ?_
      refine z_nil rfl rfl (fun e he => by simp [isAl] at he) ?_
      iterate 3 refine pK ?_
      refine K3 rfl rfl rfl rfl rfl rfl ?_
      refine Ky ?_
      have e9 := Ke hm; subst e9
      refine ⟨rfl, ?_⟩
      exact WkX.of () (WkS.perm (WkS.cons rfl (Wk.refl _) (WkS.cons rfl (Wk.refl _) (WkS.nil))) ((Kah (j := 1) rfl).trans (List.Perm.cons _ Pf)) Pf)
     ·replace hm := yes_f hs13 hm
      refine KZ 27 [] [[],[],[],[],[],[],[],[],[],[],[],[],[],[],[],[14],[],[],[14],[14],[14],[14],[14,21],[14,21],[14,21],[14,21],[14,21]] [14,21] Kht (by kernel_rfl) (by kernel_rfl) (by kernel_rfl) (by rfl) (by rfl) (by kernel_rfl) ?_
      apply Exists.intro
      apply Exists.intro
      intro bs
      iterate 4 refine zqp ?_
      refine Kas (j := 31) (b' := false) rfl hs10 ?_
      iterate 3 refine zqp ?_
      refine z_q rfl rfl (Ka6 rfl rfl rfl) rfl rfl rfl rfl rfl rfl ?_
      refine zqp ?_
      refine Kas (j := 36) (b' := false) rfl hs11 ?_
      iterate 3 refine zqp ?_
      refine z_q rfl rfl (Ka6 rfl rfl rfl) rfl rfl rfl rfl rfl rfl ?_
      refine zqp ?_
      refine Kas (j := 41) (b' := false) rfl hs12 ?_
      refine zep ?_
      refine z_q rfl rfl (x_eqP htab rfl rfl rfl rfl rfl rfl rfl) rfl rfl rfl rfl rfl rfl ?_
      iterate 3 refine zqp ?_
      refine z_q rfl rfl (Ka6 rfl rfl rfl) rfl rfl rfl rfl rfl rfl ?_
      refine zqp ?_
      refine Kas (j := 48) (b' := false) rfl hs13 ?_
      refine zep ?_
      refine z_q rfl rfl (x_eqP htab rfl rfl rfl rfl rfl rfl rfl) rfl rfl rfl rfl rfl rfl ?_
      refine zqp ?_
      iterate 3 refine zK ?_
      refine z_nil rfl rfl (fun e he => by simp [isAl] at he) ?_
      refine pK ?_
      refine pK ?_
      refine KO rfl rfl rfl rfl rfl rfl ?_
      refine KO rfl rfl rfl rfl rfl rfl ?_
      refine Ky ?_
      have e9 := Ke hm; subst e9
      refine ⟨rfl, ?_⟩
      exact WkX.of () (WkS.perm (WkS.cons rfl (Wk.refl _) (WkS.cons rfl (Wk.refl _) (WkS.nil))) ((Kah (j := 1) rfl).trans (List.Perm.cons _ Pf)) Pf)
 ·intro s9 hw9; clear hm; have hm := ho9; clear q9 ho9
  refine Ka ?_
  refine KQ hw9 (fun z9 => ?_)
  refine Kk rfl (fun hc15 => ?_) (fun hc15 => ?_)
  ·replace hm := yes_t hc15 hm
   refine Kd ?_
   refine pu ?_
   refine Kb ?_
   refine Kr ?_
   refine Kt ?_
   have er16 := Ke hm; subst er16
   refine rP (t' := [(4, .v (.bool false))]) [] [] 0 (wC wN) (lT lN) ?_
   exact ⟨rfl, rfl, rfl⟩
  ·replace hm := yes_f hc15 hm
   refine Kp ?_
   refine Ka ?_
   refine Kd ?_
   refine pu ?_
   refine KK ?_
   refine pu ?_
   refine Kai (d := Kbp a1) 0 htab rfl rfl rfl rfl rfl rfl rfl rfl ?_
   obtain ⟨x17, q17, hm⟩ := Kc hm
   refine KN (Kkf a1 x17 q17) rfl rfl rfl rfl rfl Wl ?_
   rintro _ rfl
   iterate 5 refine pu ?_
   refine KK ?_
   iterate 3 refine pu ?_
   refine Kaj (i := 67) rfl (fun hg18 => ?_) (fun hg18 => ?_)
   ·replace hm := yes_t hg18 hm
    refine pu ?_
    refine pu ?_
    refine K3 rfl rfl rfl rfl rfl rfl ?_
    refine pu ?_
    refine Kaj (i := 71) rfl (fun hg19 => ?_) (fun hg19 => ?_)
    ·replace hm := yes_t hg19 hm
     refine pu ?_
     obtain ⟨x20, q20, hm⟩ := Kc hm
     refine KN (KfH x20 q20) rfl rfl rfl rfl rfl Wl ?_
     rintro _ rfl
     refine pu ?_
     refine K3 rfl rfl rfl rfl rfl rfl ?_
     refine pu ?_
     refine Kaj (i := 76) rfl (fun hg21 => ?_) (fun hg21 => ?_)
     ·replace hm := yes_t hg21 hm
      refine pu ?_
      obtain ⟨x22, q22, hm⟩ := Kc hm
      refine KN (KeO x22 q22) rfl rfl rfl rfl rfl Wl ?_
      rintro _ rfl
      refine pu ?_
      refine Kaa htab rfl rfl rfl rfl rfl rfl rfl (by first | exact KM | rfl) ?_
      refine pu ?_
      refine K3 rfl rfl rfl rfl rfl rfl ?_
      refine pu ?_
      refine Kaj (i := 83) rfl (fun hg23 => ?_) (fun hg23 => ?_)
      ·replace hm := yes_t hg23 hm
       obtain ⟨x24, q24, hm⟩ := Kc hm
       refine KN (KjN x24 q24) rfl rfl rfl rfl rfl Wl ?_
       rintro _ rfl
       refine K3 rfl rfl rfl rfl rfl rfl ?_
       refine pu ?_
       refine Kb ?_
       refine Kr ?_
       have er25 := Ke hm; subst er25
       refine rP (t' := [(4, .v (.bool x24))]) [] [] 0 (wC wN) (lT lN) ?_
       exact ⟨rfl, rfl, rfl⟩
      ·replace hm := yes_f hg23 hm
       refine pK ?_
       refine KO rfl rfl rfl rfl rfl rfl ?_
       refine pu ?_
       refine Kb ?_
       refine Kr ?_
       have er26 := Ke hm; subst er26
       refine rP (t' := [(4, .v (.bool false))]) [] [] 0 (wC wN) (lT lN) ?_
       exact ⟨rfl, rfl, rfl⟩
     ·replace hm := yes_f hg21 hm
      iterate 5 refine pK ?_
      refine KO rfl rfl rfl rfl rfl rfl ?_
      refine pu ?_
      refine pK ?_
      refine KO rfl rfl rfl rfl rfl rfl ?_
      refine pu ?_
      refine Kb ?_
      refine Kr ?_
      have er27 := Ke hm; subst er27
      refine rP (t' := [(4, .v (.bool false))]) [] [] 0 (wC wN) (lT lN) ?_
      exact ⟨rfl, rfl, rfl⟩
    ·replace hm := yes_f hg19 hm
     iterate 3 refine pK ?_
     refine KO rfl rfl rfl rfl rfl rfl ?_
     refine pu ?_
     iterate 5 refine pK ?_
     refine KO rfl rfl rfl rfl rfl rfl ?_
     refine pu ?_
     refine pK ?_
     refine KO rfl rfl rfl rfl rfl rfl ?_
     refine pu ?_
     refine Kb ?_
     refine Kr ?_
     have er28 := Ke hm; subst er28
     refine rP (t' := [(4, .v (.bool false))]) [] [] 0 (wC wN) (lT lN) ?_
     exact ⟨rfl, rfl, rfl⟩
   ·replace hm := yes_f hg18 hm
    refine pK ?_
    refine pK ?_
    refine KO rfl rfl rfl rfl rfl rfl ?_
    refine pu ?_
    iterate 3 refine pK ?_
    refine KO rfl rfl rfl rfl rfl rfl ?_
    refine pu ?_
    iterate 5 refine pK ?_
    refine KO rfl rfl rfl rfl rfl rfl ?_
    refine pu ?_
    refine pK ?_
    refine KO rfl rfl rfl rfl rfl rfl ?_
    refine pu ?_
    refine Kb ?_
    refine Kr ?_
    have er29 := Ke hm; subst er29
    refine rP (t' := [(4, .v (.bool false))]) [] [] 0 (wC wN) (lT lN) ?_
    exact ⟨rfl, rfl, rfl⟩
end Go.Proofs.YtipfljkjjddapaaGreatDoor.Ab
namespace Go.Proofs.YtipfljkjjddapaaGreatDoor.Ab
open Go
set_option linter.all false
noncomputable def KgR (a0 : Kl) : Option (Kan × Int × Int × Int) :=
 ((KbZ a0).bind fun x2 => (bif (x2.2.2 != (0 : Int)) then none else ((Kb0 a0).bind fun x7 => some ((⟨x7⟩ : Kan), (0 : Int), (0 : Int), (0 : Int)))))
theorem Kl5 (a0 : Kl) (r : Kan × Int × Int × Int) (h0 : KgR a0 = some r) : CallsD Tryz.prog 19 [KL a0] [] [] (fun d h k => ∃ y0 y1 y2, d = .tup [.ptr y0 0, .v (.int .i64 r.2.1), .v (.int .i64 r.2.2.1), .v (.int .i64 r.2.2.2)] ∧ h = [(y0, Blk.cells [.lst 4 (r.1.gP.gGlobals.map Ks) (.cur y1), .lst 5 (r.1.gP.gFuncs.map Ko) (.cur y2)] 59)] ∧ k = [(4, y1), (5, y2)]) := by
 have hm := Kw h0
 unfold KgR at hm
 clear h0
 refine K0 htab Tryz.func19 rfl rfl rfl rfl rfl (fun C => ?_)
 refine Kd ?_
 refine p_box rfl rfl rfl rfl rfl rfl rfl (fun b1 => ?_)
 iterate 4 refine pu ?_
 refine KK ?_
 refine Kai (d := KL a0) 0 htab rfl rfl rfl rfl rfl rfl rfl rfl ?_
 obtain ⟨x2, q2, hm⟩ := Kc hm
 refine KN (Kfo a0 x2 q2) rfl rfl rfl rfl rfl Wl ?_
 rintro _ rfl
 iterate 7 refine pu ?_
 refine Kb ?_
 refine Kg ?_
 refine Kd ?_
 refine pu ?_
 refine pu ?_
 refine Kb ?_
 refine Kk rfl (fun hc4 => ?_) (fun hc4 => ?_)
 ·replace hm := yes_t hc4 hm
  refine Kd ?_
  iterate 7 refine pu ?_
  exact (KR hm).elim
 ·replace hm := yes_f hc4 hm
  refine Kp ?_
  refine Ka ?_
  refine Kd ?_
  refine Kai (d := KL a0) 0 htab rfl rfl rfl rfl rfl rfl rfl rfl ?_
  obtain ⟨x7, q7, hm⟩ := Kc hm
  refine pG (Kfr a0 x7 q7) Wl Pf Pf ?_
  rintro _ _ _ ⟨w5, w6, rfl, rfl, rfl⟩
  refine Kdg (r := [.lst 4 (x7.gGlobals.map Ks) (.cur w5), .lst 5 (x7.gFuncs.map Ko) (.cur w6)]) htab rfl rfl rfl rfl rfl rfl rfl rfl rfl ?_
  refine p_box rfl rfl rfl rfl rfl rfl rfl (fun b8 => ?_)
  iterate 4 refine pu ?_
  refine Kb ?_
  refine Kr ?_
  have er9 := Ke hm; subst er9
  refine rP (t' := [(2, .ptr b8 0), (3, .v (.int .i64 (0 : Int))), (4, .v (.int .i64 (0 : Int))), (5, .v (.int .i64 (0 : Int)))]) [1] [0,0] 1 (wC (wC (wC (wC wN)))) (lT (lT (lT (lT lN)))) ?_
  exact ⟨b8, w5, w6, rfl, rfl, rfl⟩
abbrev Khu : List (List Nat) := nlD [] [(0,[]),(0,[]),(0,[0,1]),(3,[2]),(4,[3]),(5,[]),(5,[4,5]),(7,[6]),(8,[7]),(9,[8]),(9,[8]),(10,[9,10]),(12,[11]),(13,[12]),(14,[13]),(15,[14]),(15,[]),(15,[16]),(16,[15,16,17]),(19,[18]),(20,[19]),(21,[20]),(22,[21]),(23,[22]),(24,[23]),(25,[24]),(25,[]),(26,[25,26]),(28,[27]),(29,[28]),(30,[29])]
noncomputable def Kfj (a0 : Kl) (a1 : KaU) : Option (Bool) :=
 ((KgR a0).bind fun x6 => ((Kel a0).bind fun x7 => (Option.bind (α := Bool) (bif (x6.2.2.2 != x7.2.2) then some true else (bif (x6.2.1 != x7.1) then some true else (bif (x6.2.2.1 != x7.2.1) then some true else (bif (!(false == (x7.2.2 != (0 : Int)))) then some true else ((KbC x6.1).bind fun x19 => ((Khh x19 a0 true).bind fun x20 => some (!x20))))))) fun y14 => (bif y14 then some false else ((Kgo a1).bind fun x24 => (bif (x24.1 == (0 : Int)) then (bif (x24.2 == (1 : Int)) then (store_Store_Text_A.bind fun x27 => (bif (decide (x27 = (ByteArray.mk #[]))) then (store_Store_Program_A.bind fun x29 => (bif ((x29.gFuncs.length : Int) == (0 : Int)) then (l36_lives.bind fun x31 => some x31) else some false)) else some false)) else some false) else some false))))))
theorem KkF (a0 : Kl) (a1 : KaU) (r : Bool) (h0 : Kfj a0 a1 = some r) : CallsD Tryz.prog 5 [KL a0, Kbp a1] [] [] (fun d h k => d = .v (.bool r) ∧ h = [] ∧ k = []) := by
 have hm := Kw h0
 unfold Kfj at hm
 clear h0
 refine K0 htab Tryz.func5 rfl rfl rfl rfl rfl (fun C => ?_)
 refine Kd ?_
 refine p_box rfl rfl rfl rfl rfl rfl rfl (fun b1 => ?_)
 refine p_box rfl rfl rfl rfl rfl rfl rfl (fun b2 => ?_)
 refine pu ?_
 refine KK ?_
 refine Kai (d := KL a0) 0 htab rfl rfl rfl rfl rfl rfl rfl rfl ?_
 obtain ⟨x6, q6, hm⟩ := Kc hm
 refine pG (Kl5 a0 x6 q6) Wl Pf Pf ?_
 rintro _ _ _ ⟨w3, w4, w5, rfl, rfl, rfl⟩
 iterate 9 refine pu ?_
 refine KK ?_
 refine Kai (d := KL a0) 1 htab rfl rfl rfl rfl rfl rfl rfl rfl ?_
 obtain ⟨x7, q7, hm⟩ := Kc hm
 refine KN (Kir a0 x7 q7) rfl rfl rfl rfl rfl Wl ?_
 rintro _ rfl
 iterate 7 refine pu ?_
 refine Kb ?_
 refine Kg ?_
 refine Kg ?_
 obtain ⟨y14, q14, ho14⟩ := Kc hm
 refine K5 (Y := Unit) (fun z14 => (⟨[(3, .ptr b2 0), (58, .v (.bool y14))], [(b2, Blk.cells [.v (.int .i64 a1.gKind), .lst 1 (a1.gText.map byteD) .no, .v (.string a1.gName)] 34)], []⟩ : S)) ?_ ?_
 ·clear hm; have hm := Kw q14
  refine bycB (x6.2.2.2 != x7.2.2) (fun hs15 => ?_) (fun hs15 => ?_)
  ·replace hm := yes_t hs15 hm
   refine KZ 27 [] [[],[],[],[],[],[],[],[],[],[],[],[],[],[],[],[],[],[],[],[],[],[],[],[],[],[],[]] [] Khu (by kernel_rfl) (by kernel_rfl) (by kernel_rfl) (by rfl) (by rfl) (by kernel_rfl) ?_
   intro bs
   iterate 4 refine zqp ?_
   refine Kas (j := 31) (b' := true) rfl hs15 ?_
   iterate 3 refine zK ?_
   refine z_q rfl rfl (KcI rfl rfl rfl) rfl rfl rfl rfl rfl rfl ?_
   refine zqp ?_
   iterate 3 refine zK ?_
   refine z_q rfl rfl (KcI rfl rfl rfl) rfl rfl rfl rfl rfl rfl ?_
   refine zqp ?_
   iterate 5 refine zK ?_
   refine z_q rfl rfl (KcI rfl rfl rfl) rfl rfl rfl rfl rfl rfl ?_
   refine zqp ?_
   iterate 6 refine zK ?_
   refine z_nil rfl rfl (fun e he => by simp [isAl] at he) ?_
   iterate 3 refine pK ?_
   refine K3 rfl rfl rfl rfl rfl rfl ?_
   refine Ky ?_
   have e14 := Ke hm; subst e14
   refine ⟨rfl, ?_⟩
   exact WkX.of () (WkS.perm (WkS.cons rfl (Wk.refl _) (WkS.cons rfl (Wk.refl _) (WkS.nil))) ((Kah (j := 2) rfl).trans (List.Perm.cons _ Pf)) Pf)
  ·replace hm := yes_f hs15 hm
   refine bycB (x6.2.1 != x7.1) (fun hs16 => ?_) (fun hs16 => ?_)
   ·replace hm := yes_t hs16 hm
    refine KZ 27 [] [[],[],[],[],[],[],[],[],[],[],[],[],[],[],[],[],[],[],[],[],[],[],[],[],[],[],[]] [] Khu (by kernel_rfl) (by kernel_rfl) (by kernel_rfl) (by rfl) (by rfl) (by kernel_rfl) ?_
    intro bs
    iterate 4 refine zqp ?_
    refine Kas (j := 31) (b' := false) rfl hs15 ?_
    iterate 3 refine zqp ?_
    refine z_q rfl rfl (Ka6 rfl rfl rfl) rfl rfl rfl rfl rfl rfl ?_
    refine zqp ?_
    refine Kas (j := 36) (b' := true) rfl hs16 ?_
    iterate 3 refine zK ?_
    refine z_q rfl rfl (KcI rfl rfl rfl) rfl rfl rfl rfl rfl rfl ?_
    refine zqp ?_
    iterate 5 refine zK ?_
    refine z_q rfl rfl (KcI rfl rfl rfl) rfl rfl rfl rfl rfl rfl ?_
    refine zqp ?_
    iterate 6 refine zK ?_
    refine z_nil rfl rfl (fun e he => by simp [isAl] at he) ?_
    iterate 3 refine pK ?_
    refine K3 rfl rfl rfl rfl rfl rfl ?_
    refine Ky ?_
    have e14 := Ke hm; subst e14
    refine ⟨rfl, ?_⟩
    exact WkX.of () (WkS.perm (WkS.cons rfl (Wk.refl _) (WkS.cons rfl (Wk.refl _) (WkS.nil))) ((Kah (j := 2) rfl).trans (List.Perm.cons _ Pf)) Pf)
   ·replace hm := yes_f hs16 hm
    refine bycB (x6.2.2.1 != x7.2.1) (fun hs17 => ?_) (fun hs17 => ?_)
    ·replace hm := yes_t hs17 hm
     refine KZ 27 [] [[],[],[],[],[],[],[],[],[],[],[],[],[],[],[],[],[],[],[],[],[],[],[],[],[],[],[]] [] Khu (by kernel_rfl) (by kernel_rfl) (by kernel_rfl) (by rfl) (by rfl) (by kernel_rfl) ?_
     intro bs
     iterate 4 refine zqp ?_
     refine Kas (j := 31) (b' := false) rfl hs15 ?_
     iterate 3 refine zqp ?_
     refine z_q rfl rfl (Ka6 rfl rfl rfl) rfl rfl rfl rfl rfl rfl ?_
     refine zqp ?_
     refine Kas (j := 36) (b' := false) rfl hs16 ?_
     iterate 3 refine zqp ?_
     refine z_q rfl rfl (Ka6 rfl rfl rfl) rfl rfl rfl rfl rfl rfl ?_
     refine zqp ?_
     refine Kas (j := 41) (b' := true) rfl hs17 ?_
     iterate 5 refine zK ?_
     refine z_q rfl rfl (KcI rfl rfl rfl) rfl rfl rfl rfl rfl rfl ?_
     refine zqp ?_
     iterate 6 refine zK ?_
     refine z_nil rfl rfl (fun e he => by simp [isAl] at he) ?_
     iterate 3 refine pK ?_
     refine K3 rfl rfl rfl rfl rfl rfl ?_
     refine Ky ?_
     have e14 := Ke hm; subst e14
     refine ⟨rfl, ?_⟩
     exact WkX.of () (WkS.perm (WkS.cons rfl (Wk.refl _) (WkS.cons rfl (Wk.refl _) (WkS.nil))) ((Kah (j := 2) rfl).trans (List.Perm.cons _ Pf)) Pf)
    ·replace hm := yes_f hs17 hm
     refine bycB (!(false == (x7.2.2 != (0 : Int)))) (fun hs18 => ?_) (fun hs18 => ?_)
     ·replace hm := yes_t hs18 hm
      refine KZ 27 [] [[],[],[],[],[],[],[],[],[],[],[],[],[],[],[],[14],[],[],[14],[14],[14],[14],[14],[14],[14],[14],[14]] [14] Khu (by kernel_rfl) (by kernel_rfl) (by kernel_rfl) (by rfl) (by rfl) (by kernel_rfl) ?_
      apply Exists.intro
      intro bs
      iterate 4 refine zqp ?_
      refine Kas (j := 31) (b' := false) rfl hs15 ?_
      iterate 3 refine zqp ?_
      refine z_q rfl rfl (Ka6 rfl rfl rfl) rfl rfl rfl rfl rfl rfl ?_
      refine zqp ?_
      refine Kas (j := 36) (b' := false) rfl hs16 ?_
      iterate 3 refine zqp ?_
      refine z_q rfl rfl (Ka6 rfl rfl rfl) rfl rfl rfl rfl rfl rfl ?_
      refine zqp ?_
      refine Kas (j := 41) (b' := false) rfl hs17 ?_
      refine zep ?_
      refine z_q rfl rfl (x_eqP htab rfl rfl rfl rfl rfl rfl rfl) rfl rfl rfl rfl rfl rfl ?_
      iterate 3 refine zqp ?_
      refine z_q rfl rfl (Ka6 rfl rfl rfl) rfl rfl rfl rfl rfl rfl ?_
      refine zqp ?_
      refine Kas (j := 48) (b' := true) rfl hs18 ?_
      iterate 6 refine zK ?_
      refine z_nil rfl rfl (fun e he => by simp [isAl] at he) ?_
      iterate 3 refine pK ?_
      refine K3 rfl rfl rfl rfl rfl rfl ?_
      refine Ky ?_
      have e14 := Ke hm; subst e14
      refine ⟨rfl, ?_⟩
      exact WkX.of () (WkS.perm (WkS.cons rfl (Wk.refl _) (WkS.cons rfl (Wk.refl _) (WkS.nil))) ((Kah (j := 2) rfl).trans (List.Perm.cons _ Pf)) Pf)
     ·replace hm := yes_f hs18 hm
      obtain ⟨x19, q19, hm⟩ := Kc hm
      refine KZ 27 [] [[],[],[],[],[],[],[],[],[],[],[],[],[],[],[],[14],[],[],[14],[14],[14],[14],[14,21],[14,21],[14,21],[14,21,24],[14,21]] [14,21,24,25,26] Khu (by kernel_rfl) (by kernel_rfl) (by kernel_rfl) (by rfl) (by rfl) (by kernel_rfl) ?_
      iterate 5 apply Exists.intro
      intro bs
      iterate 4 refine zqp ?_
      refine Kas (j := 31) (b' := false) rfl hs15 ?_
      iterate 3 refine zqp ?_
      refine z_q rfl rfl (Ka6 rfl rfl rfl) rfl rfl rfl rfl rfl rfl ?_
      refine zqp ?_
      refine Kas (j := 36) (b' := false) rfl hs16 ?_
      iterate 3 refine zqp ?_
      refine z_q rfl rfl (Ka6 rfl rfl rfl) rfl rfl rfl rfl rfl rfl ?_
      refine zqp ?_
      refine Kas (j := 41) (b' := false) rfl hs17 ?_
      refine zep ?_
      refine z_q rfl rfl (x_eqP htab rfl rfl rfl rfl rfl rfl rfl) rfl rfl rfl rfl rfl rfl ?_
      iterate 3 refine zqp ?_
      refine z_q rfl rfl (Ka6 rfl rfl rfl) rfl rfl rfl rfl rfl rfl ?_
      refine zqp ?_
      refine Kas (j := 48) (b' := false) rfl hs18 ?_
      refine zep ?_
      refine z_q rfl rfl (x_eqP htab rfl rfl rfl rfl rfl rfl rfl) rfl rfl rfl rfl rfl rfl ?_
      refine zqp ?_
      refine zep ?_
      refine Kij 0 rfl rfl (Kfb x6.1 w3 59 (.cur w4) (.cur w5) x19 q19) rfl rfl Wl rfl rfl rfl rfl rfl rfl rfl ?_
      refine z_eM rfl rfl (KI (d := KL a0) 1 htab rfl rfl rfl rfl rfl) rfl rfl rfl rfl rfl rfl ?_
      refine z_nil rfl rfl (fun e he => by simp [isAl] at he) ?_
      obtain ⟨x20, q20, hm⟩ := Kc hm
      refine KN (Kmr x19 a0 true x20 q20) rfl rfl rfl rfl rfl Wl ?_
      rintro _ rfl
      refine pu ?_
      refine K3 rfl rfl rfl rfl rfl rfl ?_
      refine KO rfl rfl rfl rfl rfl rfl ?_
      refine Ky ?_
      have e14 := Ke hm; subst e14
      refine ⟨rfl, ?_⟩
      exact WkX.of () (WkS.perm (WkS.cons rfl (Wk.refl _) (WkS.cons rfl (Wk.refl _) (WkS.nil))) ((Kah (j := 2) rfl).trans (List.Perm.cons _ Pf)) Pf)
 ·intro s14 hw14; clear hm; have hm := ho14; clear q14 ho14
  refine Ka ?_
  refine KQ hw14 (fun z14 => ?_)
  refine Kk rfl (fun hc22 => ?_) (fun hc22 => ?_)
  ·replace hm := yes_t hc22 hm
   refine Kd ?_
   refine pu ?_
   refine Kb ?_
   refine Kr ?_
   refine Kt ?_
   have er23 := Ke hm; subst er23
   refine rP (t' := [(4, .v (.bool false))]) [] [] 0 (wC wN) (lT lN) ?_
   exact ⟨rfl, rfl, rfl⟩
  ·replace hm := yes_f hc22 hm
   refine Kp ?_
   refine Ka ?_
   refine Kd ?_
   refine pu ?_
   refine KK ?_
   refine pu ?_
   refine Kai (d := Kbp a1) 0 htab rfl rfl rfl rfl rfl rfl rfl rfl ?_
   obtain ⟨x24, q24, hm⟩ := Kc hm
   refine KN (Kkf a1 x24 q24) rfl rfl rfl rfl rfl Wl ?_
   rintro _ rfl
   iterate 5 refine pu ?_
   refine KK ?_
   iterate 3 refine pu ?_
   refine Kaj (i := 67) rfl (fun hg25 => ?_) (fun hg25 => ?_)
   ·replace hm := yes_t hg25 hm
    refine pu ?_
    refine pu ?_
    refine K3 rfl rfl rfl rfl rfl rfl ?_
    refine pu ?_
    refine Kaj (i := 71) rfl (fun hg26 => ?_) (fun hg26 => ?_)
    ·replace hm := yes_t hg26 hm
     refine pu ?_
     obtain ⟨x27, q27, hm⟩ := Kc hm
     refine KN (KfH x27 q27) rfl rfl rfl rfl rfl Wl ?_
     rintro _ rfl
     refine pu ?_
     refine K3 rfl rfl rfl rfl rfl rfl ?_
     refine pu ?_
     refine Kaj (i := 76) rfl (fun hg28 => ?_) (fun hg28 => ?_)
     ·replace hm := yes_t hg28 hm
      refine pu ?_
      obtain ⟨x29, q29, hm⟩ := Kc hm
      refine KN (KeO x29 q29) rfl rfl rfl rfl rfl Wl ?_
      rintro _ rfl
      refine pu ?_
      refine Kaa htab rfl rfl rfl rfl rfl rfl rfl (by first | exact KM | rfl) ?_
      refine pu ?_
      refine K3 rfl rfl rfl rfl rfl rfl ?_
      refine pu ?_
      refine Kaj (i := 83) rfl (fun hg30 => ?_) (fun hg30 => ?_)
      ·replace hm := yes_t hg30 hm
       obtain ⟨x31, q31, hm⟩ := Kc hm
       refine KN (KjN x31 q31) rfl rfl rfl rfl rfl Wl ?_
       rintro _ rfl
       refine K3 rfl rfl rfl rfl rfl rfl ?_
       refine pu ?_
       refine Kb ?_
       refine Kr ?_
       have er32 := Ke hm; subst er32
       refine rP (t' := [(4, .v (.bool x31))]) [] [] 0 (wC wN) (lT lN) ?_
       exact ⟨rfl, rfl, rfl⟩
      ·replace hm := yes_f hg30 hm
       refine pK ?_
       refine KO rfl rfl rfl rfl rfl rfl ?_
       refine pu ?_
       refine Kb ?_
       refine Kr ?_
       have er33 := Ke hm; subst er33
       refine rP (t' := [(4, .v (.bool false))]) [] [] 0 (wC wN) (lT lN) ?_
       exact ⟨rfl, rfl, rfl⟩
     ·replace hm := yes_f hg28 hm
      iterate 5 refine pK ?_
      refine KO rfl rfl rfl rfl rfl rfl ?_
      refine pu ?_
      refine pK ?_
      refine KO rfl rfl rfl rfl rfl rfl ?_
      refine pu ?_
      refine Kb ?_
      refine Kr ?_
      have er34 := Ke hm; subst er34
      refine rP (t' := [(4, .v (.bool false))]) [] [] 0 (wC wN) (lT lN) ?_
      exact ⟨rfl, rfl, rfl⟩
    ·replace hm := yes_f hg26 hm
     iterate 3 refine pK ?_
     refine KO rfl rfl rfl rfl rfl rfl ?_
     refine pu ?_
     iterate 5 refine pK ?_
     refine KO rfl rfl rfl rfl rfl rfl ?_
     refine pu ?_
     refine pK ?_
     refine KO rfl rfl rfl rfl rfl rfl ?_
     refine pu ?_
     refine Kb ?_
     refine Kr ?_
     have er35 := Ke hm; subst er35
     refine rP (t' := [(4, .v (.bool false))]) [] [] 0 (wC wN) (lT lN) ?_
     exact ⟨rfl, rfl, rfl⟩
   ·replace hm := yes_f hg25 hm
    refine pK ?_
    refine pK ?_
    refine KO rfl rfl rfl rfl rfl rfl ?_
    refine pu ?_
    iterate 3 refine pK ?_
    refine KO rfl rfl rfl rfl rfl rfl ?_
    refine pu ?_
    iterate 5 refine pK ?_
    refine KO rfl rfl rfl rfl rfl rfl ?_
    refine pu ?_
    refine pK ?_
    refine KO rfl rfl rfl rfl rfl rfl ?_
    refine pu ?_
    refine Kb ?_
    refine Kr ?_
    have er36 := Ke hm; subst er36
    refine rP (t' := [(4, .v (.bool false))]) [] [] 0 (wC wN) (lT lN) ?_
    exact ⟨rfl, rfl, rfl⟩
end Go.Proofs.YtipfljkjjddapaaGreatDoor.Ab
namespace Go.Proofs.YtipfljkjjddapaaGreatDoor.Ab
open Go
set_option linter.all false
mutual
def szE : Kh → Nat
 | ⟨_, _, _, ks, _⟩ => 1 + szEs ks
def szEs : List Kh → Nat
 | [] => 0
 | e :: l => szE e + szEs l
end
mutual
def dpE : Kh → Nat
 | ⟨_, _, _, ks, _⟩ => 1 + dpEs ks
def dpEs : List Kh → Nat
 | [] => 0
 | e :: l => max (dpE e) (dpEs l)
end
theorem KiG (e : Kh) : szE e = 1 + szEs e.gKids := by cases e; simp only [szE]
theorem Kgy (e : Kh) : dpE e = 1 + dpEs e.gKids := by cases e; simp only [dpE]
theorem KgX : ∀ {l : List Kh} {e : Kh}, e ∈ l → dpE e ≤ dpEs l
  | x :: l, e, h => by
    simp only [dpEs]
    rcases List.mem_cons.1 h with rfl | h
    · omega
    · have := KgX h; omega
theorem KgY : ∀ {l : List Kh} {e : Kh}, e ∈ l → szE e ≤ szEs l
  | x :: l, e, h => by
    simp only [szEs]
    rcases List.mem_cons.1 h with rfl | h
    · omega
    · have := KgY h; omega
def wE (e : Kh) : Nat := wt (Kn e)
def wEs (l : List Kh) : Nat := wts (l.map Kn)
theorem wE_eq (e : Kh) : wE e = e.gName.size + wEs e.gKids + 5 := by
 unfold wE wEs
 rw [KD]
 simp only [wt, wts, wtv]; omega
theorem wEs_cons (e : Kh) (l : List Kh) : wEs (e :: l) = wE e + wEs l := by unfold wEs wE; simp only [List.map_cons, wts]
mutual
theorem szE_le : ∀ e, szE e ≤ wE e
  | ⟨a, b, c, ks, d⟩ => by
    have := szEs_le ks
    rw [wE_eq]
    simp only [szE]; omega
theorem szEs_le : ∀ l, szEs l ≤ wEs l
  | [] => by simp [szEs]
  | e :: l => by
    have h1 := szE_le e
    have h2 := szEs_le l
    rw [wEs_cons]
    simp only [szEs]; omega
end
theorem KkG : ∀ l, l.length ≤ szEs l
  | [] => by simp
  | e :: l => by
    have := KkG l
    have h := KiG e
    simp only [szEs, List.length_cons]; omega
end Go.Proofs.YtipfljkjjddapaaGreatDoor.Ab
namespace Go.Proofs.YtipfljkjjddapaaGreatDoor.Ab
open Go
set_option linter.all false
def scan {α β τ : Type} (step : α → β → α ⊕ τ) (fin : α → τ) : α → List β → τ
 | a, [] => fin a
 | a, x :: l => match step a x with | .inl a' => scan step fin a' l | .inr t => t
theorem Kgz {σ τ α β : Type} {f : σ → Option (Step σ τ)} (l : List β) (step : α → β → α ⊕ τ) (fin : α → τ) (st : α → Nat → σ) (I : List β → α → Prop) (a0 : α) (hI0 : I [] a0)
    (hI : ∀ pre x post a a', l = pre ++ x :: post → I pre a → step a x = .inl a' → I (pre ++ [x]) a')
    (h1 : ∀ pre x post a, l = pre ++ x :: post → I pre a → f (st a pre.length) = some (Sum.elim (fun a' => .next (st a' (pre.length + 1))) .done (step a x)))
    (h2 : ∀ a, I l a → f (st a l.length) = some (.done (fin a))) : loopM f (st a0 0) = some (scan step fin a0 l) := by
  have key : ∀ (post pre : List β) (a : α), l = pre ++ post → I pre a → loopM f (st a pre.length) = some (scan step fin a post) := by
    intro post
    induction post with
    | nil => intro pre a h hi; rw [List.append_nil] at h; subst h; exact KbY (h2 a hi)
    | cons x post ih =>
      intro pre a h hi
      have h1' := h1 pre x post a h hi
      have hI' := hI pre x post a
      simp only [scan]
      cases hs : step a x with
      | inl a' =>
        rw [hs, Sum.elim_inl] at h1'
        rw [KeT h1']
        have := ih (pre ++ [x]) a' (by simp [h]) (hI' a' h hi hs)
        simpa using this
      | inr t => rw [hs, Sum.elim_inr] at h1'; exact KbY h1'
  exact key l [] a0 rfl hI0
theorem Kbc {τ β : Type} {f : Int → Option (Step Int τ)} (l : List β) (step : Unit → β → Unit ⊕ τ) (z : τ)
  (h1 : ∀ pre x post, l = pre ++ x :: post → f (pre.length : Int) = some (Sum.elim (fun _ => .next ((pre.length + 1 : Nat) : Int)) .done (step () x)))
  (h2 : f (l.length : Int) = some (.done z)) : loopM f (0 : Int) = some (scan step (fun _ => z) () l) :=
 Kgz l step (fun _ => z) (fun _ k => (k : Int)) (fun _ _ => True) () trivial (fun _ _ _ _ _ _ _ _ => trivial) (fun pre x post _ h _ => h1 pre x post h) (fun _ _ => h2)
theorem Kji {α τ β : Type} {f : α × Int → Option (Step (α × Int) τ)} (l : List β) (step : α → β → α ⊕ τ) (fin : α → τ) (I : List β → α → Prop) (a0 : α) (hI0 : I [] a0)
  (hI : ∀ pre x post a a', l = pre ++ x :: post → I pre a → step a x = .inl a' → I (pre ++ [x]) a')
  (h1 : ∀ pre x post a, l = pre ++ x :: post → I pre a → f (a, (pre.length : Int)) = some (Sum.elim (fun a' => .next (a', ((pre.length + 1 : Nat) : Int))) .done (step a x)))
  (h2 : ∀ a, I l a → f (a, (l.length : Int)) = some (.done (fin a))) : loopM f (a0, (0 : Int)) = some (scan step fin a0 l) :=
 Kgz l step fin (fun a k => (a, (k : Int))) I a0 hI0 hI h1 h2
def vk (n : ByteArray) : List K8 → Int
 | [] => 0
 | v :: l => if v.gName = n then (bif v.gPtr then 2 else 1) else vk n l
def gk (n : ByteArray) : List Kaw → Int
 | [] => 0
 | g :: l => if g.gName = n then (bif g.gPtr then 2 else bif decide (0 < g.gSize) then 3 else 1) else gk n l
theorem KlL (n : ByteArray) : ∀ l m, vk n (l ++ m) = if vk n l = 0 then vk n m else vk n l
  | [], m => by simp [vk]
  | v :: l, m => by
    simp only [List.cons_append, vk, KlL n l m]
    by_cases h : v.gName = n
    · simp only [h, if_true]; cases v.gPtr <;> simp
    · simp only [h, if_false]
theorem scan_vk {ρ : Type} (n : ByteArray) (c : Int → ρ) (z : ρ) : ∀ l : List K8, scan (fun (_ : Unit) v => if v.gName = n then .inr (c (bif v.gPtr then 2 else 1)) else .inl ()) (fun _ => z) () l = if vk n l = 0 then z else c (vk n l)
  | [] => by simp [scan, vk]
  | v :: l => by
    simp only [scan, vk]
    by_cases h : v.gName = n
    · simp only [h, if_true]; cases v.gPtr <;> simp
    · simp only [h, if_false]; exact scan_vk n c z l
theorem scan_gk {ρ : Type} (n : ByteArray) (c : Int → ρ) (z : ρ) : ∀ l : List Kaw, scan (fun (_ : Unit) g => if g.gName = n then .inr (c (bif g.gPtr then 2 else bif decide (0 < g.gSize) then 3 else 1)) else .inl ()) (fun _ => z) () l = if gk n l = 0 then z else c (gk n l)
  | [] => by simp [scan, gk]
  | v :: l => by
    simp only [scan, gk]
    by_cases h : v.gName = n
    · simp only [h, if_true]; cases v.gPtr <;> simp; by_cases h2 : 0 < v.gSize <;> simp [h2]
    · simp only [h, if_false]; exact scan_gk n c z l
theorem KjP (b : Bool) : KbS b = some (bif b then 2 else 1) := by unfold KbS; cases b <;> rfl
theorem Kjj {s : Kv} {n : ByteArray} (hb : s.gP.gGlobals.length ≤ 4611686018427387904) : KaO s n = some (gk n s.gP.gGlobals) := by
 unfold KaO
 rw [Kbc s.gP.gGlobals (fun (_ : Unit) g => if g.gName = n then .inr (Sum.inr (bif g.gPtr then 2 else bif decide (0 < g.gSize) then 3 else 1)) else .inl ()) (.inl ())
  (fun pre x post h => by
   simp only [KaW h, cond_true]
   rw [h, Ka3, Option.bind_some]
   by_cases hn : x.gName = n
   ·simp only [hn, decide_true, cond_true, if_true, KjP]
    by_cases h2 : 0 < x.gSize <;> cases x.gPtr <;> simp [h2]
   ·simp only [hn, decide_false, cond_false, if_false, KaI h hb]; rfl) (by simp)]
 rw [Option.bind_some, scan_gk n Sum.inr (Sum.inl ())]
 split
 ·rename_i h; simp [h]
 ·simp
theorem Kk4 {p : Kl} {n : ByteArray} (hb : p.gGlobals.length ≤ 4611686018427387904) : KeU p n = some (gk n p.gGlobals) := by
 unfold KeU
 rw [Kbc p.gGlobals (fun (_ : Unit) g => if g.gName = n then .inr (Sum.inr (bif g.gPtr then 2 else bif decide (0 < g.gSize) then 3 else 1)) else .inl ()) (.inl ())
  (fun pre x post h => by
   simp only [KaW h, cond_true]
   rw [h, Ka3, Option.bind_some]
   by_cases hn : x.gName = n
   ·simp only [hn, decide_true, cond_true, if_true]
    by_cases h2 : 0 < x.gSize <;> cases x.gPtr <;> simp [h2]
   ·simp only [hn, decide_false, cond_false, if_false, KaI h hb]; rfl) (by simp)]
 rw [Option.bind_some, scan_gk n Sum.inr (Sum.inl ())]
 split
 ·rename_i h; simp [h]
 ·simp
end Go.Proofs.YtipfljkjjddapaaGreatDoor.Ab
namespace Go.Proofs.YtipfljkjjddapaaGreatDoor.Ab
open Go
set_option linter.all false
theorem KlM {s : Kv} {n : ByteArray} (h1 : s.gF.gParams.length ≤ 4611686018427387904) (h2 : s.gF.gLocals.length ≤ 4611686018427387904) : KbB s n = some (vk n (s.gF.gParams ++ s.gF.gLocals)) := by
 unfold KbB
 have inner : ∀ x : List K8, x.length ≤ 4611686018427387904 → loopM (fun (s227 : Int) => (bif (decide (s227 < (x.length : Int))) then ((idx x s227).bind fun x241 => (bif (decide (x241.gName = n)) then ((KbS x241.gPtr).bind fun x244 => some (Step.done (τ := Unit ⊕ Int) (.inr x244))) else some (.next (IntKind.i64.wrap (s227 + (1 : Int)))))) else some (.done (.inl ())))) (0 : Int) = some (if vk n x = 0 then .inl () else .inr (vk n x)) := by
  intro x hb
  rw [Kbc x (fun (_ : Unit) v => if v.gName = n then .inr (Sum.inr (bif v.gPtr then 2 else 1)) else .inl ()) (.inl ())
   (fun pre x post h => by
    simp only [KaW h, cond_true]
    rw [h, Ka3, Option.bind_some]
    by_cases hn : x.gName = n
    ·simp only [hn, decide_true, cond_true, if_true, KjP]; rfl
    ·simp only [hn, decide_false, cond_false, if_false, KaI h hb]; rfl) (by simp), scan_vk n Sum.inr (Sum.inl ())]
 rw [Kbc [s.gF.gParams, s.gF.gLocals] (fun (_ : Unit) x => if vk n x = 0 then .inl () else .inr (Sum.inr (vk n x))) (.inl ())
  (fun pre x post h => by
   have hlt : decide ((pre.length : Int) < 2) = true := by simpa using KaW h
   simp only [hlt, cond_true]
   have hx : x.length ≤ 4611686018427387904 := by
    have := Kcu h
    simp only [List.mem_cons, List.not_mem_nil, or_false] at this
    rcases this with rfl | rfl <;> assumption
   rw [h, Ka3, Option.bind_some, inner x hx, Option.bind_some]
   have hi := KaI h (by simp)
   by_cases hn : vk n x = 0
   ·simp only [hn, if_true, Sum.elim_inl, hi]
   ·simp only [hn, if_false, Sum.elim_inr]) (by simp)]
 rw [Option.bind_some, KlL]
 simp only [scan]
 by_cases h1 : vk n s.gF.gParams = 0
 ·simp only [h1, if_true]
  by_cases h2 : vk n s.gF.gLocals = 0
  ·simp [h2]
  ·simp [h2]
 ·simp [h1]
theorem KlN {f : Km} {n : ByteArray} (hb : f.gParams.length + f.gLocals.length ≤ 8388608) : KeD f n = some (vk n (f.gParams ++ f.gLocals)) := by
 unfold KeD
 rw [Kfx (by omega) (by simp; omega), Option.bind_some, List.nil_append, Kfx (by omega) (by omega), Option.bind_some]
 rw [Kbc (f.gParams ++ f.gLocals) (fun (_ : Unit) v => if v.gName = n then .inr (Sum.inr (bif v.gPtr then 2 else 1)) else .inl ()) (.inl ())
  (fun pre x post h => by
   simp only [KaW h, cond_true]
   rw [h, Ka3, Option.bind_some, Option.bind_some]
   by_cases hn : x.gName = n
   ·simp only [hn, decide_true, cond_true, if_true]; cases x.gPtr <;> rfl
   ·simp only [hn, decide_false, cond_false, if_false, KaI h (by simp; omega)]; rfl) (by simp), Option.bind_some, scan_vk n Sum.inr (Sum.inl ())]
 split
 ·rename_i h; simp [h]
 ·simp
def kd (p : Kl) (f : Km) (n : ByteArray) : Int := if vk n (f.gParams ++ f.gLocals) = 0 then gk n p.gGlobals else vk n (f.gParams ++ f.gLocals)
structure Fit (p : Kl) (f : Km) : Prop where
 gl : p.gGlobals.length ≤ 1048576
 fu : p.gFuncs.length ≤ 1048576
 pa : ∀ g ∈ p.gFuncs, g.gParams.length ≤ 1048576
 fp : f.gParams.length ≤ 1048576
 fl : f.gLocals.length ≤ 1048576
theorem KkH {p : Kl} {f : Km} {n : ByteArray} (hf : Fit p f) : Kfp p f n = some (kd p f n) := by
 have := hf.gl; have := hf.fp; have := hf.fl
 unfold Kfp
 rw [KlN (by omega), Kk4 (by omega)]
 simp only [Option.bind_some]
 unfold kd
 by_cases h : vk n (f.gParams ++ f.gLocals) = 0
 ·simp [h]
 ·have h' : (vk n (f.gParams ++ f.gLocals) != 0) = true := by simpa using h
  simp only [h', cond_true, h, if_false]
def mus (k at_ : Int) (ks : List Int) : (Int × Int) ⊕ Int := if k = 0 then .inl (at_, 7) else if k ∈ ks then .inr k else .inl (at_, 9)
theorem scan_memI (k : Int) {τ : Type} (y z : τ) : ∀ ks : List Int, scan (fun (_ : Unit) x => bif x == k then .inr y else .inl ()) (fun _ => z) () ks = if k ∈ ks then y else z
  | [] => by simp [scan]
  | x :: l => by
    simp only [scan, List.mem_cons]
    by_cases h : x = k
    · subst h; simp
    · have h' : ¬ k = x := fun e => h e.symm
      have hb : (x == k) = false := by simpa using h
      simp only [hb, cond_false, h', false_or]
      exact scan_memI k y z l
theorem KjZ {k at_ : Int} {ks : List Int} (hb : ks.length ≤ 4611686018427387904) : Kdk k at_ ks = some (mus k at_ ks) := by
 unfold Kdk mus
 by_cases hk : k = 0
 ·subst hk; simp [Kaz]
 ·have hk' : (k == 0) = false := by simpa using hk
  simp only [hk', cond_false, Option.bind_some, Sum.elim_inl, hk, if_false]
  rw [Kbc ks (fun (_ : Unit) x => bif x == k then .inr (Sum.inr (Sum.inr k)) else .inl ()) (.inl ())
   (fun pre x post h => by
    simp only [KaW h, cond_true]
    rw [h, Ka3, Option.bind_some]
    by_cases hn : x == k
    ·simp [hn]
    ·rw [Bool.not_eq_true] at hn; simp only [hn, cond_false, KaI h hb]; rfl) (by simp), Option.bind_some, scan_memI k]
  by_cases h : k ∈ ks
  ·simp [h]
  ·simp [h, Kaz]
theorem KgZ {p : Kl} {f : Km} {n : ByteArray} {at_ : Int} {ks : List Int} (hf : Fit p f) (hb : ks.length ≤ 4611686018427387904) : KaG ⟨p, f⟩ n at_ ks = some (mus (kd p f n) at_ ks) := by
 have := hf.gl; have := hf.fp; have := hf.fl
 unfold KaG
 rw [KlM (by simp only; omega) (by simp only; omega), Kjj (by simp only; omega)]
 simp only [Option.bind_some]
 unfold kd
 by_cases h : vk n (f.gParams ++ f.gLocals) = 0
 ·simp only [h, beq_self_eq_true, cond_true, Option.bind_some, if_true, KjZ hb]
  cases mus (gk n p.gGlobals) at_ ks <;> rfl
 ·have h' : (vk n (f.gParams ++ f.gLocals) == 0) = false := by simpa using h
  simp only [h', cond_false, Option.bind_some, h, if_false, KjZ hb]
  cases mus (vk n (f.gParams ++ f.gLocals)) at_ ks <;> rfl
theorem Kk5 {p : Kl} {f : Km} {e : Kh} {w : Int} (hf : Fit p f) : Kbg ⟨p, f⟩ e w = some (Sum.elim .inl (fun _ => .inr 2) (mus (if vk e.gName (f.gParams ++ f.gLocals) = 0 then gk e.gName p.gGlobals else 2) e.gAt [w])) := by
 have := hf.gl; have := hf.fp; have := hf.fl
 unfold Kbg
 rw [KlM (by simp only; omega) (by simp only; omega), Kjj (by simp only; omega)]
 simp only [Option.bind_some]
 by_cases h : vk e.gName (f.gParams ++ f.gLocals) = 0
 ·simp only [h, bne_self_eq_false, cond_false, Option.bind_some, if_true, KjZ (show [w].length ≤ 4611686018427387904 by simp)]
  cases mus (gk e.gName p.gGlobals) e.gAt [w] <;> rfl
 ·have h' : (vk e.gName (f.gParams ++ f.gLocals) != 0) = true := by simpa using h
  simp only [h', cond_true, Option.bind_some, h, if_false, KjZ (show [w].length ≤ 4611686018427387904 by simp)]
  cases mus 2 e.gAt [w] <;> rfl
theorem is_eq (k a b : Int) : Kdl k a b = some (if k = 0 then 7 else if k = a ∨ k = b then 0 else 9) := by
 unfold Kdl
 by_cases h0 : k = 0
 ·subst h0; simp
 ·have e0 : (k == 0) = false := by simpa using h0
  simp only [e0, cond_false, h0, if_false]
  by_cases ha : k = a
  ·subst ha; simp
  ·have ea : (k == a) = false := by simpa using ha
   simp only [ea, cond_false, ha, false_or]
   by_cases hb : k = b
   ·subst hb; simp
   ·have eb : (k == b) = false := by simpa using hb
    simp only [eb, cond_false, hb, if_false]
def kn (op : Int) : Int := if op = 1 ∨ op = 2 ∨ op = 4 ∨ op = 18 ∨ op = 19 then 0 else if op = 3 ∨ op = 20 ∨ op = 5 ∨ op = 6 then 1 else if 7 ≤ op ∧ op ≤ 17 then 2 else -1
theorem ckids_eq (op : Int) : Kd0 op = some (kn op) := by
 unfold Kd0 kn
 by_cases h1 : op = 1
 ·subst h1; rfl
 by_cases h2 : op = 2
 ·subst h2; rfl
 by_cases h3 : op = 4
 ·subst h3; rfl
 by_cases h4 : op = 18
 ·subst h4; rfl
 by_cases h5 : op = 19
 ·subst h5; rfl
 by_cases h6 : op = 3
 ·subst h6; rfl
 by_cases h7 : op = 20
 ·subst h7; rfl
 by_cases h8 : op = 5
 ·subst h8; rfl
 by_cases h9 : op = 6
 ·subst h9; rfl
 simp only [beq_eq_false_iff_ne.2 h1, beq_eq_false_iff_ne.2 h2, beq_eq_false_iff_ne.2 h3, beq_eq_false_iff_ne.2 h4, beq_eq_false_iff_ne.2 h5, beq_eq_false_iff_ne.2 h6, beq_eq_false_iff_ne.2 h7, beq_eq_false_iff_ne.2 h8, beq_eq_false_iff_ne.2 h9, cond_false, Option.bind_some, Sum.elim_inl, h1, h2, h3, h4, h5, h6, h7, h8, h9, false_or, if_false]
 by_cases ha : 7 ≤ op <;> by_cases hb : op ≤ 17 <;> simp [ha, hb]
theorem rkids_eq (op : Int) : Kgg op = some (kn op) := by
 by_cases h : op < 1 ∨ 20 < op
 ·unfold Kgg kn
  have e : (if op = 1 ∨ op = 2 ∨ op = 4 ∨ op = 18 ∨ op = 19 then (0 : Int) else if op = 3 ∨ op = 20 ∨ op = 5 ∨ op = 6 then 1 else if 7 ≤ op ∧ op ≤ 17 then 2 else -1) = -1 := by
   rw [if_neg (by omega), if_neg (by omega), if_neg (by omega)]
  rw [e]
  rcases h with h | h
  ·simp [h]
  ·by_cases h2 : op < 1 <;> simp [h, h2]
 ·have hc : op = 1 ∨ op = 2 ∨ op = 3 ∨ op = 4 ∨ op = 5 ∨ op = 6 ∨ op = 7 ∨ op = 8 ∨ op = 9 ∨ op = 10 ∨ op = 11 ∨ op = 12 ∨ op = 13 ∨ op = 14 ∨ op = 15 ∨ op = 16 ∨ op = 17 ∨ op = 18 ∨ op = 19 ∨ op = 20 := by omega
  rcases hc with rfl | rfl | rfl | rfl | rfl | rfl | rfl | rfl | rfl | rfl | rfl | rfl | rfl | rfl | rfl | rfl | rfl | rfl | rfl | rfl <;> rfl
end Go.Proofs.YtipfljkjjddapaaGreatDoor.Ab
namespace Go.Proofs.YtipfljkjjddapaaGreatDoor.Ab
open Go
set_option linter.all false
def fn1 : List (Kh × Int) → Option Int
 | [] => none
 | (e, t) :: l => if t = 1 then fn1 l else some e.gAt
def tyO (p : Kl) (f : Km) (op : Int) (name : ByteArray) (at_ : Int) (ks : List Kh) (ts : List Int) : (Int × Int) ⊕ Int :=
  if op = 14 ∨ op = 15 then
    match ks, ts with
    | [_, b], [x, y] => if x = y then .inr 1 else .inl (b.gAt, 9)
    | _, _ => .inr 1
  else match fn1 (ks.zip ts) with
    | some a => .inl (a, 9)
    | none =>
      if op = 2 then mus (kd p f name) at_ [1, 2]
      else if op = 3 then Sum.elim .inl (fun _ => .inr 1) (mus (kd p f name) at_ [3])
      else if op = 4 then Sum.elim .inl (fun _ => .inr 1) (mus (kd p f name) at_ [2])
      else if op = 18 then .inr 2
      else if op = 19 then Sum.elim .inl (fun _ => .inr 2) (mus (if vk name (f.gParams ++ f.gLocals) = 0 then gk name p.gGlobals else 2) at_ [1])
      else if op = 20 then Sum.elim .inl (fun _ => .inr 2) (mus (if vk name (f.gParams ++ f.gLocals) = 0 then gk name p.gGlobals else 2) at_ [3])
      else .inr 1
mutual
def tyE (p : Kl) (f : Km) : Kh → (Int × Int) ⊕ Int
 | ⟨op, _, name, ks, at_⟩ => if kn op < 0 ∨ (ks.length : Int) ≠ kn op then .inl (at_, 2) else Sum.elim .inl (fun ts => tyO p f op name at_ ks ts) (tyL p f ks)
def tyL (p : Kl) (f : Km) : List Kh → (Int × Int) ⊕ List Int
 | [] => .inr []
 | e :: l => Sum.elim .inl (fun t => Sum.elim .inl (fun ts => .inr (t :: ts)) (tyL p f l)) (tyE p f e)
end
theorem tyE_eq (p : Kl) (f : Km) (e : Kh) : tyE p f e = if kn e.gOp < 0 ∨ (e.gKids.length : Int) ≠ kn e.gOp then .inl (e.gAt, 2) else Sum.elim .inl (fun ts => tyO p f e.gOp e.gName e.gAt e.gKids ts) (tyL p f e.gKids) := by cases e; simp only [tyE]
theorem KiH {p : Kl} {f : Km} : ∀ {l : List Kh} {ts : List Int}, tyL p f l = .inr ts → ts.length = l.length
  | [], ts, h => by simp only [tyL, Sum.inr.injEq] at h; subst h; rfl
  | e :: l, ts, h => by
    simp only [tyL] at h
    cases h1 : tyE p f e with
    | inl pe => rw [h1] at h; cases h
    | inr t =>
      rw [h1] at h
      cases h2 : tyL p f l with
      | inl pe => rw [h2] at h; cases h
      | inr ts' =>
        rw [h2] at h
        simp only [Sum.elim_inr, Sum.inr.injEq] at h
        subst h
        simp [KiH h2]
theorem KfI : ∀ l : List Kh, l.length ≤ szEs l
  | [] => by simp [szEs]
  | e :: l => by
    have := KfI l
    have := KiG e
    simp only [szEs, List.length_cons]; omega
theorem zip_at {β γ : Type} {l : List β} {m : List γ} (hl : l.length = m.length) {pre post : List (β × γ)} {x : β} {y : γ} (h : l.zip m = pre ++ (x, y) :: post) : idx l (pre.length : Int) = some x ∧ idx m (pre.length : Int) = some y := by
 have h1 : l = pre.map Prod.fst ++ x :: post.map Prod.fst := by
  have := congrArg (List.map Prod.fst) h
  rw [List.map_fst_zip (by omega)] at this
  simpa using this
 have h2 : m = pre.map Prod.snd ++ y :: post.map Prod.snd := by
  have := congrArg (List.map Prod.snd) h
  rw [List.map_snd_zip (by omega)] at this
  simpa using this
 exact ⟨idx_pre2 h1 (by simp), idx_pre2 h2 (by simp)⟩
theorem KgS (e : Kh) (t : Int) : Kbu e t = some (if t = 1 then .inr () else .inl (e.gAt, 9)) := by
 unfold Kbu
 by_cases h : t = 1
 ·subst h; rfl
 ·have h' : (t != 1) = true := by simpa using h
  simp [h', h, Kaz]
theorem Kjk {τ : Type} (c : Int → τ) (z : τ) : ∀ l : List (Kh × Int), scan (fun (_ : Unit) (x : Kh × Int) => if x.2 = 1 then .inl () else .inr (c x.1.gAt)) (fun _ => z) () l = match fn1 l with | some a => c a | none => z
  | [] => rfl
  | (e, t) :: l => by
    simp only [scan, fn1]
    by_cases h : t = 1
    · simp only [h, if_true]; exact Kjk c z l
    · simp only [h, if_false]
theorem KkI {p : Kl} {f : Km} {ρ : Type} (c : Int × Int → ρ) (d : List Int → ρ) : ∀ (l : List Kh) (a : List Int), scan (fun (a : List Int) x => Sum.elim (fun pe => .inr (c pe)) (fun t => .inl (a ++ [t])) (tyE p f x)) d a l = Sum.elim c (fun ts => d (a ++ ts)) (tyL p f l)
  | [], a => by simp [scan, tyL]
  | e :: l, a => by
    simp only [scan, tyL]
    cases h1 : tyE p f e with
    | inl pe => rfl
    | inr t =>
      simp only [Sum.elim_inr]
      rw [KkI c d l (a ++ [t])]
      cases tyL p f l with
      | inl pe => rfl
      | inr ts => simp
theorem ints_b {p : Kl} {f : Km} {g0 : Kv → List Kh → Option ((Int × Int) ⊕ List Int)} {g1 : Kv → Kh → Option ((Int × Int) ⊕ Int)} {l : List Kh} (hb : l.length ≤ 1048576)
    (h : ∀ e ∈ l, g1 ⟨p, f⟩ e = some (tyE p f e)) : KaX g0 g1 ⟨p, f⟩ l = some (tyL p f l) := by
  unfold KaX
  rw [Kji l (fun (a : List Int) x => Sum.elim (fun pe => .inr (Sum.inr (Sum.inl pe))) (fun t => .inl (a ++ [t])) (tyE p f x)) (fun a => .inl a) (fun pre a => a.length = pre.length) [] rfl
    (fun pre x post a a' _ hi hs => by
      cases ht : tyE p f x with
      | inl pe => rw [ht] at hs; cases hs
      | inr t => rw [ht] at hs; simp only [Sum.elim_inr, Sum.inl.injEq] at hs; subst hs; simp [hi])
    (fun pre x post a e hi => by
      have hx := Kcu e
      have hlen : pre.length < l.length := by rw [e]; simp
      simp only [KaW e, cond_true]
      rw [e, Ka3, Option.bind_some, h x hx, Option.bind_some]
      cases ht : tyE p f x with
      | inl pe => rfl
      | inr t =>
        simp only [Sum.elim_inr, Sum.elim_inl]
        rw [Kfx (by omega) (by simp; omega), Option.bind_some, KaI e (by omega)])
    (fun a hi => by simp), Option.bind_some, KkI (fun pe => Sum.inr (Sum.inl pe)) (fun a => Sum.inl a) l []]
  cases tyL p f l <;> rfl
theorem mus_e {k a : Int} {ks : List Int} {pe : Int × Int} (h : mus k a ks = .inl pe) : pe = (a, 7) ∨ pe = (a, 9) := by
 unfold mus at h
 split at h
 ·simp only [Sum.inl.injEq] at h; exact .inl h.symm
 ·split at h
  ·cases h
  ·simp only [Sum.inl.injEq] at h; exact .inr h.symm
theorem expr_b {p : Kl} {f : Km} (hf : Fit p f) {g0 : Kv → List Kh → Option ((Int × Int) ⊕ List Int)} {g1 : Kv → Kh → Option ((Int × Int) ⊕ Int)} {e : Kh} (hb : e.gKids.length ≤ 1048576)
    (h : g0 ⟨p, f⟩ e.gKids = some (tyL p f e.gKids)) : KaY g0 g1 ⟨p, f⟩ e = some (tyE p f e) := by
  unfold KaY
  rw [ckids_eq, Option.bind_some, tyE_eq]
  by_cases hk : kn e.gOp < 0
  · simp [hk, Kaz]
  by_cases hl : (e.gKids.length : Int) = kn e.gOp
  case neg =>
    have hl' : ((e.gKids.length : Int) != kn e.gOp) = true := by simpa using hl
    simp only [hk, decide_false, cond_false, Option.bind_some, hl', cond_true, Kaz, Sum.elim_inl, Sum.elim_inr, false_or, ne_eq, hl, not_false_eq_true, if_true]
  have hl' : ((e.gKids.length : Int) != kn e.gOp) = false := by simpa using hl
  rw [if_neg (show ¬(kn e.gOp < 0 ∨ (e.gKids.length : Int) ≠ kn e.gOp) by omega)]
  simp only [hk, decide_false, cond_false, Option.bind_some, hl', Sum.elim_inl, h]
  cases ht : tyL p f e.gKids with
  | inl pe => rfl
  | inr ts =>
    have hlen := KiH ht
    simp only [Sum.elim_inr]
    unfold tyO
    by_cases h14 : e.gOp = 14 ∨ e.gOp = 15
    · have hc : (bif (e.gOp == (14 : Int)) then some true else some (e.gOp == (15 : Int))) = some true := by
        rcases h14 with h | h <;> simp [h]
      rw [hc]
      simp only [Option.bind_some, cond_true, h14, if_true]
      have h2 : kn e.gOp = 2 := by rcases h14 with h | h <;> rw [h] <;> rfl
      have hk2 : e.gKids.length = 2 := by omega
      match hK : e.gKids, hT : ts, hk2, hlen with
      | [a, b], [x, y], _, _ =>
        show (some x).bind _ = _
        simp only [Option.bind_some]
        show (some y).bind _ = _
        simp only [Option.bind_some]
        by_cases hxy : x = y
        · subst hxy; simp
        · have : (x != y) = true := by simpa using hxy
          simp only [this, cond_true, hxy, if_false]
          show Option.bind ((some b).bind _) _ = _
          simp [Kaz]
    · have hc : (bif (e.gOp == (14 : Int)) then some true else some (e.gOp == (15 : Int))) = some false := by
        have h1 : (e.gOp == (14 : Int)) = false := by simp; omega
        have h2 : (e.gOp == (15 : Int)) = false := by simp; omega
        rw [h1, h2]; rfl
      rw [hc]
      simp only [Option.bind_some, cond_false, h14, if_false]
      have hz : (e.gKids.zip ts).length = e.gKids.length := by simp [hlen]
      rw [Kbc (e.gKids.zip ts) (fun (_ : Unit) (x : Kh × Int) => if x.2 = 1 then .inl () else .inr (Sum.inr (Sum.inl (x.1.gAt, 9)))) (.inl ())
        (fun pre x post hh => by
          obtain ⟨x, t⟩ := x
          obtain ⟨i1, i2⟩ := zip_at hlen.symm hh
          have hlt := KaW hh
          rw [hz] at hlt
          simp only [hlt, cond_true, i1, i2, Option.bind_some, KgS]
          by_cases h1 : t = 1
          · simp only [h1, if_true, Sum.elim_inr, Sum.elim_inl, KaI hh (by omega)]
          · simp only [h1, if_false, Sum.elim_inl, Sum.elim_inr])
        (by rw [hz]; simp), Option.bind_some, Kjk (fun a => Sum.inr (Sum.inl (a, 9))) (Sum.inl ())]
      cases hfn : fn1 (e.gKids.zip ts) with
      | some a => rfl
      | none =>
        simp only [Sum.elim_inl]
        by_cases o2 : e.gOp = 2
        · simp only [o2, beq_self_eq_true, cond_true, if_true, KgZ hf (show [(1 : Int), 2].length ≤ 4611686018427387904 by simp), Option.bind_some]
          cases mus (kd p f e.gName) e.gAt [1, 2] <;> rfl
        by_cases o3 : e.gOp = 3
        · simp only [o3, KgZ hf (show [(3 : Int)].length ≤ 4611686018427387904 by simp), Option.bind_some]
          cases mus (kd p f e.gName) e.gAt [3] <;> rfl
        by_cases o4 : e.gOp = 4
        · simp only [o4, KgZ hf (show [(2 : Int)].length ≤ 4611686018427387904 by simp), Option.bind_some]
          cases mus (kd p f e.gName) e.gAt [2] <;> rfl
        by_cases o18 : e.gOp = 18
        · simp only [o18]; rfl
        by_cases o19 : e.gOp = 19
        · simp only [o19, Kk5 hf, Option.bind_some]
          cases mus (if vk e.gName (f.gParams ++ f.gLocals) = 0 then gk e.gName p.gGlobals else 2) e.gAt [1] <;> rfl
        by_cases o20 : e.gOp = 20
        · simp only [o20, Kk5 hf, Option.bind_some]
          cases mus (if vk e.gName (f.gParams ++ f.gLocals) = 0 then gk e.gName p.gGlobals else 2) e.gAt [3] <;> rfl
        simp only [beq_eq_false_iff_ne.2 o2, beq_eq_false_iff_ne.2 o3, beq_eq_false_iff_ne.2 o4, beq_eq_false_iff_ne.2 o18, beq_eq_false_iff_ne.2 o19, beq_eq_false_iff_ne.2 o20, cond_false, o2, o3, o4, o18, o19, o20, if_false]
theorem exprs_g {p : Kl} {f : Km} (hf : Fit p f) : ∀ n : Nat, (∀ l, 2 * dpEs l + 1 ≤ n → szEs l ≤ 1048576 → (K2 n).1 ⟨p, f⟩ l = some (tyL p f l)) ∧ (∀ e, 2 * dpE e ≤ n → szE e ≤ 1048576 → (K2 n).2 ⟨p, f⟩ e = some (tyE p f e))
  | 0 => ⟨fun l h => by omega, fun e h _ => by rw [Kgy] at h; omega⟩
  | n + 1 => by
    obtain ⟨h2, h1⟩ := exprs_g hf n
    refine ⟨fun l h hb => ?_, fun e h hb => ?_⟩
    · have hl := KfI l
      exact ints_b (g0 := (K2 n).1) (by omega) fun e he => h1 e (by have := KgX he; omega) (by have := KgY he; omega)
    · have he := Kgy e
      have hs := KiG e
      have hl := KfI e.gKids
      exact expr_b hf (g1 := (K2 n).2) (by omega) (h2 _ (by omega) (by omega))
theorem ints_eq {p : Kl} {f : Km} (hf : Fit p f) {l : List Kh} (hb : szEs l ≤ 1048576) : Kc3 ⟨p, f⟩ l = some (tyL p f l) := Kf5 _ _ (2 * dpEs l + 1) ((exprs_g hf _).1 l (Nat.le_refl _) hb)
end Go.Proofs.YtipfljkjjddapaaGreatDoor.Ab
namespace Go.Proofs.YtipfljkjjddapaaGreatDoor.Ab
open Go
set_option linter.all false
def rv (r : (Int × Int) ⊕ Int) : Int × Int × Int := Sum.elim (fun pe => (0, pe.1, pe.2)) (fun t => (t, 0, 0)) r
theorem tyO_e {p : Kl} {f : Km} {op : Int} {name : ByteArray} {at_ : Int} {ks : List Kh} {ts : List Int} {pe : Int × Int} (h : tyO p f op name at_ ks ts = .inl pe) : pe.2 ≠ 0 := by
 have hm : ∀ {k a : Int} {ls : List Int} {pe : Int × Int}, mus k a ls = .inl pe → pe.2 ≠ 0 := fun h => by rcases mus_e h with rfl | rfl <;> simp
 have he : ∀ {k a : Int} {ls : List Int} {u : Int} {pe : Int × Int}, Sum.elim (γ := (Int × Int) ⊕ Int) .inl (fun _ => .inr u) (mus k a ls) = .inl pe → pe.2 ≠ 0 := fun {k a ls u pe} h => by
  cases hc : mus k a ls with
  | inl q => rw [hc] at h; simp only [Sum.elim_inl, Sum.inl.injEq] at h; subst h; exact hm hc
  | inr q => rw [hc] at h; cases h
 unfold tyO at h
 split at h
 ·split at h
  ·split at h
   ·cases h
   ·simp only [Sum.inl.injEq] at h; subst h; simp
  ·cases h
 ·split at h
  ·simp only [Sum.inl.injEq] at h; subst h; simp
  ·split at h
   ·exact hm h
   split at h
   ·exact he h
   split at h
   ·exact he h
   split at h
   ·cases h
   split at h
   ·exact he h
   split at h
   ·exact he h
   ·cases h
mutual
theorem tyE_e {p : Kl} {f : Km} : ∀ {e : Kh} {pe : Int × Int}, tyE p f e = .inl pe → pe.2 ≠ 0
  | ⟨op, n, name, ks, at_⟩, pe, h => by
    simp only [tyE] at h
    split at h
    · simp only [Sum.inl.injEq] at h; subst h; simp
    · cases ht : tyL p f ks with
      | inl q => rw [ht] at h; simp only [Sum.elim_inl, Sum.inl.injEq] at h; subst h; exact tyL_e ht
      | inr ts => rw [ht] at h; exact tyO_e h
theorem tyL_e {p : Kl} {f : Km} : ∀ {l : List Kh} {pe : Int × Int}, tyL p f l = .inl pe → pe.2 ≠ 0
  | [], pe, h => by simp only [tyL] at h; cases h
  | e :: l, pe, h => by
    simp only [tyL] at h
    cases h1 : tyE p f e with
    | inl q => rw [h1] at h; simp only [Sum.elim_inl, Sum.inl.injEq] at h; subst h; exact tyE_e h1
    | inr t =>
      rw [h1] at h
      cases h2 : tyL p f l with
      | inl q => rw [h2] at h; simp only [Sum.elim_inl, Sum.elim_inr, Sum.inl.injEq] at h; subst h; exact tyL_e h2
      | inr ts => rw [h2] at h; cases h
end
theorem KlO {p : Kl} {f : Km} {τ : Type} {g0 : Kl → Km → Kh → Option (Int × Int × Int)} {l : List Kh} (hb : l.length ≤ 1048576) (h : ∀ x ∈ l, g0 p f x = some (rv (tyE p f x))) (c : Int × Int → τ) (d : List Int → τ)
    {F : List Int × Int → Option (Step (List Int × Int) τ)}
    (hF : ∀ s, F s = (bif (decide (s.2 < (l.length : Int))) then ((idx l s.2).bind fun x51 => ((g0 p f x51).bind fun x52 => (bif (x52.2.2 != (0 : Int)) then some (.done (c (x52.2.1, x52.2.2))) else ((app 8 s.1 ([x52.1] : List Int)).bind fun x55 => some (.next (x55, (IntKind.i64.wrap (s.2 + (1 : Int))))))))) else some (.done (d s.1)))) :
    loopM F (([] : List Int), (0 : Int)) = some (Sum.elim c d (tyL p f l)) := by
  rw [Kji l (fun (a : List Int) x => Sum.elim (fun pe => .inr (c pe)) (fun t => .inl (a ++ [t])) (tyE p f x)) d (fun pre a => a.length = pre.length) [] rfl
    (fun pre x post a a' _ hi hs => by
      cases ht : tyE p f x with
      | inl pe => rw [ht] at hs; cases hs
      | inr t => rw [ht] at hs; simp only [Sum.elim_inr, Sum.inl.injEq] at hs; subst hs; simp [hi])
    (fun pre x post a e hi => by
      have hx := Kcu e
      have hlen : pre.length < l.length := by rw [e]; simp
      rw [hF]
      simp only [KaW e, cond_true]
      have hix : idx l (pre.length : Int) = some x := by rw [e]; exact Ka3 _ _ _
      rw [hix, Option.bind_some, h x hx, Option.bind_some]
      cases ht : tyE p f x with
      | inl pe =>
        have h0 : (pe.2 != 0) = true := by simpa using tyE_e ht
        simp only [rv, Sum.elim_inl, h0, cond_true, Sum.elim_inr]
      | inr t =>
        simp only [rv, Sum.elim_inr, bne_self_eq_false, cond_false, Sum.elim_inl]
        rw [Kfx (by omega) (by simp; omega), Option.bind_some, KaI e (by omega)])
    (fun a hi => by rw [hF]; simp), KkI c d l []]
  cases tyL p f l <;> simp
theorem is_mus (k a : Int) (x y u : Int) (r : Int × Int × Int) (hr : r = rv (Sum.elim .inl (fun _ => .inr u) (mus k a [x, y]))) : (bif ((if k = 0 then (7 : Int) else if k = x ∨ k = y then 0 else 9) != 0) then ((0 : Int), a, (if k = 0 then (7 : Int) else if k = x ∨ k = y then 0 else 9)) else (u, (0 : Int), (0 : Int))) = r := by
 subst hr
 unfold mus rv
 by_cases h0 : k = 0
 ·simp [h0]
 ·by_cases h1 : k = x ∨ k = y
  ·simp [h0, h1]
  ·simp [h0, h1]
theorem Khv (k a x : Int) : mus k a [x, x] = mus k a [x] := by unfold mus; simp
theorem mus_self {k a : Int} {ls : List Int} : Sum.elim (γ := (Int × Int) ⊕ Int) .inl (fun _ => .inr k) (mus k a ls) = mus k a ls := by
 unfold mus
 split
 ·rfl
 ·split <;> rfl
theorem rtype_b {p : Kl} {f : Km} (hf : Fit p f) {g0 : Kl → Km → Kh → Option (Int × Int × Int)} {e : Kh} (hb : e.gKids.length ≤ 1048576)
    (h : ∀ x ∈ e.gKids, g0 p f x = some (rv (tyE p f x))) : Kdm g0 p f e = some (rv (tyE p f e)) := by
  have := hf.fp; have := hf.fl
  unfold Kdm
  rw [rkids_eq, Option.bind_some, tyE_eq]
  by_cases hk : kn e.gOp < 0
  · simp [hk, rv]
  by_cases hl : (e.gKids.length : Int) = kn e.gOp
  case neg =>
    have hl' : (kn e.gOp != (e.gKids.length : Int)) = true := by simpa using fun h => hl h.symm
    rw [if_pos (by omega)]
    simp only [hk, decide_false, cond_false, Option.bind_some, hl', cond_true]
    rfl
  have hl' : (kn e.gOp != (e.gKids.length : Int)) = false := by simpa using hl.symm
  rw [if_neg (show ¬(kn e.gOp < 0 ∨ (e.gKids.length : Int) ≠ kn e.gOp) by omega)]
  simp only [hk, decide_false, cond_false, Option.bind_some, hl']
  rw [KlO (τ := List Int ⊕ (Int × Int × Int)) hb h (fun pe => .inr ((0 : Int), pe.1, pe.2)) (fun a => .inl a) (fun s => rfl), Option.bind_some]
  cases ht : tyL p f e.gKids with
  | inl pe => rfl
  | inr ts =>
    have hlen := KiH ht
    simp only [Sum.elim_inr, Sum.elim_inl]
    unfold tyO
    by_cases h14 : e.gOp = 14 ∨ e.gOp = 15
    · have hc : (bif (e.gOp == (14 : Int)) then some true else some (e.gOp == (15 : Int))) = some true := by
        rcases h14 with h | h <;> simp [h]
      rw [hc]
      simp only [Option.bind_some, cond_true, h14, if_true]
      have h2 : kn e.gOp = 2 := by rcases h14 with h | h <;> rw [h] <;> rfl
      have hk2 : e.gKids.length = 2 := by omega
      match hK : e.gKids, hT : ts, hk2, hlen with
      | [a, b], [x, y], _, _ =>
        show (some x).bind _ = _
        simp only [Option.bind_some]
        show (some y).bind _ = _
        simp only [Option.bind_some]
        by_cases hxy : x = y
        · subst hxy; simp [rv]
        · have : (x != y) = true := by simpa using hxy
          simp only [this, cond_true, hxy, if_false]
          show ((some b).bind _) = _
          simp [rv]
    · have hc : (bif (e.gOp == (14 : Int)) then some true else some (e.gOp == (15 : Int))) = some false := by
        have h1 : (e.gOp == (14 : Int)) = false := by simp; omega
        have h2 : (e.gOp == (15 : Int)) = false := by simp; omega
        rw [h1, h2]; rfl
      rw [hc]
      simp only [Option.bind_some, cond_false, h14, if_false]
      have hz : (e.gKids.zip ts).length = ts.length := by simp [hlen]
      rw [Kbc (e.gKids.zip ts) (fun (_ : Unit) (x : Kh × Int) => if x.2 = 1 then .inl () else .inr (Sum.inr ((0 : Int), x.1.gAt, (9 : Int)))) (.inl ())
        (fun pre x post hh => by
          obtain ⟨x, t⟩ := x
          obtain ⟨i1, i2⟩ := zip_at hlen.symm hh
          have hlt := KaW hh
          rw [hz] at hlt
          simp only [hlt, cond_true, i1, i2, Option.bind_some]
          by_cases h1 : t = 1
          · simp only [h1, bne_self_eq_false, cond_false, if_true, Sum.elim_inl, KaI hh (by omega)]
          · have h1' : (t != 1) = true := by simpa using h1
            simp only [h1', cond_true, h1, if_false, Sum.elim_inr])
        (by rw [hz]; simp), Option.bind_some, Kjk (fun a => Sum.inr ((0 : Int), a, (9 : Int))) (Sum.inl ())]
      cases hfn : fn1 (e.gKids.zip ts) with
      | some a => rfl
      | none =>
        simp only [Sum.elim_inl, KkH hf, KlN (show f.gParams.length + f.gLocals.length ≤ 8388608 by omega), is_eq, Option.bind_some]
        by_cases o2 : e.gOp = 2
        · simp only [o2, beq_self_eq_true, cond_true, if_true, Option.bind_some]
          have := is_mus (kd p f e.gName) e.gAt 1 2 (kd p f e.gName) _ rfl
          rw [mus_self] at this
          rw [← this]
          cases ((if kd p f e.gName = 0 then (7 : Int) else if kd p f e.gName = 1 ∨ kd p f e.gName = 2 then 0 else 9) != 0) <;> rfl
        by_cases o3 : e.gOp = 3
        · simp only [o3]
          have := is_mus (kd p f e.gName) e.gAt 3 3 1 _ rfl
          rw [Khv] at this
          refine Eq.trans ?_ (congrArg some this)
          show (bif _ then _ else _) = some (bif _ then _ else _)
          cases ((if kd p f e.gName = 0 then (7 : Int) else if kd p f e.gName = 3 ∨ kd p f e.gName = 3 then 0 else 9) != 0) <;> rfl
        by_cases o4 : e.gOp = 4
        · simp only [o4]
          have := is_mus (kd p f e.gName) e.gAt 2 2 1 _ rfl
          rw [Khv] at this
          refine Eq.trans ?_ (congrArg some this)
          show (bif _ then _ else _) = some (bif _ then _ else _)
          cases ((if kd p f e.gName = 0 then (7 : Int) else if kd p f e.gName = 2 ∨ kd p f e.gName = 2 then 0 else 9) != 0) <;> rfl
        by_cases o18 : e.gOp = 18
        · simp only [o18]; rfl
        have adr : ∀ w : Int, w ≠ 2 → w ≠ 0 → ∀ r : Option (Int × Int × Int), (r = (bif ((bif (vk e.gName (f.gParams ++ f.gLocals) != 0) then (9 : Int) else (if kd p f e.gName = 0 then (7 : Int) else if kd p f e.gName = w ∨ kd p f e.gName = w then 0 else 9)) != 0) then some ((0 : Int), e.gAt, (bif (vk e.gName (f.gParams ++ f.gLocals) != 0) then (9 : Int) else (if kd p f e.gName = 0 then (7 : Int) else if kd p f e.gName = w ∨ kd p f e.gName = w then 0 else 9))) else some ((2 : Int), (0 : Int), (0 : Int)))) → r = some (rv (Sum.elim .inl (fun _ => .inr 2) (mus (if vk e.gName (f.gParams ++ f.gLocals) = 0 then gk e.gName p.gGlobals else 2) e.gAt [w]))) := by
          intro w hw hw0 r hr
          rw [hr]
          by_cases hv : vk e.gName (f.gParams ++ f.gLocals) = 0
          · have hkd : kd p f e.gName = gk e.gName p.gGlobals := by unfold kd; rw [if_pos hv]
            simp only [hv, bne_self_eq_false, cond_false, if_true, hkd]
            unfold mus rv
            by_cases h0 : gk e.gName p.gGlobals = 0
            · simp [h0]
            · by_cases h1 : gk e.gName p.gGlobals = w
              · simp [h1, hw0]
              · simp [h0, h1]
          · have hv' : (vk e.gName (f.gParams ++ f.gLocals) != 0) = true := by simpa using hv
            have h2w : ¬ (2 : Int) = w := fun q => hw q.symm
            simp [hv', hv, mus, rv, h2w]
        by_cases o19 : e.gOp = 19
        · simp only [o19]
          refine adr 1 (by decide) (by decide) _ ?_
          cases (vk e.gName (f.gParams ++ f.gLocals) != 0) <;> rfl
        by_cases o20 : e.gOp = 20
        · simp only [o20]
          refine adr 3 (by decide) (by decide) _ ?_
          cases (vk e.gName (f.gParams ++ f.gLocals) != 0) <;> rfl
        simp only [beq_eq_false_iff_ne.2 o2, beq_eq_false_iff_ne.2 o3, beq_eq_false_iff_ne.2 o4, beq_eq_false_iff_ne.2 o18, beq_eq_false_iff_ne.2 o19, beq_eq_false_iff_ne.2 o20, cond_false, o2, o3, o4, o18, o19, o20, if_false]
        rfl
theorem rtype_g {p : Kl} {f : Km} (hf : Fit p f) : ∀ (n : Nat) (e : Kh), dpE e ≤ n → szE e ≤ 1048576 → Kcz n p f e = some (rv (tyE p f e))
  | 0, e, h, _ => by rw [Kgy] at h; omega
  | n + 1, e, h, hb => by
    have he := Kgy e
    have hs := KiG e
    have hl := KfI e.gKids
    exact rtype_b hf (by omega) fun x hx => rtype_g hf n x (by have := KgX hx; omega) (by have := KgY hx; omega)
theorem rtype_eq {p : Kl} {f : Km} (hf : Fit p f) {e : Kh} (hb : szE e ≤ 1048576) : Khd p f e = some (rv (tyE p f e)) := Kml _ _ _ (dpE e) (rtype_g hf _ e (Nat.le_refl _) hb)
end Go.Proofs.YtipfljkjjddapaaGreatDoor.Ab
namespace Go.Proofs.YtipfljkjjddapaaGreatDoor.Ab
open Go
set_option linter.all false
def fn2 : List (K8 × Int × Kh) → Option Int
 | [] => none
 | (v, t, e) :: l => if (bif v.gPtr then (2 : Int) else 1) = t then fn2 l else some e.gAt
def caO (p : Kl) (f : Km) (s : Ki) (ts : List Int) (v : List K8) : (Int × Int) ⊕ Unit :=
 if v.length ≠ ts.length then .inl (s.gAt, 2) else
 match fn2 (v.zip (ts.zip s.gExps)) with
 | some a => .inl (a, 9)
 | none => if s.gName = ByteArray.mk #[] then .inr () else Sum.elim .inl (fun _ => .inr ()) (mus (kd p f s.gName) s.gAt [1])
def fpar (n : ByteArray) : List Km → Option (List K8)
 | [] => none
 | g :: l => if g.gName = n then some g.gParams else fpar n l
def caS (p : Kl) (f : Km) (s : Ki) (ts : List Int) : (Int × Int) ⊕ Unit :=
 match fpar s.gFunc p.gFuncs with
 | some v => caO p f s ts v
 | none => .inl (s.gAt, 7)
theorem KjQ {τ : Type} (c : List K8 → τ) (z : τ) (n : ByteArray) : ∀ l : List Km, scan (fun (_ : Unit) (g : Km) => if g.gName = n then .inr (c g.gParams) else .inl ()) (fun _ => z) () l = match fpar n l with | some v => c v | none => z
  | [] => rfl
  | g :: l => by
    simp only [scan, fpar]
    by_cases h : g.gName = n
    · simp only [h, if_true]
    · simp only [h, if_false]; exact KjQ c z n l
theorem KkJ {τ : Type} (c : Int → τ) (z : τ) : ∀ l : List (K8 × Int × Kh), scan (fun (_ : Unit) (x : K8 × Int × Kh) => if (bif x.1.gPtr then (2 : Int) else 1) = x.2.1 then .inl () else .inr (c x.2.2.gAt)) (fun _ => z) () l = match fn2 l with | some a => c a | none => z
  | [] => rfl
  | (v, t, e) :: l => by
    simp only [scan, fn2]
    by_cases h : (bif v.gPtr then (2 : Int) else 1) = t
    · simp only [h, if_true]; exact KkJ c z l
    · simp only [h, if_false]
theorem zip3_at {l : List K8} {m : List Int} {k : List Kh} (h1 : l.length = m.length) (h2 : m.length = k.length) {pre post : List (K8 × Int × Kh)} {v : K8} {t : Int} {e : Kh} (h : l.zip (m.zip k) = pre ++ (v, t, e) :: post) :
  idx l (pre.length : Int) = some v ∧ idx m (pre.length : Int) = some t ∧ idx k (pre.length : Int) = some e := by
 have hz : (m.zip k).length = m.length := by simp [h2]
 obtain ⟨a1, _⟩ := zip_at (h1.trans hz.symm) h
 have h3 : m.zip k = pre.map Prod.snd ++ (t, e) :: post.map Prod.snd := by
  have := congrArg (List.map Prod.snd) h
  rw [List.map_snd_zip (by omega)] at this
  simpa using this
 obtain ⟨b1, b2⟩ := zip_at h2 h3
 simp only [List.length_map] at b1 b2
 exact ⟨a1, b1, b2⟩
theorem ccall_eq {p : Kl} {f : Km} (hf : Fit p f) {s : Ki} {ts : List Int} (hl : ts.length = s.gExps.length) (ht : ∀ t ∈ ts, t = 1 ∨ t = 2) : Kb3 ⟨p, f⟩ s ts = some (caS p f s ts) := by
  have hfu := hf.fu
  unfold Kb3
  rw [Kbc p.gFuncs (fun (_ : Unit) (g : Km) => if g.gName = s.gFunc then .inr (Sum.inr (caO p f s ts g.gParams)) else .inl ()) (.inl ())
    (fun pre g post h => by
      simp only [KaW h, cond_true]
      have hix : idx p.gFuncs (pre.length : Int) = some g := by rw [h]; exact Ka3 _ _ _
      rw [hix, Option.bind_some]
      have hg := hf.pa g (Kcu h)
      by_cases hn : g.gName = s.gFunc
      · simp only [hn, decide_true, Bool.not_true, cond_false, if_true, Sum.elim_inr]
        unfold caO
        by_cases hle : g.gParams.length = ts.length
        case neg =>
          have h' : ((g.gParams.length : Int) != (ts.length : Int)) = true := by simp; omega
          simp only [h', cond_true, hle, ne_eq, not_false_eq_true, if_true]
          simp [Kaz]
        have h' : ((g.gParams.length : Int) != (ts.length : Int)) = false := by simp; omega
        rw [if_neg (show ¬ g.gParams.length ≠ ts.length by omega)]
        simp only [h', cond_false, Option.bind_some, Sum.elim_inl]
        have hz : (g.gParams.zip (ts.zip s.gExps)).length = g.gParams.length := by simp; omega
        have hz2 : (g.gParams.zip (ts.zip s.gExps)).length = ts.length := by omega
        rw [Kbc (g.gParams.zip (ts.zip s.gExps)) (fun (_ : Unit) (x : K8 × Int × Kh) => if (bif x.1.gPtr then (2 : Int) else 1) = x.2.1 then .inl () else .inr (Sum.inr (Sum.inl (x.2.2.gAt, 9)))) (.inl ())
          (fun pre2 x post2 h2 => by
            obtain ⟨v, t, e⟩ := x
            obtain ⟨i1, i2, i3⟩ := zip3_at hle hl h2
            have hlt := KaW h2
            rw [hz] at hlt
            simp only [hlt, cond_true, i1, i2, i3, Option.bind_some, KjP]
            by_cases hk : (bif v.gPtr then (2 : Int) else 1) = t
            · have hk' : ((bif v.gPtr then (2 : Int) else 1) != t) = false := by simpa using hk
              rw [hk', if_pos hk]
              simp only [cond_false, Sum.elim_inl]
              rw [KaI h2 (by omega)]
            · have hk' : ((bif v.gPtr then (2 : Int) else 1) != t) = true := by simpa using hk
              rw [hk', if_neg hk]
              simp only [cond_true, Sum.elim_inr, Kaz, Option.bind_some, Sum.elim_inl])
          (by rw [hz]; simp), Option.bind_some, KkJ (fun a => Sum.inr (Sum.inl (a, 9))) (Sum.inl ())]
        cases fn2 (g.gParams.zip (ts.zip s.gExps)) with
        | some a => rfl
        | none =>
          simp only [Sum.elim_inl]
          by_cases he : s.gName = ByteArray.mk #[]
          · simp [he]
          · simp only [he, decide_false, Bool.not_false, cond_true, if_false, KgZ hf (show [(1 : Int)].length ≤ 4611686018427387904 by simp), Option.bind_some]
            cases mus (kd p f s.gName) s.gAt [1] <;> rfl
      · simp only [hn, decide_false, Bool.not_false, cond_true, if_false, Sum.elim_inl, KaI h (by omega)]) (by simp), Option.bind_some, KjQ (fun v => Sum.inr (caO p f s ts v)) (Sum.inl ())]
  unfold caS
  cases fpar s.gFunc p.gFuncs with
  | some v => rfl
  | none => rfl
theorem rcall_eq {p : Kl} {f : Km} (hf : Fit p f) {s : Ki} {ts : List Int} (hl : ts.length = s.gExps.length) (ht : ∀ t ∈ ts, t = 1 ∨ t = 2) : Khe p f s ts = some (Sum.elim id (fun _ => (if s.gName = ByteArray.mk #[] then 0 else s.gAt, 0)) (caS p f s ts)) := by
  have hfu := hf.fu
  unfold Khe
  rw [Kbc p.gFuncs (fun (_ : Unit) (g : Km) => if g.gName = s.gFunc then .inr (Sum.inr (Sum.elim id (fun _ => (if s.gName = ByteArray.mk #[] then 0 else s.gAt, 0)) (caO p f s ts g.gParams))) else .inl ()) (.inl ())
    (fun pre g post h => by
      simp only [KaW h, cond_true]
      have hix : idx p.gFuncs (pre.length : Int) = some g := by rw [h]; exact Ka3 _ _ _
      simp only [hix, Option.bind_some]
      have hg := hf.pa g (Kcu h)
      by_cases hn : g.gName = s.gFunc
      · simp only [hn, decide_true, Bool.not_true, cond_false, if_true, Sum.elim_inr]
        unfold caO
        by_cases hle : g.gParams.length = ts.length
        case neg =>
          have h' : ((g.gParams.length : Int) != (ts.length : Int)) = true := by simp; omega
          simp only [h', cond_true, hle, ne_eq, not_false_eq_true, if_true]
          rfl
        have h' : ((g.gParams.length : Int) != (ts.length : Int)) = false := by simp; omega
        rw [if_neg (show ¬ g.gParams.length ≠ ts.length by omega)]
        simp only [h', cond_false]
        have hz : (g.gParams.zip (ts.zip s.gExps)).length = g.gParams.length := by simp; omega
        have hz2 : (g.gParams.zip (ts.zip s.gExps)).length = ts.length := by omega
        rw [Kbc (g.gParams.zip (ts.zip s.gExps)) (fun (_ : Unit) (x : K8 × Int × Kh) => if (bif x.1.gPtr then (2 : Int) else 1) = x.2.1 then .inl () else .inr (Sum.inr (x.2.2.gAt, (9 : Int)))) (.inl ())
          (fun pre2 x post2 h2 => by
            obtain ⟨v, t, e⟩ := x
            obtain ⟨i1, i2, i3⟩ := zip3_at hle hl h2
            have hlt := KaW h2
            rw [hz] at hlt
            have htm : t = 1 ∨ t = 2 := by
              have hm := Kcu h2
              exact ht t ((List.of_mem_zip ((List.of_mem_zip hm).2)).1)
            simp only [hlt, cond_true, i1, i2, i3, Option.bind_some]
            rcases htm with rfl | rfl <;> cases v.gPtr
            · simp only [cond_false, if_true, Sum.elim_inl]; rw [KaI h2 (by omega)]; rfl
            · simp only [cond_true]; rfl
            · simp only [cond_false]; rfl
            · simp only [cond_true, if_true, Sum.elim_inl]; rw [KaI h2 (by omega)]; rfl)
          (by rw [hz]; simp), Option.bind_some, KkJ (fun a => Sum.inr (a, (9 : Int))) (Sum.inl ())]
        cases fn2 (g.gParams.zip (ts.zip s.gExps)) with
        | some a => rfl
        | none =>
          simp only [Sum.elim_inl]
          by_cases he : s.gName = ByteArray.mk #[]
          · simp [he]
          · simp only [he, decide_false, Bool.not_false, cond_true, if_false, KkH hf, is_eq, Option.bind_some]
            unfold mus
            by_cases h0 : kd p f s.gName = 0
            · simp [h0]
            · by_cases h1 : kd p f s.gName = 1
              · simp [h1]
              · simp [h0, h1]
      · simp only [hn, decide_false, Bool.not_false, cond_true, if_false, Sum.elim_inl, KaI h (by omega)]) (by simp), Option.bind_some, KjQ (fun v => Sum.inr (Sum.elim id (fun _ => (if s.gName = ByteArray.mk #[] then 0 else s.gAt, 0)) (caO p f s ts v))) (Sum.inl ())]
  unfold caS
  cases fpar s.gFunc p.gFuncs with
  | some v => rfl
  | none => rfl
end Go.Proofs.YtipfljkjjddapaaGreatDoor.Ab
namespace Go.Proofs.YtipfljkjjddapaaGreatDoor.Ab
open Go
set_option linter.all false
mutual
def szS : Ki → Nat
 | ⟨_, _, _, es, ks, ls, _⟩ => 1 + szSs ks + szSs ls + szEs es
def szSs : List Ki → Nat
 | [] => 0
 | s :: l => szS s + szSs l
end
mutual
def hS : Ki → Nat
 | ⟨_, _, _, _, ks, ls, _⟩ => 1 + max (hSs ks) (hSs ls)
def hSs : List Ki → Nat
 | [] => 1
 | s :: l => max (hS s) (hSs l)
end
theorem szS_eq (s : Ki) : szS s = 1 + szSs s.gKids + szSs s.gElse + szEs s.gExps := by cases s; simp only [szS]
theorem hS_eq (s : Ki) : hS s = 1 + max (hSs s.gKids) (hSs s.gElse) := by cases s; simp only [hS]
theorem hS_mem : ∀ {l : List Ki} {s : Ki}, s ∈ l → hS s ≤ hSs l
  | x :: l, e, h => by
    simp only [hSs]
    rcases List.mem_cons.1 h with rfl | h
    · omega
    · have := hS_mem h; omega
theorem KiI : ∀ {l : List Ki} {s : Ki}, s ∈ l → szS s ≤ szSs l
  | x :: l, e, h => by
    simp only [szSs]
    rcases List.mem_cons.1 h with rfl | h
    · omega
    · have := KiI h; omega
theorem KiJ : ∀ l, 1 ≤ hSs l
 | [] => by simp [hSs]
 | s :: l => by have := KiJ l; simp only [hSs]; omega
theorem Khw : ∀ l, l.length ≤ szSs l
  | [] => by simp
  | e :: l => by
    have := Khw l
    have h := szS_eq e
    simp only [szSs, List.length_cons]; omega
def wS (s : Ki) : Nat := wt (Kf s)
def wSs (l : List Ki) : Nat := wts (l.map Kf)
theorem wS_eq (s : Ki) : wS s = s.gName.size + s.gFunc.size + wEs s.gExps + wSs s.gKids + wSs s.gElse + 7 := by
 unfold wS wSs wEs
 rw [KU]
 simp only [wt, wts, wtv]; omega
theorem wSs_cons (s : Ki) (l : List Ki) : wSs (s :: l) = wS s + wSs l := by unfold wSs wS; simp only [List.map_cons, wts]
mutual
theorem szS_le : ∀ s, szS s ≤ wS s
  | ⟨a, b, c, es, ks, ls, d⟩ => by
    have h1 := Kj0 ks
    have h2 := Kj0 ls
    have h3 := szEs_le es
    rw [wS_eq]
    simp only [szS]; omega
theorem Kj0 : ∀ l, szSs l ≤ wSs l
  | [] => by simp [szSs]
  | s :: l => by
    have h1 := szS_le s
    have h2 := Kj0 l
    rw [wSs_cons]
    simp only [szSs]; omega
end
theorem fuel {l : List Ki} {n : Nat} {x : Ki} (h : hSs l ≤ n + 1) (hx : x ∈ l) : hSs x.gKids ≤ n ∧ hSs x.gElse ≤ n := by
 have h1 := hS_mem hx
 have h2 := hS_eq x
 omega
end Go.Proofs.YtipfljkjjddapaaGreatDoor.Ab
namespace Go.Proofs.YtipfljkjjddapaaGreatDoor.Ab
open Go
set_option linter.all false
def en (s : Ki) : Int := if s.gOp = 1 ∨ s.gOp = 3 ∨ s.gOp = 6 ∨ s.gOp = 7 ∨ s.gOp = 8 ∨ s.gOp = 9 then 1 else if s.gOp = 2 then 2 else if s.gOp = 4 then (s.gExps.length : Int) else if s.gOp = 5 then 0 else -1
theorem cexps_eq (s : Ki) : KdZ s = some (en s) := by
 unfold KdZ en
 by_cases h1 : s.gOp = 1
 ·simp [h1]
 by_cases h2 : s.gOp = 3
 ·simp [h2]
 by_cases h3 : s.gOp = 6
 ·simp [h3]
 by_cases h4 : s.gOp = 7
 ·simp [h4]
 by_cases h5 : s.gOp = 8
 ·simp [h5]
 by_cases h6 : s.gOp = 9
 ·simp [h6]
 simp only [beq_eq_false_iff_ne.2 h1, beq_eq_false_iff_ne.2 h2, beq_eq_false_iff_ne.2 h3, beq_eq_false_iff_ne.2 h4, beq_eq_false_iff_ne.2 h5, beq_eq_false_iff_ne.2 h6, cond_false, Option.bind_some, h1, h2, h3, h4, h5, h6, false_or, if_false]
 by_cases h7 : s.gOp = 2
 ·simp [h7]
 by_cases h8 : s.gOp = 4
 ·simp [h8]
 by_cases h9 : s.gOp = 5
 ·simp [h9]
 simp only [beq_eq_false_iff_ne.2 h7, beq_eq_false_iff_ne.2 h8, beq_eq_false_iff_ne.2 h9, cond_false, h7, h8, h9, if_false]
theorem rexpn_eq (s : Ki) : Kgf s = some (en s) := by
 unfold Kgf en
 by_cases h : s.gOp < 1 ∨ 9 < s.gOp
 ·have e : (if s.gOp = 1 ∨ s.gOp = 3 ∨ s.gOp = 6 ∨ s.gOp = 7 ∨ s.gOp = 8 ∨ s.gOp = 9 then (1 : Int) else if s.gOp = 2 then 2 else if s.gOp = 4 then (s.gExps.length : Int) else if s.gOp = 5 then 0 else -1) = -1 := by
   rw [if_neg (by omega), if_neg (by omega), if_neg (by omega), if_neg (by omega)]
  rw [e]
  rcases h with h | h
  ·simp [h]
  ·by_cases h2 : s.gOp < 1 <;> simp [h, h2]
 ·have hc : s.gOp = 1 ∨ s.gOp = 2 ∨ s.gOp = 3 ∨ s.gOp = 4 ∨ s.gOp = 5 ∨ s.gOp = 6 ∨ s.gOp = 7 ∨ s.gOp = 8 ∨ s.gOp = 9 := by omega
  rcases hc with h | h | h | h | h | h | h | h | h <;> rw [h] <;> rfl
def Un (r : (Int × Int) ⊕ Int) : (Int × Int) ⊕ Unit := Sum.elim .inl (fun _ => .inr ()) r
def owO (p : Kl) (f : Km) (s : Ki) (ts : List Int) : (Int × Int) ⊕ Unit :=
  if s.gOp = 1 then
    match ts with
    | [x] => Sum.elim .inl (fun k => if k = x then .inr () else .inl (s.gAt, 9)) (mus (kd p f s.gName) s.gAt [1, 2])
    | _ => .inr ()
  else if s.gOp = 4 then caS p f s ts
  else match fn1 (s.gExps.zip ts) with
    | some a => .inl (a, 9)
    | none =>
      if s.gOp = 2 then Un (mus (kd p f s.gName) s.gAt [3])
      else if s.gOp = 3 then Un (mus (kd p f s.gName) s.gAt [2])
      else if s.gOp = 5 then Un (mus (kd p f s.gName) s.gAt [1])
      else .inr ()
def owS (p : Kl) (f : Km) (s : Ki) : (Int × Int) ⊕ Unit := if en s < 0 ∨ (s.gExps.length : Int) ≠ en s then .inl (s.gAt, 2) else Sum.elim .inl (fun ts => owO p f s ts) (tyL p f s.gExps)
mutual
def stS (p : Kl) (f : Km) : Ki → (Int × Int) ⊕ Unit
 | ⟨op, n, fn, es, ks, el, a⟩ => Sum.elim .inl (fun _ => Sum.elim .inl (fun _ => stL p f el) (stL p f ks)) (owS p f ⟨op, n, fn, es, ks, el, a⟩)
def stL (p : Kl) (f : Km) : List Ki → (Int × Int) ⊕ Unit
 | [] => .inr ()
 | s :: l => Sum.elim .inl (fun _ => stL p f l) (stS p f s)
end
theorem stS_eq (p : Kl) (f : Km) (s : Ki) : stS p f s = Sum.elim .inl (fun _ => Sum.elim .inl (fun _ => stL p f s.gElse) (stL p f s.gKids)) (owS p f s) := by cases s; simp only [stS]
theorem own_bind {X : Option (Unit ⊕ ((Int × Int) ⊕ Unit))} {k1 : Option ((Int × Int) ⊕ Unit)} {r R2 : (Int × Int) ⊕ Unit} (h : X = some (Sum.elim (fun pe => .inr (.inl pe)) (fun _ => .inl ()) r)) (hk : k1 = some R2) :
  Option.bind X (Sum.elim (fun _ => k1) (fun r => some r)) = some (Sum.elim .inl (fun _ => R2) r) := by
 subst h; subst hk
 cases r <;> rfl
theorem tyE_12 {p : Kl} {f : Km} {e : Kh} {t : Int} (h : tyE p f e = .inr t) : t = 1 ∨ t = 2 := by
  have hc : ∀ {k a : Int} {ls : List Int} {u : Int}, Sum.elim (γ := (Int × Int) ⊕ Int) .inl (fun _ => .inr u) (mus k a ls) = .inr t → t = u := fun {k a ls u} h => by
    cases hm : mus k a ls with
    | inl q => rw [hm] at h; cases h
    | inr q => rw [hm] at h; simp only [Sum.elim_inr, Sum.inr.injEq] at h; exact h.symm
  rw [tyE_eq] at h
  split at h
  · cases h
  cases ht : tyL p f e.gKids with
  | inl q => rw [ht] at h; cases h
  | inr ts =>
    rw [ht] at h
    simp only [Sum.elim_inr] at h
    unfold tyO at h
    split at h
    · split at h
      · split at h
        · simp only [Sum.inr.injEq] at h; exact .inl h.symm
        · cases h
      · simp only [Sum.inr.injEq] at h; exact .inl h.symm
    split at h
    · cases h
    split at h
    · unfold mus at h
      split at h
      · cases h
      split at h
      · rename_i _ hm
        simp only [Sum.inr.injEq] at h
        subst h
        simpa using hm
      · cases h
    split at h
    · exact .inl (hc h)
    split at h
    · exact .inl (hc h)
    split at h
    · simp only [Sum.inr.injEq] at h; exact .inr h.symm
    split at h
    · exact .inr (hc h)
    split at h
    · exact .inr (hc h)
    · simp only [Sum.inr.injEq] at h; exact .inl h.symm
theorem tyL_12 {p : Kl} {f : Km} : ∀ {l : List Kh} {ts : List Int}, tyL p f l = .inr ts → ∀ t ∈ ts, t = 1 ∨ t = 2
  | [], ts, h, t, ht => by simp only [tyL, Sum.inr.injEq] at h; subst h; cases ht
  | e :: l, ts, h, t, ht => by
    simp only [tyL] at h
    cases h1 : tyE p f e with
    | inl pe => rw [h1] at h; cases h
    | inr u =>
      rw [h1] at h
      cases h2 : tyL p f l with
      | inl pe => rw [h2] at h; cases h
      | inr ts' =>
        rw [h2] at h
        simp only [Sum.elim_inr, Sum.inr.injEq] at h
        subst h
        rcases List.mem_cons.1 ht with rfl | ht
        · exact tyE_12 h1
        · exact tyL_12 h2 t ht
theorem stmt_b {p : Kl} {f : Km} (hf : Fit p f) {g0 : Kv → List Ki → Option ((Int × Int) ⊕ Unit)} {g1 : Kv → Ki → Option ((Int × Int) ⊕ Unit)} {s : Ki} (hb : szEs s.gExps ≤ 1048576)
    (hk : g0 ⟨p, f⟩ s.gKids = some (stL p f s.gKids)) (he : g0 ⟨p, f⟩ s.gElse = some (stL p f s.gElse)) : KaZ g0 g1 ⟨p, f⟩ s = some (stS p f s) := by
  have hlen0 := KfI s.gExps
  unfold KaZ
  rw [cexps_eq, Option.bind_some, stS_eq]
  unfold owS
  by_cases hn : en s < 0
  · simp [hn, Kaz]
  by_cases hl : (s.gExps.length : Int) = en s
  case neg =>
    have hl' : ((s.gExps.length : Int) != en s) = true := by simpa using hl
    rw [if_pos (by omega)]
    simp only [hn, decide_false, cond_false, Option.bind_some, hl', cond_true, Kaz, Sum.elim_inl, Sum.elim_inr]
  have hl' : ((s.gExps.length : Int) != en s) = false := by simpa using hl
  rw [if_neg (show ¬(en s < 0 ∨ (s.gExps.length : Int) ≠ en s) by omega)]
  simp only [hn, decide_false, cond_false, Option.bind_some, hl', Sum.elim_inl, ints_eq hf hb]
  cases ht : tyL p f s.gExps with
  | inl pe => rfl
  | inr ts =>
    have hlen := KiH ht
    simp only [Sum.elim_inr]
    refine own_bind ?_ ?_
    case refine_2 =>
      rw [hk, Option.bind_some]
      cases stL p f s.gKids with
      | inl pe => rfl
      | inr u =>
        simp only [Sum.elim_inr, he, Option.bind_some]
        cases stL p f s.gElse <;> rfl
    have n3 := fun (k : Int) => KgZ (n := s.gName) (at_ := s.gAt) hf (show [k].length ≤ 4611686018427387904 by simp)
    have n2 := KgZ (n := s.gName) (at_ := s.gAt) hf (show [(1 : Int), 2].length ≤ 4611686018427387904 by simp)
    have hcall := ccall_eq (s := s) hf hlen (tyL_12 ht)
    have one : en s = 1 → ∃ a x, s.gExps = [a] ∧ ts = [x] := fun h1 => by
      have hk1 : s.gExps.length = 1 := by omega
      match hK : s.gExps, hT : ts, hk1, hlen with
      | [a], [x], _, _ => exact ⟨a, x, rfl, rfl⟩
    unfold owO
    by_cases o1 : s.gOp = 1
    · obtain ⟨a, x, hE, hT⟩ := one (by unfold en; simp [o1])
      subst hT
      have i0 : idx [x] (0 : Int) = some x := rfl
      simp only [o1, n2, i0, Option.bind_some, if_true, beq_self_eq_true, cond_true]
      cases mus (kd p f s.gName) s.gAt [1, 2] with
      | inl pe => rfl
      | inr k =>
        simp only [Sum.elim_inr]
        by_cases hkx : k = x
        · subst hkx; simp
        · have : (k != x) = true := by simpa using hkx
          simp [this, hkx, Kaz]
    by_cases o4 : s.gOp = 4
    · simp only [o4, hcall, Option.bind_some]
      cases caS p f s ts <;> rfl
    rw [if_neg o1, if_neg o4]
    have e1 := beq_eq_false_iff_ne.2 o1
    have e4 := beq_eq_false_iff_ne.2 o4
    by_cases o2 : s.gOp = 2
    · have h2 : en s = 2 := by unfold en; simp [o2]
      have hk2 : s.gExps.length = 2 := by omega
      have : ∃ a b x y, s.gExps = [a, b] ∧ ts = [x, y] := by
        match hK : s.gExps, hT : ts, hk2, hlen with
        | [a, b], [x, y], _, _ => exact ⟨a, b, x, y, rfl, rfl⟩
      obtain ⟨a, b, x, y, hE, hT⟩ := this
      subst hT
      rw [hE]
      have i0 : ∀ {β : Type} (u v : β), idx [u, v] (0 : Int) = some u := fun _ _ => rfl
      have i1 : ∀ {β : Type} (u v : β), idx [u, v] (1 : Int) = some v := fun _ _ => rfl
      simp only [o2, n3, Option.bind_some, i0, i1, KgS, List.zip_cons_cons, List.zip_nil_right, fn1]
      by_cases hx : x = 1
      · by_cases hy : y = 1
        · simp only [hx, hy, if_true, Sum.elim_inr]
          cases mus (kd p f s.gName) s.gAt [3] <;> rfl
        · simp only [hx, hy, if_true, if_false, Sum.elim_inr]; rfl
      · simp only [hx, if_false]; rfl
    have e2 := beq_eq_false_iff_ne.2 o2
    by_cases o5 : s.gOp = 5
    · have h5 : en s = 0 := by unfold en; simp [o5]
      have hk0 : s.gExps = [] := List.eq_nil_of_length_eq_zero (by omega)
      rw [hk0]
      simp only [o5, n3, Option.bind_some, List.zip_nil_left, fn1]
      cases mus (kd p f s.gName) s.gAt [1] <;> rfl
    have e5 := beq_eq_false_iff_ne.2 o5
    obtain ⟨a, x, hE, hT⟩ := one (by
      have : ¬ en s < 0 := hn
      unfold en at this ⊢
      split
      · rfl
      · rw [if_neg (by assumption), if_neg o2, if_neg o4, if_neg o5] at this; omega)
    subst hT
    rw [hE]
    have i0 : ∀ {β : Type} (u : β), idx [u] (0 : Int) = some u := fun _ => rfl
    by_cases o3 : s.gOp = 3
    · simp only [o3, n3, Option.bind_some, i0, KgS, List.zip_cons_cons, List.zip_nil_right, fn1]
      by_cases hx : x = 1
      · simp only [hx, if_true, Sum.elim_inr]
        cases mus (kd p f s.gName) s.gAt [2] <;> rfl
      · simp only [hx, if_false]; rfl
    have e3 := beq_eq_false_iff_ne.2 o3
    simp only [e1, e2, e3, e4, e5, cond_false, Option.bind_some, i0, KgS, List.zip_cons_cons, List.zip_nil_right, fn1, o2, o3, o5, if_false]
    by_cases hx : x = 1
    · simp only [hx, if_true]; rfl
    · simp only [hx, if_false]; rfl
end Go.Proofs.YtipfljkjjddapaaGreatDoor.Ab
namespace Go.Proofs.YtipfljkjjddapaaGreatDoor.Ab
open Go
set_option linter.all false
theorem KkK {p : Kl} {f : Km} {τ : Type} (c : Int × Int → τ) (z : τ) : ∀ l : List Ki, scan (fun (_ : Unit) s => Sum.elim (fun pe => .inr (c pe)) (fun _ => .inl ()) (stS p f s)) (fun _ => z) () l = Sum.elim c (fun _ => z) (stL p f l)
  | [] => rfl
  | s :: l => by
    simp only [scan, stL]
    cases stS p f s with
    | inl pe => rfl
    | inr u => exact KkK c z l
theorem stmts_b {p : Kl} {f : Km} {g0 : Kv → List Ki → Option ((Int × Int) ⊕ Unit)} {g1 : Kv → Ki → Option ((Int × Int) ⊕ Unit)} {l : List Ki} (hb : l.length ≤ 1048576)
  (h : ∀ s ∈ l, g1 ⟨p, f⟩ s = some (stS p f s)) : KaS g0 g1 ⟨p, f⟩ l = some (stL p f l) := by
 unfold KaS
 rw [Kbc l (fun (_ : Unit) s => Sum.elim (fun pe => .inr (Sum.inr (Sum.inl pe))) (fun _ => .inl ()) (stS p f s)) (.inl ())
  (fun pre x post e => by
   simp only [KaW e, cond_true]
   have hix : idx l (pre.length : Int) = some x := by rw [e]; exact Ka3 _ _ _
   rw [hix, Option.bind_some, h x (Kcu e), Option.bind_some]
   cases stS p f x with
   | inl pe => rfl
   | inr u => simp only [Sum.elim_inr, Sum.elim_inl]; rw [KaI e (by omega)]) (by simp), Option.bind_some, KkK (fun pe => Sum.inr (Sum.inl pe)) (Sum.inl ())]
 cases stL p f l <;> rfl
theorem stmts_g {p : Kl} {f : Km} (hf : Fit p f) : ∀ n : Nat, (∀ l, 2 * hSs l ≤ n → szSs l ≤ 1048576 → (KV n).1 ⟨p, f⟩ l = some (stL p f l)) ∧ (∀ s, 2 * hS s ≤ n + 1 → szS s ≤ 1048576 → (KV n).2 ⟨p, f⟩ s = some (stS p f s))
  | 0 => ⟨fun l h => by have := KiJ l; omega, fun s h _ => by rw [hS_eq] at h; omega⟩
  | n + 1 => by
    obtain ⟨h2, h1⟩ := stmts_g hf n
    refine ⟨fun l h hb => ?_, fun s h hb => ?_⟩
    · have hl := Khw l
      exact stmts_b (g0 := (KV n).1) (by omega) fun s hs => h1 s (by have := hS_mem hs; omega) (by have := KiI hs; omega)
    · have he := hS_eq s
      have hz := szS_eq s
      exact stmt_b hf (g1 := (KV n).2) (by omega) (h2 _ (by omega) (by omega)) (h2 _ (by omega) (by omega))
theorem cstmts_eq {p : Kl} {f : Km} (hf : Fit p f) {l : List Ki} (hb : szSs l ≤ 1048576) : KcN ⟨p, f⟩ l = some (stL p f l) := KfQ _ _ (2 * hSs l) ((stmts_g hf _).1 l (Nat.le_refl _) hb)
def oa (s : Ki) : Int := if s.gOp = 1 ∨ s.gOp = 2 ∨ s.gOp = 3 ∨ s.gOp = 5 then s.gAt else if s.gOp = 4 then (if s.gName = ByteArray.mk #[] then 0 else s.gAt) else 0
theorem caS_e {p : Kl} {f : Km} {s : Ki} {ts : List Int} {pe : Int × Int} (h : caS p f s ts = .inl pe) : pe.2 ≠ 0 := by
 unfold caS at h
 split at h
 ·unfold caO at h
  split at h
  ·simp only [Sum.inl.injEq] at h; subst h; simp
  split at h
  ·simp only [Sum.inl.injEq] at h; subst h; simp
  split at h
  ·cases h
  ·cases hm : mus (kd p f s.gName) s.gAt [1] with
   | inl q => rw [hm] at h; simp only [Sum.elim_inl, Sum.inl.injEq] at h; subst h; rcases mus_e hm with rfl | rfl <;> simp
   | inr q => rw [hm] at h; cases h
 ·simp only [Sum.inl.injEq] at h; subst h; simp
theorem owS_e {p : Kl} {f : Km} {s : Ki} {pe : Int × Int} (h : owS p f s = .inl pe) : pe.2 ≠ 0 := by
  have hU : ∀ {k a : Int} {ls : List Int}, Un (mus k a ls) = .inl pe → pe.2 ≠ 0 := fun {k a ls} h => by
    cases hm : mus k a ls with
    | inl q => rw [hm] at h; simp only [Un, Sum.elim_inl, Sum.inl.injEq] at h; subst h; rcases mus_e hm with rfl | rfl <;> simp
    | inr q => rw [hm] at h; cases h
  unfold owS at h
  split at h
  · simp only [Sum.inl.injEq] at h; subst h; simp
  cases ht : tyL p f s.gExps with
  | inl q => rw [ht] at h; simp only [Sum.elim_inl, Sum.inl.injEq] at h; subst h; exact tyL_e ht
  | inr ts =>
    rw [ht] at h
    simp only [Sum.elim_inr] at h
    unfold owO at h
    split at h
    · split at h
      · cases hm : mus (kd p f s.gName) s.gAt [1, 2] with
        | inl q => rw [hm] at h; simp only [Sum.elim_inl, Sum.inl.injEq] at h; subst h; rcases mus_e hm with rfl | rfl <;> simp
        | inr q =>
          rw [hm] at h
          simp only [Sum.elim_inr] at h
          split at h
          · cases h
          · simp only [Sum.inl.injEq] at h; subst h; simp
      · cases h
    split at h
    · exact caS_e h
    split at h
    · simp only [Sum.inl.injEq] at h; subst h; simp
    split at h
    · exact hU h
    split at h
    · exact hU h
    split at h
    · exact hU h
    · cases h
theorem is_un (k a x y : Int) : ((a, if k = 0 then (7 : Int) else if k = x ∨ k = y then 0 else 9) : Int × Int) = Sum.elim id (fun _ => (a, 0)) (Un (mus k a [x, y])) := by
 unfold mus Un
 by_cases h0 : k = 0
 ·simp [h0]
 ·by_cases h1 : k = x ∨ k = y
  ·simp [h0, h1]
  ·simp [h0, h1]
theorem rown_eq {p : Kl} {f : Km} (hf : Fit p f) {s : Ki} (hb : szEs s.gExps ≤ 1048576) : Kio p f s = some (Sum.elim id (fun _ => (oa s, 0)) (owS p f s)) := by
  have hlen0 := KfI s.gExps
  unfold Kio
  rw [rexpn_eq, Option.bind_some]
  unfold owS
  by_cases hn : en s < 0
  · simp [hn]
  by_cases hl : (s.gExps.length : Int) = en s
  case neg =>
    have hl' : (en s != (s.gExps.length : Int)) = true := by simpa using fun h => hl h.symm
    rw [if_pos (by omega)]
    simp only [hn, decide_false, cond_false, Option.bind_some, hl', cond_true]
    rfl
  have hl' : (en s != (s.gExps.length : Int)) = false := by simpa using hl.symm
  rw [if_neg (show ¬(en s < 0 ∨ (s.gExps.length : Int) ≠ en s) by omega)]
  simp only [hn, decide_false, cond_false, Option.bind_some, hl']
  rw [KlO (τ := List Int ⊕ (Int × Int)) (p := p) (f := f) (g0 := Khd) (by omega) (fun x hx => rtype_eq hf (by have := KgY hx; omega)) (fun pe => .inr pe) (fun a => .inl a) (fun s => rfl), Option.bind_some]
  cases ht : tyL p f s.gExps with
  | inl pe => rfl
  | inr ts =>
    have hlen := KiH ht
    simp only [Sum.elim_inr, Sum.elim_inl, KkH hf, Option.bind_some]
    unfold owO
    by_cases o1 : s.gOp = 1
    · have h1 : en s = 1 := by unfold en; simp [o1]
      have hk1 : s.gExps.length = 1 := by omega
      have : ∃ x, ts = [x] := by
        match hT : ts, (show ts.length = 1 by omega) with
        | [x], _ => exact ⟨x, rfl⟩
      obtain ⟨x, hT⟩ := this
      subst hT
      have i0 : idx [x] (0 : Int) = some x := rfl
      unfold oa
      rw [KbY (t := Sum.inl ()) (by simp [o1])]
      simp only [o1, i0, is_eq, Option.bind_some, Sum.elim_inl, beq_self_eq_true, cond_true, if_true, true_or]
      unfold mus
      by_cases k0 : kd p f s.gName = 0
      · simp [k0]
      · by_cases k1 : kd p f s.gName = 1
        · by_cases hx : (1 : Int) = x
          · subst hx; simp [k1]
          · simp [k1, hx]
        · by_cases k2 : kd p f s.gName = 2
          · by_cases hx : (2 : Int) = x
            · subst hx; simp [k2]
            · simp [k2, hx]
          · simp [k0, k1, k2, beq_eq_false_iff_ne.2 k1, beq_eq_false_iff_ne.2 k2]
    by_cases o4 : s.gOp = 4
    · unfold oa
      rw [KbY (t := Sum.inl ()) (by simp [o4])]
      simp only [o4, rcall_eq (s := s) hf hlen (tyL_12 ht), Option.bind_some, Sum.elim_inl]
      rfl
    have c1 : (s.gOp != 1) = true := by simpa using o1
    have c4 : (s.gOp != 4) = true := by simpa using o4
    have hz : (s.gExps.zip ts).length = ts.length := by simp [hlen]
    rw [Kbc (s.gExps.zip ts) (fun (_ : Unit) (x : Kh × Int) => if x.2 = 1 then .inl () else .inr (Sum.inr (x.1.gAt, (9 : Int)))) (.inl ())
      (fun pre x post hh => by
        obtain ⟨x, t⟩ := x
        obtain ⟨i1, i2⟩ := zip_at hlen.symm hh
        have hlt := KaW hh
        rw [hz] at hlt
        simp only [hlt, cond_true, i1, i2, Option.bind_some, c1, c4]
        by_cases h1 : t = 1
        · simp only [h1, bne_self_eq_false, cond_false, if_true, Sum.elim_inl]; rw [KaI hh (by omega)]
        · have h1' : (t != 1) = true := by simpa using h1
          simp only [h1', cond_true, h1, if_false, Sum.elim_inr])
      (by rw [hz]; simp), Option.bind_some, Kjk (fun a => Sum.inr (a, (9 : Int))) (Sum.inl ())]
    rw [if_neg o1, if_neg o4]
    cases hfn : fn1 (s.gExps.zip ts) with
    | some a => rfl
    | none =>
      simp only [Sum.elim_inl, is_eq, Option.bind_some]
      unfold oa
      by_cases o2 : s.gOp = 2
      · simp only [o2]
        have := is_un (kd p f s.gName) s.gAt 3 3
        rw [Khv] at this
        exact congrArg some this
      by_cases o3 : s.gOp = 3
      · simp only [o3]
        have := is_un (kd p f s.gName) s.gAt 2 2
        rw [Khv] at this
        exact congrArg some this
      by_cases o5 : s.gOp = 5
      · simp only [o5]
        have := is_un (kd p f s.gName) s.gAt 1 1
        rw [Khv] at this
        exact congrArg some this
      simp only [beq_eq_false_iff_ne.2 o1, beq_eq_false_iff_ne.2 o2, beq_eq_false_iff_ne.2 o3, beq_eq_false_iff_ne.2 o4, beq_eq_false_iff_ne.2 o5, cond_false, o1, o2, o3, o4, o5, if_false, false_or, Sum.elim_inr]
mutual
theorem stS_e {p : Kl} {f : Km} : ∀ {s : Ki} {pe : Int × Int}, stS p f s = .inl pe → pe.2 ≠ 0
  | ⟨op, n, fn, es, ks, el, a⟩, pe, h => by
    simp only [stS] at h
    cases h1 : owS p f ⟨op, n, fn, es, ks, el, a⟩ with
    | inl q => rw [h1] at h; simp only [Sum.elim_inl, Sum.inl.injEq] at h; subst h; exact owS_e h1
    | inr u =>
      rw [h1] at h
      simp only [Sum.elim_inr] at h
      cases h2 : stL p f ks with
      | inl q => rw [h2] at h; simp only [Sum.elim_inl, Sum.inl.injEq] at h; subst h; exact stL_e h2
      | inr u => rw [h2] at h; exact stL_e h
theorem stL_e {p : Kl} {f : Km} : ∀ {l : List Ki} {pe : Int × Int}, stL p f l = .inl pe → pe.2 ≠ 0
  | [], pe, h => by simp only [stL] at h; cases h
  | s :: l, pe, h => by
    simp only [stL] at h
    cases h1 : stS p f s with
    | inl q => rw [h1] at h; simp only [Sum.elim_inl, Sum.inl.injEq] at h; subst h; exact stS_e h1
    | inr u => rw [h1] at h; exact stL_e h
end
theorem KkL {p : Kl} {f : Km} (hf : Fit p f) : ∀ (n : Nat) (l : List Ki), hSs l ≤ n → szSs l ≤ 1048576 → KbT n p f l = some (Sum.elim id (fun _ => (0, 0)) (stL p f l))
  | 0, l, h, _ => by have := KiJ l; omega
  | n + 1, l, h, hb => by
    have hl := Khw l
    show KcZ (KbT n) p f l = _
    unfold KcZ
    rw [Kbc l (fun (_ : Unit) s => Sum.elim (fun pe => .inr (Sum.inr pe)) (fun _ => .inl ()) (stS p f s)) (.inl ())
      (fun pre x post e => by
        have hx := Kcu e
        obtain ⟨f1, f2⟩ := fuel h hx
        have hz := szS_eq x
        have hzm := KiI hx
        simp only [KaW e, cond_true]
        have hix : idx l (pre.length : Int) = some x := by rw [e]; exact Ka3 _ _ _
        simp only [hix, Option.bind_some]
        rw [rown_eq hf (by omega), Option.bind_some, KkL hf n x.gKids f1 (by omega), KkL hf n x.gElse f2 (by omega), stS_eq]
        cases h1 : owS p f x with
        | inl pe =>
          have h0 := beq_eq_false_iff_ne.2 (owS_e h1)
          have h0' : (pe.2 != 0) = true := by simpa using owS_e h1
          simp [h0, h0']
        | inr u =>
          simp only [Sum.elim_inr, beq_self_eq_true, cond_true, Option.bind_some]
          cases h2 : stL p f x.gKids with
          | inl pe =>
            have h0 := beq_eq_false_iff_ne.2 (stL_e h2)
            have h0' : (pe.2 != 0) = true := by simpa using stL_e h2
            simp [h0, h0']
          | inr u =>
            simp only [Sum.elim_inr, beq_self_eq_true, cond_true, Option.bind_some]
            cases h3 : stL p f x.gElse with
            | inl pe =>
              have h0' : (pe.2 != 0) = true := by simpa using stL_e h3
              simp [h0']
            | inr u =>
              simp only [Sum.elim_inr, Sum.elim_inl, bne_self_eq_false, cond_false]
              rw [KaI e (by omega)]) (by simp), Option.bind_some, KkK (fun pe => Sum.inr pe) (Sum.inl ())]
    cases stL p f l <;> rfl
theorem rstmts_eq {p : Kl} {f : Km} (hf : Fit p f) {l : List Ki} (hb : szSs l ≤ 1048576) : KhR p f l = some (Sum.elim id (fun _ => (0, 0)) (stL p f l)) := Kl8 _ _ _ (hSs l) (KkL hf _ l (Nat.le_refl _) hb)
end Go.Proofs.YtipfljkjjddapaaGreatDoor.Ab
namespace Go.Proofs.YtipfljkjjddapaaGreatDoor.Ab
open Go
set_option linter.all false
theorem mget_put {α β : Type} [DecidableEq α] (k : α) (v : β) (k' : α) : ∀ l : List (α × β), mget (mput l k v) k' = if k = k' then some v else mget l k'
  | [] => by simp [mput, mget]
  | (a, b) :: l => by
    unfold mput
    by_cases h : a = k
    · subst h
      rw [if_pos rfl]
      by_cases h2 : a = k'
      · simp [mget, h2]
      · simp [mget, h2]
    · rw [if_neg h]
      simp only [mget]
      by_cases h2 : a = k'
      · subst h2
        rw [if_pos rfl, if_neg (fun e => h e.symm), if_pos rfl]
      · rw [if_neg h2, if_neg h2, mget_put k v k' l]
theorem KfJ {α β : Type} [DecidableEq α] (k : α) (v z : β) (k' : α) (l : List (α × β)) : mgetD (mput l k v) k' z = if k = k' then v else mgetD l k' z := by
 unfold mgetD
 rw [mget_put]
 by_cases h : k = k'
 ·rw [if_pos h, if_pos h]; rfl
 ·rw [if_neg h, if_neg h]
def nmG (p : Kl) : List K8 → List K8 → Bool
 | _, [] => true
 | seen, v :: l => if gk v.gName p.gGlobals ≠ 0 ∨ ∃ y ∈ seen, y.gName = v.gName then false else nmG p (seen ++ [v]) l
theorem Kk6 (p : Kl) : ∀ (l m seen : List K8), nmG p seen (l ++ m) = (nmG p seen l && nmG p (seen ++ l) m)
  | [], m, seen => by simp [nmG]
  | v :: l, m, seen => by
    simp only [List.cons_append, nmG]
    split
    · rfl
    · rw [Kk6 p l m (seen ++ [v])]; simp
theorem scan_ex {τ : Type} (n : ByteArray) (y z : τ) : ∀ l : List K8, scan (fun (_ : Unit) (x : K8) => if x.gName = n then .inr y else .inl ()) (fun _ => z) () l = if ∃ x ∈ l, x.gName = n then y else z
  | [] => by simp [scan]
  | x :: l => by
    simp only [scan]
    by_cases h : x.gName = n
    · rw [if_pos h, if_pos ⟨x, by simp, h⟩]
    · rw [if_neg h]
      show scan _ _ () l = _
      rw [scan_ex n y z l]
      by_cases h2 : ∃ x ∈ l, x.gName = n
      · rw [if_pos h2, if_pos]
        obtain ⟨q, h3, h4⟩ := h2
        exact ⟨q, List.mem_cons_of_mem _ h3, h4⟩
      · rw [if_neg h2, if_neg]
        rintro ⟨q, h3, h4⟩
        rcases List.mem_cons.1 h3 with rfl | h3
        · exact h h4
        · exact h2 ⟨q, h3, h4⟩
theorem loop_scanG {τ β : Type} {f : Int → Option (Step Int τ)} (l : List β) (step : List β → β → Bool) (t z : τ)
  (h1 : ∀ pre x post, l = pre ++ x :: post → f (pre.length : Int) = if step pre x then some (.next ((pre.length + 1 : Nat) : Int)) else some (.done t))
  (h2 : f (l.length : Int) = some (.done z)) : loopM f (0 : Int) = some (scan (fun (a : List β) x => if step a x then .inl (a ++ [x]) else .inr t) (fun _ => z) [] l) :=
 Kgz l (fun (a : List β) x => if step a x then .inl (a ++ [x]) else .inr t) (fun _ => z) (fun _ k => (k : Int)) (fun pre a => a = pre) [] rfl
  (fun pre x post a a' _ hi hs => by
   subst hi
   split at hs
   ·simp only [Sum.inl.injEq] at hs; exact hs.symm
   ·cases hs)
  (fun pre x post a h hi => by
   subst hi
   rw [h1 _ x post h]
   split <;> simp) (fun _ _ => h2)
theorem scan_nmG {p : Kl} {τ : Type} (t z : τ) : ∀ (l seen : List K8), scan (fun (a : List K8) v => if decide (¬ (gk v.gName p.gGlobals ≠ 0 ∨ ∃ y ∈ a, y.gName = v.gName)) then .inl (a ++ [v]) else .inr t) (fun _ => z) seen l = if nmG p seen l then z else t
  | [], seen => rfl
  | v :: l, seen => by
    simp only [scan, nmG]
    by_cases h : gk v.gName p.gGlobals ≠ 0 ∨ ∃ y ∈ seen, y.gName = v.gName
    · simp only [h, not_true_eq_false, decide_false, Bool.false_eq_true, if_false, if_true]
    · simp only [h, not_false_eq_true, decide_true, if_true, if_false]
      exact scan_nmG t z l (seen ++ [v])
def fnS (p : Kl) (f : Km) : (Int × Int) ⊕ Unit := if nmG p [] (f.gParams ++ f.gLocals) then stL p f f.gBody else .inl (f.gAt, 8)
theorem rfunc_eq {p : Kl} {f : Km} (hf : Fit p f) (hb : szSs f.gBody ≤ 1048576) : Kfq p f = some (Sum.elim id (fun _ => (0, 0)) (fnS p f)) := by
  have := hf.gl; have := hf.fp; have := hf.fl
  unfold Kfq
  rw [Kfx (by omega) (by simp; omega), Option.bind_some, List.nil_append, Kfx (by omega) (by omega), Option.bind_some]
  rw [loop_scanG (f.gParams ++ f.gLocals) (fun a v => decide (¬ (gk v.gName p.gGlobals ≠ 0 ∨ ∃ y ∈ a, y.gName = v.gName))) (Sum.inr (f.gAt, (8 : Int))) (Sum.inl ())
    (fun pre x post h => by
      have hix : idx (f.gParams ++ f.gLocals) (pre.length : Int) = some x := by rw [h]; exact Ka3 _ _ _
      simp only [KaW h, cond_true, hix, Option.bind_some, Kk4 (show p.gGlobals.length ≤ 4611686018427387904 by omega)]
      have hlen : pre.length ≤ (f.gParams ++ f.gLocals).length := by rw [h]; simp
      have hlen2 : (f.gParams ++ f.gLocals).length = f.gParams.length + f.gLocals.length := by simp
      by_cases hg : gk x.gName p.gGlobals = 0
      case neg =>
        have hg' : (gk x.gName p.gGlobals != 0) = true := by simpa using hg
        simp [hg', hg]
      simp only [hg, bne_self_eq_false, cond_false]
      rw [Kbc pre (fun (_ : Unit) (y : K8) => if y.gName = x.gName then .inr (Sum.inr (f.gAt, (8 : Int))) else .inl ()) (.inl ())
        (fun a y b h2 => by
          have hiy : idx (f.gParams ++ f.gLocals) (a.length : Int) = some y := by
            rw [h, h2, List.append_assoc, List.cons_append]; exact Ka3 _ _ _
          simp only [KaW h2, cond_true, hiy, Option.bind_some]
          by_cases hn : y.gName = x.gName
          · simp only [hn, decide_true, cond_true, if_true, Sum.elim_inr]
          · simp only [hn, decide_false, cond_false, if_false, Sum.elim_inl]; rw [KaI h2 (by omega)]) (by simp), Option.bind_some, scan_ex]
      by_cases he : ∃ y ∈ pre, y.gName = x.gName
      · rw [if_pos he]; simp [he]
      · rw [if_neg he, Sum.elim_inl, KaI h (by omega)]; simp [he]) (by simp), Option.bind_some, scan_nmG]
  unfold fnS
  cases nmG p [] (f.gParams ++ f.gLocals) with
  | true =>
    simp only [if_true, Sum.elim_inl, rstmts_eq hf hb, Option.bind_some]
  | false => rfl
def Cnt (seen : List K8) (m : List (ByteArray × Int)) : Prop := ∀ n, mgetD m n 0 = if ∃ y ∈ seen, y.gName = n then 1 else 0
theorem Cnt.put {seen : List K8} {m : List (ByteArray × Int)} (h : Cnt seen m) {v : K8} (hv : ¬ ∃ y ∈ seen, y.gName = v.gName) : Cnt (seen ++ [v]) (mput m v.gName (IntKind.i64.wrap (mgetD m v.gName 0 + 1))) := by
 intro n
 have h0 := h v.gName
 rw [if_neg hv] at h0
 rw [KfJ, h0]
 by_cases hn : v.gName = n
 ·rw [if_pos hn, if_pos ⟨v, by simp, hn⟩]; rfl
 ·rw [if_neg hn, h n]
  by_cases he : ∃ y ∈ seen, y.gName = n
  ·rw [if_pos he, if_pos]
   obtain ⟨q, h3, h4⟩ := he
   exact ⟨q, by simp [h3], h4⟩
  ·rw [if_neg he, if_neg]
   rintro ⟨q, h3, h4⟩
   simp only [List.mem_append, List.mem_singleton] at h3
   rcases h3 with h3 | rfl
   ·exact he ⟨q, h3, h4⟩
   ·exact hn h4
theorem Kk7 {p : Kl} {f : Km} (hg : p.gGlobals.length ≤ 1048576) {F : Int × List (ByteArray × Int) → Option (Step (Int × List (ByteArray × Int)) (List (ByteArray × Int) ⊕ ((Int × Int) ⊕ Unit)))} {l : List K8} (hb : l.length ≤ 1048576)
    (hF : ∀ s, F s = (bif (decide (s.1 < (l.length : Int))) then ((idx l s.1).bind fun x733 => (Option.bind (α := Bool) (bif (decide ((1 : Int) < (mgetD (mput s.2 x733.gName (IntKind.i64.wrap ((mgetD s.2 x733.gName (0 : Int)) + (1 : Int)))) x733.gName (0 : Int)))) then some true else ((KaO ⟨p, f⟩ x733.gName).bind fun x739 => some (x739 != (0 : Int)))) fun y737 => (bif y737 then ((Kaz f.gAt (8 : Int)).bind fun x741 => Sum.elim (fun pe741 => some (.done (.inr (.inl pe741)))) (fun z741 => some (.next ((IntKind.i64.wrap (s.1 + (1 : Int))), (mput s.2 x733.gName (IntKind.i64.wrap ((mgetD s.2 x733.gName (0 : Int)) + (1 : Int))))))) x741) else some (.next ((IntKind.i64.wrap (s.1 + (1 : Int))), (mput s.2 x733.gName (IntKind.i64.wrap ((mgetD s.2 x733.gName (0 : Int)) + (1 : Int))))))))) else some (.done (.inl s.2))))
    {seen : List K8} {m : List (ByteArray × Int)} (hc : Cnt seen m) : ∃ m', (nmG p seen l = true → Cnt (seen ++ l) m') ∧ loopM F ((0 : Int), m) = some (if nmG p seen l then .inl m' else .inr (.inl (f.gAt, 8))) := by
  have key : ∀ (post pre : List K8) (m : List (ByteArray × Int)), l = pre ++ post → Cnt (seen ++ pre) m → ∃ m', (nmG p (seen ++ pre) post = true → Cnt (seen ++ pre ++ post) m') ∧ loopM F ((pre.length : Int), m) = some (if nmG p (seen ++ pre) post then .inl m' else .inr (.inl (f.gAt, 8))) := by
    intro post
    induction post with
    | nil =>
      intro pre m h hc
      rw [List.append_nil] at h
      subst h
      refine ⟨m, fun _ => by simpa using hc, ?_⟩
      rw [KbY (t := Sum.inl m) (by rw [hF]; simp)]
      rfl
    | cons x post ih =>
      intro pre m h hc
      have hix : idx l (pre.length : Int) = some x := by rw [h]; exact Ka3 _ _ _
      have hx := hc x.gName
      have hstep : F ((pre.length : Int), m) = if gk x.gName p.gGlobals ≠ 0 ∨ ∃ y ∈ seen ++ pre, y.gName = x.gName then some (.done (.inr (.inl (f.gAt, 8)))) else some (.next (((pre.length + 1 : Nat) : Int), mput m x.gName (IntKind.i64.wrap (mgetD m x.gName 0 + 1)))) := by
        rw [hF]
        simp only [KaW h, cond_true, hix, Option.bind_some, Kjj (s := ⟨p, f⟩) (n := x.gName) (show p.gGlobals.length ≤ 4611686018427387904 by omega)]
        by_cases he : ∃ y ∈ seen ++ pre, y.gName = x.gName
        · rw [if_pos he] at hx
          have h2 : decide ((1 : Int) < mgetD (mput m x.gName (IntKind.i64.wrap (mgetD m x.gName 0 + 1))) x.gName 0) = true := by
            rw [KfJ, if_pos rfl, hx]; rfl
          rw [if_pos (.inr he)]
          simp [h2, Kaz]
        · rw [if_neg he] at hx
          have h2 : decide ((1 : Int) < mgetD (mput m x.gName (IntKind.i64.wrap (mgetD m x.gName 0 + 1))) x.gName 0) = false := by
            rw [KfJ, if_pos rfl, hx]; rfl
          simp only [h2, cond_false, Option.bind_some]
          by_cases hgk : gk x.gName p.gGlobals = 0
          · rw [if_neg (by simp only [not_or]; exact ⟨by simpa using hgk, he⟩)]
            simp only [hgk, bne_self_eq_false, cond_false]
            rw [KaI h (by omega)]
          · rw [if_pos (.inl hgk)]
            have : (gk x.gName p.gGlobals != 0) = true := by simpa using hgk
            simp [this, Kaz]
      by_cases hbad : gk x.gName p.gGlobals ≠ 0 ∨ ∃ y ∈ seen ++ pre, y.gName = x.gName
      · rw [if_pos hbad] at hstep
        have e : nmG p (seen ++ pre) (x :: post) = false := by simp only [nmG]; rw [if_pos hbad]
        exact ⟨m, (fun q => by rw [e] at q; cases q), by rw [KbY hstep]; simp [e]⟩
      · rw [if_neg hbad] at hstep
        have e : nmG p (seen ++ pre) (x :: post) = nmG p (seen ++ pre ++ [x]) post := by simp only [nmG]; rw [if_neg hbad]
        rw [KeT hstep]
        have hne : ¬ ∃ y ∈ seen ++ pre, y.gName = x.gName := fun q => hbad (.inr q)
        obtain ⟨m', q1, q2⟩ := ih (pre ++ [x]) _ (by simp [h]) (by rw [← List.append_assoc]; exact hc.put hne)
        refine ⟨m', fun q => ?_, ?_⟩
        · rw [e] at q
          have := q1 (by rw [← List.append_assoc]; exact q)
          simpa using this
        · simp only [e]
          simpa using q2
  obtain ⟨m', q1, q2⟩ := key l [] m rfl (by simpa using hc)
  exact ⟨m', fun q => by simpa using q1 (by simpa using q), by simpa using q2⟩
end Go.Proofs.YtipfljkjjddapaaGreatDoor.Ab
namespace Go.Proofs.YtipfljkjjddapaaGreatDoor.Ab
open Go
set_option linter.all false
noncomputable def nmF (p : Kl) (f : Km) (l : List K8) : Int × List (ByteArray × Int) → Option (Step (Int × List (ByteArray × Int)) (List (ByteArray × Int) ⊕ ((Int × Int) ⊕ Unit))) := fun s =>
 (bif (decide (s.1 < (l.length : Int))) then ((idx l s.1).bind fun x733 => (Option.bind (α := Bool) (bif (decide ((1 : Int) < (mgetD (mput s.2 x733.gName (IntKind.i64.wrap ((mgetD s.2 x733.gName (0 : Int)) + (1 : Int)))) x733.gName (0 : Int)))) then some true else ((KaO ⟨p, f⟩ x733.gName).bind fun x739 => some (x739 != (0 : Int)))) fun y737 => (bif y737 then ((Kaz f.gAt (8 : Int)).bind fun x741 => Sum.elim (fun pe741 => some (.done (.inr (.inl pe741)))) (fun z741 => some (.next ((IntKind.i64.wrap (s.1 + (1 : Int))), (mput s.2 x733.gName (IntKind.i64.wrap ((mgetD s.2 x733.gName (0 : Int)) + (1 : Int))))))) x741) else some (.next ((IntKind.i64.wrap (s.1 + (1 : Int))), (mput s.2 x733.gName (IntKind.i64.wrap ((mgetD s.2 x733.gName (0 : Int)) + (1 : Int))))))))) else some (.done (.inl s.2)))
theorem names_eq {p : Kl} {f : Km} (hf : Fit p f) : Kbi ⟨p, f⟩ = some (if nmG p [] (f.gParams ++ f.gLocals) then .inr () else .inl (f.gAt, 8)) := by
  have hN : Kbi ⟨p, f⟩ = Option.bind (loopM (fun (s374 : Int × List (ByteArray × Int)) => (bif (decide (s374.1 < (2 : Int))) then ((idx ([f.gParams, f.gLocals] : List (List K8)) s374.1).bind fun x652 => (Option.bind (loopM (nmF p f x652) ((0 : Int), s374.2)) (Sum.elim (fun y697 => some (Step.next ((IntKind.i64.wrap (s374.1 + (1 : Int))), y697))) (fun r => some (Step.done (Sum.inr r)))))) else some (Step.done (Sum.inl s374.2)))) ((0 : Int), ([] : List (ByteArray × Int)))) (Sum.elim (fun y373 => some (Sum.inr ())) (fun r => some r)) := by
    unfold Kbi
    rfl
  rw [hN, Kk6, List.nil_append]
  have c0 : Cnt [] [] := fun n => by simp [mgetD, mget]
  obtain ⟨m1, q1, e1⟩ := Kk7 (p := p) (f := f) hf.gl (F := nmF p f f.gParams) hf.fp (fun s => rfl) c0
  cases h1 : nmG p [] f.gParams with
  | false =>
    rw [h1] at e1
    rw [KbY (t := Sum.inr (Sum.inl (f.gAt, 8))) (by
      show Option.bind (loopM (nmF p f f.gParams) ((0 : Int), [])) _ = _
      rw [e1]; rfl)]
    rfl
  | true =>
    rw [h1] at e1
    rw [KeT (s' := ((1 : Int), m1)) (by
      show Option.bind (loopM (nmF p f f.gParams) ((0 : Int), [])) _ = _
      rw [e1]; rfl)]
    have c1 := q1 h1
    rw [List.nil_append] at c1
    obtain ⟨m2, q2, e2⟩ := Kk7 (p := p) (f := f) hf.gl (F := nmF p f f.gLocals) hf.fl (fun s => rfl) c1
    cases h2 : nmG p f.gParams f.gLocals with
    | false =>
      rw [h2] at e2
      rw [KbY (t := Sum.inr (Sum.inl (f.gAt, 8))) (by
        show Option.bind (loopM (nmF p f f.gLocals) ((0 : Int), m1)) _ = _
        rw [e2]; rfl)]
      rfl
    | true =>
      rw [h2] at e2
      rw [KeT (s' := ((2 : Int), m2)) (by
        show Option.bind (loopM (nmF p f f.gLocals) ((0 : Int), m1)) _ = _
        rw [e2]; rfl)]
      rw [KbY (t := Sum.inl m2) rfl]
      rfl
theorem checkP_eq {p : Kl} {f : Km} (hf : Fit p f) (hb : szSs f.gBody ≤ 1048576) : Kha p f = some (fnS p f) := by
 unfold Kha
 rw [names_eq hf, Option.bind_some, cstmts_eq hf hb]
 unfold fnS
 cases nmG p [] (f.gParams ++ f.gLocals) <;> rfl
theorem checkF_eq {p : Kl} {f : Km} (hf : Fit p f) (hb : szSs f.gBody ≤ 1048576) : Khb p f = some (wr (fnS p f)) := by
 unfold Khb
 rw [checkP_eq hf hb, Option.bind_some]
theorem rfunc_wr {p : Kl} {f : Km} (hf : Fit p f) (hb : szSs f.gBody ≤ 1048576) : Kfq p f = some (wr (fnS p f)) := by
 rw [rfunc_eq hf hb]
 cases fnS p f <;> rfl
end Go.Proofs.YtipfljkjjddapaaGreatDoor.Ab
namespace Go.Proofs.YtipfljkjjddapaaGreatDoor.Ab
open Go
set_option linter.all false
open Classical
noncomputable def dupN (seen : List ByteArray) : List ByteArray → Option Nat
 | [] => none
 | n :: l => if n ∈ seen then some 0 else (dupN (seen ++ [n]) l).map (· + 1)
theorem Kkg : ∀ (a b seen : List ByteArray), dupN seen (a ++ b) = match dupN seen a with | some i => some i | none => (dupN (seen ++ a) b).map (· + a.length)
  | [], b, seen => by simp [dupN]
  | n :: a, b, seen => by
    simp only [List.cons_append, dupN]
    by_cases h : n ∈ seen
    · simp only [h, if_true]
    · simp only [h, if_false, Kkg a b (seen ++ [n])]
      cases dupN (seen ++ [n]) a with
      | some i => rfl
      | none =>
        simp only [Option.map_none, List.append_assoc, List.cons_append, List.nil_append, Option.map_map]
        congr 1
def CntN (seen : List ByteArray) (m : List (ByteArray × Int)) : Prop := ∀ n, mgetD m n 0 = if n ∈ seen then 1 else 0
theorem CntN.put {seen : List ByteArray} {m : List (ByteArray × Int)} (h : CntN seen m) {v : ByteArray} (hv : v ∉ seen) : CntN (seen ++ [v]) (mput m v (IntKind.i64.wrap (mgetD m v 0 + 1))) := by
 intro n
 have h0 := h v
 rw [if_neg hv] at h0
 rw [KfJ, h0]
 by_cases hn : v = n
 ·subst hn; rw [if_pos rfl, if_pos (by simp)]; rfl
 ·rw [if_neg hn, h n]
  by_cases he : n ∈ seen
  ·rw [if_pos he, if_pos (by simp [he])]
  ·rw [if_neg he, if_neg (by simp only [List.mem_append, List.mem_singleton, not_or]; exact ⟨he, fun q => hn q.symm⟩)]
theorem Kk8 {β ρ : Type} (nm : β → ByteArray) (R : Int → ρ) {F : Int × List (ByteArray × Int) → Option (Step (Int × List (ByteArray × Int)) (List (ByteArray × Int) ⊕ ρ))} {l : List β} (hb : l.length ≤ 1048576)
    (hF : ∀ s, F s = (bif (decide (s.1 < (l.length : Int))) then ((idx l s.1).bind fun x => (bif (decide ((1 : Int) < (mgetD (mput s.2 (nm x) (IntKind.i64.wrap ((mgetD s.2 (nm x) (0 : Int)) + (1 : Int)))) (nm x) (0 : Int)))) then some (.done (.inr (R s.1))) else some (.next ((IntKind.i64.wrap (s.1 + (1 : Int))), (mput s.2 (nm x) (IntKind.i64.wrap ((mgetD s.2 (nm x) (0 : Int)) + (1 : Int)))))))) else some (.done (.inl s.2))))
    {seen : List ByteArray} {m : List (ByteArray × Int)} (hc : CntN seen m) : ∃ m', (dupN seen (l.map nm) = none → CntN (seen ++ l.map nm) m') ∧ loopM F ((0 : Int), m) = some (match dupN seen (l.map nm) with | some i => .inr (R (i : Nat)) | none => .inl m') := by
  have key : ∀ (post pre : List β) (m : List (ByteArray × Int)), l = pre ++ post → CntN (seen ++ pre.map nm) m → ∃ m', (dupN (seen ++ pre.map nm) (post.map nm) = none → CntN (seen ++ pre.map nm ++ post.map nm) m') ∧ loopM F ((pre.length : Int), m) = some (match dupN (seen ++ pre.map nm) (post.map nm) with | some i => .inr (R ((pre.length + i : Nat) : Int)) | none => .inl m') := by
    intro post
    induction post with
    | nil =>
      intro pre m h hc
      rw [List.append_nil] at h
      subst h
      refine ⟨m, fun _ => by simpa using hc, ?_⟩
      rw [KbY (t := Sum.inl m) (by rw [hF]; simp)]
      rfl
    | cons x post ih =>
      intro pre m h hc
      have hix : idx l (pre.length : Int) = some x := by rw [h]; exact Ka3 _ _ _
      have hx := hc (nm x)
      by_cases he : nm x ∈ seen ++ pre.map nm
      · rw [if_pos he] at hx
        have h2 : decide ((1 : Int) < mgetD (mput m (nm x) (IntKind.i64.wrap (mgetD m (nm x) 0 + 1))) (nm x) 0) = true := by
          rw [KfJ, if_pos rfl, hx]; rfl
        have e : dupN (seen ++ pre.map nm) ((x :: post).map nm) = some 0 := by simp only [List.map_cons, dupN]; rw [if_pos he]
        refine ⟨m, (fun q => by rw [e] at q; cases q), ?_⟩
        rw [KbY (t := Sum.inr (R (pre.length : Int))) (by rw [hF]; simp only [KaW h, cond_true, hix, Option.bind_some, h2])]
        rw [e]; rfl
      · rw [if_neg he] at hx
        have h2 : decide ((1 : Int) < mgetD (mput m (nm x) (IntKind.i64.wrap (mgetD m (nm x) 0 + 1))) (nm x) 0) = false := by
          rw [KfJ, if_pos rfl, hx]; rfl
        have e : dupN (seen ++ pre.map nm) ((x :: post).map nm) = (dupN (seen ++ pre.map nm ++ [nm x]) (post.map nm)).map (· + 1) := by simp only [List.map_cons, dupN]; rw [if_neg he]
        rw [KeT (s' := (((pre.length + 1 : Nat) : Int), mput m (nm x) (IntKind.i64.wrap (mgetD m (nm x) 0 + 1)))) (by
          rw [hF]; simp only [KaW h, cond_true, hix, Option.bind_some, h2, cond_false]; rw [KaI h (by omega)])]
        have hm1 : seen ++ (pre ++ [x]).map nm = seen ++ pre.map nm ++ [nm x] := by simp
        obtain ⟨m', q1, q2⟩ := ih (pre ++ [x]) _ (by simp [h]) (by rw [hm1]; exact hc.put he)
        rw [hm1] at q1 q2
        refine ⟨m', fun q => ?_, ?_⟩
        · rw [e] at q
          have := q1 (by simpa using q)
          simpa using this
        · have hl : (pre ++ [x]).length = pre.length + 1 := by simp
          rw [hl] at q2
          rw [q2, e]
          cases dupN (seen ++ pre.map nm ++ [nm x]) (post.map nm) with
          | none => rfl
          | some i => simp only [Option.map_some]; rw [show pre.length + 1 + i = pre.length + (i + 1) by omega]
  obtain ⟨m', q1, q2⟩ := key l [] m rfl (by simpa using hc)
  refine ⟨m', fun q => by simpa using q1 (by simpa using q), ?_⟩
  have : loopM F ((0 : Int), m) = _ := q2
  rw [this]
  simp
def KiK (p : Kl) : List ByteArray := p.gGlobals.map (·.gName) ++ p.gFuncs.map (·.gName)
noncomputable def twF {β : Type} (nm : β → ByteArray) (R : Int → Int) (l : List β) : Int × List (ByteArray × Int) → Option (Step (Int × List (ByteArray × Int)) (List (ByteArray × Int) ⊕ Int)) := fun s =>
 (bif (decide (s.1 < (l.length : Int))) then ((idx l s.1).bind fun x => (bif (decide ((1 : Int) < (mgetD (mput s.2 (nm x) (IntKind.i64.wrap ((mgetD s.2 (nm x) (0 : Int)) + (1 : Int)))) (nm x) (0 : Int)))) then some (.done (.inr (R s.1))) else some (.next ((IntKind.i64.wrap (s.1 + (1 : Int))), (mput s.2 (nm x) (IntKind.i64.wrap ((mgetD s.2 (nm x) (0 : Int)) + (1 : Int)))))))) else some (.done (.inl s.2)))
theorem twice_eq {p : Kl} (hg : p.gGlobals.length ≤ 1048576) (hf : p.gFuncs.length ≤ 1048576) : KcX p = some (match dupN [] (KiK p) with | some i => (i : Int) | none => -1) := by
  have hN : KcX p = Option.bind (loopM (twF (·.gName) (fun i => i) p.gGlobals) ((0 : Int), ([] : List (ByteArray × Int)))) (Sum.elim (fun y24 => Option.bind (loopM (twF (·.gName) (fun i => IntKind.i64.wrap ((p.gGlobals.length : Int) + i)) p.gFuncs) ((0 : Int), y24)) (Sum.elim (fun y67 => some (-1 : Int)) (fun r => some r))) (fun r => some r)) := by
    unfold KcX
    rfl
  rw [hN]
  have c0 : CntN [] [] := fun n => by simp [mgetD, mget]
  obtain ⟨m1, q1, e1⟩ := Kk8 (fun g : Kaw => g.gName) (fun i => i) (F := twF (·.gName) (fun i => i) p.gGlobals) hg (fun s => rfl) c0
  rw [e1]
  unfold KiK
  rw [Kkg]
  cases h1 : dupN [] (p.gGlobals.map (·.gName)) with
  | some i => rfl
  | none =>
    simp only [Option.bind_some, Sum.elim_inl]
    have c1 := q1 h1
    obtain ⟨m2, q2, e2⟩ := Kk8 (fun g : Km => g.gName) (fun i => IntKind.i64.wrap ((p.gGlobals.length : Int) + i)) (F := twF (·.gName) (fun i => IntKind.i64.wrap ((p.gGlobals.length : Int) + i)) p.gFuncs) hf (fun s => rfl) c1
    rw [e2]
    have hle : ∀ {l seen : List ByteArray} {i : Nat}, dupN seen l = some i → i < l.length := by
      intro l
      induction l with
      | nil => intro seen i h; cases h
      | cons n l ih =>
        intro seen i h
        simp only [dupN] at h
        split at h
        · simp only [Option.some.injEq] at h; subst h; simp
        · cases hd : dupN (seen ++ [n]) l with
          | none => rw [hd] at h; cases h
          | some j => rw [hd] at h; simp only [Option.map_some, Option.some.injEq] at h; subst h; have := ih hd; simp; omega
    cases h2 : dupN ([] ++ p.gGlobals.map (·.gName)) (p.gFuncs.map (·.gName)) with
    | none => rfl
    | some i =>
      have hi := hle h2
      simp only [List.length_map] at hi
      simp only [Option.bind_some, Sum.elim_inr, Option.map_some, List.length_map]
      rw [wrap_id (by omega) (by omega)]
      simp [Int.natCast_add, Int.add_comm]
end Go.Proofs.YtipfljkjjddapaaGreatDoor.Ab
namespace Go.Proofs.YtipfljkjjddapaaGreatDoor.Ab
open Go
set_option linter.all false
open Classical
structure PFit (p : Kl) : Prop where
 gl : p.gGlobals.length ≤ 1048576
 fu : p.gFuncs.length ≤ 1048576
 fn : ∀ f ∈ p.gFuncs, Fit p f ∧ szSs f.gBody ≤ 1048576
noncomputable def stepF (p : Kl) (a : List Km) (x : Km) : List Km ⊕ (Unit ⊕ (Int × Int × Int)) := if (wr (fnS p x)).2 = 0 then .inl (a ++ [x]) else .inr (.inr (((p.gGlobals.length + a.length : Nat) : Int), (wr (fnS p x)).1, (wr (fnS p x)).2))
theorem Kk9 {p : Kl} (hp : PFit p) {E : Km → Option (Int × Int)} (hE : ∀ x ∈ p.gFuncs, E x = some (wr (fnS p x))) {F : Int → Option (Step Int (Unit ⊕ (Int × Int × Int)))}
  (hF : ∀ s, F s = (bif (decide (s < (p.gFuncs.length : Int))) then ((idx p.gFuncs s).bind fun x46 => ((E x46).bind fun x48 => (bif (x48.2 != (0 : Int)) then some (.done (.inr ((IntKind.i64.wrap ((p.gGlobals.length : Int) + s)), x48.1, x48.2))) else some (.next (IntKind.i64.wrap (s + (1 : Int))))))) else some (.done (.inl ())))) :
  loopM F (0 : Int) = some (scan (stepF p) (fun _ => .inl ()) [] p.gFuncs) := by
 have h1 := hp.gl; have h2 := hp.fu
 refine Kgz p.gFuncs (stepF p) (fun _ => .inl ()) (fun _ k => (k : Int)) (fun pre a => a = pre) [] rfl (fun pre x post a a' _ hi hs => ?_) (fun pre x post a h hi => ?_) (fun a _ => by rw [hF]; simp)
 ·subst hi
  unfold stepF at hs
  split at hs
  ·simp only [Sum.inl.injEq] at hs; exact hs.symm
  ·cases hs
 ·subst hi
  have hlen : a.length < p.gFuncs.length := by rw [h]; simp
  have hix : idx p.gFuncs (a.length : Int) = some x := by rw [h]; exact Ka3 _ _ _
  rw [hF]
  simp only [KaW h, cond_true, hix, Option.bind_some, hE x (Kcu h)]
  unfold stepF
  by_cases h0 : (wr (fnS p x)).2 = 0
  ·simp only [h0, bne_self_eq_false, cond_false, if_true, Sum.elim_inl]; rw [KaI h (by omega)]
  ·have h0' : ((wr (fnS p x)).2 != 0) = true := by simpa using h0
   simp only [h0', cond_true, h0, if_false, Sum.elim_inr]
   rw [wrap_id (by omega) (by omega)]
   simp [Int.natCast_add]
theorem KlP {β : Type} (nm : β → ByteArray) {l : List β} {a0 : List ByteArray} (hb : a0.length + l.length ≤ 8388608) {F : List ByteArray × Int → Option (Step (List ByteArray × Int) (List ByteArray))}
  (hF : ∀ s, F s = (bif (decide (s.2 < (l.length : Int))) then ((idx l s.2).bind fun x34 => ((app 16 s.1 ([nm x34] : List ByteArray)).bind fun x35 => some (.next (x35, (IntKind.i64.wrap (s.2 + (1 : Int))))))) else some (.done s.1))) : loopM F (a0, (0 : Int)) = some (a0 ++ l.map nm) := by
 have hs : ∀ (l : List β) (a : List ByteArray), scan (fun (a : List ByteArray) x => (.inl (a ++ [nm x]) : List ByteArray ⊕ List ByteArray)) (fun a => a) a l = a ++ l.map nm := by
  intro l
  induction l with
  | nil => intro a; simp [scan]
  | cons x l ih => intro a; simp only [scan]; rw [ih]; simp
 rw [Kji l (fun (a : List ByteArray) x => (.inl (a ++ [nm x]) : List ByteArray ⊕ List ByteArray)) (fun a => a) (fun pre a => a.length = a0.length + pre.length) a0 (by simp)
  (fun pre x post a a' _ hi hs => by simp only [Sum.inl.injEq] at hs; subst hs; simp [hi]; omega)
  (fun pre x post a e hi => by
   have hlen : pre.length < l.length := by rw [e]; simp
   have hix : idx l (pre.length : Int) = some x := by rw [e]; exact Ka3 _ _ _
   rw [hF]
   simp only [KaW e, cond_true, hix, Option.bind_some, Sum.elim_inl]
   rw [Kfx (by omega) (by simp; omega), Option.bind_some, KaI e (by omega)])
  (fun a hi => by rw [hF]; simp), hs]
theorem scan_dup {ρ : Type} (c : Int → ρ) (z : ρ) : ∀ (l a : List ByteArray), scan (fun (a : List ByteArray) x => if x ∈ a then .inr (c (a.length : Int)) else .inl (a ++ [x])) (fun _ => z) a l = match dupN a l with | some i => c ((a.length + i : Nat) : Int) | none => z
  | [], a => rfl
  | x :: l, a => by
    simp only [scan, dupN]
    by_cases h : x ∈ a
    · simp only [h, if_true]; rfl
    · simp only [h, if_false]
      rw [scan_dup c z l (a ++ [x])]
      cases dupN (a ++ [x]) l with
      | none => rfl
      | some i => simp only [Option.map_some, List.length_append, List.length_singleton]; rw [show a.length + 1 + i = a.length + (i + 1) by omega]
theorem scan_mem {τ : Type} (n : ByteArray) (y z : τ) : ∀ l : List ByteArray, scan (fun (_ : Unit) (x : ByteArray) => if x = n then .inr y else .inl ()) (fun _ => z) () l = if n ∈ l then y else z
  | [] => by simp [scan]
  | x :: l => by
    simp only [scan]
    by_cases h : x = n
    · subst h; simp
    · rw [if_neg h]
      show scan _ _ () l = _
      rw [scan_mem n y z l]
      have h' : ¬ n = x := fun q => h q.symm
      simp [h']
theorem dup_loop {ns : List ByteArray} (hb : ns.length ≤ 4194304) {F : Int → Option (Step Int (Unit ⊕ (Int × Int × Int)))}
  (hF : ∀ s, F s = (bif (decide (s < (ns.length : Int))) then (Option.bind (α := (Unit) ⊕ (Int × Int × Int)) (loopM (fun (s248 : Int) => (bif (decide (s248 < s)) then ((idx ns s248).bind fun x260 => ((idx ns s).bind fun x261 => (bif (decide (x260 = x261)) then some (.done (.inr (s, (0 : Int), (8 : Int)))) else some (.next (IntKind.i64.wrap (s248 + (1 : Int))))))) else some (.done (.inl ())))) (0 : Int)) (Sum.elim (fun y247 => some (.next (IntKind.i64.wrap (s + (1 : Int))))) (fun r => some (.done (.inr r))))) else some (.done (.inl ())))) :
  loopM F (0 : Int) = some (match dupN [] ns with | some i => .inr ((i : Nat), 0, 8) | none => .inl ()) := by
 have h := Kgz (f := F) ns (fun (a : List ByteArray) x => if x ∈ a then .inr (Sum.inr ((a.length : Int), (0 : Int), (8 : Int))) else .inl (a ++ [x])) (fun _ => .inl ()) (fun _ k => (k : Int)) (fun pre a => a = pre) [] rfl
  (fun pre x post a a' _ hi hs => by
   subst hi
   split at hs
   ·cases hs
   ·simp only [Sum.inl.injEq] at hs; exact hs.symm)
  (fun pre x post a h hi => by
   subst hi
   have hlen : a.length < ns.length := by rw [h]; simp
   have hix : idx ns (a.length : Int) = some x := by rw [h]; exact Ka3 _ _ _
   rw [hF]
   simp only [KaW h, cond_true, hix, Option.bind_some]
   rw [Kbc a (fun (_ : Unit) (y : ByteArray) => if y = x then .inr (Sum.inr ((a.length : Int), (0 : Int), (8 : Int))) else .inl ()) (.inl ())
    (fun c y b h2 => by
     have hiy : idx ns (c.length : Int) = some y := by
      rw [h, h2, List.append_assoc, List.cons_append]; exact Ka3 _ _ _
     simp only [KaW h2, cond_true, hiy, Option.bind_some]
     by_cases hn : y = x
     ·simp only [hn, decide_true, cond_true, if_true, Sum.elim_inr]
     ·simp only [hn, decide_false, cond_false, if_false, Sum.elim_inl]; rw [KaI h2 (by omega)]) (by simp), Option.bind_some, scan_mem]
   by_cases he : x ∈ a
   ·simp only [he, if_true, Sum.elim_inr]
   ·simp only [he, if_false, Sum.elim_inl]; rw [KaI h (by omega)])
  (fun a _ => by rw [hF]; simp)
 have h' : loopM F (0 : Int) = _ := h
 rw [h', scan_dup (fun i => Sum.inr (i, (0 : Int), (8 : Int))) (Sum.inl ())]
 simp
noncomputable def prS (p : Kl) : Int × Int × Int :=
 if 24 < p.gGlobals.length ∨ 24 < p.gFuncs.length then (0, 0, 6)
 else match dupN [] (KiK p) with
  | some i => ((i : Nat), 0, 8)
  | none => Sum.elim (fun _ => (0, 0, 0)) id (scan (stepF p) (fun _ => .inl ()) [] p.gFuncs)
theorem big_eq (p : Kl) : (bif (decide ((24 : Int) < (p.gGlobals.length : Int))) then some true else some (decide ((24 : Int) < (p.gFuncs.length : Int)))) = some (decide (24 < p.gGlobals.length ∨ 24 < p.gFuncs.length)) := by
 by_cases h1 : 24 < p.gGlobals.length
 ·have : (24 : Int) < (p.gGlobals.length : Int) := by omega
  simp [h1, this]
 ·have h1' : ¬ (24 : Int) < (p.gGlobals.length : Int) := by omega
  by_cases h2 : 24 < p.gFuncs.length
  ·have : (24 : Int) < (p.gFuncs.length : Int) := by omega
   simp [h1, h1', h2, this]
  ·have : ¬ (24 : Int) < (p.gFuncs.length : Int) := by omega
   simp [h1, h1', h2, this]
theorem cprog_eq {p : Kl} (hp : PFit p) : KbZ p = some (prS p) := by
  unfold KbZ prS
  rw [big_eq, Option.bind_some]
  by_cases hb : 24 < p.gGlobals.length ∨ 24 < p.gFuncs.length
  · simp [hb]
  · simp only [hb, decide_false, cond_false, if_false]
    rw [twice_eq hp.gl hp.fu, Option.bind_some]
    cases dupN [] (KiK p) with
    | some i =>
      have : decide ((0 : Int) ≤ ((i : Nat) : Int)) = true := by simp
      simp only [this, cond_true]
    | none =>
      have : decide ((0 : Int) ≤ -1) = false := by decide
      simp only [this, cond_false]
      rw [Kk9 hp (fun x hx => checkF_eq (hp.fn x hx).1 (hp.fn x hx).2) (fun s => rfl), Option.bind_some]
      cases scan (stepF p) (fun _ => .inl ()) [] p.gFuncs <;> rfl
theorem rprog_eq {p : Kl} (hp : PFit p) : Kel p = some (prS p) := by
  have h1 := hp.gl; have h2 := hp.fu
  unfold Kel prS
  rw [big_eq, Option.bind_some]
  by_cases hb : 24 < p.gGlobals.length ∨ 24 < p.gFuncs.length
  · simp [hb]
  · simp only [hb, decide_false, cond_false, if_false]
    rw [KlP (fun g : Kaw => g.gName) (l := p.gGlobals) (by simp; omega) (fun s => rfl), Option.bind_some, List.nil_append,
      KlP (fun g : Km => g.gName) (l := p.gFuncs) (by simp; omega) (fun s => rfl), Option.bind_some]
    show Option.bind (loopM _ _) _ = _
    rw [dup_loop (ns := p.gGlobals.map (·.gName) ++ p.gFuncs.map (·.gName)) (by simp; omega) (fun s => rfl), Option.bind_some]
    unfold KiK
    cases dupN [] (p.gGlobals.map (·.gName) ++ p.gFuncs.map (·.gName)) with
    | some i => rfl
    | none =>
      simp only [Sum.elim_inl]
      rw [Kk9 hp (E := Kfq p) (fun x hx => rfunc_wr (hp.fn x hx).1 (hp.fn x hx).2) (fun s => rfl), Option.bind_some]
      cases scan (stepF p) (fun _ => .inl ()) [] p.gFuncs <;> rfl
end Go.Proofs.YtipfljkjjddapaaGreatDoor.Ab
namespace Go.Proofs.YtipfljkjjddapaaGreatDoor.Ab
open Go
set_option linter.all false
theorem KgA {β : Type} {l : List β} {F : Int → Option (Step Int Unit)} (h1 : ∀ pre x post, l = pre ++ x :: post → F (pre.length : Int) = some (.next ((pre.length + 1 : Nat) : Int))) (h2 : F (l.length : Int) = some (.done ())) : loopM F (0 : Int) = some () :=
 loop_pre l (fun _ => ()) (fun _ k => (k : Int)) (fun _ => ()) h1 h2
theorem KlQ {l : List K8} (hb : l.length ≤ 1048576) : Kgh l l = some true := by
 unfold Kgh
 simp only [bne_self_eq_false, cond_false]
 rw [KgA (l := l) (fun pre x post e => ?_) (by simp)]
 ·rfl
 ·have hix : idx l (pre.length : Int) = some x := by rw [e]; exact Ka3 _ _ _
  simp only [KaW e, cond_true, hix, Option.bind_some, decide_true, beq_self_eq_true, Bool.and_self, Bool.not_true, cond_false]
  rw [KaI e (by omega)]
theorem Kkh : ∀ (n : Nat) (l : List Kh), dpEs l + 1 ≤ n → szEs l ≤ 1048576 → Kcb n l l true = some true
  | 0, l, h, _ => by omega
  | n + 1, l, h, hb => by
    show Kdn (Kcb n) l l true = _
    unfold Kdn
    have hl := KkG l
    simp only [bne_self_eq_false, cond_false]
    rw [KgA (l := l) (fun pre x post e => ?_) (by simp)]
    · rfl
    · have hix : idx l (pre.length : Int) = some x := by rw [e]; exact Ka3 _ _ _
      have hd := KgX (Kcu e); have hz := KgY (Kcu e); have := Kgy x; have := KiG x
      simp only [KaW e, cond_true, hix, Option.bind_some, decide_true, bne_self_eq_false, Bool.not_true, cond_false, Kkh n x.gKids (by omega) (by omega)]
      rw [KaI e (by omega)]
theorem exps_refl {l : List Kh} (h : szEs l ≤ 1048576) : Ki7 l l true = some true := Kmp l l true _ (Kkh (dpEs l + 1) l (Nat.le_refl _) h)
theorem Khx : ∀ (n : Nat) (l : List Ki), hSs l ≤ n → szSs l ≤ 1048576 → Kbv n l l true = some true
  | 0, l, h, _ => by have := KiJ l; omega
  | n + 1, l, h, hb => by
    show Kci (Kbv n) l l true = _
    unfold Kci
    have hl := Khw l
    simp only [bne_self_eq_false, cond_false]
    rw [KgA (l := l) (fun pre x post e => ?_) (by simp)]
    · rfl
    · have hix : idx l (pre.length : Int) = some x := by rw [e]; exact Ka3 _ _ _
      have hd := hS_mem (Kcu e); have hz := KiI (Kcu e); have := hS_eq x; have := szS_eq x
      simp only [KaW e, cond_true, hix, Option.bind_some, decide_true, bne_self_eq_false, Bool.not_true, cond_false, exps_refl (l := x.gExps) (by omega), Khx n x.gKids (by omega) (by omega), Khx n x.gElse (by omega) (by omega)]
      rw [KaI e (by omega)]
theorem stmts_refl {l : List Ki} (h : szSs l ≤ 1048576) : Kgs l l true = some true := Kld l l true _ (Khx (hSs l) l (Nat.le_refl _) h)
theorem sameF_refl {a : Km} (h1 : a.gParams.length ≤ 1048576) (h2 : a.gLocals.length ≤ 1048576) (h3 : szSs a.gBody ≤ 1048576) : KeE a a true = some true := by
 unfold KeE
 rw [KlQ h1, KlQ h2, stmts_refl h3]
 simp
theorem sameP {p : Kl} (hp : PFit p) : Khh p p true = some true := by
 have h1 := hp.gl; have h2 := hp.fu
 unfold Khh
 simp only [bne_self_eq_false, cond_false, Option.bind_some]
 rw [KgA (l := p.gGlobals) (fun pre x post e => ?_) (by simp), Option.bind_some, KgA (l := p.gFuncs) (fun pre x post e => ?_) (by simp), Option.bind_some]
 ·have hix : idx p.gFuncs (pre.length : Int) = some x := by rw [e]; exact Ka3 _ _ _
  have hx := hp.fn x (Kcu e)
  simp only [KaW e, cond_true, hix, Option.bind_some, sameF_refl hx.1.fp hx.1.fl hx.2, Bool.not_true, cond_false]
  rw [KaI e (by omega)]
 ·have hix : idx p.gGlobals (pre.length : Int) = some x := by rw [e]; exact Ka3 _ _ _
  simp only [KaW e, cond_true, hix, Option.bind_some, decide_true, Bool.not_true, beq_self_eq_true, bne_self_eq_false, cond_false]
  rw [KaI e (by omega)]
end Go.Proofs.YtipfljkjjddapaaGreatDoor.Ab
namespace Go.Proofs.YtipfljkjjddapaaGreatDoor.Ab
open Go
set_option linter.all false
theorem KhU {β : Type} {one : β → Option β} {l : List β} (hb : l.length ≤ 1048576) (h : ∀ x ∈ l, one x = some x) {F : Int × List β → Option (Step (Int × List β) (List β))}
  (hF : ∀ s, F s = (bif (decide (s.1 < (l.length : Int))) then ((idx s.2 s.1).bind fun x49 => ((one x49).bind fun x51 => ((idx s.2 s.1).bind fun x52 => some (.next ((IntKind.i64.wrap (s.1 + (1 : Int))), (s.2.set s.1.toNat x51)))))) else some (.done s.2))) : loopM F ((0 : Int), l) = some l := by
 refine loop_pre l (fun _ => ()) (fun _ k => ((k : Int), l)) (fun _ => l) (fun pre x post e => ?_) ?_
 ·have hset : l.set pre.length x = l := by rw [e]; simp [List.set_append]
  have hix : idx l (pre.length : Int) = some x := by rw [e]; exact Ka3 _ _ _
  rw [hF]
  simp only [KaW e, cond_true, hix, Option.bind_some, h x (Kcu e), Int.toNat_natCast, hset]
  rw [KaI e (by omega)]
 ·rw [hF]; simp
theorem mk_ok {bb n : Nat} (hb : bb ≤ 4096) (h : n ≤ 1048576) : need (mkOK bb (n : Int) (n : Int)) = some () := by
 have h1 : (n : Int) * bb ≤ 140737488355328 := by
  have := Nat.mul_le_mul h hb
  have : (n : Int) * (bb : Int) ≤ ((1048576 * 4096 : Nat) : Int) := by exact_mod_cast this
  omega
 unfold need mkOK
 simp [h1]
theorem mk_len {β γ : Type} {l : List β} {z : γ} : need (decide (l.length = (List.replicate (l.length : Int).toNat z).length)) = some () := by
 unfold need; simp
theorem KkM {β : Type} {bb : Nat} {l : List β} (hb : bb ≤ 4096) (h : l.length ≤ 1048576) : app bb l ([] : List β) = some l := by
 rw [Kfx hb (by simp; omega)]; simp
theorem copyE_g : ∀ n, (∀ l, dpEs l ≤ n → szEs l ≤ 1048576 → (KH (2 * n + 1)).1 l = some l) ∧ (∀ e, dpE e ≤ n → szE e ≤ 1048576 → (KH (2 * n)).2 e = some e)
  | 0 => by
    refine ⟨fun l h hs => ?_, fun e h _ => by have := Kgy e; omega⟩
    cases l with
    | nil =>
      show KaA (KH 0).1 (KH 0).2 [] = _
      unfold KaA
      rw [mk_ok (by omega) (by simp), Option.bind_some, mk_len, Option.bind_some, KhU (one := (KH 0).2) (by simp) (by simp) (fun _ => rfl)]
      rfl
    | cons x l => have := KgX (l := x :: l) (e := x) (by simp); have := Kgy x; omega
  | n + 1 => by
    have ih := copyE_g n
    have h2 : ∀ e, dpE e ≤ n + 1 → szE e ≤ 1048576 → (KH (2 * (n + 1))).2 e = some e := fun e h hs => by
      show KbU (KH (2 * n + 1)).1 (KH (2 * n + 1)).2 e = _
      unfold KbU
      have := Kgy e; have := KiG e
      rw [ih.1 e.gKids (by omega) (by omega)]
      cases e; rfl
    refine ⟨fun l h hs => ?_, h2⟩
    show KaA (KH (2 * (n + 1))).1 (KH (2 * (n + 1))).2 l = _
    unfold KaA
    have hl := KkG l
    rw [mk_ok (by omega) (by omega), Option.bind_some, mk_len, Option.bind_some, KhU (one := (KH (2 * (n + 1))).2) (by omega) (fun x hx => h2 x (Nat.le_trans (KgX hx) h) (Nat.le_trans (KgY hx) hs)) (fun _ => rfl)]
    rfl
theorem copyEs {l : List Kh} (h : szEs l ≤ 1048576) : Kck l = some l := Ke9 l _ ((copyE_g (dpEs l)).1 l (Nat.le_refl _) h)
theorem copyS_g : ∀ n, (∀ l, hSs l ≤ n → szSs l ≤ 1048576 → (KJ (2 * n + 1)).1 l = some l) ∧ (∀ e, hS e ≤ n → szS e ≤ 1048576 → (KJ (2 * n)).2 e = some e)
  | 0 => ⟨fun l h hs => by have := KiJ l; omega, fun e h _ => by have := hS_eq e; omega⟩
  | n + 1 => by
    have ih := copyS_g n
    have h2 : ∀ e, hS e ≤ n + 1 → szS e ≤ 1048576 → (KJ (2 * (n + 1))).2 e = some e := fun e h hs => by
      show KbV (KJ (2 * n + 1)).1 (KJ (2 * n + 1)).2 e = _
      unfold KbV
      have := hS_eq e; have := szS_eq e
      rw [copyEs (by omega), Option.bind_some, ih.1 e.gKids (by omega) (by omega), Option.bind_some, ih.1 e.gElse (by omega) (by omega)]
      cases e; rfl
    refine ⟨fun l h hs => ?_, h2⟩
    show KaJ (KJ (2 * (n + 1))).1 (KJ (2 * (n + 1))).2 l = _
    unfold KaJ
    have hl := Khw l
    rw [mk_ok (by omega) (by omega), Option.bind_some, mk_len, Option.bind_some, KhU (one := (KJ (2 * (n + 1))).2) (by omega) (fun x hx => h2 x (Nat.le_trans (hS_mem hx) h) (Nat.le_trans (KiI hx) hs)) (fun _ => rfl)]
    rfl
theorem copySs {l : List Ki} (h : szSs l ≤ 1048576) : Kcl l = some l := Kfa l _ ((copyS_g (hSs l)).1 l (Nat.le_refl _) h)
theorem copyF {f : Km} (h1 : f.gParams.length ≤ 1048576) (h2 : f.gLocals.length ≤ 1048576) (h3 : szSs f.gBody ≤ 1048576) : KbQ f = some f := by
 unfold KbQ Ka4
 rw [KkM (by omega) h1, Option.bind_some, KkM (by omega) h2, Option.bind_some, copySs h3]
 rfl
theorem copyP {p : Kl} (hp : PFit p) : Kb0 p = some p := by
 have h1 := hp.gl; have h2 := hp.fu
 unfold Kb0 KaB KbR
 rw [KkM (by omega) h1, Option.bind_some, mk_ok (by omega) h2, Option.bind_some, mk_len, Option.bind_some, KhU (one := KbQ) h2 (fun x hx => copyF (hp.fn x hx).1.fp (hp.fn x hx).1.fl (hp.fn x hx).2) (fun _ => rfl)]
 rfl
end Go.Proofs.YtipfljkjjddapaaGreatDoor.Ab
namespace Go.Proofs.YtipfljkjjddapaaGreatDoor.Ab
open Go
set_option linter.all false
theorem lives36 : l36_lives = some true := (Kl3 70).of (by kernel_rfl)
theorem prS_zero {p : Kl} (h : (prS p).2.2 = 0) : prS p = (0, 0, 0) := by
  unfold prS at h ⊢
  by_cases h1 : 24 < p.gGlobals.length ∨ 24 < p.gFuncs.length
  · rw [if_pos h1] at h; simp at h
  · rw [if_neg h1] at h ⊢
    cases h2 : dupN [] (KiK p) with
    | some i => rw [h2] at h; simp at h
    | none =>
      rw [h2] at h
      simp only at h ⊢
      have key : ∀ (l a : List Km), (Sum.elim (fun _ => ((0, 0, 0) : Int × Int × Int)) id (scan (stepF p) (fun _ => .inl ()) a l)).2.2 = 0 → Sum.elim (fun _ => ((0, 0, 0) : Int × Int × Int)) id (scan (stepF p) (fun _ => .inl ()) a l) = (0, 0, 0) := by
        intro l
        induction l with
        | nil => intro a _; rfl
        | cons x l ih =>
          intro a h
          simp only [scan] at h ⊢
          unfold stepF at h ⊢
          by_cases hz : (wr (fnS p x)).2 = 0
          · simp only [hz, if_true] at h ⊢
            exact ih _ h
          · simp only [hz, if_false, Sum.elim_inr, id] at h
      exact key _ _ h
theorem Kms {p : Kl} (hp : PFit p) (x : KaU) : Kfi p x = some true ∨ Kfj p x = some true := by
 have hc := cprog_eq hp
 have hr := rprog_eq hp
 have hdo : ∃ a, Kgo x = some (0, a) ∧ a = 1 := by
  unfold Kgo Kdq KcU Kdr
  cases x.gKind == 0 <;> cases x.gKind == 1 <;> exact ⟨1, rfl, rfl⟩
 obtain ⟨a, hdo, ha⟩ := hdo
 subst ha
 by_cases h : (prS p).2.2 = 0
 ·right
  have h0 := prS_zero h
  rw [h0] at hc hr
  unfold Kfj KgR KbC
  simp only [hc, hr, Option.bind_some, bne_self_eq_false, cond_false, copyP hp, sameP hp, beq_self_eq_true, Bool.not_true, hdo, cond_true, store_Store_Text_A, store_Store_Program_A, lives36]
  rfl
 ·left
  have h' : ((prS p).2.2 != 0) = true := by simpa using h
  unfold Kfi KgQ
  simp only [hc, hr, Option.bind_some, h', bne_self_eq_false, cond_true, cond_false, beq_self_eq_true, Bool.not_true, hdo, store_Store_Text_A, store_Store_Program_A, lives36]
  rfl
end Go.Proofs.YtipfljkjjddapaaGreatDoor.Ab
namespace Go.Proofs.YtipfljkjjddapaaGreatDoor.Ab
open Go
set_option linter.all false
def Khy (x : Kaw) : Prop := x.gName.size ≤ maxLen ∧ (Lit.int .i64 x.gSize).wf = true ∧ (Lit.int .i64 x.gAt).wf = true
theorem Klm {n : Nat} {d : D} (g : GoodT tab n 67 d) : ∃ x : Kaw, d = Ks x ∧ Khy x := by
  obtain ⟨n', ds, _, rfl, hl, h⟩ := Kdw ti67 rfl g
  match ds, hl with
  | [d0, d1, d2, d3], _ =>
    obtain ⟨x1, rfl, w1⟩ := Kfn ti9 rfl (h 0 _ _ rfl rfl)
    obtain ⟨x2, rfl⟩ := KlG ti4 rfl (h 1 _ _ rfl rfl)
    obtain ⟨x3, rfl, w3⟩ := Kdv ti3 rfl (h 2 _ _ rfl rfl)
    obtain ⟨x4, rfl, w4⟩ := Kdv ti3 rfl (h 3 _ _ rfl rfl)
    exact ⟨⟨x1, x2, x3, x4⟩, rfl, w1, w3, w4⟩
def KgB (x : K8) : Prop := x.gName.size ≤ maxLen
theorem Kki {n : Nat} {d : D} (g : GoodT tab n 85 d) : ∃ x : K8, d = Kj x ∧ KgB x := by
  obtain ⟨n', ds, _, rfl, hl, h⟩ := Kdw ti85 rfl g
  match ds, hl with
  | [d0, d1], _ =>
    obtain ⟨x1, rfl, w1⟩ := Kfn ti9 rfl (h 0 _ _ rfl rfl)
    obtain ⟨x2, rfl⟩ := KlG ti4 rfl (h 1 _ _ rfl rfl)
    exact ⟨⟨x1, x2⟩, rfl, w1⟩
def KgT (_ : Kh) : Prop := True
theorem KiL : ∀ (n : Nat) {d : D} (g : GoodT tab n 166 d), ∃ x : Kh, d = Kn x ∧ KgT x
  | 0, d, g => by simp [GoodT] at g
  | n + 1, d, g => by
    obtain ⟨n', ds, hn, rfl, hl, h⟩ := Kdw ti166 rfl g
    obtain rfl : n' = n := by omega
    match ds, hl with
    | [d0, d1, d2, d3, d4], _ =>
      obtain ⟨x1, rfl, w1⟩ := Kdv ti3 rfl (h 0 _ _ rfl rfl)
      obtain ⟨x2, rfl, w2⟩ := Kdv ti3 rfl (h 1 _ _ rfl rfl)
      obtain ⟨x3, rfl, w3⟩ := Kfn ti9 rfl (h 2 _ _ rfl rfl)
      obtain ⟨n4, zs4, hn4, rfl, hl4, hz4⟩ := Kcx ti119 rfl ti166 (h 3 _ _ rfl rfl)
      obtain ⟨x4, rfl, w4⟩ := KcC (f := Kn) (K := (fun y => KgT y)) (p := fun x => GoodT tab n4 166 x) (fun x hx => by obtain ⟨x5, rfl, w5⟩ := KiL _ (hx); exact ⟨x5, rfl, w5⟩) zs4 hz4
      obtain ⟨x6, rfl, w6⟩ := Kdv ti3 rfl (h 4 _ _ rfl rfl)
      exact ⟨⟨x1, x2, x3, x4, x6⟩, by rw [KD]; rfl, trivial⟩
theorem Kmc {n : Nat} {d : D} (g : GoodT tab n 166 d) : ∃ x : Kh, d = Kn x ∧ KgT x := KiL n g
def KeW (_ : Ki) : Prop := True
theorem Kgp : ∀ (n : Nat) {d : D} (g : GoodT tab n 121 d), ∃ x : Ki, d = Kf x ∧ KeW x
  | 0, d, g => by simp [GoodT] at g
  | n + 1, d, g => by
    obtain ⟨n', ds, hn, rfl, hl, h⟩ := Kdw ti121 rfl g
    obtain rfl : n' = n := by omega
    match ds, hl with
    | [d0, d1, d2, d3, d4, d5, d6], _ =>
      obtain ⟨x1, rfl, w1⟩ := Kdv ti3 rfl (h 0 _ _ rfl rfl)
      obtain ⟨x2, rfl, w2⟩ := Kfn ti9 rfl (h 1 _ _ rfl rfl)
      obtain ⟨x3, rfl, w3⟩ := Kfn ti9 rfl (h 2 _ _ rfl rfl)
      obtain ⟨n4, zs4, hn4, rfl, hl4, hz4⟩ := Kcx ti119 rfl ti166 (h 3 _ _ rfl rfl)
      obtain ⟨x4, rfl, w4⟩ := KcC (f := Kn) (K := (fun y => KgT y)) (p := fun x => GoodT tab n4 166 x) (fun x hx => by obtain ⟨x5, rfl, w5⟩ := Kmc (hx); exact ⟨x5, rfl, w5⟩) zs4 hz4
      obtain ⟨n6, zs6, hn6, rfl, hl6, hz6⟩ := Kcx ti47 rfl ti121 (h 4 _ _ rfl rfl)
      obtain ⟨x6, rfl, w6⟩ := KcC (f := Kf) (K := (fun y => KeW y)) (p := fun x => GoodT tab n6 121 x) (fun x hx => by obtain ⟨x7, rfl, w7⟩ := Kgp _ (hx); exact ⟨x7, rfl, w7⟩) zs6 hz6
      obtain ⟨n8, zs8, hn8, rfl, hl8, hz8⟩ := Kcx ti47 rfl ti121 (h 5 _ _ rfl rfl)
      obtain ⟨x8, rfl, w8⟩ := KcC (f := Kf) (K := (fun y => KeW y)) (p := fun x => GoodT tab n8 121 x) (fun x hx => by obtain ⟨x9, rfl, w9⟩ := Kgp _ (hx); exact ⟨x9, rfl, w9⟩) zs8 hz8
      obtain ⟨x10, rfl, w10⟩ := Kdv ti3 rfl (h 6 _ _ rfl rfl)
      exact ⟨⟨x1, x2, x3, x4, x6, x8, x10⟩, by rw [KU]; rfl, trivial⟩
theorem Kmd {n : Nat} {d : D} (g : GoodT tab n 121 d) : ∃ x : Ki, d = Kf x ∧ KeW x := Kgp n g
def Kjl (x : Km) : Prop := x.gName.size ≤ maxLen ∧ (x.gParams.length ≤ maxLen ∧ ∀ y ∈ x.gParams, KgB y) ∧ (x.gLocals.length ≤ maxLen ∧ ∀ y ∈ x.gLocals, KgB y) ∧ (x.gBody.length ≤ maxLen ∧ ∀ y ∈ x.gBody, KeW y) ∧ (Lit.int .i64 x.gAt).wf = true
theorem Kme {n : Nat} {d : D} (g : GoodT tab n 49 d) : ∃ x : Km, d = Ko x ∧ Kjl x := by
  obtain ⟨n', ds, _, rfl, hl, h⟩ := Kdw ti49 rfl g
  match ds, hl with
  | [d0, d1, d2, d3, d4], _ =>
    obtain ⟨x1, rfl, w1⟩ := Kfn ti9 rfl (h 0 _ _ rfl rfl)
    obtain ⟨n2, zs2, _, rfl, hl2, hz2⟩ := Kcx ti46 rfl ti85 (h 1 _ _ rfl rfl)
    obtain ⟨x2, rfl, w2⟩ := KcC (f := Kj) (K := (fun y => KgB y)) (p := fun x => GoodT tab n2 85 x) (fun x hx => by obtain ⟨x3, rfl, w3⟩ := Kki (hx); exact ⟨x3, rfl, w3⟩) zs2 hz2
    obtain ⟨n4, zs4, _, rfl, hl4, hz4⟩ := Kcx ti46 rfl ti85 (h 2 _ _ rfl rfl)
    obtain ⟨x4, rfl, w4⟩ := KcC (f := Kj) (K := (fun y => KgB y)) (p := fun x => GoodT tab n4 85 x) (fun x hx => by obtain ⟨x5, rfl, w5⟩ := Kki (hx); exact ⟨x5, rfl, w5⟩) zs4 hz4
    obtain ⟨n6, zs6, _, rfl, hl6, hz6⟩ := Kcx ti47 rfl ti121 (h 3 _ _ rfl rfl)
    obtain ⟨x6, rfl, w6⟩ := KcC (f := Kf) (K := (fun y => KeW y)) (p := fun x => GoodT tab n6 121 x) (fun x hx => by obtain ⟨x7, rfl, w7⟩ := Kmd (hx); exact ⟨x7, rfl, w7⟩) zs6 hz6
    obtain ⟨x8, rfl, w8⟩ := Kdv ti3 rfl (h 4 _ _ rfl rfl)
    exact ⟨⟨x1, x2, x4, x6, x8⟩, rfl, w1, ⟨by simpa using hl2, w2⟩, ⟨by simpa using hl4, w4⟩, ⟨by simpa using hl6, w6⟩, w8⟩
def Kjw (x : Kl) : Prop := (x.gGlobals.length ≤ maxLen ∧ ∀ y ∈ x.gGlobals, Khy y) ∧ (x.gFuncs.length ≤ maxLen ∧ ∀ y ∈ x.gFuncs, Kjl y)
theorem goodTApiProgram {n : Nat} {d : D} (g : GoodT tab n 28 d) : ∃ x : Kl, d = KL x ∧ Kjw x := by
  obtain ⟨n', ds, _, rfl, hl, h⟩ := Kdw ti28 rfl g
  match ds, hl with
  | [d0, d1], _ =>
    obtain ⟨n1, zs1, _, rfl, hl1, hz1⟩ := Kcx ti25 rfl ti67 (h 0 _ _ rfl rfl)
    obtain ⟨x1, rfl, w1⟩ := KcC (f := Ks) (K := (fun y => Khy y)) (p := fun x => GoodT tab n1 67 x) (fun x hx => by obtain ⟨x2, rfl, w2⟩ := Klm (hx); exact ⟨x2, rfl, w2⟩) zs1 hz1
    obtain ⟨n3, zs3, _, rfl, hl3, hz3⟩ := Kcx ti26 rfl ti49 (h 1 _ _ rfl rfl)
    obtain ⟨x3, rfl, w3⟩ := KcC (f := Ko) (K := (fun y => Kjl y)) (p := fun x => GoodT tab n3 49 x) (fun x hx => by obtain ⟨x4, rfl, w4⟩ := Kme (hx); exact ⟨x4, rfl, w4⟩) zs3 hz3
    exact ⟨⟨x1, x3⟩, rfl, ⟨by simpa using hl1, w1⟩, ⟨by simpa using hl3, w3⟩⟩
def Kf9 (x : KaU) : Prop := (Lit.int .i64 x.gKind).wf = true ∧ (x.gText.length ≤ maxLen ∧ ∀ y ∈ x.gText, True) ∧ x.gName.size ≤ maxLen
theorem goodTSondagelaw36Edit {n : Nat} {d : D} (g : GoodT tab n 34 d) : ∃ x : KaU, d = Kbp x ∧ Kf9 x := by
  obtain ⟨n', ds, _, rfl, hl, h⟩ := Kdw ti34 rfl g
  match ds, hl with
  | [d0, d1, d2], _ =>
    obtain ⟨x1, rfl, w1⟩ := Kdv ti3 rfl (h 0 _ _ rfl rfl)
    obtain ⟨n2, zs2, _, rfl, hl2, hz2⟩ := Kcx ti32 rfl ti5 (h 1 _ _ rfl rfl)
    obtain ⟨x2, rfl, w2⟩ := KcC (f := byteD) (K := (fun y => True)) (p := fun x => GoodT tab n2 5 x) (fun x hx => by obtain ⟨x3, rfl⟩ := good_u8 ti5 rfl (hx); exact ⟨x3, rfl, trivial⟩) zs2 hz2
    obtain ⟨x4, rfl, w4⟩ := Kfn ti9 rfl (h 2 _ _ rfl rfl)
    exact ⟨⟨x1, x2, x4⟩, rfl, w1, ⟨by simpa using hl2, w2⟩, w4⟩
theorem wts_mem {α : Type} {e : α → D} : ∀ {l : List α} {x : α}, x ∈ l → wt (e x) ≤ wts (l.map e)
  | y :: l, x, h => by
    simp only [List.map_cons, wts]
    rcases List.mem_cons.1 h with rfl | h
    · omega
    · have := wts_mem (e := e) h; omega
theorem KiM {α : Type} {e : α → D} (h : ∀ x, 1 ≤ wt (e x)) : ∀ l : List α, l.length ≤ wts (l.map e)
  | [] => by simp
  | v :: l => by
    have := KiM h l
    have := h v
    simp only [List.length_cons, List.map_cons, wts]
    omega
theorem wt_var (x : K8) : 1 ≤ wt (Kj x) := by unfold Kj; simp only [wt, wts, wtv]; omega
theorem wt_glob (x : Kaw) : 1 ≤ wt (Ks x) := by unfold Ks; simp only [wt, wts, wtv]; omega
theorem KiN (x : Km) : x.gParams.length ≤ wt (Ko x) ∧ x.gLocals.length ≤ wt (Ko x) ∧ szSs x.gBody ≤ wt (Ko x) ∧ 1 ≤ wt (Ko x) := by
 have h1 := KiM wt_var x.gParams
 have h2 := KiM wt_var x.gLocals
 have h3 := Kj0 x.gBody
 unfold wSs at h3
 unfold Ko
 simp only [wt, wts, wtv]
 omega
theorem wt_fit (p : Kl) (h : wt (KL p) ≤ 1048576) : PFit p := by
 unfold KL at h
 simp only [wt, wts, wtv] at h
 have h1 := KiM wt_glob p.gGlobals
 have h2 := KiM (fun x => (KiN x).2.2.2) p.gFuncs
 have hf : ∀ f ∈ p.gFuncs, wt (Ko f) ≤ 1048576 := fun f hf => by
  have := wts_mem (e := Ko) hf; omega
 refine ⟨by omega, by omega, fun f hm => ⟨⟨by omega, by omega, fun g hg => ?_, ?_, ?_⟩, ?_⟩⟩
 ·have := hf g hg; have := (KiN g).1; omega
 ·have := hf f hm; have := (KiN f).1; omega
 ·have := hf f hm; have := (KiN f).2.1; omega
 ·have := hf f hm; have := (KiN f).2.2.1; omega
theorem StoreOf_U (a0 : Kl) (a1 : KaU) (h : wt (KL a0) + wt (Kbp a1) ≤ 1048576) (_ : Kjw a0) (_ : Kf9 a1) : CallsD Tryz.prog 5 [KL a0, Kbp a1] [] [] (fun d h k => d = .v (.bool true) ∧ h = [] ∧ k = []) := by
 rcases Kms (wt_fit a0 (by omega)) a1 with e | e
 ·exact KkE a0 a1 true e
 ·exact KkF a0 a1 true e
end Go.Proofs.YtipfljkjjddapaaGreatDoor.Ab
namespace Go.Proofs.YtipfljkjjddapaaGreatDoor
open Go.ChangeShapes Go.WideShapes Go.ChangeAt Go.RowKit Go.Joins
set_option linter.all false
mutual
theorem Kgq {H : Type} : ∀ d : DataW H, Ab.bulk d ≤ Rows.uptoBulk d
 | .lit (.string bytes) => by simp [Ab.bulk, Rows.uptoBulk]
 | .lit (.int _ _) => by simp [Ab.bulk, Rows.uptoBulk]
 | .lit (.bool _) => by simp [Ab.bulk, Rows.uptoBulk]
 | .lit l => by cases l <;> simp [Ab.bulk, Rows.uptoBulk]
 | .nil => by simp [Ab.bulk, Rows.uptoBulk]
 | .ptr d => by have := Kgq d; simp only [Ab.bulk, Rows.uptoBulk]; omega
 | .slice elems spare => by have h1 := KcS elems; have h2 := KcS spare; simp only [Ab.bulk, Rows.uptoBulk]; omega
 | .agg parts => by have := KcS parts; simp only [Ab.bulk, Rows.uptoBulk]; omega
 | .iface t d => by have := Kgq d; simp only [Ab.bulk, Rows.uptoBulk]; omega
 | .map entries => by simp [Ab.bulk, Rows.uptoBulk]
 | .held h => by simp [Ab.bulk, Rows.uptoBulk]
theorem KcS {H : Type} : ∀ l : List (DataW H), Ab.bulkAll l ≤ Rows.uptoBulkAll l
 | [] => by simp [Ab.bulkAll, Rows.uptoBulkAll]
 | d :: l => by have h1 := Kgq d; have h2 := KcS l; simp only [Ab.bulkAll, Rows.uptoBulkAll]; omega
end
noncomputable def KhV (os : Os) : World :=
 let w0 := World.holding Tryz.prog os ⟨#[], #[], []⟩
 let put (h : Array Obj) (g : Nat) (cs : Array Value) : Array Obj := h.modify g fun
  | .cells _ t frozen => .cells cs t frozen
  | o => o
 let h1 := put w0.heap 2 ([0, 1, 28, 2, 29, 14, 24, 3, 30, 22, 20, 15, 25, 17, 4, 8, 31, 27, 13, 23, 21, 19, 16, 7, 26, 12, 18, 6, 11, 5, 10, 9].map fun z => Value.int .u8 z).toArray
 let h2 := put h1 3 ([0, 1, 56, 2, 57, 49, 28, 3, 61, 58, 42, 50, 38, 29, 17, 4, 62, 47, 59, 36, 45, 43, 51, 22, 53, 39, 33, 30, 24, 18, 12, 5, 63, 55, 48, 27, 60, 41, 37, 16, 46, 35, 44, 21, 52, 32, 23, 11, 54, 26, 40, 15, 34, 20, 31, 10, 25, 14, 19, 9, 13, 8, 7, 6].map fun z => Value.int .u8 z).toArray
 let h3 := put h2 0 ([1, 10, 100, 1000, 10000, 100000, 1000000, 10000000, 100000000, 1000000000, 10000000000, 100000000000, 1000000000000, 10000000000000, 100000000000000, 1000000000000000, 10000000000000000, 100000000000000000, 1000000000000000000, 10000000000000000000].map fun z => Value.int .u64 z).toArray
 { w0 with heap := h3 }
theorem laid_met (os : Os) (args : Array Value) : laidMet Tryz.prog Rows.storeOfUptoRow.laid ((KhV os).forCall (fun _ _ => 0) ⟨#[], args, []⟩).memory :=
 (Go.LaidIn.of_run (l := Rows.storeOfUptoRow.laid) [2, 3, 0] 8 (by kernel_rfl) (by kernel_rfl) (by kernel_rfl) (by kernel_rfl)).met
theorem Kmt (os : Os) {H : Type} (enc : TypeId × Value → H) :
  (Rows.OpenSpec.upto Rows.storeOfSpec).preRow enc Tryz.prog Tryz.f5 Rows.storeOfUptoRow.domain false Rows.storeOfUptoRow.laid ((KhV os).forCall (fun _ _ => 0) ⟨#[], #[.agg #[.slice none 0 0, .slice none 0 0], .agg #[.int .i64 0, .slice none 0 0, .string ByteArray.empty]], []⟩).memory #[.agg #[.slice none 0 0, .slice none 0 0], .agg #[.int .i64 0, .slice none 0 0, .string ByteArray.empty]] := by
 have hw : (DataW.whole enc Tryz.prog ((KhV os).forCall (fun _ _ => 0) ⟨#[], #[.agg #[.slice none 0 0, .slice none 0 0], .agg #[.int .i64 0, .slice none 0 0, .string ByteArray.empty]], []⟩).memory Tryz.f5.params.toList (Rows.OpenSpec.upto Rows.storeOfSpec).vars false (#[.agg #[.slice none 0 0, .slice none 0 0], .agg #[.int .i64 0, .slice none 0 0, .string ByteArray.empty]] : Array Value).toList 8).map (fun x => (x.1, x.2.1)) =
   some ([.agg [.nil, .nil], .agg [.lit (.int .i64 0), .nil, .lit (.string [])]], []) := by kernel_rfl
 obtain ⟨⟨x1, x2, x3⟩, hx, hx1⟩ := Option.map_eq_some_iff.1 hw
 simp only [Prod.mk.injEq] at hx1
 obtain ⟨rfl, rfl⟩ := hx1
 exact OpenSpec.preRow_of_cond 8 hx (by kernel_rfl) (fun k hk => by cases hk; kernel_rfl) (by kernel_rfl) (laid_met os _)
theorem Kj5 (os : Os) (started : os.Started) (H : Type) (enc : TypeId × Value → H) (Fi : Stop.Interp) :
  ReturnsInHanded {} Tryz.checked os 5 .any ((Rows.OpenSpec.upto Rows.storeOfSpec).preRow enc Tryz.prog Tryz.f5 Rows.storeOfUptoRow.domain false Rows.storeOfUptoRow.laid) (((Rows.OpenSpec.upto Rows.storeOfSpec).at Fi).post enc Tryz.prog Tryz.f5 false true false false) := by
 refine returnsInHanded_of_row (C := Tryz.checked) (s := Rows.OpenSpec.upto Rows.storeOfSpec) own started (by kernel_rfl) Tryz.func5
  (witness_row_atRef (enc := enc) (C := Tryz.checked) false (KhV os) #[.agg #[.slice none 0 0, .slice none 0 0], .agg #[.int .i64 0, .slice none 0 0, .string ByteArray.empty]] rfl (by kernel_rfl) (by kernel_rfl) (by kernel_rfl) (Kmt os enc)) ?_
 intro W base args ds gs before hval0 hW _ hk0 _ _ _ _
 have hk := hk0 Rows.uptoSmall rfl
 have hval : ∀ (j : Nat) t v, Tryz.f5.params[j]? = some t → args[j]? = some v → Value.okWide Tryz.prog W .any base t v := hval0
 have hW' := hW
 obtain ⟨p, q, hA0, hV, rfl, hfz, hnd⟩ := hW
 have hA : DataW.TrodAll enc Tryz.prog W 0 (fun _ => true) true Tryz.f5.params.toList args.toList ds p := hA0
 obtain ⟨rfl, rfl⟩ := trodVars_none hV
 simp only [List.append_nil] at hW' hk
 have hback := KlH laidOut' (by kernel_rfl) hA (fun x hx => hW'.lt x hx)
 rw [Tryz.params5] at hA hval
 obtain ⟨v0, vs0, d0, ds0, p0, q0, hargs, rfl, hp0, h0, r0⟩ := trodAll_cons hA
 obtain ⟨v1, vs1, d1, ds1, p1, q1, rfl, rfl, hp1, h1, r1⟩ := trodAll_cons r0
 obtain ⟨rfl, rfl, hpn⟩ := trodAll_nil r1
 obtain rfl : args = #[v0, v1] := by cases args; simp_all
 obtain ⟨n0, x0, g0, rep0, u0⟩ := Ab.rdw_arg (t := 28) Ab.htab [3, 4, 5, 9, 25, 26, 28, 32, 34, 46, 47, 49, 67, 85, 119, 121, 166] (by kernel_rfl) (by kernel_rfl) (hval 0 28 v0 rfl rfl) h0
 obtain ⟨a0, rfl, k0⟩ := Ab.goodTApiProgram g0
 obtain ⟨n1, x1, g1, rep1, u1⟩ := Ab.rdw_arg (t := 34) Ab.htab [3, 4, 5, 9, 25, 26, 28, 32, 34, 46, 47, 49, 67, 85, 119, 121, 166] (by kernel_rfl) (by kernel_rfl) (hval 1 34 v1 rfl rfl) h1
 obtain ⟨a1, rfl, k1⟩ := Ab.goodTSondagelaw36Edit g1
 have hb0 := of_decide_eq_true hk
 have hb1 := KcS [d0, d1]
 simp only [Ab.bulkAll] at hb1
 clear hA0 hval0
 refine (Ab.to_calls (us := #[v0, v1]) (Ab.StoreOf_U a0 a1 (by omega) k0 k1) (Ab.ag_all W) (by simp only [Ab.RepsV]; exact ⟨_, _, rfl, rep0, ⟨_, _, rfl, rep1, rfl⟩⟩)).mono fun e W' ⟨he, hb⟩ => ?_
 subst he
 exact ⟨_, rfl, _, _, _, [], p, [], hW', trodAll_cons_mk (shut_bool Tryz.underlying4 _) trodAll_mk0, hback W' hb _ (fun x hx => by simpa using hW'.lt x hx), rfl, hb.frame _, fun h => by cases h⟩
theorem Kj6 : Rows.StoreOfUptoSaid :=
 OpenClaim.holds_of_cond 5 Tryz.f5 rfl rfl rfl rfl rfl rfl rfl ⟨rfl, rfl, rfl, rfl, rfl⟩ rfl rfl rfl rfl rfl (by kernel_rfl) Tryz.func5 (by kernel_rfl)
  (of_decide_eq_true (by kernel_rfl)) (by unfold Func.isWrapper; rw [if_neg (of_decide_eq_false (by kernel_rfl))]; exact ⟨rfl, rfl⟩)
  (fun os started H enc _ Fi => by rw [OpenClaim.pre_eq_preRow]; exact Kj5 os started H enc Fi)
theorem storeOfUptoCard_holds : Rows.StoreOfUptoCardSaid :=
 Claim7.holds_tied_plain_at .later [] [.data, .data, .data] true (true, "3829c5667f4f1a449105a7f71f43c87507b9a8b1a8700e7c848ad40b219868b4") true
  Kj6 (fun _ h => by cases h) (by kernel_rfl) (fun _ h => by cases h) storeOfUpto_row_tie rfl ⟨rfl, rfl⟩ (by kernel_rfl) rfl
  (fun f fn hf hfn => by
   obtain rfl : f = 5 := (Option.some.inj ((show Tryz.prog.funcNamed Rows.storeOfUptoRow.func = some 5 by kernel_rfl).symm.trans hf)).symm
   obtain rfl : fn = Tryz.f5 := (Option.some.inj (Tryz.func5.symm.trans hfn)).symm
   exact ⟨by kernel_rfl, fun j t ht => by
    rw [Tryz.params5] at ht
    have key : ∀ (l : List Nat), (l.all fun t => !(Tryz.prog.wantsStandIn t)) = true → ∀ j t, l[j]? = some t → Tryz.prog.wantsStandIn t = false := fun l h j t e => by
     have := List.all_eq_true.1 h t (List.mem_of_getElem? e)
     simpa using this
    exact key [28, 34] (by kernel_rfl) j t (by simpa using ht)⟩)
  (by kernel_rfl)
#print axioms storeOfUptoCard_holds
end Go.Proofs.YtipfljkjjddapaaGreatDoor
