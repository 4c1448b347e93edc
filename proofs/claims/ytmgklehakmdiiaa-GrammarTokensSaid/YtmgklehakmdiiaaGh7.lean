/- The texts that grammarTokens_holds leans on, part 7. -/
import Derived.Test.YtmgklehakmdiiaaGh6
set_option maxRecDepth 100000
set_option maxHeartbeats 2000000
namespace Go.Proofs.Ytmgklehakmdiiaa.Ab
open Go
set_option linter.all false
def Kfb (fu : Nat) (a0 : Int) : Option (Int) :=
 (Option.bind (α := Bool) (bif (a0 == (32 : Int)) then some true else (bif (a0 == (9 : Int)) then some true else (bif (a0 == (10 : Int)) then some true else some (a0 == (13 : Int))))) fun y4 => (bif y4 then some (1 : Int) else (Option.bind (α := Bool) (bif (decide ((97 : Int) ≤ a0)) then (bif (decide (a0 ≤ (122 : Int))) then some true else (bif (decide ((65 : Int) ≤ a0)) then (bif (decide (a0 ≤ (90 : Int))) then some true else some (a0 == (95 : Int))) else some (a0 == (95 : Int)))) else (bif (decide ((65 : Int) ≤ a0)) then (bif (decide (a0 ≤ (90 : Int))) then some true else some (a0 == (95 : Int))) else some (a0 == (95 : Int)))) fun y16 => (bif y16 then some (2 : Int) else (bif (decide ((48 : Int) ≤ a0)) then (bif (decide (a0 ≤ (57 : Int))) then some (3 : Int) else some (0 : Int)) else some (0 : Int))))))
theorem Khp (fu : Nat)   (a0 : Int) : Le (Kfb fu  a0) (Keq  a0) := by
 unfold Kfb Keq
 repeat (first | exact Le.refl _ | assumption | (refine Le.bind ?_ (fun _ => ?_)) | (refine Le.cond ?_ ?_) | (refine Le.loopC (fun _ => ?_)) | (refine Le.elim (fun _ => ?_) (fun _ => ?_)))
def Kcp (fu : Nat) (m0 : KU) (a1 : Bool) : Option (Int) :=
 (Option.bind (α := Int) (loopC fu (fun (s24 : Int) => (bif (decide ((IntKind.i64.wrap (m0.gAt + s24)) < (m0.gB.length : Int))) then ((idx m0.gB (IntKind.i64.wrap (m0.gAt + s24))).bind fun x40 => ((Kfb fu (IntKind.i32.wrap (x40.toNat : Int))).bind fun x41 => (bif (x41 != (3 : Int)) then (bif (x41 != (2 : Int)) then some (.done s24) else (bif (!a1) then some (.done s24) else some (.next (IntKind.i64.wrap (s24 + (1 : Int)))))) else some (.next (IntKind.i64.wrap (s24 + (1 : Int))))))) else some (.done s24))) (0 : Int)) fun y23 => some y23)
theorem KeW (fu : Nat)   (m0 : KU) (a1 : Bool) : Le (Kcp fu  m0 a1) (KbO  m0 a1) := by
 unfold Kcp KbO
 repeat (first | exact Le.refl _ | assumption | exact Khp fu _ | (refine Le.bind ?_ (fun _ => ?_)) | (refine Le.cond ?_ ?_) | (refine Le.loopC (fun _ => ?_)) | (refine Le.elim (fun _ => ?_) (fun _ => ?_)))
def Kcr (fu : Nat) (a0 : List ByteArray) (a1 : ByteArray) : Option (Int) :=
 (Option.bind (α := (Unit) ⊕ (Int)) (loopC fu (fun (s15 : Int) => (bif (decide (s15 < (a0.length : Int))) then ((idx a0 s15).bind fun x25 => (bif (decide (a1 = x25)) then some (.done (.inr s15)) else some (.next (IntKind.i64.wrap (s15 + (1 : Int)))))) else some (.done (.inl ())))) (0 : Int)) (Sum.elim (fun y14 => some (-1 : Int)) (fun r => some r)))
theorem Kfc (fu : Nat)   (a0 : List ByteArray) (a1 : ByteArray) : Le (Kcr fu  a0 a1) (Kbt  a0 a1) := by
 unfold Kcr Kbt
 repeat (first | exact Le.refl _ | assumption | (refine Le.bind ?_ (fun _ => ?_)) | (refine Le.cond ?_ ?_) | (refine Le.loopC (fun _ => ?_)) | (refine Le.elim (fun _ => ?_) (fun _ => ?_)))
def Kbw (fu : Nat) (a0 : List ByteArray) (a1 : ByteArray) : Option (Bool) :=
 ((Kcr fu a0 a1).bind fun x1 => some (decide ((0 : Int) ≤ x1)))
theorem KcP (fu : Nat)   (a0 : List ByteArray) (a1 : ByteArray) : Le (Kbw fu  a0 a1) (Ka2  a0 a1) := by
 unfold Kbw Ka2
 repeat (first | exact Le.refl _ | assumption | exact Kfc fu _ _ | (refine Le.bind ?_ (fun _ => ?_)) | (refine Le.cond ?_ ?_) | (refine Le.loopC (fun _ => ?_)) | (refine Le.elim (fun _ => ?_) (fun _ => ?_)))
def Kgv (fu : Nat) (a0 : ByteArray) : Option (Bool) :=
 ((Kbw fu ([(ByteArray.mk #[105, 110, 116]), (ByteArray.mk #[105, 102]), (ByteArray.mk #[101, 108, 115, 101]), (ByteArray.mk #[119, 104, 105, 108, 101]), (ByteArray.mk #[114, 101, 116, 117, 114, 110]), (ByteArray.mk #[97, 115, 115, 101, 114, 116]), (ByteArray.mk #[105, 110, 112, 117, 116]), (ByteArray.mk #[110, 117, 108, 108])] : List ByteArray) a0).bind fun x1 => some x1)
theorem Kjv (fu : Nat)   (a0 : ByteArray) : Le (Kgv fu  a0) (Ke3  a0) := by
 unfold Kgv Ke3
 repeat (first | exact Le.refl _ | assumption | exact KcP fu _ _ | (refine Le.bind ?_ (fun _ => ?_)) | (refine Le.cond ?_ ?_) | (refine Le.loopC (fun _ => ?_)) | (refine Le.elim (fun _ => ?_) (fun _ => ?_)))
def Kb0 (fu : Nat) (m0 : KU) (a1 : Int) (a2 : Int) (a3 : Int) : Option (Int × KU) :=
 (bif (decide ((4000 : Int) ≤ (m0.gL.length : Int))) then some ((6 : Int), m0) else ((cutL m0.gB m0.gAt (IntKind.i64.wrap (m0.gAt + a2))).bind fun x4 => ((app 40 m0.gL ([(⟨a1, (ByteArray.mk x4.toArray), a3, m0.gAt⟩ : Kt)] : List Kt)).bind fun x5 => some ((0 : Int), (⟨m0.gB, (IntKind.i64.wrap (m0.gAt + a2)), x5⟩ : KU)))))
theorem KdP (fu : Nat)   (m0 : KU) (a1 : Int) (a2 : Int) (a3 : Int) : Le (Kb0 fu  m0 a1 a2 a3) (KbC  m0 a1 a2 a3) := by
 unfold Kb0 KbC
 repeat (first | exact Le.refl _ | assumption | (refine Le.bind ?_ (fun _ => ?_)) | (refine Le.cond ?_ ?_) | (refine Le.loopC (fun _ => ?_)) | (refine Le.elim (fun _ => ?_) (fun _ => ?_)))
def Kd3 (fu : Nat) (m0 : KU) : Option (Int × KU) :=
 ((Kcp fu m0 true).bind fun x1 => ((cutL m0.gB m0.gAt (IntKind.i64.wrap (m0.gAt + x1))).bind fun x2 => (bif (decide ((20 : Int) < x1)) then some ((6 : Int), m0) else ((Kgv fu (ByteArray.mk x2.toArray)).bind fun x15 => (bif x15 then ((Kb0 fu m0 (3 : Int) x1 (0 : Int)).bind fun x21 => some (x21.1, x21.2)) else ((Kb0 fu m0 (1 : Int) x1 (0 : Int)).bind fun x24 => some (x24.1, x24.2)))))))
theorem Khq (fu : Nat)   (m0 : KU) : Le (Kd3 fu  m0) (KcC  m0) := by
 unfold Kd3 KcC
 repeat (first | exact Le.refl _ | assumption | exact KeW fu _ _ | exact Kjv fu _ | exact KdP fu _ _ _ _ | (refine Le.bind ?_ (fun _ => ?_)) | (refine Le.cond ?_ ?_) | (refine Le.loopC (fun _ => ?_)) | (refine Le.elim (fun _ => ?_) (fun _ => ?_)))
def KdG (fu : Nat) (m0 : KU) : Option (Int × KU) :=
 (bif (decide ((4000 : Int) ≤ (m0.gL.length : Int))) then some ((6 : Int), m0) else ((Kcp fu m0 false).bind fun x4 => (Option.bind (α := Bool) ((Kcp fu m0 true).bind fun x10 => (bif (decide (x4 < x10)) then some true else ((idx m0.gB m0.gAt).bind fun x12 => (bif ((x12.toNat : Int) == (48 : Int)) then some (decide ((1 : Int) < x4)) else some false)))) fun y9 => (bif y9 then some ((3 : Int), m0) else ((cutL m0.gB m0.gAt (IntKind.i64.wrap (m0.gAt + x4))).bind fun x17 => (Option.bind (α := (Int) ⊕ (Int × KU)) (loopC fu (fun (s33 : Int × Int) => (bif (decide (s33.2 < (x17.length : Int))) then ((idx x17 s33.2).bind fun x43 => (bif (decide ((IntKind.u64.wrap ((IntKind.u64.wrap ((9223372036854775807 : Int) - (IntKind.u64.wrap (IntKind.u8.wrap ((x43.toNat : Int) - (48 : Int)))))).tdiv (10 : Int))) < s33.1)) then some (.done (.inr ((4 : Int), m0))) else some (.next ((IntKind.u64.wrap ((IntKind.u64.wrap ((10 : Int) * s33.1)) + (IntKind.u64.wrap (IntKind.u8.wrap ((x43.toNat : Int) - (48 : Int)))))), (IntKind.i64.wrap (s33.2 + (1 : Int))))))) else some (.done (.inl s33.1)))) ((0 : Int), (0 : Int))) (Sum.elim (fun y32 => ((Kb0 fu m0 (2 : Int) x4 (IntKind.i64.wrap y32)).bind fun x47 => some (x47.1, x47.2))) (fun r => some r))))))))
theorem KgF (fu : Nat)   (m0 : KU) : Le (KdG fu  m0) (Kco  m0) := by
 unfold KdG Kco
 repeat (first | exact Le.refl _ | assumption | exact KeW fu _ _ | exact KdP fu _ _ _ _ | (refine Le.bind ?_ (fun _ => ?_)) | (refine Le.cond ?_ ?_) | (refine Le.loopC (fun _ => ?_)) | (refine Le.elim (fun _ => ?_) (fun _ => ?_)))
def Kd4 (fu : Nat) (m0 : KU) : Option (Int) :=
 ((cutL m0.gB m0.gAt ((m0.gB).length : Int)).bind fun x1 => (Option.bind (α := Bool) (bif (decide ((1 : Int) < (x1.length : Int))) then ((cutL x1 (0 : Int) (2 : Int)).bind fun x7 => ((Kbw fu ([(ByteArray.mk #[61, 61]), (ByteArray.mk #[33, 61]), (ByteArray.mk #[60, 61]), (ByteArray.mk #[38, 38]), (ByteArray.mk #[124, 124])] : List ByteArray) (ByteArray.mk x7.toArray)).bind fun x8 => some x8)) else some false) fun y5 => (bif y5 then some (2 : Int) else ((idx x1 (0 : Int)).bind fun x12 => (bif (decide ((0 : Int) ≤ (indexB (ByteArray.mk #[40, 41, 123, 125, 91, 93, 59, 44, 61, 60, 43, 45, 42, 47, 37, 33, 38]) (x12.toNat : Int)))) then some (1 : Int) else some (0 : Int))))))
theorem Khr (fu : Nat)   (m0 : KU) : Le (Kd4 fu  m0) (KcD  m0) := by
 unfold Kd4 KcD
 repeat (first | exact Le.refl _ | assumption | exact KcP fu _ _ | (refine Le.bind ?_ (fun _ => ?_)) | (refine Le.cond ?_ ?_) | (refine Le.loopC (fun _ => ?_)) | (refine Le.elim (fun _ => ?_) (fun _ => ?_)))
def Kd5 (fu : Nat) (m0 : KU) : Option (Int × KU) :=
 ((idx m0.gB m0.gAt).bind fun x1 => ((Kfb fu (IntKind.i32.wrap (x1.toNat : Int))).bind fun x2 => (bif (x2 == (1 : Int)) then some ((0 : Int), (⟨m0.gB, (IntKind.i64.wrap (m0.gAt + (1 : Int))), m0.gL⟩ : KU)) else (bif (x2 == (2 : Int)) then ((Kd3 fu m0).bind fun x27 => some (x27.1, x27.2)) else (bif (x2 == (3 : Int)) then ((KdG fu m0).bind fun x34 => some (x34.1, x34.2)) else ((Kd4 fu m0).bind fun x36 => (bif (x36 == (0 : Int)) then some ((3 : Int), m0) else ((Kb0 fu m0 (3 : Int) x36 (0 : Int)).bind fun x41 => some (x41.1, x41.2)))))))))
theorem Khs (fu : Nat)   (m0 : KU) : Le (Kd5 fu  m0) (KcE  m0) := by
 unfold Kd5 KcE
 repeat (first | exact Le.refl _ | assumption | exact Khp fu _ | exact Khq fu _ | exact KgF fu _ | exact Khr fu _ | exact KdP fu _ _ _ _ | (refine Le.bind ?_ (fun _ => ?_)) | (refine Le.cond ?_ ?_) | (refine Le.loopC (fun _ => ?_)) | (refine Le.elim (fun _ => ?_) (fun _ => ?_)))
def Kgw (fu : Nat) (a0 : List UInt8) : Option (List Kt × Int × Int) :=
 (bif (decide ((20000 : Int) < (a0.length : Int))) then some (([] : List Kt), (0 : Int), (6 : Int)) else (Option.bind (α := (List UInt8 × Int × List Kt) ⊕ (List Kt × Int × Int)) (loopC fu (fun (s25 : List UInt8 × Int × List Kt) => (bif (decide (s25.2.1 < (a0.length : Int))) then ((Kd5 fu (⟨s25.1, s25.2.1, s25.2.2⟩ : KU)).bind fun x40 => (bif (x40.1 != (0 : Int)) then some (.done (.inr (([] : List Kt), x40.2.gAt, x40.1))) else some (.next (x40.2.gB, x40.2.gAt, x40.2.gL)))) else some (.done (.inl (s25.1, s25.2.1, s25.2.2))))) (a0, (0 : Int), ([] : List Kt))) (Sum.elim (fun y24 => ((app 40 y24.2.2 ([(⟨(0 : Int), ByteArray.empty, (0 : Int), (a0.length : Int)⟩ : Kt)] : List Kt)).bind fun x44 => some (x44, (0 : Int), (0 : Int)))) (fun r => some r))))
theorem Kjw (fu : Nat)   (a0 : List UInt8) : Le (Kgw fu  a0) (Ke4  a0) := by
 unfold Kgw Ke4
 repeat (first | exact Le.refl _ | assumption | exact Khs fu _ | (refine Le.bind ?_ (fun _ => ?_)) | (refine Le.cond ?_ ?_) | (refine Le.loopC (fun _ => ?_)) | (refine Le.elim (fun _ => ?_) (fun _ => ?_)))
def Kfd (fu : Nat) (a0 : List Kt) (a1 : Int) : Option (Ke × Bool) :=
 (bif (decide ((0 : Int) ≤ a1)) then some ((⟨a0, a1, (0 : Int), (0 : Int), (0 : Int)⟩ : Ke), (decide (a1 ≤ (a0.length : Int)))) else some ((⟨a0, a1, (0 : Int), (0 : Int), (0 : Int)⟩ : Ke), false))
theorem KiB (fu : Nat)   (a0 : List Kt) (a1 : Int) : Le (Kfd fu  a0 a1) (Kbk  a0 a1) := by
 unfold Kfd Kbk
 repeat (first | exact Le.refl _ | assumption | (refine Le.bind ?_ (fun _ => ?_)) | (refine Le.cond ?_ ?_) | (refine Le.loopC (fun _ => ?_)) | (refine Le.elim (fun _ => ?_) (fun _ => ?_)))
def Kbp (fu : Nat) (m0 : Ke) (a1 : Int) : Option (Kt) :=
 (bif (decide ((m0.gL.length : Int) ≤ (IntKind.i64.wrap (m0.gAt + a1)))) then some (⟨(0 : Int), ByteArray.empty, (0 : Int), (0 : Int)⟩ : Kt) else ((idx m0.gL (IntKind.i64.wrap (m0.gAt + a1))).bind fun x5 => some x5))
theorem KbL (fu : Nat)   (m0 : Ke) (a1 : Int) : Le (Kbp fu  m0 a1) (Kar  m0 a1) := by
 unfold Kbp Kar
 repeat (first | exact Le.refl _ | assumption | (refine Le.bind ?_ (fun _ => ?_)) | (refine Le.cond ?_ ?_) | (refine Le.loopC (fun _ => ?_)) | (refine Le.elim (fun _ => ?_) (fun _ => ?_)))
def KbA (fu : Nat) (m0 : Ke) (a1 : Int) (a2 : ByteArray) : Option (Bool) :=
 ((Kbp fu m0 a1).bind fun x1 => (bif (x1.gKind == (3 : Int)) then some (decide (x1.gText = a2)) else some false))
theorem Kb1 (fu : Nat)   (m0 : Ke) (a1 : Int) (a2 : ByteArray) : Le (KbA fu  m0 a1 a2) (KaB  m0 a1 a2) := by
 unfold KbA KaB
 repeat (first | exact Le.refl _ | assumption | exact KbL fu _ _ | (refine Le.bind ?_ (fun _ => ?_)) | (refine Le.cond ?_ ?_) | (refine Le.loopC (fun _ => ?_)) | (refine Le.elim (fun _ => ?_) (fun _ => ?_)))
def KaN (fu : Nat) (m0 : Ke) (a1 : Int) (a2 : Int) : Option (Ke) :=
 (bif (m0.gE == (0 : Int)) then some (⟨m0.gL, a1, a2, m0.gVars, m0.gOpen⟩ : Ke) else some m0)
theorem Ka0 (fu : Nat)   (m0 : Ke) (a1 : Int) (a2 : Int) : Le (KaN fu  m0 a1 a2) (Kab  m0 a1 a2) := by
 unfold KaN Kab
 repeat (first | exact Le.refl _ | assumption | (refine Le.bind ?_ (fun _ => ?_)) | (refine Le.cond ?_ ?_) | (refine Le.loopC (fun _ => ?_)) | (refine Le.elim (fun _ => ?_) (fun _ => ?_)))
def K5 (fu : Nat) (m0 : Ke) (a1 : List ByteArray) : Option (Ke) :=
 (Option.bind (α := (Int) ⊕ (Ke)) (loopC fu (fun (s34 : Int × Int) => (bif (decide (s34.1 < (a1.length : Int))) then ((idx a1 s34.1).bind fun x50 => (bif (m0.gE != (0 : Int)) then some (.done (.inr (⟨m0.gL, s34.2, m0.gE, m0.gVars, m0.gOpen⟩ : Ke))) else ((KbA fu (⟨m0.gL, s34.2, m0.gE, m0.gVars, m0.gOpen⟩ : Ke) (0 : Int) x50).bind fun x53 => (bif (!x53) then ((KaN fu (⟨m0.gL, s34.2, m0.gE, m0.gVars, m0.gOpen⟩ : Ke) s34.2 (3 : Int)).bind fun x55 => some (.done (.inr x55))) else some (.next ((IntKind.i64.wrap (s34.1 + (1 : Int))), (IntKind.i64.wrap (s34.2 + (1 : Int))))))))) else some (.done (.inl s34.2)))) ((0 : Int), m0.gAt)) (Sum.elim (fun y33 => some (⟨m0.gL, y33, m0.gE, m0.gVars, m0.gOpen⟩ : Ke)) (fun r => some r)))
theorem Kav (fu : Nat)   (m0 : Ke) (a1 : List ByteArray) : Le (K5 fu  m0 a1) (KJ  m0 a1) := by
 unfold K5 KJ
 repeat (first | exact Le.refl _ | assumption | exact Kb1 fu _ _ _ | exact Ka0 fu _ _ _ | (refine Le.bind ?_ (fun _ => ?_)) | (refine Le.cond ?_ ?_) | (refine Le.loopC (fun _ => ?_)) | (refine Le.elim (fun _ => ?_) (fun _ => ?_)))
def Kbq (fu : Nat) (m0 : Ke) : Option (ByteArray × Ke) :=
 (bif (m0.gE != (0 : Int)) then some ((ByteArray.mk #[]), m0) else ((Kbp fu m0 (0 : Int)).bind fun x4 => (bif (x4.gKind != (1 : Int)) then ((KaN fu m0 m0.gAt (3 : Int)).bind fun x9 => some ((ByteArray.mk #[]), x9)) else some (x4.gText, (⟨m0.gL, (IntKind.i64.wrap (m0.gAt + (1 : Int))), m0.gE, m0.gVars, m0.gOpen⟩ : Ke)))))
theorem KbM (fu : Nat)   (m0 : Ke) : Le (Kbq fu  m0) (Kaw  m0) := by
 unfold Kbq Kaw
 repeat (first | exact Le.refl _ | assumption | exact KbL fu _ _ | exact Ka0 fu _ _ _ | (refine Le.bind ?_ (fun _ => ?_)) | (refine Le.cond ?_ ?_) | (refine Le.loopC (fun _ => ?_)) | (refine Le.elim (fun _ => ?_) (fun _ => ?_)))
def Kah (fu : Nat) (m0 : Ke) (a1 : ByteArray) : Option (Bool × Ke) :=
 (Option.bind (α := Bool) (bif (m0.gE != (0 : Int)) then some true else ((KbA fu m0 (0 : Int) a1).bind fun x5 => some (!x5))) fun y3 => (bif y3 then some (false, m0) else some (true, (⟨m0.gL, (IntKind.i64.wrap (m0.gAt + (1 : Int))), m0.gE, m0.gVars, m0.gOpen⟩ : Ke))))
theorem Ka6 (fu : Nat)   (m0 : Ke) (a1 : ByteArray) : Le (Kah fu  m0 a1) (KX  m0 a1) := by
 unfold Kah KX
 repeat (first | exact Le.refl _ | assumption | exact Kb1 fu _ _ _ | (refine Le.bind ?_ (fun _ => ?_)) | (refine Le.cond ?_ ?_) | (refine Le.loopC (fun _ => ?_)) | (refine Le.elim (fun _ => ?_) (fun _ => ?_)))
def Kb4 (fu : Nat) (m0 : Ke) : Option (KR × Ke) :=
 ((K5 fu m0 ([(ByteArray.mk #[105, 110, 116])] : List ByteArray)).bind fun x2 => ((Kah fu x2 (ByteArray.mk #[42])).bind fun x3 => ((Kbq fu x3.2).bind fun x5 => (bif (decide ((16 : Int) < (IntKind.i64.wrap (x5.2.gVars + (1 : Int))))) then ((KaN fu (⟨x5.2.gL, x5.2.gAt, x5.2.gE, (IntKind.i64.wrap (x5.2.gVars + (1 : Int))), x5.2.gOpen⟩ : Ke) x3.2.gAt (6 : Int)).bind fun x7 => some ((⟨x5.1, x3.1⟩ : KR), x7)) else some ((⟨x5.1, x3.1⟩ : KR), (⟨x5.2.gL, x5.2.gAt, x5.2.gE, (IntKind.i64.wrap (x5.2.gVars + (1 : Int))), x5.2.gOpen⟩ : Ke))))))
theorem KdK (fu : Nat)   (m0 : Ke) : Le (Kb4 fu  m0) (KaF  m0) := by
 unfold Kb4 KaF
 repeat (first | exact Le.refl _ | assumption | exact Kav fu _ _ | exact Ka6 fu _ _ | exact KbM fu _ | exact Ka0 fu _ _ _ | (refine Le.bind ?_ (fun _ => ?_)) | (refine Le.cond ?_ ?_) | (refine Le.loopC (fun _ => ?_)) | (refine Le.elim (fun _ => ?_) (fun _ => ?_)))
def Kdu (fu : Nat) (m0 : Ke) : Option (List KR × Ke) :=
 ((K5 fu m0 ([(ByteArray.mk #[40])] : List ByteArray)).bind fun x1 => ((Kah fu x1 (ByteArray.mk #[41])).bind fun x2 => (bif x2.1 then some (([] : List KR), x2.2) else (Option.bind (α := List KR × List Kt × Int × Int × Int × Int) (loopC fu (fun (s28 : List KR × List Kt × Int × Int × Int × Int) => (bif (s28.2.2.2.1 == (0 : Int)) then ((Kb4 fu (⟨s28.2.1, s28.2.2.1, s28.2.2.2.1, s28.2.2.2.2.1, s28.2.2.2.2.2⟩ : Ke)).bind fun x43 => ((app 24 s28.1 ([x43.1] : List KR)).bind fun x44 => ((Kah fu x43.2 (ByteArray.mk #[44])).bind fun x45 => (bif (!x45.1) then some (.done (x44, x45.2.gL, x45.2.gAt, x45.2.gE, x45.2.gVars, x45.2.gOpen)) else some (.next (x44, x45.2.gL, x45.2.gAt, x45.2.gE, x45.2.gVars, x45.2.gOpen)))))) else some (.done (s28.1, s28.2.1, s28.2.2.1, s28.2.2.2.1, s28.2.2.2.2.1, s28.2.2.2.2.2)))) (([] : List KR), x2.2.gL, x2.2.gAt, x2.2.gE, x2.2.gVars, x2.2.gOpen)) fun y27 => ((K5 fu (⟨y27.2.1, y27.2.2.1, y27.2.2.2.1, y27.2.2.2.2.1, y27.2.2.2.2.2⟩ : Ke) ([(ByteArray.mk #[41])] : List ByteArray)).bind fun x47 => some (y27.1, x47))))))
theorem Kgx (fu : Nat)   (m0 : Ke) : Le (Kdu fu  m0) (Kaz  m0) := by
 unfold Kdu Kaz
 repeat (first | exact Le.refl _ | assumption | exact Kav fu _ _ | exact Ka6 fu _ _ | exact KdK fu _ | (refine Le.bind ?_ (fun _ => ?_)) | (refine Le.cond ?_ ?_) | (refine Le.loopC (fun _ => ?_)) | (refine Le.elim (fun _ => ?_) (fun _ => ?_)))
def Kcu (fu : Nat) (m2 : KQ) (m1 : Ke) : Option (Ke × KQ) :=
 (Option.bind (α := List Kt × Int × Int × Int × Int × List KR) (loopC fu (fun (s33 : List Kt × Int × Int × Int × Int × List KR) => (Option.bind (α := Bool) (bif (s33.2.2.1 == (0 : Int)) then ((KbA fu (⟨s33.1, s33.2.1, s33.2.2.1, s33.2.2.2.1, s33.2.2.2.2.1⟩ : Ke) (0 : Int) (ByteArray.mk #[105, 110, 116])).bind fun x58 => some x58) else some false) fun y56 => (bif y56 then ((Kb4 fu (⟨s33.1, s33.2.1, s33.2.2.1, s33.2.2.2.1, s33.2.2.2.2.1⟩ : Ke)).bind fun x60 => ((app 24 s33.2.2.2.2.2 ([x60.1] : List KR)).bind fun x61 => ((K5 fu x60.2 ([(ByteArray.mk #[59])] : List ByteArray)).bind fun x62 => some (.next (x62.gL, x62.gAt, x62.gE, x62.gVars, x62.gOpen, x61))))) else some (.done (s33.1, s33.2.1, s33.2.2.1, s33.2.2.2.1, s33.2.2.2.2.1, s33.2.2.2.2.2))))) (m1.gL, m1.gAt, m1.gE, m1.gVars, m1.gOpen, m2.gLocals)) fun y32 => some ((⟨y32.1, y32.2.1, y32.2.2.1, y32.2.2.2.1, y32.2.2.2.2.1⟩ : Ke), (⟨m2.gName, m2.gParams, y32.2.2.2.2.2, m2.gBody, m2.gAt⟩ : KQ)))
theorem Kfg (fu : Nat)   (m2 : KQ) (m1 : Ke) : Le (Kcu fu  m2 m1) (Ka3  m2 m1) := by
 unfold Kcu Ka3
 repeat (first | exact Le.refl _ | assumption | exact Kb1 fu _ _ _ | exact KdK fu _ | exact Kav fu _ _ | (refine Le.bind ?_ (fun _ => ?_)) | (refine Le.cond ?_ ?_) | (refine Le.loopC (fun _ => ?_)) | (refine Le.elim (fun _ => ?_) (fun _ => ?_)))
def KbR (fu : Nat) (m0 : Kb) : Option (Kt) :=
 (bif (decide ((m0.gL.length : Int) ≤ m0.gAt)) then some (⟨(0 : Int), ByteArray.empty, (0 : Int), (0 : Int)⟩ : Kt) else ((idx m0.gL m0.gAt).bind fun x5 => some x5))
theorem Kcw (fu : Nat)   (m0 : Kb) : Le (KbR fu  m0) (KaQ  m0) := by
 unfold KbR KaQ
 repeat (first | exact Le.refl _ | assumption | (refine Le.bind ?_ (fun _ => ?_)) | (refine Le.cond ?_ ?_) | (refine Le.loopC (fun _ => ?_)) | (refine Le.elim (fun _ => ?_) (fun _ => ?_)))
def Kdz (fu : Nat) (m0 : Kb) (a1 : ByteArray) : Option (Bool) :=
 ((KbR fu m0).bind fun x1 => (bif (x1.gKind == (3 : Int)) then some (decide (x1.gText = a1)) else some false))
theorem Kfi (fu : Nat)   (m0 : Kb) (a1 : ByteArray) : Le (Kdz fu  m0 a1) (KbQ  m0 a1) := by
 unfold Kdz KbQ
 repeat (first | exact Le.refl _ | assumption | exact Kcw fu _ | (refine Le.bind ?_ (fun _ => ?_)) | (refine Le.cond ?_ ?_) | (refine Le.loopC (fun _ => ?_)) | (refine Le.elim (fun _ => ?_) (fun _ => ?_)))
def KbB (fu : Nat) (m0 : Kb) (a1 : Int) (a2 : Int) : Option (Kb) :=
 (bif (m0.gE == (0 : Int)) then some (⟨m0.gL, a1, a2⟩ : Kb) else some m0)
theorem Kb2 (fu : Nat)   (m0 : Kb) (a1 : Int) (a2 : Int) : Le (KbB fu  m0 a1 a2) (KaC  m0 a1 a2) := by
 unfold KbB KaC
 repeat (first | exact Le.refl _ | assumption | (refine Le.bind ?_ (fun _ => ?_)) | (refine Le.cond ?_ ?_) | (refine Le.loopC (fun _ => ?_)) | (refine Le.elim (fun _ => ?_) (fun _ => ?_)))
def Kek (fu : Nat) (m0 : Kb) (a1 : ByteArray) : Option (Kb) :=
 ((Kdz fu m0 a1).bind fun x1 => (bif (!x1) then ((KbB fu m0 m0.gAt (3 : Int)).bind fun x5 => some x5) else some (⟨m0.gL, (IntKind.i64.wrap (m0.gAt + (1 : Int))), m0.gE⟩ : Kb)))
theorem KhO (fu : Nat)   (m0 : Kb) (a1 : ByteArray) : Le (Kek fu  m0 a1) (KaY  m0 a1) := by
 unfold Kek KaY
 repeat (first | exact Le.refl _ | assumption | exact Kfi fu _ _ | exact Kb2 fu _ _ _ | (refine Le.bind ?_ (fun _ => ?_)) | (refine Le.cond ?_ ?_) | (refine Le.loopC (fun _ => ?_)) | (refine Le.elim (fun _ => ?_) (fun _ => ?_)))
def KfN (fu : Nat) (g0 : (Ka) → Option (Int)) (a0 : Ka) : Option (Int) :=
 (Option.bind (α := Int) (loopC fu (fun (s19 : Int × Int) => (bif (decide (s19.2 < (a0.gKids.length : Int))) then ((idx a0.gKids s19.2).bind fun x31 => ((g0 x31).bind fun x33 => some (.next ((max s19.1 x33), (IntKind.i64.wrap (s19.2 + (1 : Int))))))) else some (.done s19.1))) ((0 : Int), (0 : Int))) fun y18 => some (IntKind.i64.wrap (y18 + (1 : Int))))
theorem Kjl (fu : Nat) (g0 g0' : (Ka) → Option (Int)) (hg0 : ∀ x0, Le (g0 x0) (g0' x0)) (a0 : Ka) : Le (KfN fu g0 a0) (Kb5 g0' a0) := by
 unfold KfN Kb5
 repeat (first | exact Le.refl _ | assumption | exact hg0 _ | (refine Le.bind ?_ (fun _ => ?_)) | (refine Le.cond ?_ ?_) | (refine Le.loopC (fun _ => ?_)) | (refine Le.elim (fun _ => ?_) (fun _ => ?_)))
def KfO (fu : Nat) : Nat → ((Ka) → Option (Int))
 | 0 => (fun _ => none)
 | n + 1 => (KfN fu ((KfO fu n)))
theorem KgT (fu : Nat) : ∀ n, (∀ (a0 : Ka), Le ((KfO fu n) a0) ((KbG n) a0))
  | 0 => fun _ => Le.none _
  | n + 1 => by
    have ih := KgT fu n
    exact fun a0 => Kjl fu _ _ ih a0
def KiN (fu : Nat) (a0 : Ka) : Option (Int) := (KfO fu fu) a0
theorem Kkg (fu : Nat) (a0 : Ka) : Le (KiN fu a0) (KfC a0) := fun r h => Kif a0 fu (((KgT fu fu) a0) r h)
def Kcl (fu : Nat) (m0 : Kb) (a1 : Ka) (a2 : Int) : Option (Ka × Kb) :=
 (bif (m0.gE != (0 : Int)) then some ((⟨(0 : Int), (0 : Int), ByteArray.empty, [], (0 : Int)⟩ : Ka), m0) else ((KiN fu a1).bind fun x6 => (bif (decide ((24 : Int) < x6)) then ((KbB fu m0 a2 (5 : Int)).bind fun x8 => some ((⟨(0 : Int), (0 : Int), ByteArray.empty, [], (0 : Int)⟩ : Ka), x8)) else some (a1, m0))))
theorem Kdv (fu : Nat)   (m0 : Kb) (a1 : Ka) (a2 : Int) : Le (Kcl fu  m0 a1 a2) (Kag  m0 a1 a2) := by
 unfold Kcl Kag
 repeat (first | exact Le.refl _ | assumption | exact Kkg fu _ | exact Kb2 fu _ _ _ | (refine Le.bind ?_ (fun _ => ?_)) | (refine Le.cond ?_ ?_) | (refine Le.loopC (fun _ => ?_)) | (refine Le.elim (fun _ => ?_) (fun _ => ?_)))
def Kc0 (fu : Nat) (a0 : ByteArray) (a1 : ByteArray) (a2 : Int) (a3 : ByteArray) (a4 : Int) : Option (Int) :=
 (bif (decide (a0 = a1)) then some a2 else (bif (decide (a0 = a3)) then some a4 else some (0 : Int)))
theorem Kht (fu : Nat)   (a0 : ByteArray) (a1 : ByteArray) (a2 : Int) (a3 : ByteArray) (a4 : Int) : Le (Kc0 fu  a0 a1 a2 a3 a4) (Kcg  a0 a1 a2 a3 a4) := by
 unfold Kc0 Kcg
 repeat (first | exact Le.refl _ | assumption | (refine Le.bind ?_ (fun _ => ?_)) | (refine Le.cond ?_ ?_) | (refine Le.loopC (fun _ => ?_)) | (refine Le.elim (fun _ => ?_) (fun _ => ?_)))
def Kc3 (fu : Nat) (m0 : Kb) : Option (ByteArray × Kb) :=
 ((KbR fu m0).bind fun x1 => (bif (x1.gKind != (1 : Int)) then ((KbB fu m0 m0.gAt (3 : Int)).bind fun x6 => some ((ByteArray.mk #[]), x6)) else some (x1.gText, (⟨m0.gL, (IntKind.i64.wrap (m0.gAt + (1 : Int))), m0.gE⟩ : Kb))))
theorem Khu (fu : Nat)   (m0 : Kb) : Le (Kc3 fu  m0) (Kbb  m0) := by
 unfold Kc3 Kbb
 repeat (first | exact Le.refl _ | assumption | exact Kcw fu _ | exact Kb2 fu _ _ _ | (refine Le.bind ?_ (fun _ => ?_)) | (refine Le.cond ?_ ?_) | (refine Le.loopC (fun _ => ?_)) | (refine Le.elim (fun _ => ?_) (fun _ => ?_)))
def Kfe (fu : Nat) (a0 : Int) (a1 : ByteArray) : Option (Int) :=
 (bif (a0 == (0 : Int)) then (bif (decide (a1 = (ByteArray.mk #[124, 124]))) then some (17 : Int) else some (0 : Int)) else (bif (a0 == (1 : Int)) then (bif (decide (a1 = (ByteArray.mk #[38, 38]))) then some (16 : Int) else some (0 : Int)) else (bif (a0 == (2 : Int)) then ((Kc0 fu a1 (ByteArray.mk #[61, 61]) (14 : Int) (ByteArray.mk #[33, 61]) (15 : Int)).bind fun x10 => some x10) else (bif (a0 == (3 : Int)) then ((Kc0 fu a1 (ByteArray.mk #[60]) (12 : Int) (ByteArray.mk #[60, 61]) (13 : Int)).bind fun x13 => some x13) else (bif (a0 == (4 : Int)) then ((Kc0 fu a1 (ByteArray.mk #[43]) (10 : Int) (ByteArray.mk #[45]) (11 : Int)).bind fun x16 => some x16) else (bif (a0 == (5 : Int)) then (bif (decide (a1 = (ByteArray.mk #[37]))) then some (9 : Int) else ((Kc0 fu a1 (ByteArray.mk #[42]) (7 : Int) (ByteArray.mk #[47]) (8 : Int)).bind fun x22 => some x22)) else some (0 : Int)))))))
theorem KiC (fu : Nat)   (a0 : Int) (a1 : ByteArray) : Le (Kfe fu  a0 a1) (Kbl  a0 a1) := by
 unfold Kfe Kbl
 repeat (first | exact Le.refl _ | assumption | exact Kht fu _ _ _ _ _ | (refine Le.bind ?_ (fun _ => ?_)) | (refine Le.cond ?_ ?_) | (refine Le.loopC (fun _ => ?_)) | (refine Le.elim (fun _ => ?_) (fun _ => ?_)))
def KdQ (fu : Nat) (g0 : (Kb) → (Int) → Option (Ka × Kb)) (g1 : (Kb) → Option (Ka × Kb)) (g2 : (Kb) → (Ka) → (Int) → (Int) → Option (Ka × Kb)) (g3 : (Kb) → (ByteArray) → Option (Ka × Kb)) (g4 : (Kb) → (Kt) → (Int) → Option (Ka × Kb)) (m0 : Kb) (a1 : Int) : Option (Ka × Kb) :=
 (bif (a1 == (6 : Int)) then ((g1 m0).bind fun x5 => some (x5.1, x5.2)) else ((g0 m0 (IntKind.i64.wrap (a1 + (1 : Int)))).bind fun x7 => (Option.bind (α := List Kt × Int × Int × Int × Int × ByteArray × List Ka × Int) (loopC fu (fun (s51 : List Kt × Int × Int × Int × Int × ByteArray × List Ka × Int) => (bif (s51.2.2.1 == (0 : Int)) then ((KbR fu (⟨s51.1, s51.2.1, s51.2.2.1⟩ : Kb)).bind fun x79 => (Option.bind (α := Int) (bif (x79.gKind == (3 : Int)) then ((Kfe fu a1 x79.gText).bind fun x85 => some x85) else some (0 : Int)) fun y83 => (bif (y83 == (0 : Int)) then some (.done (s51.1, s51.2.1, s51.2.2.1, s51.2.2.2.1, s51.2.2.2.2.1, s51.2.2.2.2.2.1, s51.2.2.2.2.2.2.1, s51.2.2.2.2.2.2.2)) else ((g0 (⟨s51.1, (IntKind.i64.wrap (s51.2.1 + (1 : Int))), s51.2.2.1⟩ : Kb) (IntKind.i64.wrap (a1 + (1 : Int)))).bind fun x87 => ((Kcl fu x87.2 (⟨y83, (0 : Int), ByteArray.empty, ([(⟨s51.2.2.2.1, s51.2.2.2.2.1, s51.2.2.2.2.2.1, s51.2.2.2.2.2.2.1, s51.2.2.2.2.2.2.2⟩ : Ka), x87.1] : List Ka), x79.gAt⟩ : Ka) s51.2.1).bind fun x89 => some (.next (x89.2.gL, x89.2.gAt, x89.2.gE, x89.1.gOp, x89.1.gN, x89.1.gName, x89.1.gKids, x89.1.gAt))))))) else some (.done (s51.1, s51.2.1, s51.2.2.1, s51.2.2.2.1, s51.2.2.2.2.1, s51.2.2.2.2.2.1, s51.2.2.2.2.2.2.1, s51.2.2.2.2.2.2.2)))) (x7.2.gL, x7.2.gAt, x7.2.gE, x7.1.gOp, x7.1.gN, x7.1.gName, x7.1.gKids, x7.1.gAt)) fun y50 => some ((⟨y50.2.2.2.1, y50.2.2.2.2.1, y50.2.2.2.2.2.1, y50.2.2.2.2.2.2.1, y50.2.2.2.2.2.2.2⟩ : Ka), (⟨y50.1, y50.2.1, y50.2.2.1⟩ : Kb)))))
theorem Kg2 (fu : Nat) (g0 g0' : (Kb) → (Int) → Option (Ka × Kb)) (g1 g1' : (Kb) → Option (Ka × Kb)) (g2 g2' : (Kb) → (Ka) → (Int) → (Int) → Option (Ka × Kb)) (g3 g3' : (Kb) → (ByteArray) → Option (Ka × Kb)) (g4 g4' : (Kb) → (Kt) → (Int) → Option (Ka × Kb)) (hg0 : ∀ x0 x1, Le (g0 x0 x1) (g0' x0 x1)) (hg1 : ∀ x0, Le (g1 x0) (g1' x0)) (hg2 : ∀ x0 x1 x2 x3, Le (g2 x0 x1 x2 x3) (g2' x0 x1 x2 x3)) (hg3 : ∀ x0 x1, Le (g3 x0 x1) (g3' x0 x1)) (hg4 : ∀ x0 x1 x2, Le (g4 x0 x1 x2) (g4' x0 x1 x2)) (m0 : Kb) (a1 : Int) : Le (KdQ fu g0 g1 g2 g3 g4 m0 a1) (KaK g0' g1' g2' g3' g4' m0 a1) := by
 unfold KdQ KaK
 repeat (first | exact Le.refl _ | assumption | exact hg0 _ _ | exact hg1 _ | exact hg2 _ _ _ _ | exact hg3 _ _ | exact hg4 _ _ _ | exact Kcw fu _ | exact KiC fu _ _ | exact Kdv fu _ _ _ | (refine Le.bind ?_ (fun _ => ?_)) | (refine Le.cond ?_ ?_) | (refine Le.loopC (fun _ => ?_)) | (refine Le.elim (fun _ => ?_) (fun _ => ?_)))
def KdH (fu : Nat) (g0 : (Kb) → (Int) → Option (Ka × Kb)) (g1 : (Kb) → Option (Ka × Kb)) (g2 : (Kb) → (Ka) → (Int) → (Int) → Option (Ka × Kb)) (g3 : (Kb) → (ByteArray) → Option (Ka × Kb)) (g4 : (Kb) → (Kt) → (Int) → Option (Ka × Kb)) (m0 : Kb) : Option (Ka × Kb) :=
 ((KbR fu m0).bind fun x2 => (bif (m0.gE != (0 : Int)) then some ((⟨(0 : Int), (0 : Int), ByteArray.empty, [], (0 : Int)⟩ : Ka), m0) else (bif (x2.gKind == (2 : Int)) then some ((⟨(1 : Int), x2.gN, ByteArray.empty, [], x2.gAt⟩ : Ka), (⟨m0.gL, (IntKind.i64.wrap (m0.gAt + (1 : Int))), m0.gE⟩ : Kb)) else (bif (x2.gKind == (1 : Int)) then ((g2 (⟨m0.gL, (IntKind.i64.wrap (m0.gAt + (1 : Int))), m0.gE⟩ : Kb) (⟨(2 : Int), (0 : Int), x2.gText, [], x2.gAt⟩ : Ka) (3 : Int) m0.gAt).bind fun x24 => some (x24.1, x24.2)) else (bif (x2.gKind == (3 : Int)) then ((g4 (⟨m0.gL, (IntKind.i64.wrap (m0.gAt + (1 : Int))), m0.gE⟩ : Kb) x2 m0.gAt).bind fun x29 => some (x29.1, x29.2)) else ((KbB fu (⟨m0.gL, (IntKind.i64.wrap (m0.gAt + (1 : Int))), m0.gE⟩ : Kb) m0.gAt (3 : Int)).bind fun x31 => some ((⟨(0 : Int), (0 : Int), ByteArray.empty, [], (0 : Int)⟩ : Ka), x31)))))))
theorem KgG (fu : Nat) (g0 g0' : (Kb) → (Int) → Option (Ka × Kb)) (g1 g1' : (Kb) → Option (Ka × Kb)) (g2 g2' : (Kb) → (Ka) → (Int) → (Int) → Option (Ka × Kb)) (g3 g3' : (Kb) → (ByteArray) → Option (Ka × Kb)) (g4 g4' : (Kb) → (Kt) → (Int) → Option (Ka × Kb)) (hg0 : ∀ x0 x1, Le (g0 x0 x1) (g0' x0 x1)) (hg1 : ∀ x0, Le (g1 x0) (g1' x0)) (hg2 : ∀ x0 x1 x2 x3, Le (g2 x0 x1 x2 x3) (g2' x0 x1 x2 x3)) (hg3 : ∀ x0 x1, Le (g3 x0 x1) (g3' x0 x1)) (hg4 : ∀ x0 x1 x2, Le (g4 x0 x1 x2) (g4' x0 x1 x2)) (m0 : Kb) : Le (KdH fu g0 g1 g2 g3 g4 m0) (KaV g0' g1' g2' g3' g4' m0) := by
 unfold KdH KaV
 repeat (first | exact Le.refl _ | assumption | exact hg0 _ _ | exact hg1 _ | exact hg2 _ _ _ _ | exact hg3 _ _ | exact hg4 _ _ _ | exact Kcw fu _ | exact Kb2 fu _ _ _ | (refine Le.bind ?_ (fun _ => ?_)) | (refine Le.cond ?_ ?_) | (refine Le.loopC (fun _ => ?_)) | (refine Le.elim (fun _ => ?_) (fun _ => ?_)))
def Kc1 (fu : Nat) (g0 : (Kb) → (Int) → Option (Ka × Kb)) (g1 : (Kb) → Option (Ka × Kb)) (g2 : (Kb) → (Ka) → (Int) → (Int) → Option (Ka × Kb)) (g3 : (Kb) → (ByteArray) → Option (Ka × Kb)) (g4 : (Kb) → (Kt) → (Int) → Option (Ka × Kb)) (m0 : Kb) (a1 : Ka) (a2 : Int) (a3 : Int) : Option (Ka × Kb) :=
 (Option.bind (α := Bool) (bif (m0.gE != (0 : Int)) then some true else ((Kdz fu m0 (ByteArray.mk #[91])).bind fun x7 => some (!x7))) fun y5 => (bif y5 then some (a1, m0) else ((g3 (⟨m0.gL, (IntKind.i64.wrap (m0.gAt + (1 : Int))), m0.gE⟩ : Kb) (ByteArray.mk #[93])).bind fun x11 => ((Kcl fu x11.2 (⟨a2, a1.gN, a1.gName, ([x11.1] : List Ka), a1.gAt⟩ : Ka) a3).bind fun x12 => some (x12.1, x12.2)))))
theorem KfP (fu : Nat) (g0 g0' : (Kb) → (Int) → Option (Ka × Kb)) (g1 g1' : (Kb) → Option (Ka × Kb)) (g2 g2' : (Kb) → (Ka) → (Int) → (Int) → Option (Ka × Kb)) (g3 g3' : (Kb) → (ByteArray) → Option (Ka × Kb)) (g4 g4' : (Kb) → (Kt) → (Int) → Option (Ka × Kb)) (hg0 : ∀ x0 x1, Le (g0 x0 x1) (g0' x0 x1)) (hg1 : ∀ x0, Le (g1 x0) (g1' x0)) (hg2 : ∀ x0 x1 x2 x3, Le (g2 x0 x1 x2 x3) (g2' x0 x1 x2 x3)) (hg3 : ∀ x0 x1, Le (g3 x0 x1) (g3' x0 x1)) (hg4 : ∀ x0 x1 x2, Le (g4 x0 x1 x2) (g4' x0 x1 x2)) (m0 : Kb) (a1 : Ka) (a2 : Int) (a3 : Int) : Le (Kc1 fu g0 g1 g2 g3 g4 m0 a1 a2 a3) (Kau g0' g1' g2' g3' g4' m0 a1 a2 a3) := by
 unfold Kc1 Kau
 repeat (first | exact Le.refl _ | assumption | exact hg0 _ _ | exact hg1 _ | exact hg2 _ _ _ _ | exact hg3 _ _ | exact hg4 _ _ _ | exact Kfi fu _ _ | exact Kdv fu _ _ _ | (refine Le.bind ?_ (fun _ => ?_)) | (refine Le.cond ?_ ?_) | (refine Le.loopC (fun _ => ?_)) | (refine Le.elim (fun _ => ?_) (fun _ => ?_)))
def KdR (fu : Nat) (g0 : (Kb) → (Int) → Option (Ka × Kb)) (g1 : (Kb) → Option (Ka × Kb)) (g2 : (Kb) → (Ka) → (Int) → (Int) → Option (Ka × Kb)) (g3 : (Kb) → (ByteArray) → Option (Ka × Kb)) (g4 : (Kb) → (Kt) → (Int) → Option (Ka × Kb)) (m0 : Kb) (a1 : ByteArray) : Option (Ka × Kb) :=
 ((g0 m0 (0 : Int)).bind fun x2 => (bif (x2.2.gE == (0 : Int)) then ((Kek fu x2.2 a1).bind fun x5 => some (x2.1, x5)) else some (x2.1, x2.2)))
theorem Kg3 (fu : Nat) (g0 g0' : (Kb) → (Int) → Option (Ka × Kb)) (g1 g1' : (Kb) → Option (Ka × Kb)) (g2 g2' : (Kb) → (Ka) → (Int) → (Int) → Option (Ka × Kb)) (g3 g3' : (Kb) → (ByteArray) → Option (Ka × Kb)) (g4 g4' : (Kb) → (Kt) → (Int) → Option (Ka × Kb)) (hg0 : ∀ x0 x1, Le (g0 x0 x1) (g0' x0 x1)) (hg1 : ∀ x0, Le (g1 x0) (g1' x0)) (hg2 : ∀ x0 x1 x2 x3, Le (g2 x0 x1 x2 x3) (g2' x0 x1 x2 x3)) (hg3 : ∀ x0 x1, Le (g3 x0 x1) (g3' x0 x1)) (hg4 : ∀ x0 x1 x2, Le (g4 x0 x1 x2) (g4' x0 x1 x2)) (m0 : Kb) (a1 : ByteArray) : Le (KdR fu g0 g1 g2 g3 g4 m0 a1) (Ka5 g0' g1' g2' g3' g4' m0 a1) := by
 unfold KdR Ka5
 repeat (first | exact Le.refl _ | assumption | exact hg0 _ _ | exact hg1 _ | exact hg2 _ _ _ _ | exact hg3 _ _ | exact hg4 _ _ _ | exact KhO fu _ _ | (refine Le.bind ?_ (fun _ => ?_)) | (refine Le.cond ?_ ?_) | (refine Le.loopC (fun _ => ?_)) | (refine Le.elim (fun _ => ?_) (fun _ => ?_)))
def KdI (fu : Nat) (g0 : (Kb) → (Int) → Option (Ka × Kb)) (g1 : (Kb) → Option (Ka × Kb)) (g2 : (Kb) → (Ka) → (Int) → (Int) → Option (Ka × Kb)) (g3 : (Kb) → (ByteArray) → Option (Ka × Kb)) (g4 : (Kb) → (Kt) → (Int) → Option (Ka × Kb)) (m0 : Kb) (a1 : Kt) (a2 : Int) : Option (Ka × Kb) :=
 (Option.bind (α := Bool) (bif (decide (a1.gText = (ByteArray.mk #[45]))) then some (decide (a1.gText = (ByteArray.mk #[45]))) else some (decide (a1.gText = (ByteArray.mk #[33])))) fun y19 => (bif y19 then ((Kc0 fu a1.gText (ByteArray.mk #[45]) (5 : Int) (ByteArray.mk #[33]) (6 : Int)).bind fun x34 => ((g1 m0).bind fun x35 => ((Kcl fu x35.2 (⟨x34, (0 : Int), ByteArray.empty, ([x35.1] : List Ka), a1.gAt⟩ : Ka) a2).bind fun x36 => some (x36.1, x36.2)))) else (bif (decide (a1.gText = (ByteArray.mk #[42]))) then ((Kc3 fu m0).bind fun x47 => some ((⟨(4 : Int), (0 : Int), x47.1, [], a1.gAt⟩ : Ka), x47.2)) else (bif (decide (a1.gText = (ByteArray.mk #[38]))) then ((Kc3 fu m0).bind fun x56 => ((g2 x56.2 (⟨(19 : Int), (0 : Int), x56.1, [], a1.gAt⟩ : Ka) (20 : Int) a2).bind fun x57 => some (x57.1, x57.2))) else (bif (decide (a1.gText = (ByteArray.mk #[110, 117, 108, 108]))) then some ((⟨(18 : Int), (0 : Int), ByteArray.empty, [], a1.gAt⟩ : Ka), m0) else (bif (decide (a1.gText = (ByteArray.mk #[40]))) then ((g3 m0 (ByteArray.mk #[41])).bind fun x67 => some (x67.1, x67.2)) else ((KbB fu m0 a2 (3 : Int)).bind fun x69 => some ((⟨(0 : Int), (0 : Int), ByteArray.empty, [], (0 : Int)⟩ : Ka), x69))))))))
theorem KgH (fu : Nat) (g0 g0' : (Kb) → (Int) → Option (Ka × Kb)) (g1 g1' : (Kb) → Option (Ka × Kb)) (g2 g2' : (Kb) → (Ka) → (Int) → (Int) → Option (Ka × Kb)) (g3 g3' : (Kb) → (ByteArray) → Option (Ka × Kb)) (g4 g4' : (Kb) → (Kt) → (Int) → Option (Ka × Kb)) (hg0 : ∀ x0 x1, Le (g0 x0 x1) (g0' x0 x1)) (hg1 : ∀ x0, Le (g1 x0) (g1' x0)) (hg2 : ∀ x0 x1 x2 x3, Le (g2 x0 x1 x2 x3) (g2' x0 x1 x2 x3)) (hg3 : ∀ x0 x1, Le (g3 x0 x1) (g3' x0 x1)) (hg4 : ∀ x0 x1 x2, Le (g4 x0 x1 x2) (g4' x0 x1 x2)) (m0 : Kb) (a1 : Kt) (a2 : Int) : Le (KdI fu g0 g1 g2 g3 g4 m0 a1 a2) (KaW g0' g1' g2' g3' g4' m0 a1 a2) := by
 unfold KdI KaW
 repeat (first | exact Le.refl _ | assumption | exact hg0 _ _ | exact hg1 _ | exact hg2 _ _ _ _ | exact hg3 _ _ | exact hg4 _ _ _ | exact Kht fu _ _ _ _ _ | exact Kdv fu _ _ _ | exact Khu fu _ | exact Kb2 fu _ _ _ | (refine Le.bind ?_ (fun _ => ?_)) | (refine Le.cond ?_ ?_) | (refine Le.loopC (fun _ => ?_)) | (refine Le.elim (fun _ => ?_) (fun _ => ?_)))
def KM (fu : Nat) : Nat → ((Kb) → (Int) → Option (Ka × Kb)) × ((Kb) → Option (Ka × Kb)) × ((Kb) → (Ka) → (Int) → (Int) → Option (Ka × Kb)) × ((Kb) → (ByteArray) → Option (Ka × Kb)) × ((Kb) → (Kt) → (Int) → Option (Ka × Kb))
 | 0 => (fun _ _ => none, fun _ => none, fun _ _ _ _ => none, fun _ _ => none, fun _ _ _ => none)
 | n + 1 => (KdQ fu ((KM fu n).1) ((KM fu n).2.1) ((KM fu n).2.2.1) ((KM fu n).2.2.2.1) ((KM fu n).2.2.2.2), KdH fu ((KM fu n).1) ((KM fu n).2.1) ((KM fu n).2.2.1) ((KM fu n).2.2.2.1) ((KM fu n).2.2.2.2), Kc1 fu ((KM fu n).1) ((KM fu n).2.1) ((KM fu n).2.2.1) ((KM fu n).2.2.2.1) ((KM fu n).2.2.2.2), KdR fu ((KM fu n).1) ((KM fu n).2.1) ((KM fu n).2.2.1) ((KM fu n).2.2.2.1) ((KM fu n).2.2.2.2), KdI fu ((KM fu n).1) ((KM fu n).2.1) ((KM fu n).2.2.1) ((KM fu n).2.2.2.1) ((KM fu n).2.2.2.2))
theorem KeF (fu : Nat) : ∀ n, (∀ (m0 : Kb) (a1 : Int), Le ((KM fu n).1 m0 a1) ((Ko n).1 m0 a1)) ∧ (∀ (m0 : Kb), Le ((KM fu n).2.1 m0) ((Ko n).2.1 m0)) ∧ (∀ (m0 : Kb) (a1 : Ka) (a2 : Int) (a3 : Int), Le ((KM fu n).2.2.1 m0 a1 a2 a3) ((Ko n).2.2.1 m0 a1 a2 a3)) ∧ (∀ (m0 : Kb) (a1 : ByteArray), Le ((KM fu n).2.2.2.1 m0 a1) ((Ko n).2.2.2.1 m0 a1)) ∧ (∀ (m0 : Kb) (a1 : Kt) (a2 : Int), Le ((KM fu n).2.2.2.2 m0 a1 a2) ((Ko n).2.2.2.2 m0 a1 a2))
  | 0 => ⟨fun _ _ => Le.none _, fun _ => Le.none _, fun _ _ _ _ => Le.none _, fun _ _ => Le.none _, fun _ _ _ => Le.none _⟩
  | n + 1 => by
    have ih := KeF fu n
    exact ⟨fun m0 a1 => Kg2 fu _ _ _ _ _ _ _ _ _ _ ih.1 ih.2.1 ih.2.2.1 ih.2.2.2.1 ih.2.2.2.2 m0 a1, fun m0 => KgG fu _ _ _ _ _ _ _ _ _ _ ih.1 ih.2.1 ih.2.2.1 ih.2.2.2.1 ih.2.2.2.2 m0, fun m0 a1 a2 a3 => KfP fu _ _ _ _ _ _ _ _ _ _ ih.1 ih.2.1 ih.2.2.1 ih.2.2.2.1 ih.2.2.2.2 m0 a1 a2 a3, fun m0 a1 => Kg3 fu _ _ _ _ _ _ _ _ _ _ ih.1 ih.2.1 ih.2.2.1 ih.2.2.2.1 ih.2.2.2.2 m0 a1, fun m0 a1 a2 => KgH fu _ _ _ _ _ _ _ _ _ _ ih.1 ih.2.1 ih.2.2.1 ih.2.2.2.1 ih.2.2.2.2 m0 a1 a2⟩
def KfG (fu : Nat) (m0 : Kb) (a1 : Int) : Option (Ka × Kb) := (KM fu fu).1 m0 a1
theorem KhP (fu : Nat) (m0 : Kb) (a1 : Int) : Le (KfG fu m0 a1) (KcV m0 a1) := fun r h => Kfh m0 a1 fu (((KeF fu fu).1 m0 a1) r h)
def Kgy (fu : Nat) (a0 : List Kt) (a1 : Int) : Option (Ka × Int × Int) :=
 (Option.bind (α := Bool) (bif (decide (a1 < (0 : Int))) then some true else some (decide ((a0.length : Int) < a1))) fun y3 => (bif y3 then some ((⟨(0 : Int), (0 : Int), ByteArray.empty, [], (0 : Int)⟩ : Ka), (0 : Int), (2 : Int)) else ((KfG fu (⟨a0, a1, (0 : Int)⟩ : Kb) (0 : Int)).bind fun x9 => (bif (x9.2.gE != (0 : Int)) then some ((⟨(0 : Int), (0 : Int), ByteArray.empty, [], (0 : Int)⟩ : Ka), x9.2.gAt, x9.2.gE) else some (x9.1, x9.2.gAt, (0 : Int))))))
theorem Kjx (fu : Nat)   (a0 : List Kt) (a1 : Int) : Le (Kgy fu  a0 a1) (Ker  a0 a1) := by
 unfold Kgy Ker
 repeat (first | exact Le.refl _ | assumption | exact KhP fu _ _ | (refine Le.bind ?_ (fun _ => ?_)) | (refine Le.cond ?_ ?_) | (refine Le.loopC (fun _ => ?_)) | (refine Le.elim (fun _ => ?_) (fun _ => ?_)))
def KaU (fu : Nat) (m0 : Ke) : Option (Ka × Ke) :=
 (bif (m0.gE != (0 : Int)) then some ((⟨(0 : Int), (0 : Int), ByteArray.empty, [], (0 : Int)⟩ : Ka), m0) else ((Kgy fu m0.gL (min m0.gAt (m0.gL.length : Int))).bind fun x5 => (bif (x5.2.2 != (0 : Int)) then ((KaN fu m0 x5.2.1 x5.2.2).bind fun x10 => some ((⟨(0 : Int), (0 : Int), ByteArray.empty, [], (0 : Int)⟩ : Ka), x10)) else some (x5.1, (⟨m0.gL, x5.2.1, m0.gE, m0.gVars, m0.gOpen⟩ : Ke)))))
theorem KbN (fu : Nat)   (m0 : Ke) : Le (KaU fu  m0) (K8  m0) := by
 unfold KaU K8
 repeat (first | exact Le.refl _ | assumption | exact Kjx fu _ _ | exact Ka0 fu _ _ _ | (refine Le.bind ?_ (fun _ => ?_)) | (refine Le.cond ?_ ?_) | (refine Le.loopC (fun _ => ?_)) | (refine Le.elim (fun _ => ?_) (fun _ => ?_)))
def Kc4 (fu : Nat) (m0 : Ke) : Option (List Ka × Ke) :=
 ((K5 fu m0 ([(ByteArray.mk #[40])] : List ByteArray)).bind fun x1 => ((Kah fu x1 (ByteArray.mk #[41])).bind fun x2 => (bif x2.1 then some (([] : List Ka), x2.2) else (Option.bind (α := List Ka × List Kt × Int × Int × Int × Int) (loopC fu (fun (s28 : List Ka × List Kt × Int × Int × Int × Int) => (bif (s28.2.2.2.1 == (0 : Int)) then ((KaU fu (⟨s28.2.1, s28.2.2.1, s28.2.2.2.1, s28.2.2.2.2.1, s28.2.2.2.2.2⟩ : Ke)).bind fun x43 => ((app 64 s28.1 ([x43.1] : List Ka)).bind fun x44 => ((Kah fu x43.2 (ByteArray.mk #[44])).bind fun x45 => (bif (!x45.1) then some (.done (x44, x45.2.gL, x45.2.gAt, x45.2.gE, x45.2.gVars, x45.2.gOpen)) else some (.next (x44, x45.2.gL, x45.2.gAt, x45.2.gE, x45.2.gVars, x45.2.gOpen)))))) else some (.done (s28.1, s28.2.1, s28.2.2.1, s28.2.2.2.1, s28.2.2.2.2.1, s28.2.2.2.2.2)))) (([] : List Ka), x2.2.gL, x2.2.gAt, x2.2.gE, x2.2.gVars, x2.2.gOpen)) fun y27 => ((K5 fu (⟨y27.2.1, y27.2.2.1, y27.2.2.2.1, y27.2.2.2.2.1, y27.2.2.2.2.2⟩ : Ke) ([(ByteArray.mk #[41])] : List ByteArray)).bind fun x47 => some (y27.1, x47))))))
theorem KfY (fu : Nat)   (m0 : Ke) : Le (Kc4 fu  m0) (KaT  m0) := by
 unfold Kc4 KaT
 repeat (first | exact Le.refl _ | assumption | exact Kav fu _ _ | exact Ka6 fu _ _ | exact KbN fu _ | (refine Le.bind ?_ (fun _ => ?_)) | (refine Le.cond ?_ ?_) | (refine Le.loopC (fun _ => ?_)) | (refine Le.elim (fun _ => ?_) (fun _ => ?_)))
def Kcx (fu : Nat) (m0 : Ke) (a1 : Kj) : Option (Kj × Ke) :=
 ((Kbq fu m0).bind fun x3 => ((Kc4 fu x3.2).bind fun x5 => ((K5 fu x5.2 ([(ByteArray.mk #[59])] : List ByteArray)).bind fun x6 => some ((⟨(4 : Int), a1.gName, x3.1, x5.1, a1.gKids, a1.gElse, a1.gAt⟩ : Kj), x6))))
theorem Kev (fu : Nat)   (m0 : Ke) (a1 : Kj) : Le (Kcx fu  m0 a1) (KaO  m0 a1) := by
 unfold Kcx KaO
 repeat (first | exact Le.refl _ | assumption | exact KbM fu _ | exact KfY fu _ | exact Kav fu _ _ | (refine Le.bind ?_ (fun _ => ?_)) | (refine Le.cond ?_ ?_) | (refine Le.loopC (fun _ => ?_)) | (refine Le.elim (fun _ => ?_) (fun _ => ?_)))
def Kc5 (fu : Nat) (m0 : Ke) (a1 : Kj) : Option (Kj × Ke) :=
 ((Kah fu m0 (ByteArray.mk #[105, 110, 112, 117, 116])).bind fun x15 => (bif x15.1 then ((K5 fu x15.2 ([(ByteArray.mk #[40]), (ByteArray.mk #[41]), (ByteArray.mk #[59])] : List ByteArray)).bind fun x28 => some ((⟨(5 : Int), a1.gName, a1.gFunc, a1.gExps, a1.gKids, a1.gElse, a1.gAt⟩ : Kj), x28)) else (Option.bind (α := Bool) ((Kbp fu x15.2 (0 : Int)).bind fun x34 => (bif (x34.gKind == (1 : Int)) then ((KbA fu x15.2 (1 : Int) (ByteArray.mk #[40])).bind fun x36 => some x36) else some false)) fun y33 => (bif y33 then ((Kcx fu x15.2 a1).bind fun x40 => some (x40.1, x40.2)) else ((KaU fu x15.2).bind fun x42 => ((K5 fu x42.2 ([(ByteArray.mk #[59])] : List ByteArray)).bind fun x43 => some ((⟨(1 : Int), a1.gName, a1.gFunc, ([x42.1] : List Ka), a1.gKids, a1.gElse, a1.gAt⟩ : Kj), x43)))))))
theorem KfZ (fu : Nat)   (m0 : Ke) (a1 : Kj) : Le (Kc5 fu  m0 a1) (KaM  m0 a1) := by
 unfold Kc5 KaM
 repeat (first | exact Le.refl _ | assumption | exact Ka6 fu _ _ | exact Kav fu _ _ | exact KbL fu _ _ | exact Kb1 fu _ _ _ | exact Kev fu _ _ | exact KbN fu _ | (refine Le.bind ?_ (fun _ => ?_)) | (refine Le.cond ?_ ?_) | (refine Le.loopC (fun _ => ?_)) | (refine Le.elim (fun _ => ?_) (fun _ => ?_)))
def Kdw (fu : Nat) (m0 : Ke) (a1 : Kj) : Option (Kj × Ke) :=
 ((KbA fu m0 (1 : Int) (ByteArray.mk #[40])).bind fun x3 => (bif x3 then ((Kcx fu m0 a1).bind fun x7 => some (x7.1, x7.2)) else ((Kbq fu m0).bind fun x9 => ((Kah fu x9.2 (ByteArray.mk #[91])).bind fun x10 => (bif x10.1 then ((KaU fu x10.2).bind fun x18 => ((K5 fu x18.2 ([(ByteArray.mk #[93]), (ByteArray.mk #[61])] : List ByteArray)).bind fun x20 => ((KaU fu x20).bind fun x21 => ((K5 fu x21.2 ([(ByteArray.mk #[59])] : List ByteArray)).bind fun x22 => some ((⟨(2 : Int), x9.1, a1.gFunc, ([x18.1, x21.1] : List Ka), a1.gKids, a1.gElse, a1.gAt⟩ : Kj), x22))))) else ((K5 fu x10.2 ([(ByteArray.mk #[61])] : List ByteArray)).bind fun x24 => ((Kc5 fu x24 (⟨a1.gOp, x9.1, a1.gFunc, a1.gExps, a1.gKids, a1.gElse, a1.gAt⟩ : Kj)).bind fun x25 => some (x25.1, x25.2))))))))
theorem Kgz (fu : Nat)   (m0 : Ke) (a1 : Kj) : Le (Kdw fu  m0 a1) (Kbf  m0 a1) := by
 unfold Kdw Kbf
 repeat (first | exact Le.refl _ | assumption | exact Kb1 fu _ _ _ | exact Kev fu _ _ | exact KbM fu _ | exact Ka6 fu _ _ | exact KbN fu _ | exact Kav fu _ _ | exact KfZ fu _ _ | (refine Le.bind ?_ (fun _ => ?_)) | (refine Le.cond ?_ ?_) | (refine Le.loopC (fun _ => ?_)) | (refine Le.elim (fun _ => ?_) (fun _ => ?_)))
def Kb3 (fu : Nat) (m0 : Ke) : Option (List Ka × Ke) :=
 ((K5 fu m0 ([(ByteArray.mk #[40])] : List ByteArray)).bind fun x1 => ((KaU fu x1).bind fun x2 => ((K5 fu x2.2 ([(ByteArray.mk #[41])] : List ByteArray)).bind fun x4 => some (([x2.1] : List Ka), x4))))
theorem KgI (fu : Nat)   (m0 : Ke) : Le (Kb3 fu  m0) (Ka9  m0) := by
 unfold Kb3 Ka9
 repeat (first | exact Le.refl _ | assumption | exact Kav fu _ _ | exact KbN fu _ | (refine Le.bind ?_ (fun _ => ?_)) | (refine Le.cond ?_ ?_) | (refine Le.loopC (fun _ => ?_)) | (refine Le.elim (fun _ => ?_) (fun _ => ?_)))
def Kew (fu : Nat)  : Option (Unit) :=
 some ()
theorem Kh6 (fu : Nat)    : Le (Kew fu  ) (grammar_nothing  ) := by
 unfold Kew grammar_nothing
 repeat (first | exact Le.refl _ | assumption | (refine Le.bind ?_ (fun _ => ?_)) | (refine Le.cond ?_ ?_) | (refine Le.loopC (fun _ => ?_)) | (refine Le.elim (fun _ => ?_) (fun _ => ?_)))
def Kc6 (fu : Nat) (g0 : (Ke) → Option (Kj × Ke)) (g1 : (Ke) → Option (List Kj × Ke)) (m0 : Ke) : Option (Kj × Ke) :=
 ((Kbp fu m0 (0 : Int)).bind fun x2 => (bif (x2.gKind == (1 : Int)) then ((Kdw fu m0 (⟨(0 : Int), ByteArray.empty, ByteArray.empty, [], [], [], x2.gAt⟩ : Kj)).bind fun x6 => some (x6.1, x6.2)) else ((Kah fu m0 (ByteArray.mk #[42])).bind fun x8 => (bif x8.1 then ((Kbq fu x8.2).bind fun x10 => ((K5 fu x10.2 ([(ByteArray.mk #[61])] : List ByteArray)).bind fun x11 => ((KaU fu x11).bind fun x12 => ((K5 fu x12.2 ([(ByteArray.mk #[59])] : List ByteArray)).bind fun x13 => some ((⟨(3 : Int), x10.1, ByteArray.empty, ([x12.1] : List Ka), [], [], x2.gAt⟩ : Kj), x13))))) else ((Kah fu x8.2 (ByteArray.mk #[105, 102])).bind fun x15 => (bif x15.1 then ((Kb3 fu x15.2).bind fun x18 => ((g1 x18.2).bind fun x20 => ((Kah fu x20.2 (ByteArray.mk #[101, 108, 115, 101])).bind fun x21 => (bif x21.1 then ((g1 x21.2).bind fun x24 => some ((⟨(6 : Int), ByteArray.empty, ByteArray.empty, x18.1, x20.1, x24.1, x2.gAt⟩ : Kj), x24.2)) else some ((⟨(6 : Int), ByteArray.empty, ByteArray.empty, x18.1, x20.1, [], x2.gAt⟩ : Kj), x21.2))))) else ((Kah fu x15.2 (ByteArray.mk #[119, 104, 105, 108, 101])).bind fun x27 => (bif x27.1 then ((Kb3 fu x27.2).bind fun x30 => ((g1 x30.2).bind fun x32 => some ((⟨(7 : Int), ByteArray.empty, ByteArray.empty, x30.1, x32.1, [], x2.gAt⟩ : Kj), x32.2))) else ((Kah fu x27.2 (ByteArray.mk #[114, 101, 116, 117, 114, 110])).bind fun x34 => (bif x34.1 then ((KaU fu x34.2).bind fun x36 => ((K5 fu x36.2 ([(ByteArray.mk #[59])] : List ByteArray)).bind fun x37 => some ((⟨(8 : Int), ByteArray.empty, ByteArray.empty, ([x36.1] : List Ka), [], [], x2.gAt⟩ : Kj), x37))) else ((Kah fu x34.2 (ByteArray.mk #[97, 115, 115, 101, 114, 116])).bind fun x39 => (bif x39.1 then ((Kb3 fu x39.2).bind fun x42 => ((K5 fu x42.2 ([(ByteArray.mk #[59])] : List ByteArray)).bind fun x43 => some ((⟨(9 : Int), ByteArray.empty, ByteArray.empty, x42.1, [], [], x2.gAt⟩ : Kj), x43))) else ((KaN fu x39.2 x39.2.gAt (3 : Int)).bind fun x45 => some ((⟨(0 : Int), ByteArray.empty, ByteArray.empty, [], [], [], x2.gAt⟩ : Kj), x45))))))))))))))
theorem Kf0 (fu : Nat) (g0 g0' : (Ke) → Option (Kj × Ke)) (g1 g1' : (Ke) → Option (List Kj × Ke)) (hg0 : ∀ x0, Le (g0 x0) (g0' x0)) (hg1 : ∀ x0, Le (g1 x0) (g1' x0)) (m0 : Ke) : Le (Kc6 fu g0 g1 m0) (KaA g0' g1' m0) := by
 unfold Kc6 KaA
 repeat (first | exact Le.refl _ | assumption | exact hg0 _ | exact hg1 _ | exact KbL fu _ _ | exact Kgz fu _ _ | exact Ka6 fu _ _ | exact KbM fu _ | exact Kav fu _ _ | exact KbN fu _ | exact KgI fu _ | exact Ka0 fu _ _ _ | (refine Le.bind ?_ (fun _ => ?_)) | (refine Le.cond ?_ ?_) | (refine Le.loopC (fun _ => ?_)) | (refine Le.elim (fun _ => ?_) (fun _ => ?_)))
def KcH (fu : Nat) (g0 : (Ke) → Option (Kj × Ke)) (g1 : (Ke) → Option (List Kj × Ke)) (m0 : Ke) : Option (List Kj × Ke) :=
 ((K5 fu m0 ([(ByteArray.mk #[123])] : List ByteArray)).bind fun x1 => (Option.bind (α := List Kt × Int × Int × Int × Int) (bif (decide ((24 : Int) ≤ x1.gOpen)) then ((KaN fu x1 m0.gAt (5 : Int)).bind fun x6 => some (x6.gL, x6.gAt, x6.gE, x6.gVars, x6.gOpen)) else some (x1.gL, x1.gAt, x1.gE, x1.gVars, x1.gOpen)) fun y4 => ((Kew fu).bind fun x7 => (Option.bind (α := List Kj × List Kt × Int × Int × Int × Int) (loopC fu (fun (s38 : List Kj × List Kt × Int × Int × Int × Int) => (Option.bind (α := Bool × List Kt × Int × Int × Int × Int) (bif (s38.2.2.2.1 == (0 : Int)) then ((Kah fu (⟨s38.2.1, s38.2.2.1, s38.2.2.2.1, s38.2.2.2.2.1, s38.2.2.2.2.2⟩ : Ke) (ByteArray.mk #[125])).bind fun x62 => some ((!x62.1), x62.2.gL, x62.2.gAt, x62.2.gE, x62.2.gVars, x62.2.gOpen)) else some (false, s38.2.1, s38.2.2.1, s38.2.2.2.1, s38.2.2.2.2.1, s38.2.2.2.2.2)) fun y60 => (bif y60.1 then ((g0 (⟨y60.2.1, y60.2.2.1, y60.2.2.2.1, y60.2.2.2.2.1, y60.2.2.2.2.2⟩ : Ke)).bind fun x64 => ((app 120 s38.1 ([x64.1] : List Kj)).bind fun x65 => some (.next (x65, x64.2.gL, x64.2.gAt, x64.2.gE, x64.2.gVars, x64.2.gOpen)))) else some (.done (s38.1, y60.2.1, y60.2.2.1, y60.2.2.2.1, y60.2.2.2.2.1, y60.2.2.2.2.2))))) (([] : List Kj), y4.1, y4.2.1, y4.2.2.1, y4.2.2.2.1, (IntKind.i64.wrap (y4.2.2.2.2 + (1 : Int))))) fun y37 => some (y37.1, (⟨y37.2.1, y37.2.2.1, y37.2.2.2.1, y37.2.2.2.2.1, (IntKind.i64.wrap (y37.2.2.2.2.2 - (1 : Int)))⟩ : Ke))))))
theorem KfH (fu : Nat) (g0 g0' : (Ke) → Option (Kj × Ke)) (g1 g1' : (Ke) → Option (List Kj × Ke)) (hg0 : ∀ x0, Le (g0 x0) (g0' x0)) (hg1 : ∀ x0, Le (g1 x0) (g1' x0)) (m0 : Ke) : Le (KcH fu g0 g1 m0) (Kas g0' g1' m0) := by
 unfold KcH Kas
 repeat (first | exact Le.refl _ | assumption | exact hg0 _ | exact hg1 _ | exact Kav fu _ _ | exact Ka0 fu _ _ _ | exact Kh6 fu | exact Ka6 fu _ _ | (refine Le.bind ?_ (fun _ => ?_)) | (refine Le.cond ?_ ?_) | (refine Le.loopC (fun _ => ?_)) | (refine Le.elim (fun _ => ?_) (fun _ => ?_)))
def Kbd (fu : Nat) : Nat → ((Ke) → Option (Kj × Ke)) × ((Ke) → Option (List Kj × Ke))
 | 0 => (fun _ => none, fun _ => none)
 | n + 1 => (Kc6 fu ((Kbd fu n).1) ((Kbd fu n).2), KcH fu ((Kbd fu n).1) ((Kbd fu n).2))
theorem Kd6 (fu : Nat) : ∀ n, (∀ (m0 : Ke), Le ((Kbd fu n).1 m0) ((KO n).1 m0)) ∧ (∀ (m0 : Ke), Le ((Kbd fu n).2 m0) ((KO n).2 m0))
  | 0 => ⟨fun _ => Le.none _, fun _ => Le.none _⟩
  | n + 1 => by
    have ih := Kd6 fu n
    exact ⟨fun m0 => Kf0 fu _ _ _ _ ih.1 ih.2 m0, fun m0 => KfH fu _ _ _ _ ih.1 ih.2 m0⟩
def KeX (fu : Nat) (m0 : Ke) : Option (Kj × Ke) := (Kbd fu fu).1 m0
theorem KgJ (fu : Nat) (m0 : Ke) : Le (KeX fu m0) (Kba m0) := fun r h => KeB m0 fu (((Kd6 fu fu).1 m0) r h)
def Kdx (fu : Nat) (m0 : Ke) (m2 : KQ) : Option (List Kj × Ke × KQ) :=
 ((K5 fu m0 ([(ByteArray.mk #[123])] : List ByteArray)).bind fun x1 => (Option.bind (α := List Kt × Int × Int × Int × Int) (bif (decide ((24 : Int) ≤ x1.gOpen)) then ((KaN fu x1 m0.gAt (5 : Int)).bind fun x6 => some (x6.gL, x6.gAt, x6.gE, x6.gVars, x6.gOpen)) else some (x1.gL, x1.gAt, x1.gE, x1.gVars, x1.gOpen)) fun y4 => ((Kcu fu m2 (⟨y4.1, y4.2.1, y4.2.2.1, y4.2.2.2.1, (IntKind.i64.wrap (y4.2.2.2.2 + (1 : Int)))⟩ : Ke)).bind fun x8 => (Option.bind (α := List Kj × List Kt × Int × Int × Int × Int) (loopC fu (fun (s39 : List Kj × List Kt × Int × Int × Int × Int) => (Option.bind (α := Bool × List Kt × Int × Int × Int × Int) (bif (s39.2.2.2.1 == (0 : Int)) then ((Kah fu (⟨s39.2.1, s39.2.2.1, s39.2.2.2.1, s39.2.2.2.2.1, s39.2.2.2.2.2⟩ : Ke) (ByteArray.mk #[125])).bind fun x63 => some ((!x63.1), x63.2.gL, x63.2.gAt, x63.2.gE, x63.2.gVars, x63.2.gOpen)) else some (false, s39.2.1, s39.2.2.1, s39.2.2.2.1, s39.2.2.2.2.1, s39.2.2.2.2.2)) fun y61 => (bif y61.1 then ((KeX fu (⟨y61.2.1, y61.2.2.1, y61.2.2.2.1, y61.2.2.2.2.1, y61.2.2.2.2.2⟩ : Ke)).bind fun x65 => ((app 120 s39.1 ([x65.1] : List Kj)).bind fun x66 => some (.next (x66, x65.2.gL, x65.2.gAt, x65.2.gE, x65.2.gVars, x65.2.gOpen)))) else some (.done (s39.1, y61.2.1, y61.2.2.1, y61.2.2.2.1, y61.2.2.2.2.1, y61.2.2.2.2.2))))) (([] : List Kj), x8.1.gL, x8.1.gAt, x8.1.gE, x8.1.gVars, x8.1.gOpen)) fun y38 => some (y38.1, (⟨y38.2.1, y38.2.2.1, y38.2.2.2.1, y38.2.2.2.2.1, (IntKind.i64.wrap (y38.2.2.2.2.2 - (1 : Int)))⟩ : Ke), x8.2)))))
theorem KgA (fu : Nat)   (m0 : Ke) (m2 : KQ) : Le (Kdx fu  m0 m2) (KaI  m0 m2) := by
 unfold Kdx KaI
 repeat (first | exact Le.refl _ | assumption | exact Kav fu _ _ | exact Ka0 fu _ _ _ | exact Kfg fu _ _ | exact Ka6 fu _ _ | exact KgJ fu _ | (refine Le.bind ?_ (fun _ => ?_)) | (refine Le.cond ?_ ?_) | (refine Le.loopC (fun _ => ?_)) | (refine Le.elim (fun _ => ?_) (fun _ => ?_)))
def KfQ (fu : Nat) (g0 : (Ka) → Option (Int)) (a0 : Ka) : Option (Int) :=
 (Option.bind (α := Int) (loopC fu (fun (s19 : Int × Int) => (bif (decide (s19.2 < (a0.gKids.length : Int))) then ((idx a0.gKids s19.2).bind fun x31 => ((g0 x31).bind fun x33 => some (.next ((IntKind.i64.wrap (s19.1 + x33)), (IntKind.i64.wrap (s19.2 + (1 : Int))))))) else some (.done s19.1))) ((1 : Int), (0 : Int))) fun y18 => some y18)
theorem Kjm (fu : Nat) (g0 g0' : (Ka) → Option (Int)) (hg0 : ∀ x0, Le (g0 x0) (g0' x0)) (a0 : Ka) : Le (KfQ fu g0 a0) (Kb6 g0' a0) := by
 unfold KfQ Kb6
 repeat (first | exact Le.refl _ | assumption | exact hg0 _ | (refine Le.bind ?_ (fun _ => ?_)) | (refine Le.cond ?_ ?_) | (refine Le.loopC (fun _ => ?_)) | (refine Le.elim (fun _ => ?_) (fun _ => ?_)))
def KfR (fu : Nat) : Nat → ((Ka) → Option (Int))
 | 0 => (fun _ => none)
 | n + 1 => (KfQ fu ((KfR fu n)))
theorem KgU (fu : Nat) : ∀ n, (∀ (a0 : Ka), Le ((KfR fu n) a0) ((KbH n) a0))
  | 0 => fun _ => Le.none _
  | n + 1 => by
    have ih := KgU fu n
    exact fun a0 => Kjm fu _ _ ih a0
def KiO (fu : Nat) (a0 : Ka) : Option (Int) := (KfR fu fu) a0
theorem Kkh (fu : Nat) (a0 : Ka) : Le (KiO fu a0) (KfD a0) := fun r h => Kih a0 fu (((KgU fu fu) a0) r h)
def Kfr (fu : Nat) (g0 : (List Kj) → Option (Int)) (a0 : List Kj) : Option (Int) :=
 (Option.bind (α := Int) (loopC fu (fun (s115 : Int × Int) => (bif (decide (s115.2 < (a0.length : Int))) then ((idx a0 s115.2).bind fun x191 => ((g0 x191.gKids).bind fun x193 => ((g0 x191.gElse).bind fun x194 => (Option.bind (α := Int) (loopC fu (fun (s211 : Int × Int) => (bif (decide (s211.2 < (x191.gExps.length : Int))) then ((idx x191.gExps s211.2).bind fun x223 => ((KiO fu x223).bind fun x225 => some (.next ((IntKind.i64.wrap (s211.1 + x225)), (IntKind.i64.wrap (s211.2 + (1 : Int))))))) else some (.done s211.1))) ((IntKind.i64.wrap (s115.1 + (IntKind.i64.wrap ((IntKind.i64.wrap ((1 : Int) + x193)) + x194)))), (0 : Int))) fun y210 => some (.next (y210, (IntKind.i64.wrap (s115.2 + (1 : Int))))))))) else some (.done s115.1))) ((0 : Int), (0 : Int))) fun y114 => some y114)
theorem Ki5 (fu : Nat) (g0 g0' : (List Kj) → Option (Int)) (hg0 : ∀ x0, Le (g0 x0) (g0' x0)) (a0 : List Kj) : Le (Kfr fu g0 a0) (KbS g0' a0) := by
 unfold Kfr KbS
 repeat (first | exact Le.refl _ | assumption | exact hg0 _ | exact Kkh fu _ | (refine Le.bind ?_ (fun _ => ?_)) | (refine Le.cond ?_ ?_) | (refine Le.loopC (fun _ => ?_)) | (refine Le.elim (fun _ => ?_) (fun _ => ?_)))
def Kfs (fu : Nat) : Nat → ((List Kj) → Option (Int))
 | 0 => (fun _ => none)
 | n + 1 => (Kfr fu ((Kfs fu n)))
theorem KgB (fu : Nat) : ∀ n, (∀ (a0 : List Kj), Le ((Kfs fu n) a0) ((Kbu n) a0))
  | 0 => fun _ => Le.none _
  | n + 1 => by
    have ih := KgB fu n
    exact fun a0 => Ki5 fu _ _ ih a0
def Kip (fu : Nat) (a0 : List Kj) : Option (Int) := (Kfs fu fu) a0
theorem Kjy (fu : Nat) (a0 : List Kj) : Le (Kip fu a0) (Kes a0) := fun r h => KhW a0 fu (((KgB fu fu) a0) r h)
def KcI (fu : Nat) (m0 : Ke) : Option (KQ × Ke) :=
 ((Kbp fu m0 (0 : Int)).bind fun x3 => ((K5 fu m0 ([(ByteArray.mk #[105, 110, 116])] : List ByteArray)).bind fun x5 => ((Kbq fu x5).bind fun x6 => ((Kdu fu x6.2).bind fun x8 => ((Kdx fu x8.2 (⟨x6.1, x8.1, [], [], x3.gAt⟩ : KQ)).bind fun x12 => (Option.bind (α := Bool) (bif (x12.2.1.gE == (0 : Int)) then ((Kip fu x12.1).bind fun x17 => some (decide ((800 : Int) < x17))) else some false) fun y15 => (bif y15 then ((KaN fu x12.2.1 x5.gAt (6 : Int)).bind fun x19 => some ((⟨x12.2.2.gName, x12.2.2.gParams, x12.2.2.gLocals, x12.1, x12.2.2.gAt⟩ : KQ), x19)) else some ((⟨x12.2.2.gName, x12.2.2.gParams, x12.2.2.gLocals, x12.1, x12.2.2.gAt⟩ : KQ), x12.2.1))))))))
theorem KfI (fu : Nat)   (m0 : Ke) : Le (KcI fu  m0) (KaZ  m0) := by
 unfold KcI KaZ
 repeat (first | exact Le.refl _ | assumption | exact KbL fu _ _ | exact Kav fu _ _ | exact KbM fu _ | exact Kgx fu _ | exact KgA fu _ _ | exact Kjy fu _ | exact Ka0 fu _ _ _ | (refine Le.bind ?_ (fun _ => ?_)) | (refine Le.cond ?_ ?_) | (refine Le.loopC (fun _ => ?_)) | (refine Le.elim (fun _ => ?_) (fun _ => ?_)))
def Kft (fu : Nat) (a0 : List Kt) (a1 : Int) : Option (KQ × Int × Int) :=
 ((Kfd fu a0 a1).bind fun x3 => (bif (!x3.2) then some ((⟨ByteArray.empty, [], [], [], (0 : Int)⟩ : KQ), (0 : Int), (2 : Int)) else ((KcI fu x3.1).bind fun x13 => (bif (x13.2.gE != (0 : Int)) then some ((⟨ByteArray.empty, [], [], [], (0 : Int)⟩ : KQ), x13.2.gAt, x13.2.gE) else some (x13.1, x13.2.gAt, (0 : Int))))))
theorem Ki6 (fu : Nat)   (a0 : List Kt) (a1 : Int) : Le (Kft fu  a0 a1) (KbT  a0 a1) := by
 unfold Kft KbT
 repeat (first | exact Le.refl _ | assumption | exact KiB fu _ _ | exact KfI fu _ | (refine Le.bind ?_ (fun _ => ?_)) | (refine Le.cond ?_ ?_) | (refine Le.loopC (fun _ => ?_)) | (refine Le.elim (fun _ => ?_) (fun _ => ?_)))
def Kc7 (fu : Nat) (a0 : List UInt8) : Option (KQ × Int × Int) :=
 ((Kgw fu a0).bind fun x4 => (bif (x4.2.2 != (0 : Int)) then some ((⟨ByteArray.empty, [], [], [], (0 : Int)⟩ : KQ), x4.2.1, x4.2.2) else ((Kft fu x4.1 (0 : Int)).bind fun x14 => ((idx x4.1 (min x14.2.1 (IntKind.i64.wrap ((x4.1.length : Int) - (1 : Int))))).bind fun x16 => (bif (x14.2.2 != (0 : Int)) then some ((⟨ByteArray.empty, [], [], [], (0 : Int)⟩ : KQ), x16.gAt, x14.2.2) else (bif (x16.gKind != (0 : Int)) then some ((⟨ByteArray.empty, [], [], [], (0 : Int)⟩ : KQ), x16.gAt, (3 : Int)) else some (x14.1, (0 : Int), (0 : Int))))))))
theorem Kf1 (fu : Nat)   (a0 : List UInt8) : Le (Kc7 fu  a0) (KbX  a0) := by
 unfold Kc7 KbX
 repeat (first | exact Le.refl _ | assumption | exact Kjw fu _ | exact Ki6 fu _ _ | (refine Le.bind ?_ (fun _ => ?_)) | (refine Le.cond ?_ ?_) | (refine Le.loopC (fun _ => ?_)) | (refine Le.elim (fun _ => ?_) (fun _ => ?_)))
def Kel (fu : Nat) (a0 : List UInt8) : Option (KQ × Int × Int) :=
 ((Kc7 fu a0).bind fun x5 => some (x5.1, x5.2.1, x5.2.2))
theorem KhQ (fu : Nat)   (a0 : List UInt8) : Le (Kel fu  a0) (KcW  a0) := by
 unfold Kel KcW
 repeat (first | exact Le.refl _ | assumption | exact Kf1 fu _ | (refine Le.bind ?_ (fun _ => ?_)) | (refine Le.cond ?_ ?_) | (refine Le.loopC (fun _ => ?_)) | (refine Le.elim (fun _ => ?_) (fun _ => ?_)))
def KiP (fu : Nat)  : Option (Bool) :=
 ((Kel fu ([(105 : UInt8), (110 : UInt8), (116 : UInt8), (32 : UInt8), (102 : UInt8), (40 : UInt8), (105 : UInt8), (110 : UInt8), (116 : UInt8), (32 : UInt8), (42 : UInt8), (112 : UInt8), (41 : UInt8), (32 : UInt8), (123 : UInt8), (32 : UInt8), (114 : UInt8), (101 : UInt8), (116 : UInt8), (117 : UInt8), (114 : UInt8), (110 : UInt8), (32 : UInt8), (42 : UInt8), (112 : UInt8), (59 : UInt8), (32 : UInt8), (125 : UInt8)] : List UInt8)).bind fun x4 => (bif (x4.2.2 == (0 : Int)) then (bif (decide (x4.1.gName = (ByteArray.mk #[102]))) then (bif ((x4.1.gParams.length : Int) == (1 : Int)) then ((idx x4.1.gParams (0 : Int)).bind fun x9 => (bif x9.gPtr then (bif ((x4.1.gBody.length : Int) == (1 : Int)) then ((idx x4.1.gBody (0 : Int)).bind fun x12 => some (x12.gOp == (8 : Int))) else some false) else some false)) else some false) else some false) else some false))
theorem Kki (fu : Nat)    : Le (KiP fu  ) (l13_lives  ) := by
 unfold KiP l13_lives
 repeat (first | exact Le.refl _ | assumption | exact KhQ fu _ | (refine Le.bind ?_ (fun _ => ?_)) | (refine Le.cond ?_ ?_) | (refine Le.loopC (fun _ => ?_)) | (refine Le.elim (fun _ => ?_) (fun _ => ?_)))
end Go.Proofs.Ytmgklehakmdiiaa.Ab
namespace Go.Proofs.Ytmgklehakmdiiaa.Ab
open Go
set_option linter.all false
theorem lives13 : l13_lives = some true := (Kki 90).of (by kernel_rfl)
end Go.Proofs.Ytmgklehakmdiiaa.Ab
namespace Go.Proofs.Ytmgklehakmdiiaa.Ab
open Go
set_option linter.all false
def Kg4 (x : Kt) : Prop := (Lit.int .i64 x.gKind).wf = true ∧ x.gText.size ≤ maxLen ∧ (Lit.int .i64 x.gN).wf = true ∧ (Lit.int .i64 x.gAt).wf = true
theorem Kkj {n : Nat} {d : D} (g : GoodT tab n 69 d) : ∃ x : Kt, d = Kc x ∧ Kg4 x := by
  obtain ⟨n', ds, _, rfl, hl, h⟩ := KkF ti69 rfl g
  match ds, hl with
  | [d0, d1, d2, d3], _ =>
    obtain ⟨x1, rfl, w1⟩ := good_int ti3 rfl (h 0 _ _ rfl rfl)
    obtain ⟨x2, rfl, w2⟩ := good_str ti9 rfl (h 1 _ _ rfl rfl)
    obtain ⟨x3, rfl, w3⟩ := good_int ti3 rfl (h 2 _ _ rfl rfl)
    obtain ⟨x4, rfl, w4⟩ := good_int ti3 rfl (h 3 _ _ rfl rfl)
    exact ⟨⟨x1, x2, x3, x4⟩, rfl, w1, w2, w3, w4⟩
def wfL35 : List Kt → Prop := (fun y => (y.length ≤ maxLen ∧ ∀ z ∈ y, Kg4 z))
theorem goodL35 {n : Nat} {d : D} (g : GoodT tab n 35 d) : ∃ x : List Kt, d = .lst 4 (x.map Kc) .no ∧ wfL35 x := by
 obtain ⟨n1, zs1, _, rfl, hl1, hz1⟩ := good_slice ti35 rfl ti69 (g)
 obtain ⟨x1, rfl, w1⟩ := KjW (f := Kc) (K := (fun y => Kg4 y)) (p := fun x => GoodT tab n1 69 x) (fun x hx => by obtain ⟨x2, rfl, w2⟩ := Kkj (hx); exact ⟨x2, rfl, w2⟩) zs1 hz1
 exact ⟨x1, rfl, ⟨by simpa using hl1, w1⟩⟩
theorem GrammarTokens_true (a0 : List Kt) (a1 : Int) (k0 : wfL35 a0) (k1 : (Lit.int .i64 a1).wf = true) : Kdy a0 a1 = some true := by
 unfold Kdy
 by_cases q : (4000 : Int) < (a0.length : Int)
 ·rw [decide_eq_true q, cond_true, lives13]; rfl
 ·rw [decide_eq_false q, cond_false]
  obtain ⟨r, h1, h2, ⟨s1, s2, s3⟩, _⟩ := Pq.funcs_both (L := a0) (by omega) a1
  obtain ⟨x, h3, h4, _⟩ := Pq.global_both (L := a0) (by omega) a1
  rw [h1, h2, h3, h4]
  simp only [Option.bind_some, KkG s1 s2 s3, beq_self_eq_true, decide_true, Bool.and_self, Bool.and_true, cond_true, lives13]
end Go.Proofs.Ytmgklehakmdiiaa.Ab
namespace Go.Proofs.Ytmgklehakmdiiaa
open Go.ChangeShapes Go.WideShapes Go.ChangeAt Go.RowKit Go.Joins
set_option linter.all false
theorem Kh7 (os : Os) (started : os.Started) (H : Type) (enc : TypeId × Value → H) :
  ReturnsInHanded {} Try.checked os 4 .any (Rows.grammarTokensSpec.pre6 enc Try.prog Try.f4 Rows.grammarTokensRow.domain false) (Rows.grammarTokensSpec.post enc Try.prog Try.f4 false true false false) := by
 refine returnsInHanded_of_change (C := Try.checked) own started (by kernel_rfl) Try.func4
  (ChangeSpec.witness6 (enc := enc) (C := Try.checked) false ⟨#[], #[.slice none 0 0, .int .i64 0], []⟩ 8 (by kernel_rfl) (by kernel_rfl) (by kernel_rfl) (by kernel_rfl)) ?_
 intro W base args ds gs before hval0 hW hcnd _
 have hval : ∀ (j : Nat) t v, Try.f4.params[j]? = some t → args[j]? = some v → Value.okWide Try.prog W .any base t v := hval0
 have hW' := hW
 obtain ⟨p, q, hA0, hV, rfl, hfz, hnd⟩ := hW
 have hA : DataW.TrodAll enc Try.prog W 0 (fun _ => true) true Try.f4.params.toList args.toList ds p := hA0
 obtain ⟨rfl, rfl⟩ := trodVars_none hV
 simp only [List.append_nil] at hW'
 have hback := KjX laidOut' (by kernel_rfl) hA (fun x hx => hW'.lt x hx)
 rw [Try.params4] at hA hval
 obtain ⟨v0, vs0, d0, ds0, p0, q0, hargs, rfl, hp0, h0, r0⟩ := trodAll_cons hA
 obtain ⟨v1, vs1, d1, ds1, p1, q1, rfl, rfl, hp1, h1, r1⟩ := trodAll_cons r0
 obtain ⟨rfl, rfl, hpn⟩ := trodAll_nil r1
 obtain rfl : args = #[v0, v1] := by cases args; simp_all
 obtain ⟨n0, x0, g0, rep0⟩ := Ab.rd_arg (t := 35) Ab.htab [3, 9, 35, 69] (by kernel_rfl) (by kernel_rfl) (hval 0 35 v0 rfl rfl) h0
 obtain ⟨a0, rfl, k0⟩ := Ab.goodL35 g0
 obtain ⟨n1, x1, g1, rep1⟩ := Ab.rd_arg (t := 3) Ab.htab [3, 9, 35, 69] (by kernel_rfl) (by kernel_rfl) (hval 1 3 v1 rfl rfl) h1
 obtain ⟨a1, rfl, k1⟩ := Ab.good_int Ab.ti3 rfl g1
 clear hA0 hval0
 refine (Ab.to_calls (us := #[v0, v1]) (Ab.l13_GrammarTokens_ok a0 a1 true (Ab.GrammarTokens_true a0 a1 k0 k1)) (Ab.ag_all W) (by simp only [Ab.RepsV]; exact ⟨_, _, rfl, rep0, ⟨_, _, rfl, rep1, rfl⟩⟩)).mono fun e W' ⟨he, hb⟩ => ?_
 subst he
 exact ⟨_, rfl, _, _, _, [], p, [], hW', trodAll_cons_mk (shut_bool Try.underlying4 _) trodAll_mk0, hback W' hb _ (fun x hx => by simpa using hW'.lt x hx), rfl, hb.frame _, fun h => by cases h⟩
theorem grammarTokens_holds : Rows.GrammarTokensSaid :=
 OpenClaim.holds_of_wide 4 Try.f4 rfl rfl rfl rfl rfl rfl rfl ⟨rfl, rfl, rfl, rfl, rfl⟩ rfl rfl rfl rfl rfl (by kernel_rfl) Try.func4 (by kernel_rfl)
  (of_decide_eq_true (by kernel_rfl)) (by unfold Func.isWrapper; rw [if_neg (of_decide_eq_false (by kernel_rfl))]; exact ⟨rfl, rfl⟩)
  (fun os started H enc _ => Kh7 os started H enc)
#print axioms grammarTokens_holds
end Go.Proofs.Ytmgklehakmdiiaa
