/- The texts that evalFramesUpto_holds leans on, part 6. -/
import Derived.Test.YtocmdafncmlaaaaEf5
namespace Go.Proofs.Ytocmdafncmlaaaa.Ab
open Go
set_option linter.all false
def mem_New_c (fu : Nat) (a0 : TApiProgram) : Option (TMemMem) :=
  (Option.bind (α := List TApiCell × List (ByteArray × Int) × List (TApiCell × TApiWord)) (loopC fu (fun (s190 : Int × List TApiCell × List (ByteArray × Int) × List (TApiCell × TApiWord)) => (bif (decide (s190.1 < (a0.gGlobals.length : Int))) then ((idx a0.gGlobals s190.1).bind fun x329 => (bif (decide ((0 : Int) < (mgetD s190.2.2.1 x329.gName (0 : Int)))) then some (.next ((IntKind.i64.wrap (s190.1 + (1 : Int))), s190.2.1, s190.2.2.1, s190.2.2.2)) else (Option.bind (α := Bool) (bif (!x329.gPtr) then some (decide ((0 : Int) < x329.gSize)) else some false) fun y333 => (Option.bind (α := Int) (bif y333 then some x329.gSize else some (1 : Int)) fun y336 => (Option.bind (α := List TApiCell × List (TApiCell × TApiWord)) (loopC fu (fun (s355 : Int × List TApiCell × List (TApiCell × TApiWord)) => (bif (decide (s355.1 < y336)) then ((app 24 s355.2.1 ([(⟨x329.gName, s355.1⟩ : TApiCell)] : List TApiCell)).bind fun x370 => some (.next ((IntKind.i64.wrap (s355.1 + (1 : Int))), x370, (mput s355.2.2 (⟨x329.gName, s355.1⟩ : TApiCell) (⟨x329.gPtr, (0 : Int), (⟨ByteArray.empty, (0 : Int)⟩ : TApiCell)⟩ : TApiWord))))) else some (.done (s355.2.1, s355.2.2)))) ((0 : Int), s190.2.1, s190.2.2.2)) fun y354 => some (.next ((IntKind.i64.wrap (s190.1 + (1 : Int))), y354.1, (mput s190.2.2.1 x329.gName y336), y354.2))))))) else some (.done (s190.2.1, s190.2.2.1, s190.2.2.2)))) ((0 : Int), ([] : List TApiCell), ([] : List (ByteArray × Int)), ([] : List (TApiCell × TApiWord)))) fun y189 => some (⟨y189.2.1, y189.2.2, y189.1⟩ : TMemMem))
set_option maxRecDepth 100000 in
theorem mem_New_cle (fu : Nat)   (a0 : TApiProgram) : Le (mem_New_c fu  a0) (mem_New  a0) := by
  unfold mem_New_c mem_New
  repeat (first | exact Le.refl _ | assumption | (refine Le.bind ?_ (fun _ => ?_)) | (refine Le.cond ?_ ?_) | (refine Le.loopC (fun _ => ?_)) | (refine Le.elim (fun _ => ?_) (fun _ => ?_)))
def mem_Mem_Place_c (fu : Nat) (m0 : TMemMem) (a1 : ByteArray) (a2 : Int) : Option (TApiCell × Int) :=
  (bif ((mgetD m0.gSizes a1 (0 : Int)) == (0 : Int)) then some ((⟨ByteArray.empty, (0 : Int)⟩ : TApiCell), (7 : Int)) else (Option.bind (α := Bool) (bif (decide (a2 < (0 : Int))) then some true else some (decide ((mgetD m0.gSizes a1 (0 : Int)) ≤ a2))) fun y11 => (bif y11 then some ((⟨ByteArray.empty, (0 : Int)⟩ : TApiCell), (11 : Int)) else some ((⟨a1, a2⟩ : TApiCell), (0 : Int)))))
set_option maxRecDepth 100000 in
theorem mem_Mem_Place_cle (fu : Nat)   (m0 : TMemMem) (a1 : ByteArray) (a2 : Int) : Le (mem_Mem_Place_c fu  m0 a1 a2) (mem_Mem_Place  m0 a1 a2) := by
  unfold mem_Mem_Place_c mem_Mem_Place
  repeat (first | exact Le.refl _ | assumption | (refine Le.bind ?_ (fun _ => ?_)) | (refine Le.cond ?_ ?_) | (refine Le.loopC (fun _ => ?_)) | (refine Le.elim (fun _ => ?_) (fun _ => ?_)))
def mem_Mem_known_c (fu : Nat) (m0 : TMemMem) (a1 : TApiCell) : Option (Int) :=
  (bif (decide (a1.gName = (ByteArray.mk #[]))) then some (12 : Int) else ((mem_Mem_Place_c fu m0 a1.gName a1.gAt).bind fun x5 => some x5.2))
set_option maxRecDepth 100000 in
theorem mem_Mem_known_cle (fu : Nat)   (m0 : TMemMem) (a1 : TApiCell) : Le (mem_Mem_known_c fu  m0 a1) (mem_Mem_known  m0 a1) := by
  unfold mem_Mem_known_c mem_Mem_known
  repeat (first | exact Le.refl _ | assumption | exact mem_Mem_Place_cle fu _ _ _ | (refine Le.bind ?_ (fun _ => ?_)) | (refine Le.cond ?_ ?_) | (refine Le.loopC (fun _ => ?_)) | (refine Le.elim (fun _ => ?_) (fun _ => ?_)))
def mem_Mem_Set_c (fu : Nat) (m0 : TMemMem) (a1 : TApiCell) (a2 : TApiWord) : Option (Int × TMemMem) :=
  ((mem_Mem_known_c fu m0 a1).bind fun x3 => (bif (x3 != (0 : Int)) then some (x3, m0) else (bif (!(((mgetD m0.gWords a1 (⟨false, (0 : Int), (⟨ByteArray.empty, (0 : Int)⟩ : TApiCell)⟩ : TApiWord)).gPtr) == a2.gPtr)) then some ((9 : Int), m0) else some ((0 : Int), (⟨m0.gSizes, (mput m0.gWords a1 a2), m0.gCells⟩ : TMemMem)))))
set_option maxRecDepth 100000 in
theorem mem_Mem_Set_cle (fu : Nat)   (m0 : TMemMem) (a1 : TApiCell) (a2 : TApiWord) : Le (mem_Mem_Set_c fu  m0 a1 a2) (mem_Mem_Set  m0 a1 a2) := by
  unfold mem_Mem_Set_c mem_Mem_Set
  repeat (first | exact Le.refl _ | assumption | exact mem_Mem_known_cle fu _ _ | (refine Le.bind ?_ (fun _ => ?_)) | (refine Le.cond ?_ ?_) | (refine Le.loopC (fun _ => ?_)) | (refine Le.elim (fun _ => ?_) (fun _ => ?_)))
def eval_New_c (fu : Nat) (a0 : TApiGraph) (a1 : List TApiWord) : Option (TEvalFrame) :=
  ((slices_Clone_api_Var_api_Var a0.gVars).bind fun x3 => (Option.bind (α := List TApiWord) (loopC fu (fun (s50 : Int × List TApiWord) => (bif (decide (s50.1 < (a0.gVars.length : Int))) then ((idx a0.gVars s50.1).bind fun x81 => (Option.bind (α := Bool) (bif (decide (s50.1 < (a1.length : Int))) then some (decide (s50.1 < a0.gMany)) else some false) fun y85 => (Option.bind (α := Bool × Int × ByteArray × Int) (bif y85 then ((idx a1 s50.1).bind fun x91 => some (x91.gPtr, x91.gN, x91.gTo.gName, x91.gTo.gAt)) else some (x81.gPtr, (0 : Int), ByteArray.empty, (0 : Int))) fun y89 => ((app 40 s50.2 ([(⟨y89.1, y89.2.1, (⟨y89.2.2.1, y89.2.2.2⟩ : TApiCell)⟩ : TApiWord)] : List TApiWord)).bind fun x92 => some (.next ((IntKind.i64.wrap (s50.1 + (1 : Int))), x92)))))) else some (.done s50.2))) ((0 : Int), ([] : List TApiWord))) fun y49 => some (⟨x3, y49⟩ : TEvalFrame)))
set_option maxRecDepth 100000 in
theorem eval_New_cle (fu : Nat)   (a0 : TApiGraph) (a1 : List TApiWord) : Le (eval_New_c fu  a0 a1) (eval_New  a0 a1) := by
  unfold eval_New_c eval_New
  repeat (first | exact Le.refl _ | assumption | (refine Le.bind ?_ (fun _ => ?_)) | (refine Le.cond ?_ ?_) | (refine Le.loopC (fun _ => ?_)) | (refine Le.elim (fun _ => ?_) (fun _ => ?_)))
def eval_needs_c (fu : Nat) (a0 : Int) : Option (Int) :=
  (Option.bind (α := (Unit) ⊕ (Int)) (Option.bind (α := Bool) (bif (a0 == (1 : Int)) then some (a0 == (1 : Int)) else (Option.bind (α := Bool) (bif (a0 == (2 : Int)) then some (a0 == (2 : Int)) else (Option.bind (α := Bool) (bif (a0 == (4 : Int)) then some (a0 == (4 : Int)) else (Option.bind (α := Bool) (bif (a0 == (18 : Int)) then some (a0 == (18 : Int)) else some (a0 == (19 : Int))) fun y44 => some y44)) fun y41 => some y41)) fun y37 => some y37)) fun y32 => (Option.bind (α := (Unit) ⊕ (Int)) (bif y32 then some (.inr (0 : Int)) else (Option.bind (α := Bool) (bif (a0 == (3 : Int)) then some (a0 == (3 : Int)) else (Option.bind (α := Bool) (bif (a0 == (20 : Int)) then some (a0 == (20 : Int)) else (Option.bind (α := Bool) (bif (a0 == (5 : Int)) then some (a0 == (5 : Int)) else some (a0 == (6 : Int))) fun y67 => some y67)) fun y64 => some y64)) fun y60 => (bif y60 then some (.inr (1 : Int)) else some (.inl ())))) (Sum.elim (fun y54 => some (.inl ())) (fun r => some (.inr r))))) (Sum.elim (fun y27 => (bif (decide ((7 : Int) ≤ a0)) then (bif (decide (a0 ≤ (17 : Int))) then some (2 : Int) else some (-1 : Int)) else some (-1 : Int))) (fun r => some r)))
set_option maxRecDepth 100000 in
theorem eval_needs_cle (fu : Nat)   (a0 : Int) : Le (eval_needs_c fu  a0) (eval_needs  a0) := by
  unfold eval_needs_c eval_needs
  repeat (first | exact Le.refl _ | assumption | (refine Le.bind ?_ (fun _ => ?_)) | (refine Le.cond ?_ ?_) | (refine Le.loopC (fun _ => ?_)) | (refine Le.elim (fun _ => ?_) (fun _ => ?_)))
def eval_num_c (fu : Nat) (a0 : Int) (a1 : Int) : Option (TApiWord × Int) :=
  some ((⟨false, a0, (⟨ByteArray.empty, (0 : Int)⟩ : TApiCell)⟩ : TApiWord), a1)
set_option maxRecDepth 100000 in
theorem eval_num_cle (fu : Nat)   (a0 : Int) (a1 : Int) : Le (eval_num_c fu  a0 a1) (eval_num  a0 a1) := by
  unfold eval_num_c eval_num
  repeat (first | exact Le.refl _ | assumption | (refine Le.bind ?_ (fun _ => ?_)) | (refine Le.cond ?_ ?_) | (refine Le.loopC (fun _ => ?_)) | (refine Le.elim (fun _ => ?_) (fun _ => ?_)))
def eval_Frame_place_1_c (fu : Nat) (a0 : TApiVar) (m0 : ByteArray) : Option (Bool) :=
  some (decide (a0.gName = m0))
set_option maxRecDepth 100000 in
theorem eval_Frame_place_1_cle (fu : Nat)   (a0 : TApiVar) (m0 : ByteArray) : Le (eval_Frame_place_1_c fu  a0 m0) (eval_Frame_place_1  a0 m0) := by
  unfold eval_Frame_place_1_c eval_Frame_place_1
  repeat (first | exact Le.refl _ | assumption | (refine Le.bind ?_ (fun _ => ?_)) | (refine Le.cond ?_ ?_) | (refine Le.loopC (fun _ => ?_)) | (refine Le.elim (fun _ => ?_) (fun _ => ?_)))
def slices_IndexFunc_api_Var_api_Var_c (fu : Nat) (a0 : List TApiVar) (m0 : ByteArray) : Option (Int) :=
  (Option.bind (α := (Unit) ⊕ (Int)) (loopC fu (fun (s18 : Int) => (bif (decide (s18 < (a0.length : Int))) then ((idx a0 s18).bind fun x30 => ((eval_Frame_place_1_c fu x30 m0).bind fun x31 => (bif x31 then some (.done (.inr s18)) else some (.next (IntKind.i64.wrap (s18 + (1 : Int))))))) else some (.done (.inl ())))) (0 : Int)) (Sum.elim (fun y17 => some (-1 : Int)) (fun r => some r)))
set_option maxRecDepth 100000 in
theorem slices_IndexFunc_api_Var_api_Var_cle (fu : Nat)   (a0 : List TApiVar) (m0 : ByteArray) : Le (slices_IndexFunc_api_Var_api_Var_c fu  a0 m0) (slices_IndexFunc_api_Var_api_Var  a0 m0) := by
  unfold slices_IndexFunc_api_Var_api_Var_c slices_IndexFunc_api_Var_api_Var
  repeat (first | exact Le.refl _ | assumption | exact eval_Frame_place_1_cle fu _ _ | (refine Le.bind ?_ (fun _ => ?_)) | (refine Le.cond ?_ ?_) | (refine Le.loopC (fun _ => ?_)) | (refine Le.elim (fun _ => ?_) (fun _ => ?_)))
def eval_Frame_place_c (fu : Nat) (m0 : TEvalFrame) (a1 : ByteArray) : Option (Int) :=
  ((slices_IndexFunc_api_Var_api_Var_c fu m0.gVars a1).bind fun x2 => some x2)
set_option maxRecDepth 100000 in
theorem eval_Frame_place_cle (fu : Nat)   (m0 : TEvalFrame) (a1 : ByteArray) : Le (eval_Frame_place_c fu  m0 a1) (eval_Frame_place  m0 a1) := by
  unfold eval_Frame_place_c eval_Frame_place
  repeat (first | exact Le.refl _ | assumption | exact slices_IndexFunc_api_Var_api_Var_cle fu _ _ | (refine Le.bind ?_ (fun _ => ?_)) | (refine Le.cond ?_ ?_) | (refine Le.loopC (fun _ => ?_)) | (refine Le.elim (fun _ => ?_) (fun _ => ?_)))
def eval_Frame_Get_c (fu : Nat) (m0 : TEvalFrame) (a1 : ByteArray) : Option (TApiWord × Bool) :=
  ((eval_Frame_place_c fu m0 a1).bind fun x2 => (bif (decide (x2 < (0 : Int))) then some ((⟨false, (0 : Int), (⟨ByteArray.empty, (0 : Int)⟩ : TApiCell)⟩ : TApiWord), false) else ((idx m0.gWords x2).bind fun x6 => some (x6, true))))
set_option maxRecDepth 100000 in
theorem eval_Frame_Get_cle (fu : Nat)   (m0 : TEvalFrame) (a1 : ByteArray) : Le (eval_Frame_Get_c fu  m0 a1) (eval_Frame_Get  m0 a1) := by
  unfold eval_Frame_Get_c eval_Frame_Get
  repeat (first | exact Le.refl _ | assumption | exact eval_Frame_place_cle fu _ _ | (refine Le.bind ?_ (fun _ => ?_)) | (refine Le.cond ?_ ?_) | (refine Le.loopC (fun _ => ?_)) | (refine Le.elim (fun _ => ?_) (fun _ => ?_)))
def mem_Mem_Get_c (fu : Nat) (m0 : TMemMem) (a1 : TApiCell) : Option (TApiWord × Int) :=
  ((mem_Mem_known_c fu m0 a1).bind fun x3 => (bif (x3 != (0 : Int)) then some ((⟨false, (0 : Int), (⟨ByteArray.empty, (0 : Int)⟩ : TApiCell)⟩ : TApiWord), x3) else some ((⟨(mgetD m0.gWords a1 (⟨false, (0 : Int), (⟨ByteArray.empty, (0 : Int)⟩ : TApiCell)⟩ : TApiWord)).gPtr, (mgetD m0.gWords a1 (⟨false, (0 : Int), (⟨ByteArray.empty, (0 : Int)⟩ : TApiCell)⟩ : TApiWord)).gN, ((mgetD m0.gWords a1 (⟨false, (0 : Int), (⟨ByteArray.empty, (0 : Int)⟩ : TApiCell)⟩ : TApiWord)).gTo)⟩ : TApiWord), (0 : Int))))
set_option maxRecDepth 100000 in
theorem mem_Mem_Get_cle (fu : Nat)   (m0 : TMemMem) (a1 : TApiCell) : Le (mem_Mem_Get_c fu  m0 a1) (mem_Mem_Get  m0 a1) := by
  unfold mem_Mem_Get_c mem_Mem_Get
  repeat (first | exact Le.refl _ | assumption | exact mem_Mem_known_cle fu _ _ | (refine Le.bind ?_ (fun _ => ?_)) | (refine Le.cond ?_ ?_) | (refine Le.loopC (fun _ => ?_)) | (refine Le.elim (fun _ => ?_) (fun _ => ?_)))
def eval_room_at_c (fu : Nat) (a1 : ByteArray) (a2 : Int) (m0 : TMemMem) (m1 : TEvalFrame) : Option (TApiWord × Int) :=
  ((mem_Mem_Place_c fu m0 a1 a2).bind fun x3 => (bif (x3.2 != (0 : Int)) then some ((⟨false, (0 : Int), (⟨ByteArray.empty, (0 : Int)⟩ : TApiCell)⟩ : TApiWord), x3.2) else ((mem_Mem_Get_c fu m0 x3.1).bind fun x8 => some (x8.1, x8.2))))
set_option maxRecDepth 100000 in
theorem eval_room_at_cle (fu : Nat)   (a1 : ByteArray) (a2 : Int) (m0 : TMemMem) (m1 : TEvalFrame) : Le (eval_room_at_c fu  a1 a2 m0 m1) (eval_room_at  a1 a2 m0 m1) := by
  unfold eval_room_at_c eval_room_at
  repeat (first | exact Le.refl _ | assumption | exact mem_Mem_Place_cle fu _ _ _ | exact mem_Mem_Get_cle fu _ _ | (refine Le.bind ?_ (fun _ => ?_)) | (refine Le.cond ?_ ?_) | (refine Le.loopC (fun _ => ?_)) | (refine Le.elim (fun _ => ?_) (fun _ => ?_)))
def eval_room_name_c (fu : Nat) (a1 : ByteArray) (m0 : TMemMem) (m1 : TEvalFrame) : Option (TApiWord × Int) :=
  ((eval_Frame_Get_c fu m1 a1).bind fun x3 => (bif x3.2 then some (x3.1, (0 : Int)) else ((eval_room_at_c fu a1 (0 : Int) m0 m1).bind fun x8 => some (x8.1, x8.2))))
set_option maxRecDepth 100000 in
theorem eval_room_name_cle (fu : Nat)   (a1 : ByteArray) (m0 : TMemMem) (m1 : TEvalFrame) : Le (eval_room_name_c fu  a1 m0 m1) (eval_room_name  a1 m0 m1) := by
  unfold eval_room_name_c eval_room_name
  repeat (first | exact Le.refl _ | assumption | exact eval_Frame_Get_cle fu _ _ | exact eval_room_at_cle fu _ _ _ _ | (refine Le.bind ?_ (fun _ => ?_)) | (refine Le.cond ?_ ?_) | (refine Le.loopC (fun _ => ?_)) | (refine Le.elim (fun _ => ?_) (fun _ => ?_)))
def eval_room_load_c (fu : Nat) (a1 : ByteArray) (m0 : TMemMem) (m1 : TEvalFrame) : Option (TApiWord × Int) :=
  ((eval_room_name_c fu a1 m0 m1).bind fun x3 => (bif (x3.2 != (0 : Int)) then some ((⟨false, (0 : Int), (⟨ByteArray.empty, (0 : Int)⟩ : TApiCell)⟩ : TApiWord), x3.2) else (bif (!x3.1.gPtr) then some ((⟨false, (0 : Int), (⟨ByteArray.empty, (0 : Int)⟩ : TApiCell)⟩ : TApiWord), (9 : Int)) else ((mem_Mem_Get_c fu m0 x3.1.gTo).bind fun x14 => some (x14.1, x14.2)))))
set_option maxRecDepth 100000 in
theorem eval_room_load_cle (fu : Nat)   (a1 : ByteArray) (m0 : TMemMem) (m1 : TEvalFrame) : Le (eval_room_load_c fu  a1 m0 m1) (eval_room_load  a1 m0 m1) := by
  unfold eval_room_load_c eval_room_load
  repeat (first | exact Le.refl _ | assumption | exact eval_room_name_cle fu _ _ _ | exact mem_Mem_Get_cle fu _ _ | (refine Le.bind ?_ (fun _ => ?_)) | (refine Le.cond ?_ ?_) | (refine Le.loopC (fun _ => ?_)) | (refine Le.elim (fun _ => ?_) (fun _ => ?_)))
def eval_room_address_c (fu : Nat) (a1 : ByteArray) (a2 : Int) (m0 : TMemMem) (m1 : TEvalFrame) : Option (TApiWord × Int) :=
  ((mem_Mem_Place_c fu m0 a1 a2).bind fun x3 => (bif (x3.2 != (0 : Int)) then some ((⟨false, (0 : Int), (⟨ByteArray.empty, (0 : Int)⟩ : TApiCell)⟩ : TApiWord), x3.2) else some ((⟨true, (0 : Int), x3.1⟩ : TApiWord), (0 : Int))))
set_option maxRecDepth 100000 in
theorem eval_room_address_cle (fu : Nat)   (a1 : ByteArray) (a2 : Int) (m0 : TMemMem) (m1 : TEvalFrame) : Le (eval_room_address_c fu  a1 a2 m0 m1) (eval_room_address  a1 a2 m0 m1) := by
  unfold eval_room_address_c eval_room_address
  repeat (first | exact Le.refl _ | assumption | exact mem_Mem_Place_cle fu _ _ _ | (refine Le.bind ?_ (fun _ => ?_)) | (refine Le.cond ?_ ?_) | (refine Le.loopC (fun _ => ?_)) | (refine Le.elim (fun _ => ?_) (fun _ => ?_)))
def eval_room_leaf_c (fu : Nat) (a1 : TApiExpr) (m0 : TMemMem) (m1 : TEvalFrame) : Option (TApiWord × Int) :=
  (bif (a1.gOp == (1 : Int)) then ((eval_num_c fu a1.gN (0 : Int)).bind fun x5 => some (x5.1, x5.2)) else (bif (a1.gOp == (2 : Int)) then ((eval_room_name_c fu a1.gName m0 m1).bind fun x8 => some (x8.1, x8.2)) else (bif (a1.gOp == (4 : Int)) then ((eval_room_load_c fu a1.gName m0 m1).bind fun x11 => some (x11.1, x11.2)) else (bif (a1.gOp == (19 : Int)) then ((eval_room_address_c fu a1.gName (0 : Int) m0 m1).bind fun x14 => some (x14.1, x14.2)) else some ((⟨true, (0 : Int), (⟨ByteArray.empty, (0 : Int)⟩ : TApiCell)⟩ : TApiWord), (0 : Int))))))
set_option maxRecDepth 100000 in
theorem eval_room_leaf_cle (fu : Nat)   (a1 : TApiExpr) (m0 : TMemMem) (m1 : TEvalFrame) : Le (eval_room_leaf_c fu  a1 m0 m1) (eval_room_leaf  a1 m0 m1) := by
  unfold eval_room_leaf_c eval_room_leaf
  repeat (first | exact Le.refl _ | assumption | exact eval_num_cle fu _ _ | exact eval_room_name_cle fu _ _ _ | exact eval_room_load_cle fu _ _ _ | exact eval_room_address_cle fu _ _ _ _ | (refine Le.bind ?_ (fun _ => ?_)) | (refine Le.cond ?_ ?_) | (refine Le.loopC (fun _ => ?_)) | (refine Le.elim (fun _ => ?_) (fun _ => ?_)))
def wrap_truth_c (fu : Nat) (a0 : Bool) : Option (Int) :=
  (bif a0 then some (1 : Int) else some (0 : Int))
set_option maxRecDepth 100000 in
theorem wrap_truth_cle (fu : Nat)   (a0 : Bool) : Le (wrap_truth_c fu  a0) (wrap_truth  a0) := by
  unfold wrap_truth_c wrap_truth
  repeat (first | exact Le.refl _ | assumption | (refine Le.bind ?_ (fun _ => ?_)) | (refine Le.cond ?_ ?_) | (refine Le.loopC (fun _ => ?_)) | (refine Le.elim (fun _ => ?_) (fun _ => ?_)))
def wrap_One_c (fu : Nat) (a0 : Int) (a1 : Int) : Option (Int × Int) :=
  (bif (a0 == (5 : Int)) then ((need (pI a1)).bind fun x2 => ((need (pW (wOf a1))).bind fun x3 => ((need (pW (wNeg (wOf a1)))).bind fun x4 => some ((wLow (wNeg (wOf a1))), (0 : Int))))) else (bif (a0 == (6 : Int)) then ((wrap_truth_c fu (a1 == (0 : Int))).bind fun x7 => some (x7, (0 : Int))) else some ((0 : Int), (2 : Int))))
set_option maxRecDepth 100000 in
theorem wrap_One_cle (fu : Nat)   (a0 : Int) (a1 : Int) : Le (wrap_One_c fu  a0 a1) (wrap_One  a0 a1) := by
  unfold wrap_One_c wrap_One
  repeat (first | exact Le.refl _ | assumption | exact wrap_truth_cle fu _ | (refine Le.bind ?_ (fun _ => ?_)) | (refine Le.cond ?_ ?_) | (refine Le.loopC (fun _ => ?_)) | (refine Le.elim (fun _ => ?_) (fun _ => ?_)))
def eval_room_one_c (fu : Nat) (a1 : TApiExpr) (a2 : TApiWord) (m0 : TMemMem) (m1 : TEvalFrame) : Option (TApiWord × Int) :=
  (bif a2.gPtr then some ((⟨false, (0 : Int), (⟨ByteArray.empty, (0 : Int)⟩ : TApiCell)⟩ : TApiWord), (9 : Int)) else (bif (a1.gOp == (3 : Int)) then ((eval_room_at_c fu a1.gName a2.gN m0 m1).bind fun x17 => some (x17.1, x17.2)) else (bif (a1.gOp == (20 : Int)) then ((eval_room_address_c fu a1.gName a2.gN m0 m1).bind fun x22 => some (x22.1, x22.2)) else ((wrap_One_c fu a1.gOp a2.gN).bind fun x24 => ((eval_num_c fu x24.1 x24.2).bind fun x25 => some (x25.1, x25.2))))))
set_option maxRecDepth 100000 in
theorem eval_room_one_cle (fu : Nat)   (a1 : TApiExpr) (a2 : TApiWord) (m0 : TMemMem) (m1 : TEvalFrame) : Le (eval_room_one_c fu  a1 a2 m0 m1) (eval_room_one  a1 a2 m0 m1) := by
  unfold eval_room_one_c eval_room_one
  repeat (first | exact Le.refl _ | assumption | exact eval_room_at_cle fu _ _ _ _ | exact eval_room_address_cle fu _ _ _ _ | exact wrap_One_cle fu _ _ | exact eval_num_cle fu _ _ | (refine Le.bind ?_ (fun _ => ?_)) | (refine Le.cond ?_ ?_) | (refine Le.loopC (fun _ => ?_)) | (refine Le.elim (fun _ => ?_) (fun _ => ?_)))
def wrap_Exact_c (fu : Nat) (a0 : Int) (a1 : Int) (a2 : Int) : Option (TApiWide × Bool) :=
  (bif (a0 == (10 : Int)) then ((need (pI a1)).bind fun x3 => ((need (pI a2)).bind fun x4 => ((need (pWW (wOf a1) (wOf a2))).bind fun x5 => some ((wAdd (wOf a1) (wOf a2)), true)))) else (bif (a0 == (11 : Int)) then ((need (pI a1)).bind fun x8 => ((need (pI a2)).bind fun x9 => ((need (pWW (wOf a1) (wOf a2))).bind fun x10 => some ((wSub (wOf a1) (wOf a2)), true)))) else (bif (a0 == (7 : Int)) then ((need (pII a1 a2)).bind fun x13 => some ((wMul a1 a2), true)) else some ((⟨(0 : Int), (0 : Int)⟩ : TApiWide), false))))
set_option maxRecDepth 100000 in
theorem wrap_Exact_cle (fu : Nat)   (a0 : Int) (a1 : Int) (a2 : Int) : Le (wrap_Exact_c fu  a0 a1 a2) (wrap_Exact  a0 a1 a2) := by
  unfold wrap_Exact_c wrap_Exact
  repeat (first | exact Le.refl _ | assumption | (refine Le.bind ?_ (fun _ => ?_)) | (refine Le.cond ?_ ?_) | (refine Le.loopC (fun _ => ?_)) | (refine Le.elim (fun _ => ?_) (fun _ => ?_)))
def wrap_parts_c (fu : Nat) (a0 : Int) (a1 : Int) (a2 : Int) : Option (Int × Int) :=
  (bif (a2 == (0 : Int)) then some ((0 : Int), (10 : Int)) else (bif (a2 == (-1 : Int)) then (bif (a0 == (8 : Int)) then some ((IntKind.i64.wrap (0 - a1)), (0 : Int)) else some ((0 : Int), (0 : Int))) else (bif (a0 == (8 : Int)) then ((need (a2 != 0)).bind fun x25 => some ((IntKind.i64.wrap (a1.tdiv a2)), (0 : Int))) else ((need (a2 != 0)).bind fun x27 => some ((a1.tmod a2), (0 : Int))))))
set_option maxRecDepth 100000 in
theorem wrap_parts_cle (fu : Nat)   (a0 : Int) (a1 : Int) (a2 : Int) : Le (wrap_parts_c fu  a0 a1 a2) (wrap_parts  a0 a1 a2) := by
  unfold wrap_parts_c wrap_parts
  repeat (first | exact Le.refl _ | assumption | (refine Le.bind ?_ (fun _ => ?_)) | (refine Le.cond ?_ ?_) | (refine Le.loopC (fun _ => ?_)) | (refine Le.elim (fun _ => ?_) (fun _ => ?_)))
def wrap_holds_c (fu : Nat) (a0 : Int) (a1 : Int) (a2 : Int) : Option (Bool × Bool) :=
  (bif (a0 == (12 : Int)) then some ((decide (a1 < a2)), true) else (bif (a0 == (13 : Int)) then some ((decide (a1 ≤ a2)), true) else (bif (a0 == (14 : Int)) then some ((a1 == a2), true) else (bif (a0 == (15 : Int)) then some ((a1 != a2), true) else (bif (a0 == (16 : Int)) then (Option.bind (α := Bool) (bif (a1 != (0 : Int)) then some (a2 != (0 : Int)) else some false) fun y49 => some (y49, true)) else (bif (a0 == (17 : Int)) then (Option.bind (α := Bool) (bif (a1 != (0 : Int)) then some true else some (a2 != (0 : Int))) fun y56 => some (y56, true)) else some (false, false)))))))
set_option maxRecDepth 100000 in
theorem wrap_holds_cle (fu : Nat)   (a0 : Int) (a1 : Int) (a2 : Int) : Le (wrap_holds_c fu  a0 a1 a2) (wrap_holds  a0 a1 a2) := by
  unfold wrap_holds_c wrap_holds
  repeat (first | exact Le.refl _ | assumption | (refine Le.bind ?_ (fun _ => ?_)) | (refine Le.cond ?_ ?_) | (refine Le.loopC (fun _ => ?_)) | (refine Le.elim (fun _ => ?_) (fun _ => ?_)))
def wrap_Do_c (fu : Nat) (a0 : Int) (a1 : Int) (a2 : Int) : Option (Int × Int) :=
  ((wrap_Exact_c fu a0 a1 a2).bind fun x1 => (bif x1.2 then ((need (pW x1.1)).bind fun x6 => some ((wLow x1.1), (0 : Int))) else (Option.bind (α := Bool) (bif (a0 == (8 : Int)) then some true else some (a0 == (9 : Int))) fun y9 => (bif y9 then ((wrap_parts_c fu a0 a1 a2).bind fun x14 => some (x14.1, x14.2)) else ((wrap_holds_c fu a0 a1 a2).bind fun x16 => (bif (!x16.2) then some ((0 : Int), (2 : Int)) else ((wrap_truth_c fu x16.1).bind fun x20 => some (x20, (0 : Int)))))))))
set_option maxRecDepth 100000 in
theorem wrap_Do_cle (fu : Nat)   (a0 : Int) (a1 : Int) (a2 : Int) : Le (wrap_Do_c fu  a0 a1 a2) (wrap_Do  a0 a1 a2) := by
  unfold wrap_Do_c wrap_Do
  repeat (first | exact Le.refl _ | assumption | exact wrap_Exact_cle fu _ _ _ | exact wrap_parts_cle fu _ _ _ | exact wrap_holds_cle fu _ _ _ | exact wrap_truth_cle fu _ | (refine Le.bind ?_ (fun _ => ?_)) | (refine Le.cond ?_ ?_) | (refine Le.loopC (fun _ => ?_)) | (refine Le.elim (fun _ => ?_) (fun _ => ?_)))
def eval_two_c (fu : Nat) (a0 : Int) (a1 : TApiWord) (a2 : TApiWord) : Option (TApiWord × Int) :=
  (Option.bind (α := (Int) ⊕ (TApiWord × Int)) (Option.bind (α := (Int) ⊕ (TApiWord × Int)) (bif (!(a1.gPtr == a2.gPtr)) then some (.inr ((⟨false, (0 : Int), (⟨ByteArray.empty, (0 : Int)⟩ : TApiCell)⟩ : TApiWord), (9 : Int))) else (bif (!a1.gPtr) then ((wrap_Do_c fu a0 a1.gN a2.gN).bind fun x74 => ((eval_num_c fu x74.1 x74.2).bind fun x75 => some (.inr (x75.1, x75.2)))) else (Option.bind (α := Bool) (bif (a0 != (14 : Int)) then some (a0 != (15 : Int)) else some false) fun y78 => (bif y78 then some (.inr ((⟨false, (0 : Int), (⟨ByteArray.empty, (0 : Int)⟩ : TApiCell)⟩ : TApiWord), (9 : Int))) else (bif (a1.gPtr == a2.gPtr && (a1.gN == a2.gN && ((decide (a1.gTo.gName = a2.gTo.gName) && (a1.gTo.gAt == a2.gTo.gAt && true)) && true))) then some (.inl (1 : Int)) else some (.inl (0 : Int))))))) (Sum.elim (fun y70 => (Option.bind (α := Int) (bif (a0 == (15 : Int)) then some (IntKind.i64.wrap ((1 : Int) - y70)) else some y70) fun y84 => some (.inl y84))) (fun r => some (.inr r)))) (Sum.elim (fun y60 => ((eval_num_c fu y60 (0 : Int)).bind fun x86 => some (x86.1, x86.2))) (fun r => some r)))
set_option maxRecDepth 100000 in
theorem eval_two_cle (fu : Nat)   (a0 : Int) (a1 : TApiWord) (a2 : TApiWord) : Le (eval_two_c fu  a0 a1 a2) (eval_two  a0 a1 a2) := by
  unfold eval_two_c eval_two
  repeat (first | exact Le.refl _ | assumption | exact wrap_Do_cle fu _ _ _ | exact eval_num_cle fu _ _ | (refine Le.bind ?_ (fun _ => ?_)) | (refine Le.cond ?_ ?_) | (refine Le.loopC (fun _ => ?_)) | (refine Le.elim (fun _ => ?_) (fun _ => ?_)))
def eval_room_expr_b_c (fu : Nat) (g0 : (TApiExpr) → (TMemMem) → (TEvalFrame) → Option (TApiWord × Int)) (a1 : TApiExpr) (m0 : TMemMem) (m1 : TEvalFrame) : Option (TApiWord × Int) :=
  ((eval_needs_c fu a1.gOp).bind fun x4 => (Option.bind (α := Bool) (bif (decide (x4 < (0 : Int))) then some true else some ((a1.gKids.length : Int) != x4)) fun y6 => (bif y6 then some ((⟨false, (0 : Int), (⟨ByteArray.empty, (0 : Int)⟩ : TApiCell)⟩ : TApiWord), (2 : Int)) else (Option.bind (α := (Bool × Int × ByteArray × Int × Bool × Int × ByteArray × Int) ⊕ (TApiWord × Int)) (loopC fu (fun (s53 : Int × Bool × Int × ByteArray × Int × Bool × Int × ByteArray × Int) => (bif (decide (s53.1 < (a1.gKids.length : Int))) then ((idx a1.gKids s53.1).bind fun x85 => ((g0 x85 m0 m1).bind fun x87 => (bif (x87.2 != (0 : Int)) then some (.done (.inr ((⟨false, (0 : Int), (⟨ByteArray.empty, (0 : Int)⟩ : TApiCell)⟩ : TApiWord), x87.2))) else ((need (inA s53.1 2)).bind fun x91 => some (.next ((IntKind.i64.wrap (s53.1 + (1 : Int))), (putG s53.1 0 x87.1.gPtr s53.2.1), (putG s53.1 0 x87.1.gN s53.2.2.1), (putG s53.1 0 x87.1.gTo.gName s53.2.2.2.1), (putG s53.1 0 x87.1.gTo.gAt s53.2.2.2.2.1), (putG s53.1 1 x87.1.gPtr s53.2.2.2.2.2.1), (putG s53.1 1 x87.1.gN s53.2.2.2.2.2.2.1), (putG s53.1 1 x87.1.gTo.gName s53.2.2.2.2.2.2.2.1), (putG s53.1 1 x87.1.gTo.gAt s53.2.2.2.2.2.2.2.2))))))) else some (.done (.inl (s53.2.1, s53.2.2.1, s53.2.2.2.1, s53.2.2.2.2.1, s53.2.2.2.2.2.1, s53.2.2.2.2.2.2.1, s53.2.2.2.2.2.2.2.1, s53.2.2.2.2.2.2.2.2))))) ((0 : Int), false, (0 : Int), ByteArray.empty, (0 : Int), false, (0 : Int), ByteArray.empty, (0 : Int))) (Sum.elim (fun y52 => (bif (x4 == (0 : Int)) then ((eval_room_leaf_c fu a1 m0 m1).bind fun x101 => some (x101.1, x101.2)) else (bif (x4 == (1 : Int)) then ((eval_room_one_c fu a1 (⟨y52.1, y52.2.1, (⟨y52.2.2.1, y52.2.2.2.1⟩ : TApiCell)⟩ : TApiWord) m0 m1).bind fun x106 => some (x106.1, x106.2)) else ((eval_two_c fu a1.gOp (⟨y52.1, y52.2.1, (⟨y52.2.2.1, y52.2.2.2.1⟩ : TApiCell)⟩ : TApiWord) (⟨y52.2.2.2.2.1, y52.2.2.2.2.2.1, (⟨y52.2.2.2.2.2.2.1, y52.2.2.2.2.2.2.2⟩ : TApiCell)⟩ : TApiWord)).bind fun x108 => some (x108.1, x108.2))))) (fun r => some r))))))
set_option maxRecDepth 100000 in
theorem eval_room_expr_b_cle (fu : Nat) (g0 g0' : (TApiExpr) → (TMemMem) → (TEvalFrame) → Option (TApiWord × Int)) (hg0 : ∀ x0 x1 x2, Le (g0 x0 x1 x2) (g0' x0 x1 x2)) (a1 : TApiExpr) (m0 : TMemMem) (m1 : TEvalFrame) : Le (eval_room_expr_b_c fu g0 a1 m0 m1) (eval_room_expr_b g0' a1 m0 m1) := by
  unfold eval_room_expr_b_c eval_room_expr_b
  repeat (first | exact Le.refl _ | assumption | exact hg0 _ _ _ | exact eval_needs_cle fu _ | exact eval_room_leaf_cle fu _ _ _ | exact eval_room_one_cle fu _ _ _ _ | exact eval_two_cle fu _ _ _ | (refine Le.bind ?_ (fun _ => ?_)) | (refine Le.cond ?_ ?_) | (refine Le.loopC (fun _ => ?_)) | (refine Le.elim (fun _ => ?_) (fun _ => ?_)))
def eval_room_expr_g_c (fu : Nat) : Nat → ((TApiExpr) → (TMemMem) → (TEvalFrame) → Option (TApiWord × Int))
  | 0 => (fun _ _ _ => none)
  | n + 1 => (eval_room_expr_b_c fu ((eval_room_expr_g_c fu n)))
theorem eval_room_expr_g_cle (fu : Nat) : ∀ n, (∀ (a1 : TApiExpr) (m0 : TMemMem) (m1 : TEvalFrame), Le ((eval_room_expr_g_c fu n) a1 m0 m1) ((eval_room_expr_g n) a1 m0 m1))
  | 0 => fun _ _ _ => Le.none _
  | n + 1 => by
    have ih := eval_room_expr_g_cle fu n
    exact fun a1 m0 m1 => eval_room_expr_b_cle fu _ _ ih a1 m0 m1
def eval_room_expr_c (fu : Nat) (a1 : TApiExpr) (m0 : TMemMem) (m1 : TEvalFrame) : Option (TApiWord × Int) := (eval_room_expr_g_c fu fu) a1 m0 m1
theorem eval_room_expr_cle (fu : Nat) (a1 : TApiExpr) (m0 : TMemMem) (m1 : TEvalFrame) : Le (eval_room_expr_c fu a1 m0 m1) (eval_room_expr a1 m0 m1) := fun r h => eval_room_expr_of a1 m0 m1 fu (((eval_room_expr_g_cle fu fu) a1 m0 m1) r h)
def eval_Expr_c (fu : Nat) (m0 : TMemMem) (m1 : TEvalFrame) (a2 : TApiExpr) : Option (TApiWord × Int) :=
  ((eval_room_expr_c fu a2 m0 m1).bind fun x3 => some (x3.1, x3.2))
set_option maxRecDepth 100000 in
theorem eval_Expr_cle (fu : Nat)   (m0 : TMemMem) (m1 : TEvalFrame) (a2 : TApiExpr) : Le (eval_Expr_c fu  m0 m1 a2) (eval_Expr  m0 m1 a2) := by
  unfold eval_Expr_c eval_Expr
  repeat (first | exact Le.refl _ | assumption | exact eval_room_expr_cle fu _ _ _ | (refine Le.bind ?_ (fun _ => ?_)) | (refine Le.cond ?_ ?_) | (refine Le.loopC (fun _ => ?_)) | (refine Le.elim (fun _ => ?_) (fun _ => ?_)))
def l20_lives_c (fu : Nat)  : Option (Bool) :=
  ((mem_New_c fu (⟨([(⟨(ByteArray.mk #[97]), false, (2 : Int), (0 : Int)⟩ : TApiGlobal)] : List TApiGlobal), []⟩ : TApiProgram)).bind fun x5 => ((mem_Mem_Set_c fu x5 (⟨(ByteArray.mk #[97]), (1 : Int)⟩ : TApiCell) (⟨false, (7 : Int), (⟨ByteArray.empty, (0 : Int)⟩ : TApiCell)⟩ : TApiWord)).bind fun x8 => ((eval_New_c fu (⟨ByteArray.empty, (0 : Int), [], ([(⟨(ByteArray.mk #[120]), false⟩ : TApiVar)] : List TApiVar), (1 : Int)⟩ : TApiGraph) ([(⟨false, (5 : Int), (⟨ByteArray.empty, (0 : Int)⟩ : TApiCell)⟩ : TApiWord)] : List TApiWord)).bind fun x12 => ((eval_Expr_c fu x8.2 x12 (⟨(10 : Int), (0 : Int), ByteArray.empty, ([(⟨(3 : Int), (0 : Int), (ByteArray.mk #[97]), ([(⟨(1 : Int), (1 : Int), ByteArray.empty, [], (0 : Int)⟩ : TApiExpr)] : List TApiExpr), (0 : Int)⟩ : TApiExpr), (⟨(2 : Int), (0 : Int), (ByteArray.mk #[120]), [], (0 : Int)⟩ : TApiExpr)] : List TApiExpr), (0 : Int)⟩ : TApiExpr)).bind fun x13 => (bif (x13.2 == (0 : Int)) then some (x13.1.gPtr == false && (x13.1.gN == (12 : Int) && ((decide (x13.1.gTo.gName = ByteArray.empty) && (x13.1.gTo.gAt == (0 : Int) && true)) && true))) else some false)))))
set_option maxRecDepth 100000 in
theorem l20_lives_cle (fu : Nat)    : Le (l20_lives_c fu  ) (l20_lives  ) := by
  unfold l20_lives_c l20_lives
  repeat (first | exact Le.refl _ | assumption | exact mem_New_cle fu _ | exact mem_Mem_Set_cle fu _ _ _ | exact eval_New_cle fu _ _ | exact eval_Expr_cle fu _ _ _ | (refine Le.bind ?_ (fun _ => ?_)) | (refine Le.cond ?_ ?_) | (refine Le.loopC (fun _ => ?_)) | (refine Le.elim (fun _ => ?_) (fun _ => ?_)))
end Go.Proofs.Ytocmdafncmlaaaa.Ab
namespace Go.Proofs.Ytocmdafncmlaaaa.Ab
open Go
set_option linter.all false
theorem lives20 : l20_lives = some true := (l20_lives_cle 90).of (by kernel_rfl)
def g0 : Md := ⟨2, 0, [], []⟩
mutual
theorem cS_le : ∀ s, cS s ≤ wS s
  | ⟨a, b, c, es, ks, ls, d⟩ => by
    have h1 := cSs_le ks
    have h2 := cSs_le ls
    rw [wS_eq]; simp only [cS]; omega
theorem cSs_le : ∀ l, cSs l ≤ wSs l
  | [] => by simp [cSs]
  | s :: l => by
    have h1 := cSs_le l
    have h2 := cS_le s
    rw [wSs_cons]; simp only [cSs]; omega
end
def FnB (a : TApiFunc) : Prop := a.gParams.length + a.gLocals.length + wSs a.gBody ≤ 1048576
theorem rm0 {a : TApiFunc} (h : FnB a) : Rm g0 (cSs a.gBody) := by
  have := cSs_le a.gBody
  unfold FnB at h
  unfold Rm g0; simp only [List.length_nil]; omega
theorem bd0 {a : TApiFunc} (h : FnB a) : (goSs a.gBody g0).gEdges.length ≤ 8000000 := by
  have h1 := goSs_bd a.gBody g0
  have h2 := cSs_le a.gBody
  unfold FnB at h
  unfold Bd at h1
  simp only [g0, List.length_nil] at h1
  simp only [g0]
  omega
theorem rgraph_eq {a : TApiFunc} (h : FnB a) : ∃ (n : Int) (es : List TApiEdge) (ps : List Int), r17_Graph_r a = some (⟨a.gName, n, es, a.gParams ++ a.gLocals, (a.gParams.length : Int)⟩, ps) := by
  have hb := bd0 h
  have hr := rm0 h
  unfold FnB at h
  unfold r17_Graph_r
  change ∃ (n : Int) (es : List TApiEdge) (ps : List Int), Option.bind (r17_All g0 a.gBody) _ = _
  have hw : ∀ (m : Md) (x y k : Int) (s : TApiStmt), r17_with_r m x y k s = r17_with m x y k s := fun _ _ _ _ _ => rfl
  rw [rall_go_eq hr, Option.bind_some, hw, with_eq hb, Option.bind_some, app_len (by omega) (by simp; omega), Option.bind_some, app_len (by omega) (by simp; omega), Option.bind_some]
  exact ⟨_, _, _, rfl⟩
end Go.Proofs.Ytocmdafncmlaaaa.Ab
namespace Go.Proofs.Ytocmdafncmlaaaa.Ab.Pq
open Go
set_option linter.all false
abbrev Ws := List TApiWord
def zW (b : Bool) : TApiWord := ⟨b, 0, ⟨ByteArray.empty, 0⟩⟩
def stepW (m : Int) (l : Ws) (ws : Ws) (v : TApiVar) : Ws := ws ++ [if (ws.length : Int) < l.length ∧ (ws.length : Int) < m then (l[ws.length]?).getD (zW false) else zW v.gPtr]
theorem fold_len (m : Int) (l : Ws) : ∀ (vs : List TApiVar) (ws : Ws), (vs.foldl (stepW m l) ws).length = ws.length + vs.length
  | [], ws => by simp
  | v :: vs, ws => by
    rw [List.foldl_cons, fold_len m l vs]
    simp [stepW]; omega
theorem new_eq (g : TApiGraph) (l : Ws) (hb : g.gVars.length ≤ 4000000) : eval_New_r g l = some ⟨g.gVars, g.gVars.foldl (stepW g.gMany l) []⟩ := by
  unfold eval_New_r
  rw [show slices_Clone_api_Var_api_Var g.gVars = some g.gVars by unfold slices_Clone_api_Var_api_Var; rw [app_len (by omega) (by simp; omega), List.append_nil], Option.bind_some]
  refine loop_list g.gVars (fun pre => pre.foldl (stepW g.gMany l) []) (fun a n => ((n : Int), a)) (fun a => a) (by simp) (fun pre x post hpp => ?_) ?_ ?_
  · have hp : pre.length < g.gVars.length := by rw [hpp]; simp
    have hl := fold_len g.gMany l pre []
    rw [List.foldl_append, List.foldl_cons, List.foldl_nil]
    generalize pre.foldl (stepW g.gMany l) [] = ws at hl ⊢
    simp only [List.length_nil, Nat.zero_add] at hl
    simp only [lt_pre hpp, cond_true]
    rw [idx_pre2 hpp rfl, Option.bind_some, inc_pre hpp (by omega)]
    unfold stepW
    rw [hl]
    by_cases h1 : (pre.length : Int) < l.length
    · by_cases h2 : (pre.length : Int) < g.gMany
      · have hx : l[pre.length]? = some l[pre.length] := List.getElem?_eq_getElem (by omega)
        rw [decide_eq_true h1, decide_eq_true h2, cond_true, Option.bind_some, cond_true, idx_nat, hx, Option.bind_some, Option.bind_some, if_pos ⟨h1, h2⟩, app_len (by omega) (by simp; omega), Option.bind_some]
        rfl
      · rw [decide_eq_true h1, decide_eq_false h2, cond_true, Option.bind_some, cond_false, Option.bind_some, if_neg (fun q => h2 q.2), app_len (by omega) (by simp; omega), Option.bind_some]
        rfl
    · rw [decide_eq_false h1, cond_false, Option.bind_some, cond_false, Option.bind_some, if_neg (fun q => h1 q.1), app_len (by omega) (by simp; omega), Option.bind_some]
      rfl
  · simp only [lt_end, cond_false]
  · rfl
theorem rnew_eq (g : TApiGraph) (l : Ws) (hb : g.gVars.length ≤ 4000000) : r20_New_r g l = some ⟨g.gVars, g.gVars.foldl (stepW g.gMany l) []⟩ := by
  unfold r20_New_r
  refine loop_list g.gVars (fun pre => pre.foldl (stepW g.gMany l) []) (fun a n => ((n : Int), a)) (fun a => a) (by simp) (fun pre x post hpp => ?_) ?_ ?_
  · have hp : pre.length < g.gVars.length := by rw [hpp]; simp
    have hl := fold_len g.gMany l pre []
    rw [List.foldl_append, List.foldl_cons, List.foldl_nil]
    generalize pre.foldl (stepW g.gMany l) [] = ws at hl ⊢
    simp only [List.length_nil, Nat.zero_add] at hl
    simp only [lt_pre hpp, cond_true]
    rw [idx_pre2 hpp rfl, inc_pre hpp (by omega)]
    unfold stepW
    rw [hl]
    by_cases h2 : (pre.length : Int) < g.gMany
    · by_cases h1 : (pre.length : Int) < l.length
      · have hx : l[pre.length]? = some l[pre.length] := List.getElem?_eq_getElem (by omega)
        rw [decide_eq_true h1, decide_eq_true h2, cond_true, Option.bind_some, cond_true, idx_nat, hx, Option.bind_some, if_pos ⟨h1, h2⟩, app_len (by omega) (by simp; omega), Option.bind_some]
        rfl
      · rw [decide_eq_true h2, decide_eq_false h1, cond_true, Option.bind_some, cond_false, Option.bind_some, if_neg (fun q => h1 q.1), app_len (by omega) (by simp; omega), Option.bind_some]
        rfl
    · rw [decide_eq_false h2, cond_false, Option.bind_some, cond_false, Option.bind_some, if_neg (fun q => h2 q.2), app_len (by omega) (by simp; omega), Option.bind_some]
      rfl
  · simp only [lt_end, cond_false]
  · rfl
theorem find_loop {α : Type} (t : α → Bool) {l : List α} {f : Int → Option (Step Int (Unit ⊕ Int))}
    (h1 : ∀ p x q, l = p ++ x :: q → f (p.length : Int) = some (bif t x then .done (.inr ((p.length : Nat) : Int)) else .next ((p.length + 1 : Nat) : Int)))
    (h2 : f (l.length : Int) = some (.done (.inl ()))) : ∃ i : Int, Option.bind (α := Unit ⊕ Int) (loopM f (0 : Int)) (Sum.elim (fun _ => some (-1)) (fun r => some r)) = some i ∧ (i = -1 ∨ ∃ n : Nat, i = n ∧ n < l.length) := by
  rcases loop_any t (fun n : Nat => (n : Int)) h1 h2 with ⟨_, b⟩ | ⟨_, j, hj, b⟩
  · exact ⟨-1, by rw [b]; rfl, .inl rfl⟩
  · exact ⟨j, by rw [b]; rfl, .inr ⟨j, rfl, hj⟩⟩
theorem rfind_eq (vs : List TApiVar) (ws : Ws) (s : ByteArray) (hb : vs.length ≤ 4000000) : ∃ i : Int, r20_Frame_Find_w ⟨vs, ws⟩ s = some i ∧ (i = -1 ∨ ∃ n : Nat, i = n ∧ n < vs.length) := by
  unfold r20_Frame_Find_w
  refine find_loop (fun x : TApiVar => decide (x.gName = s)) (l := vs) (fun p x q h => ?_) ?_
  · rw [lt_pre h, cond_true, idx_pre2 h rfl, Option.bind_some, inc_pre h (by omega)]
    cases decide (x.gName = s) <;> rfl
  · rw [lt_end, cond_false]
theorem place_eq (vs : List TApiVar) (ws ws2 : Ws) (s : ByteArray) : eval_Frame_place_w ⟨vs, ws⟩ s = r20_Frame_Find_w ⟨vs, ws2⟩ s := by
  show Option.bind (slices_IndexFunc_api_Var_api_Var vs s) some = slices_IndexFunc_api_Var_api_Var vs s
  cases slices_IndexFunc_api_Var_api_Var vs s <;> rfl
theorem idx_get {α : Type} {l : List α} {n : Nat} (h : n < l.length) : idx l (n : Int) = some l[n] := by rw [idx_nat]; exact List.getElem?_eq_getElem h
theorem sets_eq {vs : List TApiVar} {ws : Ws} (hl : ws.length = vs.length) (hb : vs.length ≤ 4000000) (s : ByteArray) (w : TApiWord) : ∃ (b : Bool) (ws2 : Ws), ws2.length = vs.length ∧ eval_Frame_Set ⟨vs, ws⟩ s w = some (b, ⟨vs, ws2⟩) ∧ r20_Frame_Set ⟨vs, ws⟩ s w = some (b, ⟨vs, ws2⟩) := by
  unfold eval_Frame_Set r20_Frame_Set
  rw [place_eq vs ws ws]
  obtain ⟨i, e, hi⟩ := rfind_eq vs ws s hb
  rw [e, Option.bind_some, Option.bind_some]
  rcases hi with rfl | ⟨n, rfl, hn⟩
  · exact ⟨false, ws, hl, rfl, rfl⟩
  · simp only [idx_get hn, idx_get (show n < ws.length by omega)]
    rw [decide_eq_false (by omega), cond_false, Option.bind_some, Option.bind_some]
    cases hq : (!(vs[n].gPtr == w.gPtr))
    · exact ⟨true, ws.set n w, by simpa using hl, rfl, rfl⟩
    · exact ⟨false, ws, hl, rfl, rfl⟩
noncomputable def stS (vs : List TApiVar) (ws : Ws) (p : TSondagelaw20Put) : Ws := match eval_Frame_Set ⟨vs, ws⟩ p.gC.gName p.gW with
  | some x => x.2.gWords
  | none => ws
theorem stS_len {vs : List TApiVar} {ws : Ws} (hl : ws.length = vs.length) (hb : vs.length ≤ 4000000) (p : TSondagelaw20Put) : (stS vs ws p).length = vs.length := by
  obtain ⟨b, ws2, h1, h2, _⟩ := sets_eq hl hb p.gC.gName p.gW
  unfold stS; rw [h2]; exact h1
theorem foldS_len {vs : List TApiVar} (hb : vs.length ≤ 4000000) : ∀ (ps : List TSondagelaw20Put) (ws : Ws), ws.length = vs.length → (ps.foldl (stS vs) ws).length = vs.length
  | [], ws, h => h
  | p :: ps, ws, h => foldS_len hb ps _ (stS_len h hb p)
theorem weq_refl (w : TApiWord) : (w.gPtr == w.gPtr && (w.gN == w.gN && ((decide (w.gTo.gName = w.gTo.gName) && (w.gTo.gAt == w.gTo.gAt && true)) && true))) = true := by simp
theorem same_refl {l : Ws} (hb : l.length ≤ 4000000) : l20_same l l = some true := by
  unfold l20_same
  simp only [bne_self_eq_false, cond_false]
  refine any_list l (fun _ => false) (fun _ => false) (fun p x q hp => ?_) ?_ (fun _ => rfl) fun j _ h => by simp at h
  · rw [lt_pre hp, cond_true, idx_pre2 hp rfl, Option.bind_some, Option.bind_some, inc_pre hp (by omega), weq_refl]; rfl
  · rw [lt_end, cond_false]
theorem evalFrames_law {c : TSondagelaw20Call} (h : FnB c.gF) : l20_EvalFrames c = some true := by
  unfold l20_EvalFrames
  simp only [lives20]
  by_cases h50 : (50 : Int) < (c.gPuts.length : Int)
  · rw [decide_eq_true h50, cond_true]; rfl
  rw [decide_eq_false h50, cond_false]
  obtain ⟨n, es, ps, hg⟩ := rgraph_eq h
  have hv : (c.gF.gParams ++ c.gF.gLocals).length ≤ 4000000 := by
    unfold FnB at h
    rw [List.length_append]; omega
  rw [hg, Option.bind_some]
  generalize c.gF.gParams ++ c.gF.gLocals = vs at hv
  rw [new_eq _ _ hv, Option.bind_some, rnew_eq _ _ hv, Option.bind_some]
  have hW := fold_len (c.gF.gParams.length : Int) c.gL vs []
  simp only [List.length_nil, Nat.zero_add] at hW ⊢
  generalize vs.foldl (stepW (c.gF.gParams.length : Int) c.gL) [] = w0 at hW
  refine loop_list c.gPuts (fun pre => pre.foldl (stS vs) w0) (fun w n => ((n : Int), vs, w, vs, w)) (fun w => .inl (vs, w, vs, w)) rfl (fun pre x post hpp => ?_) ?_ ?_
  · rw [List.foldl_append, List.foldl_cons, List.foldl_nil]
    have hl := foldS_len hv pre w0 hW
    generalize pre.foldl (stS vs) w0 = ws at hl ⊢
    obtain ⟨b, ws2, k1, k2, k3⟩ := sets_eq hl hv x.gC.gName x.gW
    have hs : stS vs ws x = ws2 := by unfold stS; rw [k2]
    rw [hs]
    simp only [lt_pre hpp, cond_true]
    rw [idx_pre2 hpp rfl, inc_pre hpp (by omega)]
    simp only [Option.bind_some, k2, k3]
    rw [show (!(b == b)) = false by simp]
    rfl
  · simp only [lt_end, cond_false]
  · have hl := foldS_len hv c.gPuts w0 hW
    generalize c.gPuts.foldl (stS vs) w0 = ws at hl
    show Option.bind (eval_Frame_Get_w ⟨vs, ws⟩ c.gName) _ = _
    unfold eval_Frame_Get_w
    rw [place_eq vs ws ws]
    obtain ⟨i, e, hi⟩ := rfind_eq vs ws c.gName hv
    have hcl : slices_Clone_api_Word_api_Word ws = some ws := by unfold slices_Clone_api_Word_api_Word; rw [app_len (by omega) (by simp; omega), List.append_nil]
    have hG : eval_Frame_Get2 c.gName = some (zW false, false) := rfl
    have hA : eval_Frame_All_w ⟨vs, ws⟩ = some (ws, ⟨vs, ws⟩) := by unfold eval_Frame_All_w; simp only [hcl]; rfl
    have hE : eval_Frame_All_r2 = some [] := rfl
    rw [e, Option.bind_some]
    simp only [hG, hA, hE, e]
    rcases hi with rfl | ⟨k, rfl, hk⟩
    · rw [show decide ((-1 : Int) < 0) = true from rfl, cond_true, Option.bind_some, Option.bind_some]
      simp only [Option.bind_some, same_refl (show ws.length ≤ 4000000 by omega)]
      simp
    · rw [decide_eq_false (by omega), cond_false, idx_get (show k < ws.length by omega), Option.bind_some, Option.bind_some, Option.bind_some]
      rw [show decide ((0 : Int) ≤ (k : Int)) = true from decide_eq_true (by omega)]
      dsimp only
      rw [idx_get (show k < ws.length by omega), Option.bind_some, weq_refl]
      simp only [Option.bind_some, same_refl (show ws.length ≤ 4000000 by omega)]
      rfl
end Go.Proofs.Ytocmdafncmlaaaa.Ab.Pq
namespace Go.Proofs.Ytocmdafncmlaaaa.Ab
open Go
set_option linter.all false
def wfTApiVar (x : TApiVar) : Prop := x.gName.size ≤ maxLen
theorem goodTApiVar {n : Nat} {d : D} (g : GoodT tab n 67 d) : ∃ x : TApiVar, d = eTApiVar x ∧ wfTApiVar x := by
  obtain ⟨n', ds, _, rfl, hl, h⟩ := good_struct ti67 rfl g
  match ds, hl with
  | [d0, d1], _ =>
    obtain ⟨x1, rfl, w1⟩ := good_str ti9 rfl (h 0 _ _ rfl rfl)
    obtain ⟨x2, rfl⟩ := good_bool ti4 rfl (h 1 _ _ rfl rfl)
    exact ⟨⟨x1, x2⟩, rfl, w1⟩
def wfTApiExpr (_ : TApiExpr) : Prop := True
theorem goodTApiExpr_n : ∀ (n : Nat) {d : D} (g : GoodT tab n 72 d), ∃ x : TApiExpr, d = eTApiExpr x ∧ wfTApiExpr x
  | 0, d, g => by simp [GoodT] at g
  | n + 1, d, g => by
    obtain ⟨n', ds, hn, rfl, hl, h⟩ := good_struct ti72 rfl g
    obtain rfl : n' = n := by omega
    match ds, hl with
    | [d0, d1, d2, d3, d4], _ =>
      obtain ⟨x1, rfl, w1⟩ := good_int ti3 rfl (h 0 _ _ rfl rfl)
      obtain ⟨x2, rfl, w2⟩ := good_int ti3 rfl (h 1 _ _ rfl rfl)
      obtain ⟨x3, rfl, w3⟩ := good_str ti9 rfl (h 2 _ _ rfl rfl)
      obtain ⟨n4, zs4, hn4, rfl, hl4, hz4⟩ := good_slice ti70 rfl ti72 (h 3 _ _ rfl rfl)
      obtain ⟨x4, rfl, w4⟩ := good_list (f := eTApiExpr) (K := (fun y => wfTApiExpr y)) (p := fun x => GoodT tab n4 72 x) (fun x hx => by obtain ⟨x5, rfl, w5⟩ := goodTApiExpr_n _ (hx); exact ⟨x5, rfl, w5⟩) zs4 hz4
      obtain ⟨x6, rfl, w6⟩ := good_int ti3 rfl (h 4 _ _ rfl rfl)
      exact ⟨⟨x1, x2, x3, x4, x6⟩, by rw [eTApiExpr_eq]; rfl, trivial⟩
theorem goodTApiExpr {n : Nat} {d : D} (g : GoodT tab n 72 d) : ∃ x : TApiExpr, d = eTApiExpr x ∧ wfTApiExpr x := goodTApiExpr_n n g
def wfTApiStmt (_ : TApiStmt) : Prop := True
theorem goodTApiStmt_n : ∀ (n : Nat) {d : D} (g : GoodT tab n 78 d), ∃ x : TApiStmt, d = eTApiStmt x ∧ wfTApiStmt x
  | 0, d, g => by simp [GoodT] at g
  | n + 1, d, g => by
    obtain ⟨n', ds, hn, rfl, hl, h⟩ := good_struct ti78 rfl g
    obtain rfl : n' = n := by omega
    match ds, hl with
    | [d0, d1, d2, d3, d4, d5, d6], _ =>
      obtain ⟨x1, rfl, w1⟩ := good_int ti3 rfl (h 0 _ _ rfl rfl)
      obtain ⟨x2, rfl, w2⟩ := good_str ti9 rfl (h 1 _ _ rfl rfl)
      obtain ⟨x3, rfl, w3⟩ := good_str ti9 rfl (h 2 _ _ rfl rfl)
      obtain ⟨n4, zs4, hn4, rfl, hl4, hz4⟩ := good_slice ti70 rfl ti72 (h 3 _ _ rfl rfl)
      obtain ⟨x4, rfl, w4⟩ := good_list (f := eTApiExpr) (K := (fun y => wfTApiExpr y)) (p := fun x => GoodT tab n4 72 x) (fun x hx => by obtain ⟨x5, rfl, w5⟩ := goodTApiExpr (hx); exact ⟨x5, rfl, w5⟩) zs4 hz4
      obtain ⟨n6, zs6, hn6, rfl, hl6, hz6⟩ := good_slice ti23 rfl ti78 (h 4 _ _ rfl rfl)
      obtain ⟨x6, rfl, w6⟩ := good_list (f := eTApiStmt) (K := (fun y => wfTApiStmt y)) (p := fun x => GoodT tab n6 78 x) (fun x hx => by obtain ⟨x7, rfl, w7⟩ := goodTApiStmt_n _ (hx); exact ⟨x7, rfl, w7⟩) zs6 hz6
      obtain ⟨n8, zs8, hn8, rfl, hl8, hz8⟩ := good_slice ti23 rfl ti78 (h 5 _ _ rfl rfl)
      obtain ⟨x8, rfl, w8⟩ := good_list (f := eTApiStmt) (K := (fun y => wfTApiStmt y)) (p := fun x => GoodT tab n8 78 x) (fun x hx => by obtain ⟨x9, rfl, w9⟩ := goodTApiStmt_n _ (hx); exact ⟨x9, rfl, w9⟩) zs8 hz8
      obtain ⟨x10, rfl, w10⟩ := good_int ti3 rfl (h 6 _ _ rfl rfl)
      exact ⟨⟨x1, x2, x3, x4, x6, x8, x10⟩, by rw [eTApiStmt_eq]; rfl, trivial⟩
theorem goodTApiStmt {n : Nat} {d : D} (g : GoodT tab n 78 d) : ∃ x : TApiStmt, d = eTApiStmt x ∧ wfTApiStmt x := goodTApiStmt_n n g
def wfTApiFunc (x : TApiFunc) : Prop := x.gName.size ≤ maxLen ∧ (x.gParams.length ≤ maxLen ∧ ∀ y ∈ x.gParams, wfTApiVar y) ∧ (x.gLocals.length ≤ maxLen ∧ ∀ y ∈ x.gLocals, wfTApiVar y) ∧ (x.gBody.length ≤ maxLen ∧ ∀ y ∈ x.gBody, wfTApiStmt y) ∧ (Lit.int .i64 x.gAt).wf = true
theorem goodTApiFunc {n : Nat} {d : D} (g : GoodT tab n 25 d) : ∃ x : TApiFunc, d = eTApiFunc x ∧ wfTApiFunc x := by
  obtain ⟨n', ds, _, rfl, hl, h⟩ := good_struct ti25 rfl g
  match ds, hl with
  | [d0, d1, d2, d3, d4], _ =>
    obtain ⟨x1, rfl, w1⟩ := good_str ti9 rfl (h 0 _ _ rfl rfl)
    obtain ⟨n2, zs2, _, rfl, hl2, hz2⟩ := good_slice ti22 rfl ti67 (h 1 _ _ rfl rfl)
    obtain ⟨x2, rfl, w2⟩ := good_list (f := eTApiVar) (K := (fun y => wfTApiVar y)) (p := fun x => GoodT tab n2 67 x) (fun x hx => by obtain ⟨x3, rfl, w3⟩ := goodTApiVar (hx); exact ⟨x3, rfl, w3⟩) zs2 hz2
    obtain ⟨n4, zs4, _, rfl, hl4, hz4⟩ := good_slice ti22 rfl ti67 (h 2 _ _ rfl rfl)
    obtain ⟨x4, rfl, w4⟩ := good_list (f := eTApiVar) (K := (fun y => wfTApiVar y)) (p := fun x => GoodT tab n4 67 x) (fun x hx => by obtain ⟨x5, rfl, w5⟩ := goodTApiVar (hx); exact ⟨x5, rfl, w5⟩) zs4 hz4
    obtain ⟨n6, zs6, _, rfl, hl6, hz6⟩ := good_slice ti23 rfl ti78 (h 3 _ _ rfl rfl)
    obtain ⟨x6, rfl, w6⟩ := good_list (f := eTApiStmt) (K := (fun y => wfTApiStmt y)) (p := fun x => GoodT tab n6 78 x) (fun x hx => by obtain ⟨x7, rfl, w7⟩ := goodTApiStmt (hx); exact ⟨x7, rfl, w7⟩) zs6 hz6
    obtain ⟨x8, rfl, w8⟩ := good_int ti3 rfl (h 4 _ _ rfl rfl)
    exact ⟨⟨x1, x2, x4, x6, x8⟩, rfl, w1, ⟨by simpa using hl2, w2⟩, ⟨by simpa using hl4, w4⟩, ⟨by simpa using hl6, w6⟩, w8⟩
def wfTApiCell (x : TApiCell) : Prop := x.gName.size ≤ maxLen ∧ (Lit.int .i64 x.gAt).wf = true
theorem goodTApiCell {n : Nat} {d : D} (g : GoodT tab n 43 d) : ∃ x : TApiCell, d = eTApiCell x ∧ wfTApiCell x := by
  obtain ⟨n', ds, _, rfl, hl, h⟩ := good_struct ti43 rfl g
  match ds, hl with
  | [d0, d1], _ =>
    obtain ⟨x1, rfl, w1⟩ := good_str ti9 rfl (h 0 _ _ rfl rfl)
    obtain ⟨x2, rfl, w2⟩ := good_int ti3 rfl (h 1 _ _ rfl rfl)
    exact ⟨⟨x1, x2⟩, rfl, w1, w2⟩
def wfTApiWord (x : TApiWord) : Prop := (Lit.int .i64 x.gN).wf = true ∧ wfTApiCell x.gTo
theorem goodTApiWord {n : Nat} {d : D} (g : GoodT tab n 45 d) : ∃ x : TApiWord, d = eTApiWord x ∧ wfTApiWord x := by
  obtain ⟨n', ds, _, rfl, hl, h⟩ := good_struct ti45 rfl g
  match ds, hl with
  | [d0, d1, d2], _ =>
    obtain ⟨x1, rfl⟩ := good_bool ti4 rfl (h 0 _ _ rfl rfl)
    obtain ⟨x2, rfl, w2⟩ := good_int ti3 rfl (h 1 _ _ rfl rfl)
    obtain ⟨x3, rfl, w3⟩ := goodTApiCell (h 2 _ _ rfl rfl)
    exact ⟨⟨x1, x2, x3⟩, rfl, w2, w3⟩
def wfTSondagelaw20Put (x : TSondagelaw20Put) : Prop := wfTApiCell x.gC ∧ wfTApiWord x.gW
theorem goodTSondagelaw20Put {n : Nat} {d : D} (g : GoodT tab n 47 d) : ∃ x : TSondagelaw20Put, d = eTSondagelaw20Put x ∧ wfTSondagelaw20Put x := by
  obtain ⟨n', ds, _, rfl, hl, h⟩ := good_struct ti47 rfl g
  match ds, hl with
  | [d0, d1], _ =>
    obtain ⟨x1, rfl, w1⟩ := goodTApiCell (h 0 _ _ rfl rfl)
    obtain ⟨x2, rfl, w2⟩ := goodTApiWord (h 1 _ _ rfl rfl)
    exact ⟨⟨x1, x2⟩, rfl, w1, w2⟩
def wfTSondagelaw20Call (x : TSondagelaw20Call) : Prop := wfTApiFunc x.gF ∧ (x.gL.length ≤ maxLen ∧ ∀ y ∈ x.gL, wfTApiWord y) ∧ (x.gPuts.length ≤ maxLen ∧ ∀ y ∈ x.gPuts, wfTSondagelaw20Put y) ∧ x.gName.size ≤ maxLen
theorem goodTSondagelaw20Call {n : Nat} {d : D} (g : GoodT tab n 29 d) : ∃ x : TSondagelaw20Call, d = eTSondagelaw20Call x ∧ wfTSondagelaw20Call x := by
  obtain ⟨n', ds, _, rfl, hl, h⟩ := good_struct ti29 rfl g
  match ds, hl with
  | [d0, d1, d2, d3], _ =>
    obtain ⟨x1, rfl, w1⟩ := goodTApiFunc (h 0 _ _ rfl rfl)
    obtain ⟨n2, zs2, _, rfl, hl2, hz2⟩ := good_slice ti26 rfl ti45 (h 1 _ _ rfl rfl)
    obtain ⟨x2, rfl, w2⟩ := good_list (f := eTApiWord) (K := (fun y => wfTApiWord y)) (p := fun x => GoodT tab n2 45 x) (fun x hx => by obtain ⟨x3, rfl, w3⟩ := goodTApiWord (hx); exact ⟨x3, rfl, w3⟩) zs2 hz2
    obtain ⟨n4, zs4, _, rfl, hl4, hz4⟩ := good_slice ti27 rfl ti47 (h 2 _ _ rfl rfl)
    obtain ⟨x4, rfl, w4⟩ := good_list (f := eTSondagelaw20Put) (K := (fun y => wfTSondagelaw20Put y)) (p := fun x => GoodT tab n4 47 x) (fun x hx => by obtain ⟨x5, rfl, w5⟩ := goodTSondagelaw20Put (hx); exact ⟨x5, rfl, w5⟩) zs4 hz4
    obtain ⟨x6, rfl, w6⟩ := good_str ti9 rfl (h 3 _ _ rfl rfl)
    exact ⟨⟨x1, x2, x4, x6⟩, rfl, w1, ⟨by simpa using hl2, w2⟩, ⟨by simpa using hl4, w4⟩, w6⟩
theorem wts_varlen : ∀ l : List TApiVar, l.length ≤ wts (l.map eTApiVar)
  | [] => by simp
  | v :: l => by
    have := wts_varlen l
    simp only [List.length_cons, List.map_cons, wts]
    have h : 1 ≤ wt (eTApiVar v) := by
      unfold eTApiVar; simp only [wt, wts, wtv]; omega
    omega
theorem wt_call (c : TSondagelaw20Call) (h : wt (eTSondagelaw20Call c) ≤ 1048576) : FnB c.gF := by
  have h1 := wts_varlen c.gF.gParams
  have h2 := wts_varlen c.gF.gLocals
  unfold eTSondagelaw20Call at h
  simp only [wt, wts, wtv] at h
  unfold FnB wSs
  omega
theorem EvalFrames_true (a0 : TSondagelaw20Call) (h : wt (eTSondagelaw20Call a0) ≤ 1048576) (k0 : wfTSondagelaw20Call a0) : l20_EvalFrames a0 = some true := Pq.evalFrames_law (wt_call a0 h)
end Go.Proofs.Ytocmdafncmlaaaa.Ab
namespace Go.Proofs.Ytocmdafncmlaaaa
open Go.ChangeShapes Go.WideShapes Go.ChangeAt Go.RowKit Go.Joins
set_option linter.all false
mutual
theorem bulk_leEvalFrames {H : Type} : ∀ d : DataW H, Ab.bulk d ≤ Rows.uptoBulk d
  | .lit (.string bytes) => by simp [Ab.bulk, Rows.uptoBulk]
  | .lit (.int _ _) => by simp [Ab.bulk, Rows.uptoBulk]
  | .lit (.bool _) => by simp [Ab.bulk, Rows.uptoBulk]
  | .lit l => by cases l <;> simp [Ab.bulk, Rows.uptoBulk]
  | .nil => by simp [Ab.bulk, Rows.uptoBulk]
  | .ptr d => by have := bulk_leEvalFrames d; simp only [Ab.bulk, Rows.uptoBulk]; omega
  | .slice elems spare => by have h1 := bulkAll_leEvalFrames elems; have h2 := bulkAll_leEvalFrames spare; simp only [Ab.bulk, Rows.uptoBulk]; omega
  | .agg parts => by have := bulkAll_leEvalFrames parts; simp only [Ab.bulk, Rows.uptoBulk]; omega
  | .iface t d => by have := bulk_leEvalFrames d; simp only [Ab.bulk, Rows.uptoBulk]; omega
  | .map entries => by simp [Ab.bulk, Rows.uptoBulk]
  | .held h => by simp [Ab.bulk, Rows.uptoBulk]
theorem bulkAll_leEvalFrames {H : Type} : ∀ l : List (DataW H), Ab.bulkAll l ≤ Rows.uptoBulkAll l
  | [] => by simp [Ab.bulkAll, Rows.uptoBulkAll]
  | d :: l => by have h1 := bulk_leEvalFrames d; have h2 := bulkAll_leEvalFrames l; simp only [Ab.bulkAll, Rows.uptoBulkAll]; omega
end
set_option maxRecDepth 100000 in
theorem liftedEvalFramesUpto (os : Os) (started : os.Started) (H : Type) (enc : TypeId × Value → H) (Fi : Stop.Interp) :
    ReturnsInHanded {} Try.checked os 3 .any ((Rows.OpenSpec.upto Rows.evalFramesSpec).pre6 enc Try.prog Try.f3 Rows.evalFramesUptoRow.domain false) (((Rows.OpenSpec.upto Rows.evalFramesSpec).at Fi).post enc Try.prog Try.f3 false true false false) := by
  refine returnsInHanded_of_cond (C := Try.checked) (s := Rows.OpenSpec.upto Rows.evalFramesSpec) (k := Rows.uptoSmall) rfl own started (by kernel_rfl) Try.func3
    (OpenSpec.witness (enc := enc) (C := Try.checked) (s := Rows.OpenSpec.upto Rows.evalFramesSpec) (k := Rows.uptoSmall) rfl false ⟨#[], #[.agg #[.string ByteArray.empty, .slice none 0 0, .slice none 0 0, .slice none 0 0, .int .i64 0, .slice none 0 0, .slice none 0 0, .string ByteArray.empty]], []⟩ 8 (by kernel_rfl) (by kernel_rfl) (by kernel_rfl)
      (x := ([.agg [.agg [.lit (.string []), .nil, .nil, .nil, .lit (.int .i64 0)], .nil, .nil, .lit (.string [])]], [], [])) (by kernel_rfl) rfl (by kernel_rfl)) ?_
  intro W base args ds gs before hval0 hW _ hk _
  have hval : ∀ (j : Nat) t v, Try.f3.params[j]? = some t → args[j]? = some v → Value.okWide Try.prog W .any base t v := hval0
  have hW' := hW
  obtain ⟨p, q, hA0, hV, rfl, hfz, hnd⟩ := hW
  have hA : DataW.TrodAll enc Try.prog W 0 (fun _ => true) true Try.f3.params.toList args.toList ds p := hA0
  obtain ⟨rfl, rfl⟩ := trodVars_none hV
  simp only [List.append_nil] at hW' hk
  have hback := args_back laidOut' (by kernel_rfl) hA (fun x hx => hW'.lt x hx)
  rw [Try.params3] at hA hval
  obtain ⟨v0, vs0, d0, ds0, p0, q0, hargs, rfl, hp0, h0, r0⟩ := trodAll_cons hA
  obtain ⟨rfl, rfl, hpn⟩ := trodAll_nil r0
  obtain rfl : args = #[v0] := by cases args; simp_all
  obtain ⟨n0, x0, g0, rep0, u0⟩ := Ab.rdw_arg (t := 29) Ab.htab [3, 4, 9, 22, 23, 25, 26, 27, 29, 43, 45, 47, 67, 70, 72, 78] (by kernel_rfl) (by kernel_rfl) (hval 0 29 v0 rfl rfl) h0
  obtain ⟨a0, rfl, k0⟩ := Ab.goodTSondagelaw20Call g0
  have hb0 := of_decide_eq_true hk
  have hb1 := bulkAll_leEvalFrames [d0]
  simp only [Ab.bulkAll] at hb1
  clear hA0 hval0
  refine (Ab.to_calls (us := #[v0]) (Ab.l20_EvalFrames_ok a0 true (Ab.EvalFrames_true a0 (by omega) k0)) (Ab.ag_all W) (by simp only [Ab.RepsV]; exact ⟨_, _, rfl, rep0, rfl⟩)).mono fun e W' ⟨he, hb⟩ => ?_
  subst he
  exact ⟨_, rfl, _, _, _, [], p, [], hW', trodAll_cons_mk (shut_bool Try.underlying4 _) trodAll_mk0, hback W' hb _ (fun x hx => by simpa using hW'.lt x hx), rfl, hb.frame _, fun h => by cases h⟩
theorem evalFramesUpto_holds : Rows.EvalFramesUptoSaid :=
  OpenClaim.holds_of_cond 3 Try.f3 rfl rfl rfl rfl rfl rfl rfl ⟨rfl, rfl, rfl, rfl, rfl⟩ rfl rfl rfl rfl rfl (by kernel_rfl) Try.func3 (by kernel_rfl)
    (of_decide_eq_true (by kernel_rfl)) (by unfold Func.isWrapper; rw [if_neg (of_decide_eq_false (by kernel_rfl))]; exact ⟨rfl, rfl⟩)
    (fun os started H enc _ Fi => liftedEvalFramesUpto os started H enc Fi)
#print axioms evalFramesUpto_holds
end Go.Proofs.Ytocmdafncmlaaaa
