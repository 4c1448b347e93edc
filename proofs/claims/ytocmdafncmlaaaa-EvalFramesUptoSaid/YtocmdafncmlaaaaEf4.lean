/- The texts that evalFramesUpto_holds leans on, part 4. -/
import Derived.Test.YtocmdafncmlaaaaEf3
namespace Go.Proofs.Ytocmdafncmlaaaa.Ab
open Go
set_option linter.all false
theorem mk83 : KeyOK Try.prog 9 (fun s : ByteArray => Value.string s) := str_key (by kernel_rfl)
theorem mz83 : (Try.prog.info? 3).bind (·.zero) = some (.int .i64 (0 : Int)) := by kernel_rfl
theorem mr83 (H : Hp) : Rep H (eI64 (0 : Int)) (.int .i64 (0 : Int)) := rep_v rfl
structure TApiCell where
  gName : ByteArray
  gAt : Int
def eTApiCell (x : TApiCell) : D := .agg [.v (.string x.gName), .v (.int .i64 x.gAt)]
structure TApiWord where
  gPtr : Bool
  gN : Int
  gTo : TApiCell
def eTApiWord (x : TApiWord) : D := .agg [.v (.bool x.gPtr), .v (.int .i64 x.gN), .v (.string x.gTo.gName), .v (.int .i64 x.gTo.gAt)]
instance : DecidableEq TApiCell := fun a b => decidable_of_iff (a.gName = b.gName ∧ a.gAt = b.gAt) (by cases a; cases b; simp)
def kcTApiCell (x : TApiCell) : List Value := [.string x.gName, .int .i64 x.gAt]
theorem keTApiCell (a b : TApiCell) : (decide (a.gName = b.gName) && (a.gAt == b.gAt && true)) = decide (b = a) := by
  rw [Bool.eq_iff_iff, decide_eq_true_iff]
  obtain ⟨a0, a1⟩ := a
  obtain ⟨b0, b1⟩ := b
  simp only [Bool.and_eq_true, decide_eq_true_eq, beq_iff_eq, and_true, TApiCell.mk.injEq]
  constructor <;> intro h <;> simp_all
theorem eqt43 : EqT Try.prog 43 := ⟨by kernel_rfl, by kernel_rfl, by kernel_rfl⟩
theorem mk84 : KeyOK Try.prog 43 (fun a => Value.agg (kcTApiCell a).toArray) := struct_key (g := kcTApiCell) htab eqt43 rfl rfl (fun _ => rfl) (fun _ => rfl) (fun a b => (show eqL tab _ _ _ = some ((decide (a.gName = b.gName) && (a.gAt == b.gAt && true))) from rfl).trans (congrArg some (keTApiCell a b)))
theorem mz84 : (Try.prog.info? 45).bind (·.zero) = some (.agg #[.bool false, .int .i64 (0 : Int), .string ByteArray.empty, .int .i64 (0 : Int)]) := by kernel_rfl
theorem mr84 (H : Hp) : Rep H (eTApiWord (⟨false, (0 : Int), (⟨ByteArray.empty, (0 : Int)⟩ : TApiCell)⟩ : TApiWord)) (.agg #[.bool false, .int .i64 (0 : Int), .string ByteArray.empty, .int .i64 (0 : Int)]) := rep_va H (us := [.bool false, .int .i64 (0 : Int), .string ByteArray.empty, .int .i64 (0 : Int)]) rfl
structure TApiVar where
  gName : ByteArray
  gPtr : Bool
def eTApiVar (x : TApiVar) : D := .agg [.v (.string x.gName), .v (.bool x.gPtr)]
def slices_Clone_api_Var_api_Var (a0 : List TApiVar) : Option (List TApiVar) := app 24 a0 []
theorem slices_Clone_api_Var_api_Var_ok (a0 : List TApiVar) (r : List TApiVar) (h0 : slices_Clone_api_Var_api_Var a0 = some r) : CallsD Try.prog 19 [.lst 2 (a0.map eTApiVar) .no] [] [] (fun d h k => ∃ y0, d = .lst 2 (r.map eTApiVar) (.cur y0) ∧ h = [] ∧ k = [(2, y0)]) := by
  obtain ⟨hr, hb⟩ := app_ok h0
  simp only [List.append_nil] at hr
  subst hr
  have q : app 24 ([] : List TApiVar) r = some r := app_of (by simp only [List.length_nil, Nat.zero_add]; simpa using hb)
  refine enterX htab Try.func19 rfl rfl rfl rfl rfl (fun C => ?_)
  refine wpD_seq ?_
  refine wpD_region ?_
  refine p_pure htab rfl rfl rfl rfl ?_
  refine ops_nil ?_
  refine then_normal ?_
  refine wpD_seq ?_
  refine wpD_seq ?_
  refine wpD_region ?_
  refine p_pure htab rfl rfl rfl rfl ?_
  refine p_isnil htab rfl rfl rfl rfl rfl rfl rfl (fun b hn => ?_)
  refine ops_nil ?_
  refine then_normal ?_
  refine wpD_cond rfl (fun hc => ?_) (fun hc => ?_)
  · have hnil := hn hc
    simp only [List.map_eq_nil_iff] at hnil
    subst hnil
    refine wpD_seq ?_
    refine wpD_region ?_
    refine p_pure htab rfl rfl rfl rfl ?_
    refine ops_nil ?_
    refine then_normal ?_
    refine wpD_ret ?_
    refine then_ret ?_
    refine retX.tokN (i := 2) 2 rfl (fun y => ?_)
    refine retX.of (s' := ⟨[(2, .lst 2 (([] : List TApiVar).map eTApiVar) (.cur y))], [], [(2, y)]⟩) (WkS.perm (WkS.cons rfl (Wk.refl _) (WkS.nil)) (List.Perm.refl _) (List.Perm.refl _)) (retD_mk (hh := []) (.inl rfl) (resL_cons (resOne_tmp rfl) (resL_nil)) (List.nil_sublist _) (List.Sublist.refl _) ?_)
    exact ⟨y, rfl, rfl, rfl⟩
  · refine wpD_skip ?_
    refine then_normal ?_
    refine wpD_seq ?_
    refine wpD_region ?_
    refine p_lit0 htab rfl rfl rfl rfl rfl rfl rfl rfl ?_
    refine p_pure htab rfl rfl rfl rfl ?_
    refine p_appF htab rfl rfl rfl rfl rfl rfl rfl rfl rfl rfl rfl rfl rfl rfl rfl (by simpa using hb) (fun v => ?_)
    refine p_pure htab rfl rfl rfl rfl ?_
    refine ops_nil ?_
    refine then_normal ?_
    refine wpD_ret ?_
    refine retX.of (s' := ⟨[(2, .lst 2 (r.map eTApiVar) (.cur v))], [], [(2, v)]⟩) (WkS.perm (WkS.cons rfl (Wk.refl _) (WkS.nil)) (List.Perm.refl _) (List.Perm.refl _)) (retD_mk (hh := []) (.inl rfl) (resL_cons (resOne_tmp rfl) (resL_nil)) (List.nil_sublist _) (List.Sublist.refl _) ?_)
    exact ⟨v, rfl, rfl, rfl⟩
theorem slices_Clone_api_Var_api_Var_row_ok (a0 : List TApiVar) (r : List TApiVar) (h0 : slices_Clone_api_Var_api_Var a0 = some r) : CallsD Try.prog 19 [.lst 2 (a0.map eTApiVar) .no] [] [] (fun d h k => ∃ y0, d = .v (SL y0) ∧ h = [(0, Blk.row 2 (r.map eTApiVar) (SL y0))] ∧ k = []) := by
  obtain ⟨hr, hb⟩ := app_ok h0
  simp only [List.append_nil] at hr
  subst hr
  have q : app 24 ([] : List TApiVar) r = some r := app_of (by simp only [List.length_nil, Nat.zero_add]; simpa using hb)
  refine enterX htab Try.func19 rfl rfl rfl rfl rfl (fun C => ?_)
  refine wpD_seq ?_
  refine wpD_region ?_
  refine p_pure htab rfl rfl rfl rfl ?_
  refine ops_nil ?_
  refine then_normal ?_
  refine wpD_seq ?_
  refine wpD_seq ?_
  refine wpD_region ?_
  refine p_pure htab rfl rfl rfl rfl ?_
  refine p_isnil htab rfl rfl rfl rfl rfl rfl rfl (fun b hn => ?_)
  refine ops_nil ?_
  refine then_normal ?_
  refine wpD_cond rfl (fun hc => ?_) (fun hc => ?_)
  · have hnil := hn hc
    simp only [List.map_eq_nil_iff] at hnil
    subst hnil
    refine wpD_seq ?_
    refine wpD_region ?_
    refine p_pure htab rfl rfl rfl rfl ?_
    refine ops_nil ?_
    refine then_normal ?_
    refine wpD_ret ?_
    refine then_ret ?_
    refine retX.rowN (i := 2) 2 rfl (fun y => ?_)
    refine retX.of (s' := ⟨[(2, .v (SL y))], [(0, Blk.row 2 (([] : List TApiVar).map eTApiVar) (SL y))], []⟩) (WkS.perm (WkS.cons rfl (Wk.refl _) (WkS.nil)) (List.Perm.refl _) (List.Perm.refl _)) (retD_mk (hh := [_]) (.inl rfl) (resL_cons (resOne_tmp rfl) (resL_nil)) (List.Sublist.refl _) (List.Sublist.refl _) ?_)
    exact ⟨y, rfl, rfl, rfl⟩
  · refine wpD_skip ?_
    refine then_normal ?_
    refine wpD_seq ?_
    refine wpD_region ?_
    refine p_lit0 htab rfl rfl rfl rfl rfl rfl rfl rfl ?_
    refine p_pure htab rfl rfl rfl rfl ?_
    refine p_app0R htab rfl rfl rfl rfl rfl rfl rfl rfl rfl rfl rfl rfl rfl rfl rfl (by simpa using hb) rfl (fun v => ?_)
    refine p_pure htab rfl rfl rfl rfl ?_
    refine ops_nil ?_
    refine then_normal ?_
    refine wpD_ret ?_
    refine retX.of (s' := ⟨[(2, .v (SL v))], [(0, Blk.row 2 (r.map eTApiVar) (SL v))], []⟩) (WkS.perm (WkS.cons rfl (Wk.refl _) (WkS.nil)) (List.Perm.refl _) (List.Perm.refl _)) (retD_mk (hh := [_]) (.inl rfl) (resL_cons (resOne_tmp rfl) (resL_nil)) (List.Sublist.refl _) (List.Sublist.refl _) ?_)
    exact ⟨v, rfl, rfl, rfl⟩
def slices_Clone_api_Word_api_Word (a0 : List TApiWord) : Option (List TApiWord) := app 40 a0 []
theorem slices_Clone_api_Word_api_Word_row_ok (a0 : List TApiWord) (r : List TApiWord) (h0 : slices_Clone_api_Word_api_Word a0 = some r) : CallsD Try.prog 21 [.lst 4 (a0.map eTApiWord) .no] [] [] (fun d h k => ∃ y0, d = .v (SL y0) ∧ h = [(0, Blk.row 4 (r.map eTApiWord) (SL y0))] ∧ k = []) := by
  obtain ⟨hr, hb⟩ := app_ok h0
  simp only [List.append_nil] at hr
  subst hr
  have q : app 40 ([] : List TApiWord) r = some r := app_of (by simp only [List.length_nil, Nat.zero_add]; simpa using hb)
  refine enterX htab Try.func21 rfl rfl rfl rfl rfl (fun C => ?_)
  refine wpD_seq ?_
  refine wpD_region ?_
  refine p_pure htab rfl rfl rfl rfl ?_
  refine ops_nil ?_
  refine then_normal ?_
  refine wpD_seq ?_
  refine wpD_seq ?_
  refine wpD_region ?_
  refine p_pure htab rfl rfl rfl rfl ?_
  refine p_isnil htab rfl rfl rfl rfl rfl rfl rfl (fun b hn => ?_)
  refine ops_nil ?_
  refine then_normal ?_
  refine wpD_cond rfl (fun hc => ?_) (fun hc => ?_)
  · have hnil := hn hc
    simp only [List.map_eq_nil_iff] at hnil
    subst hnil
    refine wpD_seq ?_
    refine wpD_region ?_
    refine p_pure htab rfl rfl rfl rfl ?_
    refine ops_nil ?_
    refine then_normal ?_
    refine wpD_ret ?_
    refine then_ret ?_
    refine retX.rowN (i := 2) 4 rfl (fun y => ?_)
    refine retX.of (s' := ⟨[(2, .v (SL y))], [(0, Blk.row 4 (([] : List TApiWord).map eTApiWord) (SL y))], []⟩) (WkS.perm (WkS.cons rfl (Wk.refl _) (WkS.nil)) (List.Perm.refl _) (List.Perm.refl _)) (retD_mk (hh := [_]) (.inl rfl) (resL_cons (resOne_tmp rfl) (resL_nil)) (List.Sublist.refl _) (List.Sublist.refl _) ?_)
    exact ⟨y, rfl, rfl, rfl⟩
  · refine wpD_skip ?_
    refine then_normal ?_
    refine wpD_seq ?_
    refine wpD_region ?_
    refine p_lit0 htab rfl rfl rfl rfl rfl rfl rfl rfl ?_
    refine p_pure htab rfl rfl rfl rfl ?_
    refine p_app0R htab rfl rfl rfl rfl rfl rfl rfl rfl rfl rfl rfl rfl rfl rfl rfl (by simpa using hb) rfl (fun v => ?_)
    refine p_pure htab rfl rfl rfl rfl ?_
    refine ops_nil ?_
    refine then_normal ?_
    refine wpD_ret ?_
    refine retX.of (s' := ⟨[(2, .v (SL v))], [(0, Blk.row 4 (r.map eTApiWord) (SL v))], []⟩) (WkS.perm (WkS.cons rfl (Wk.refl _) (WkS.nil)) (List.Perm.refl _) (List.Perm.refl _)) (retD_mk (hh := [_]) (.inl rfl) (resL_cons (resOne_tmp rfl) (resL_nil)) (List.Sublist.refl _) (List.Sublist.refl _) ?_)
    exact ⟨v, rfl, rfl, rfl⟩
structure TApiGlobal where
  gName : ByteArray
  gPtr : Bool
  gSize : Int
  gAt : Int
def eTApiGlobal (x : TApiGlobal) : D := .agg [.v (.string x.gName), .v (.bool x.gPtr), .v (.int .i64 x.gSize), .v (.int .i64 x.gAt)]
structure TApiExpr where
  gOp : Int
  gN : Int
  gName : ByteArray
  gKids : List TApiExpr
  gAt : Int
mutual
def eTApiExpr : TApiExpr → D
  | ⟨f0, f1, f2, f3, f4⟩ => .agg [.v (.int .i64 f0), .v (.int .i64 f1), .v (.string f2), .lst 5 (eTApiExpr_l f3) .no, .v (.int .i64 f4)]
def eTApiExpr_l : List TApiExpr → List D
  | [] => []
  | x :: l => eTApiExpr x :: eTApiExpr_l l
end
theorem eTApiExpr_map : ∀ l, eTApiExpr_l l = l.map eTApiExpr
  | [] => by simp [eTApiExpr_l]
  | x :: l => by simp only [eTApiExpr_l, List.map_cons, eTApiExpr_map l]
theorem eTApiExpr_eq (x : TApiExpr) : eTApiExpr x = .agg [.v (.int .i64 x.gOp), .v (.int .i64 x.gN), .v (.string x.gName), .lst 5 (x.gKids.map eTApiExpr) .no, .v (.int .i64 x.gAt)] := by
  cases x
  simp only [eTApiExpr, eTApiExpr_map]
structure TApiStmt where
  gOp : Int
  gName : ByteArray
  gFunc : ByteArray
  gExps : List TApiExpr
  gKids : List TApiStmt
  gElse : List TApiStmt
  gAt : Int
mutual
def eTApiStmt : TApiStmt → D
  | ⟨f0, f1, f2, f3, f4, f5, f6⟩ => .agg [.v (.int .i64 f0), .v (.string f1), .v (.string f2), .lst 5 (f3.map eTApiExpr) .no, .lst 7 (eTApiStmt_l f4) .no, .lst 7 (eTApiStmt_l f5) .no, .v (.int .i64 f6)]
def eTApiStmt_l : List TApiStmt → List D
  | [] => []
  | x :: l => eTApiStmt x :: eTApiStmt_l l
end
theorem eTApiStmt_map : ∀ l, eTApiStmt_l l = l.map eTApiStmt
  | [] => by simp [eTApiStmt_l]
  | x :: l => by simp only [eTApiStmt_l, List.map_cons, eTApiStmt_map l]
theorem eTApiStmt_eq (x : TApiStmt) : eTApiStmt x = .agg [.v (.int .i64 x.gOp), .v (.string x.gName), .v (.string x.gFunc), .lst 5 (x.gExps.map eTApiExpr) .no, .lst 7 (x.gKids.map eTApiStmt) .no, .lst 7 (x.gElse.map eTApiStmt) .no, .v (.int .i64 x.gAt)] := by
  cases x
  simp only [eTApiStmt, eTApiStmt_map]
structure TApiFunc where
  gName : ByteArray
  gParams : List TApiVar
  gLocals : List TApiVar
  gBody : List TApiStmt
  gAt : Int
def eTApiFunc (x : TApiFunc) : D := .agg [.v (.string x.gName), .lst 2 (x.gParams.map eTApiVar) .no, .lst 2 (x.gLocals.map eTApiVar) .no, .lst 7 (x.gBody.map eTApiStmt) .no, .v (.int .i64 x.gAt)]
structure TApiProgram where
  gGlobals : List TApiGlobal
  gFuncs : List TApiFunc
def eTApiProgram (x : TApiProgram) : D := .agg [.lst 4 (x.gGlobals.map eTApiGlobal) .no, .lst 5 (x.gFuncs.map eTApiFunc) .no]
structure TMemMem where
  gSizes : List (ByteArray × Int)
  gWords : List (TApiCell × TApiWord)
  gCells : List TApiCell
noncomputable def mem_New (a0 : TApiProgram) : Option (TMemMem) :=
  (Option.bind (α := List TApiCell × List (ByteArray × Int) × List (TApiCell × TApiWord)) (loopM (fun (s190 : Int × List TApiCell × List (ByteArray × Int) × List (TApiCell × TApiWord)) => (bif (decide (s190.1 < (a0.gGlobals.length : Int))) then ((idx a0.gGlobals s190.1).bind fun x329 => (bif (decide ((0 : Int) < (mgetD s190.2.2.1 x329.gName (0 : Int)))) then some (.next ((IntKind.i64.wrap (s190.1 + (1 : Int))), s190.2.1, s190.2.2.1, s190.2.2.2)) else (Option.bind (α := Bool) (bif (!x329.gPtr) then some (decide ((0 : Int) < x329.gSize)) else some false) fun y333 => (Option.bind (α := Int) (bif y333 then some x329.gSize else some (1 : Int)) fun y336 => (Option.bind (α := List TApiCell × List (TApiCell × TApiWord)) (loopM (fun (s355 : Int × List TApiCell × List (TApiCell × TApiWord)) => (bif (decide (s355.1 < y336)) then ((app 24 s355.2.1 ([(⟨x329.gName, s355.1⟩ : TApiCell)] : List TApiCell)).bind fun x370 => some (.next ((IntKind.i64.wrap (s355.1 + (1 : Int))), x370, (mput s355.2.2 (⟨x329.gName, s355.1⟩ : TApiCell) (⟨x329.gPtr, (0 : Int), (⟨ByteArray.empty, (0 : Int)⟩ : TApiCell)⟩ : TApiWord))))) else some (.done (s355.2.1, s355.2.2)))) ((0 : Int), s190.2.1, s190.2.2.2)) fun y354 => some (.next ((IntKind.i64.wrap (s190.1 + (1 : Int))), y354.1, (mput s190.2.2.1 x329.gName y336), y354.2))))))) else some (.done (s190.2.1, s190.2.2.1, s190.2.2.2)))) ((0 : Int), ([] : List TApiCell), ([] : List (ByteArray × Int)), ([] : List (TApiCell × TApiWord)))) fun y189 => some (⟨y189.2.1, y189.2.2, y189.1⟩ : TMemMem))
set_option maxRecDepth 100000 in
set_option maxHeartbeats 2000000 in
theorem mem_New_ok (a0 : TApiProgram) (r : TMemMem) (h0 : mem_New a0 = some r) : CallsD Try.prog 14 [eTApiProgram a0] [] [] (fun d h k => ∃ y0 y1 y2 y3, d = .ptr y0 0 ∧ h = [(y0, Blk.cells [.v (.map (some y1)), .v (.map (some y2)), .lst 2 (r.gCells.map eTApiCell) (.cur y3)] 87), (y1, Blk.mp (r.gSizes.map fun p => ((fun s : ByteArray => Value.string s) p.1, eI64 p.2))), (y2, Blk.mp (r.gWords.map fun p => ((fun a => Value.agg (kcTApiCell a).toArray) p.1, eTApiWord p.2)))] ∧ k = [(2, y3)]) := by
  have hm := yes_of h0
  unfold mem_New at hm
  clear h0
  refine enterX htab Try.func14 rfl rfl rfl rfl rfl (fun C => ?_)
  refine wpD_sr ?_
  refine p_box rfl rfl rfl rfl rfl rfl rfl (fun b1 => ?_)
  refine pu ?_
  refine ops_n2 ?_
  refine p_makeMap rfl rfl rfl rfl (fun b2 => ?_)
  refine p_makeMap rfl rfl rfl rfl (fun b3 => ?_)
  refine p_build (r := [.v (.map (some b2)), .v (.map (some b3)), .lst 1 [] .full]) htab rfl rfl rfl rfl rfl rfl rfl rfl rfl ?_
  refine p_box rfl rfl rfl rfl rfl rfl rfl (fun b4 => ?_)
  refine pu ?_
  refine ops_nt ?_
  refine wpD_seq ?_
  refine wpD_sr ?_
  refine pu ?_
  refine pL 2 ?_
  refine p_lenL htab rfl rfl rfl rfl rfl rfl rfl (by first | exact map_len | rfl) ?_
  refine pu ?_
  refine ops_nt ?_
  obtain ⟨y189, q189, ho189⟩ := yes_bind hm
  refine wpD_mid (Y := Value) (fun z189 => (⟨[(3, .ptr b4 0)], [(b3, Blk.mp (y189.2.2.map fun p => ((fun a => Value.agg (kcTApiCell a).toArray) p.1, eTApiWord p.2))), (b2, Blk.mp (y189.2.1.map fun p => ((fun s : ByteArray => Value.string s) p.1, eI64 p.2))), (b4, Blk.cells [.v (.map (some b2)), .v (.map (some b3)), .lst 2 (y189.1.map eTApiCell) (.cur z189)] 87)], [(2, z189)]⟩ : S)) ?_ ?_
  ·clear hm; have hm := yes_of q189
   refine wpD_block ?_
   obtain ⟨u190, hl190, hq190⟩ := yes_m hm
   refine loop_M (Y := Value) hl190 (fun s190 z190 => (⟨[(3, .ptr b4 0), (14, .lst 4 (a0.gGlobals.map eTApiGlobal) .no), (15, .v (.int .i64 (a0.gGlobals.length : Int))), (16, .v (.int .i64 s190.1))], [(b3, Blk.mp (s190.2.2.2.map fun p => ((fun a => Value.agg (kcTApiCell a).toArray) p.1, eTApiWord p.2))), (b2, Blk.mp (s190.2.2.1.map fun p => ((fun s : ByteArray => Value.string s) p.1, eI64 p.2))), (b4, Blk.cells [.v (.map (some b2)), .v (.map (some b3)), .lst 2 (s190.2.1.map eTApiCell) (.cur z190)] 87)], [(2, z190)]⟩ : S)) ?_ ?_
   ·skip
    refine WkX.cellF (off := 2) 2 3 rfl rfl (by first | exact Or.inl rfl | exact Or.inr rfl) (fun w327 => ?_)
    exact WkX.of w327 (WkS.perm (WkS.cons rfl (Wk.refl _) (WkS.cons rfl (Wk.refl _) (WkS.cons rfl (Wk.refl _) (WkS.cons rfl (Wk.refl _) (WkS.nil))))) ((perm_at (j := 0) rfl).trans (List.Perm.cons _ ((perm_at (j := 0) rfl).trans (List.Perm.cons _ ((perm_at (j := 1) rfl).trans (List.Perm.cons _ Pf)))))) Pf)
   ·intro G190 s190 z190 hm
    refine wpD_sr ?_
    refine pu ?_
    refine ops_nt ?_
    refine wpD_seq ?_
    refine wpD_cond rfl (fun hc328 => ?_) (fun hc328 => ?_)
    ·replace hm := yes_t hc328 hm
     refine wpD_skip ?_
     refine then_normal ?_
     refine wpD_seq ?_
     refine wpD_block ?_
     refine wpD_sr ?_
     obtain ⟨x329, q329, hm⟩ := yes_bind hm
     refine p_elem htab rfl rfl rfl rfl rfl rfl rfl rfl rfl rfl (idx_nonneg q329) (idx_map q329) ?_
     refine p_loadEl (d := eTApiGlobal x329) htab rfl rfl rfl rfl rfl rfl rfl rfl ?_
     refine p_alloc htab rfl rfl rfl rfl rfl rfl rfl (fun b330 => ?_)
     refine pS3 (ds' := [.v (.string x329.gName), .v (.bool x329.gPtr), .v (.int .i64 x329.gSize), .v (.int .i64 x329.gAt)]) ?_
     refine ops_nt ?_
     refine wpD_seq ?_
     refine wpD_seq ?_
     refine wpD_draws 6 [] [[],[0],[0,1],[0,1,2],[],[4]] [0,1,2,3,4] [[],[0],[0,1],[0,1,2],[],[4],[0,1,2,3,4,5],[0,1,2,3,4,5,6]] (by kernel_rfl) (by kernel_rfl) (by kernel_rfl) (by rfl) (by rfl) (by kernel_rfl) ?_
     iterate 5 apply Exists.intro
     intro bs
     iterate 3 refine zep ?_
     refine z_eM rfl rfl (xm_load 2 htab rfl rfl rfl rfl rfl) rfl rfl rfl rfl rfl rfl ?_
     refine zep ?_
     refine z_qM rfl rfl (xm_load 3 htab rfl rfl rfl rfl rfl) rfl rfl rfl rfl rfl rfl ?_
     refine z_nil rfl rfl (fun e he => by simp [isAl] at he) ?_
     refine p_lookup (l := s190.2.2.1) (f := (fun s : ByteArray => Value.string s)) (e := eI64) (kk := x329.gName) (z := (0 : Int)) (dr := .v (.int .i64 (mgetD s190.2.2.1 x329.gName (0 : Int)))) 1 htab rfl rfl rfl rfl rfl rfl rfl rfl rfl rfl mk83 (fun H v h => rep_v_inv h) mz83 mr83 rfl ?_
     refine pu ?_
     refine ops_nt ?_
     refine wpD_cond rfl (fun hc331 => ?_) (fun hc331 => ?_)
     ·replace hm := yes_t hc331 hm
      refine wpD_exit ?_
      refine then_exit ?_
      refine block_hit ?_
      refine then_normal ?_
      refine wpD_region ?_
      refine pu ?_
      refine pu ?_
      refine ops_nil ?_
      refine then_normal ⟨_, lp_next hm, ?_⟩
      exact WkX.of z190 (WkS.perm (WkS.cons rfl (Wk.refl _) (WkS.cons rfl (Wk.refl _) (WkS.cons rfl (Wk.refl _) (WkS.cons rfl (Wk.refl _) (WkS.nil))))) Pf Pf)
     ·replace hm := yes_f hc331 hm
      refine wpD_skip ?_
      refine then_normal ?_
      refine wpD_sr ?_
      refine pu ?_
      refine ops_nt ?_
      refine wpD_seq ?_
      refine wpD_seq ?_
      obtain ⟨y333, q333, ho333⟩ := yes_bind hm
      refine wpD_mid (Y := Unit) (fun z333 => (⟨[(3, .ptr b4 0), (5, .ptr b330 0), (6, .v (.int .i64 (1 : Int))), (14, .lst 4 (a0.gGlobals.map eTApiGlobal) .no), (15, .v (.int .i64 (a0.gGlobals.length : Int))), (16, .v (.int .i64 s190.1)), (35, .v (.bool y333))], [(b3, Blk.mp (s190.2.2.2.map fun p => ((fun a => Value.agg (kcTApiCell a).toArray) p.1, eTApiWord p.2))), (b2, Blk.mp (s190.2.2.1.map fun p => ((fun s : ByteArray => Value.string s) p.1, eI64 p.2))), (b4, Blk.cells [.v (.map (some b2)), .v (.map (some b3)), .lst 2 (s190.2.1.map eTApiCell) (.cur z190)] 87), (b330, Blk.cells [.v (.string x329.gName), .v (.bool x329.gPtr), .v (.int .i64 x329.gSize), .v (.int .i64 x329.gAt)] 59)], [(2, z190)]⟩ : S)) ?_ ?_
      ·clear hm; have hm := yes_of q333
       refine wpD_region ?_
       refine pu ?_
       refine pL 3 ?_
       refine pu ?_
       refine pu ?_
       refine p_split (i := 31) rfl (fun hg334 => ?_) (fun hg334 => ?_)
       ·replace hm := yes_t hg334 hm
        refine pu ?_
        refine pL 3 ?_
        refine pu ?_
        refine p_pickT rfl rfl rfl rfl rfl rfl ?_
        refine ops_nil ?_
        have e333 := yes_eq hm; subst e333
        refine ⟨rfl, ?_⟩
        exact WkX.of () (WkS.perm (WkS.cons rfl (Wk.refl _) (WkS.cons rfl (Wk.refl _) (WkS.cons rfl (Wk.refl _) (WkS.cons rfl (Wk.refl _) (WkS.cons rfl (Wk.refl _) (WkS.cons rfl (Wk.refl _) (WkS.cons rfl (Wk.refl _) (WkS.nil)))))))) Pf Pf)
       ·replace hm := yes_f hg334 hm
        iterate 3 refine pK ?_
        refine p_pickF rfl rfl rfl rfl rfl rfl ?_
        refine ops_nil ?_
        have e333 := yes_eq hm; subst e333
        refine ⟨rfl, ?_⟩
        exact WkX.of () (WkS.perm (WkS.cons rfl (Wk.refl _) (WkS.cons rfl (Wk.refl _) (WkS.cons rfl (Wk.refl _) (WkS.cons rfl (Wk.refl _) (WkS.cons rfl (Wk.refl _) (WkS.cons rfl (Wk.refl _) (WkS.cons rfl (Wk.refl _) (WkS.nil)))))))) Pf Pf)
      ·intro s333 hw333; clear hm; have hm := ho333; clear q333 ho333
       refine then_normal ?_
       refine wpD_wkX hw333 (fun z333 => ?_)
       obtain ⟨y336, q336, ho336⟩ := yes_bind hm
       refine wpD_mid (Y := Unit) (fun z336 => (⟨[(3, .ptr b4 0), (5, .ptr b330 0), (6, .v (.int .i64 y336)), (14, .lst 4 (a0.gGlobals.map eTApiGlobal) .no), (15, .v (.int .i64 (a0.gGlobals.length : Int))), (16, .v (.int .i64 s190.1))], [(b3, Blk.mp (s190.2.2.2.map fun p => ((fun a => Value.agg (kcTApiCell a).toArray) p.1, eTApiWord p.2))), (b2, Blk.mp (s190.2.2.1.map fun p => ((fun s : ByteArray => Value.string s) p.1, eI64 p.2))), (b4, Blk.cells [.v (.map (some b2)), .v (.map (some b3)), .lst 2 (s190.2.1.map eTApiCell) (.cur z190)] 87), (b330, Blk.cells [.v (.string x329.gName), .v (.bool x329.gPtr), .v (.int .i64 x329.gSize), .v (.int .i64 x329.gAt)] 59)], [(2, z190)]⟩ : S)) ?_ ?_
       ·clear hm; have hm := yes_of q336
        refine wpD_cond rfl (fun hc337 => ?_) (fun hc337 => ?_)
        ·replace hm := yes_t hc337 hm
         refine wpD_region ?_
         refine pu ?_
         refine pL 3 ?_
         refine pu ?_
         refine ops_nil ?_
         have e336 := yes_eq hm; subst e336
         refine ⟨rfl, ?_⟩
         exact WkX.of () (WkS.perm (WkS.cons rfl (Wk.refl _) (WkS.cons rfl (Wk.refl _) (WkS.cons rfl (Wk.refl _) (WkS.cons rfl (Wk.refl _) (WkS.cons rfl (Wk.refl _) (WkS.cons rfl (Wk.refl _) (WkS.nil))))))) Pf Pf)
        ·replace hm := yes_f hc337 hm
         refine wpD_skip ?_
         have e336 := yes_eq hm; subst e336
         refine ⟨rfl, ?_⟩
         exact WkX.of () (WkS.perm (WkS.cons rfl (Wk.refl _) (WkS.cons rfl (Wk.refl _) (WkS.cons rfl (Wk.refl _) (WkS.cons rfl (Wk.refl _) (WkS.cons rfl (Wk.refl _) (WkS.cons rfl (Wk.refl _) (WkS.nil))))))) Pf Pf)
       ·intro s336 hw336; clear hm; have hm := ho336; clear q336 ho336
        refine then_normal ?_
        refine wpD_wkX hw336 (fun z336 => ?_)
        refine wpD_seq ?_
        refine wpD_draws 7 [] [[],[0],[0,1],[0,1,2],[],[4],[]] [0,1,2,3,4] [[],[0],[0,1],[0,1,2],[],[4],[],[0,1,2,3,4,5,6]] (by kernel_rfl) (by kernel_rfl) (by kernel_rfl) (by rfl) (by rfl) (by kernel_rfl) ?_
        iterate 5 apply Exists.intro
        intro bs
        iterate 3 refine zep ?_
        refine z_eM rfl rfl (xm_load 2 htab rfl rfl rfl rfl rfl) rfl rfl rfl rfl rfl rfl ?_
        refine zep ?_
        refine z_qM rfl rfl (xm_load 3 htab rfl rfl rfl rfl rfl) rfl rfl rfl rfl rfl rfl ?_
        refine zqp ?_
        refine z_nil rfl rfl (fun e he => by simp [isAl] at he) ?_
        refine p_mapUpdate (l := s190.2.2.1) (f := (fun s : ByteArray => Value.string s)) (e := eI64) (kk := x329.gName) (vv := y336) (h' := [(b3, Blk.mp (s190.2.2.2.map fun p => ((fun a => Value.agg (kcTApiCell a).toArray) p.1, eTApiWord p.2))), (b2, Blk.mp ((mput s190.2.2.1 x329.gName y336).map fun p => ((fun s : ByteArray => Value.string s) p.1, eI64 p.2))), (b4, Blk.cells [.v (.map (some b2)), .v (.map (some b3)), .lst 2 (s190.2.1.map eTApiCell) (.cur z190)] 87), (b330, Blk.cells [.v (.string x329.gName), .v (.bool x329.gPtr), .v (.int .i64 x329.gSize), .v (.int .i64 x329.gAt)] 59)]) 1 htab rfl rfl rfl rfl rfl rfl rfl rfl rfl rfl mk83 (fun H v h => rep_v_inv h) (Wk.refl _) rfl ?_
        refine ops_n2 ?_
        refine pu ?_
        refine pu ?_
        refine ops_nt ?_
        obtain ⟨y354, q354, ho354⟩ := yes_bind hm
        refine wpD_mid (Y := Value) (fun z354 => (⟨[(3, .ptr b4 0), (14, .lst 4 (a0.gGlobals.map eTApiGlobal) .no), (15, .v (.int .i64 (a0.gGlobals.length : Int))), (16, .v (.int .i64 s190.1))], [(b3, Blk.mp (y354.2.map fun p => ((fun a => Value.agg (kcTApiCell a).toArray) p.1, eTApiWord p.2))), (b2, Blk.mp ((mput s190.2.2.1 x329.gName y336).map fun p => ((fun s : ByteArray => Value.string s) p.1, eI64 p.2))), (b4, Blk.cells [.v (.map (some b2)), .v (.map (some b3)), .lst 2 (y354.1.map eTApiCell) (.cur z354)] 87)], [(2, z354)]⟩ : S)) ?_ ?_
        ·clear hm; have hm := yes_of q354
         refine wpD_block ?_
         obtain ⟨u355, hl355, hq355⟩ := yes_m hm
         refine loop_M (Y := Value) hl355 (fun s355 z355 => (⟨[(3, .ptr b4 0), (5, .ptr b330 0), (14, .lst 4 (a0.gGlobals.map eTApiGlobal) .no), (15, .v (.int .i64 (a0.gGlobals.length : Int))), (16, .v (.int .i64 s190.1)), (45, .v (.int .i64 y336)), (46, .v (.int .i64 s355.1))], [(b3, Blk.mp (s355.2.2.map fun p => ((fun a => Value.agg (kcTApiCell a).toArray) p.1, eTApiWord p.2))), (b2, Blk.mp ((mput s190.2.2.1 x329.gName y336).map fun p => ((fun s : ByteArray => Value.string s) p.1, eI64 p.2))), (b4, Blk.cells [.v (.map (some b2)), .v (.map (some b3)), .lst 2 (s355.2.1.map eTApiCell) (.cur z355)] 87), (b330, Blk.cells [.v (.string x329.gName), .v (.bool x329.gPtr), .v (.int .i64 x329.gSize), .v (.int .i64 x329.gAt)] 59)], [(2, z355)]⟩ : S)) ?_ ?_
         ·skip
          exact WkX.of z190 (WkS.perm (WkS.cons rfl (Wk.refl _) (WkS.cons rfl (Wk.refl _) (WkS.cons rfl (Wk.refl _) (WkS.cons rfl (Wk.refl _) (WkS.cons rfl (Wk.refl _) (WkS.cons rfl (Wk.refl _) (WkS.cons rfl (Wk.refl _) (WkS.nil)))))))) Pf Pf)
         ·intro G355 s355 z355 hm
          refine wpD_sr ?_
          refine pu ?_
          refine ops_nt ?_
          refine wpD_seq ?_
          refine wpD_cond rfl (fun hc368 => ?_) (fun hc368 => ?_)
          ·replace hm := yes_t hc368 hm
           refine wpD_skip ?_
           refine then_normal ?_
           refine wpD_seq ?_
           refine wpD_block ?_
           refine wpD_sr ?_
           refine pu ?_
           refine pu ?_
           refine ops_n2 ?_
           refine pu ?_
           refine pL 3 ?_
           refine pu ?_
           refine p_build (r := [.v (.string x329.gName), .v (.int .i64 s355.1)]) htab rfl rfl rfl rfl rfl rfl rfl rfl rfl ?_
           refine p_alloc htab rfl rfl rfl rfl rfl rfl rfl (fun b369 => ?_)
           refine pS4 (ds' := [.v (.string x329.gName), .v (.int .i64 s355.1)]) ?_
           refine ops_nt ?_
           refine wpD_seq ?_
           refine wpD_draws 8 [] [[],[0],[0,1],[0,1,2],[],[],[5],[5]] [0,1,2,3,4,5,7] [[],[0],[0,1],[0,1,2],[],[],[5],[5,6],[0,1,2,3,4,5,6,7]] (by kernel_rfl) (by kernel_rfl) (by kernel_rfl) (by rfl) (by rfl) (by kernel_rfl) ?_
           iterate 7 apply Exists.intro
           intro bs
           iterate 3 refine zep ?_
           refine z_eM rfl rfl (xm_load 2 htab rfl rfl rfl rfl rfl) rfl rfl rfl rfl rfl rfl ?_
           refine z_eM rfl rfl (xm_load (d := eTApiCell (⟨x329.gName, s355.1⟩ : TApiCell)) 4 htab rfl rfl rfl rfl rfl) rfl rfl rfl rfl rfl rfl ?_
           refine zep ?_
           refine z_qM rfl rfl (xm_load 3 htab rfl rfl rfl rfl rfl) rfl rfl rfl rfl rfl rfl ?_
           refine z_e rfl rfl (x_build (r := [.v (.bool x329.gPtr), .v (.int .i64 (0 : Int)), .v (.string ByteArray.empty), .v (.int .i64 (0 : Int))]) htab rfl rfl rfl rfl rfl rfl) rfl rfl rfl rfl rfl rfl ?_
           refine z_nil rfl rfl (fun e he => by simp [isAl] at he) ?_
           refine p_mapUpdate (l := s355.2.2) (f := (fun a => Value.agg (kcTApiCell a).toArray)) (e := eTApiWord) (kk := (⟨x329.gName, s355.1⟩ : TApiCell)) (vv := (⟨x329.gPtr, (0 : Int), (⟨ByteArray.empty, (0 : Int)⟩ : TApiCell)⟩ : TApiWord)) (h' := [(b3, Blk.mp ((mput s355.2.2 (⟨x329.gName, s355.1⟩ : TApiCell) (⟨x329.gPtr, (0 : Int), (⟨ByteArray.empty, (0 : Int)⟩ : TApiCell)⟩ : TApiWord)).map fun p => ((fun a => Value.agg (kcTApiCell a).toArray) p.1, eTApiWord p.2))), (b2, Blk.mp ((mput s190.2.2.1 x329.gName y336).map fun p => ((fun s : ByteArray => Value.string s) p.1, eI64 p.2))), (b4, Blk.cells [.v (.map (some b2)), .v (.map (some b3)), .lst 2 (s355.2.1.map eTApiCell) (.cur z355)] 87), (b330, Blk.cells [.v (.string x329.gName), .v (.bool x329.gPtr), .v (.int .i64 x329.gSize), .v (.int .i64 x329.gAt)] 59), (b369, Blk.cells [.v (.string x329.gName), .v (.int .i64 s355.1)] 43)]) 0 htab rfl rfl rfl rfl rfl rfl rfl rfl rfl rfl mk84 (fun H v h => rep_va_inv (us := kcTApiCell (⟨x329.gName, s355.1⟩ : TApiCell)) h) (Wk.refl _) rfl ?_
           refine ops_nt ?_
           obtain ⟨x370, q370, hm⟩ := yes_bind hm
           refine wpD_app 8 [] [[],[],[1],[1,2],[1,2,3],[],[5],[1,2,3,4,5,6]] [0,1,2,3,4,5,6,7] [[],[],[1],[1,2],[1,2,3],[],[5],[1,2,3,4,5,6],[0,1,2,3,4,5,6,7],[0,1,2,3,4,5,6,7,8],[0,1,2,3,4,5,6,7,8,9]] 7 2 0 (by kernel_rfl) (by kernel_rfl) (by kernel_rfl) (by rfl) (by rfl) (by kernel_rfl) rfl ?_
           iterate 8 apply Exists.intro
           refine ⟨.any, ?_⟩
           intro bs v370
           iterate 4 refine zh_e rfl rfl (ex_pure htab rfl) rfl rfl rfl rfl rfl rfl rfl rfl ?_
           refine zh_M rfl rfl (fun _ => xm_load 2 htab rfl rfl rfl rfl rfl) (offB rfl) rfl rfl rfl rfl rfl rfl rfl rfl ?_
           refine zh_M rfl rfl (fun _ => xm_load (d := eTApiCell (⟨x329.gName, s355.1⟩ : TApiCell)) 4 htab rfl rfl rfl rfl rfl) (offB rfl) rfl rfl rfl rfl rfl rfl rfl rfl ?_
           refine zh_E rfl rfl (ExE.wk (x_lit htab rfl rfl rfl rfl rfl rfl rfl rfl rfl rfl rfl) (show Wk _ (.lst 2 (([(⟨x329.gName, s355.1⟩ : TApiCell)] : List TApiCell).map eTApiCell) .full) from Wk.lst0 (.cons (WkC.refl _) (.nil)))) rfl rfl rfl rfl rfl rfl rfl rfl ?_
           refine zh_app htab rfl rfl rfl rfl rfl rfl rfl rfl (rep_of rfl) rfl (app_kC rfl) (perm_at (j := 0) rfl) rfl rfl rfl rfl rfl rfl rfl rfl rfl (app_bound q370) (app_map q370) ?_
           refine zh_nil rfl rfl rfl rfl (fun e he => by simp [isAl] at he) ?_
           refine pu ?_
           refine pu ?_
           refine pS2 (ds' := [.v (.map (some b2)), .v (.map (some b3)), .lst 2 (x370.map eTApiCell) (.cur v370)]) ?_
           refine ops_nil ?_
           refine block_normal ?_
           refine then_normal ?_
           refine wpD_region ?_
           refine pu ?_
           refine pu ?_
           refine ops_nil ?_
           refine then_normal ⟨_, lp_next hm, ?_⟩
           exact WkX.of v370 (WkS.perm (WkS.cons rfl (Wk.refl _) (WkS.cons rfl (Wk.refl _) (WkS.cons rfl (Wk.refl _) (WkS.cons rfl (Wk.refl _) (WkS.cons rfl (Wk.refl _) (WkS.cons rfl (Wk.refl _) (WkS.cons rfl (Wk.refl _) (WkS.nil)))))))) Pf Pf)
          ·replace hm := yes_f hc368 hm
           refine wpD_exit ?_
           refine then_exit ?_
           have e355 := lp_done hm; subst e355; clear hm; have hm := hq355
           refine then_exit ?_
           refine block_hit ?_
           have e354 := yes_eq hm; subst e354
           refine ⟨rfl, ?_⟩
           exact WkX.of z355 (WkS.perm (WkS.cons rfl (Wk.refl _) (WkS.cons rfl (Wk.refl _) (WkS.cons rfl (Wk.refl _) (WkS.cons rfl (Wk.refl _) (WkS.nil))))) Pf Pf)
        ·intro s354 hw354; clear hm; have hm := ho354; clear q354 ho354
         refine block_normal ?_
         refine then_normal ?_
         refine wpD_wkX hw354 (fun z354 => ?_)
         refine wpD_region ?_
         refine pu ?_
         refine pu ?_
         refine ops_nil ?_
         refine then_normal ⟨_, lp_next hm, ?_⟩
         exact WkX.of z354 (WkS.perm (WkS.cons rfl (Wk.refl _) (WkS.cons rfl (Wk.refl _) (WkS.cons rfl (Wk.refl _) (WkS.cons rfl (Wk.refl _) (WkS.nil))))) Pf Pf)
    ·replace hm := yes_f hc328 hm
     refine wpD_exit ?_
     refine then_exit ?_
     have e190 := lp_done hm; subst e190; clear hm; have hm := hq190
     refine then_exit ?_
     refine block_hit ?_
     have e189 := yes_eq hm; subst e189
     refine ⟨rfl, ?_⟩
     exact WkX.of z190 (WkS.perm (WkS.cons rfl (Wk.refl _) (WkS.nil)) Pf Pf)
  ·intro s189 hw189; clear hm; have hm := ho189; clear q189 ho189
   refine then_normal ?_
   refine wpD_wkX hw189 (fun z189 => ?_)
   refine wpD_sr ?_
   refine pu ?_
   refine pu ?_
   refine ops_nt ?_
   refine wpD_ret ?_
   have er371 := yes_eq hm; subst er371
   refine rP (t' := [(2, .ptr b4 0)]) [2,1,0] [0] 3 (wC wN) (lT lN) ?_
   exact ⟨b4, b2, b3, z189, rfl, rfl, rfl⟩
noncomputable def mem_Mem_Place (m0 : TMemMem) (a1 : ByteArray) (a2 : Int) : Option (TApiCell × Int) :=
  (bif ((mgetD m0.gSizes a1 (0 : Int)) == (0 : Int)) then some ((⟨ByteArray.empty, (0 : Int)⟩ : TApiCell), (7 : Int)) else (Option.bind (α := Bool) (bif (decide (a2 < (0 : Int))) then some true else some (decide ((mgetD m0.gSizes a1 (0 : Int)) ≤ a2))) fun y11 => (bif y11 then some ((⟨ByteArray.empty, (0 : Int)⟩ : TApiCell), (11 : Int)) else some ((⟨a1, a2⟩ : TApiCell), (0 : Int)))))
set_option maxRecDepth 100000 in
set_option maxHeartbeats 2000000 in
theorem mem_Mem_Place_ok (m0 : TMemMem) (a1 : ByteArray) (a2 : Int) (o0 : Nat) (T0 : TypeId) (z0_0 : Nat) (z0_1 : Nat) (c0_2 : Cap) (r : TApiCell × Int) (h0 : mem_Mem_Place m0 a1 a2 = some r) : CallsD Try.prog 27 [.ptr o0 0, .v (.string a1), .v (.int .i64 a2)] [(o0, Blk.cells [.v (.map (some z0_0)), .v (.map (some z0_1)), .lst 2 (m0.gCells.map eTApiCell) c0_2] T0), (z0_0, Blk.mp (m0.gSizes.map fun p => ((fun s : ByteArray => Value.string s) p.1, eI64 p.2))), (z0_1, Blk.mp (m0.gWords.map fun p => ((fun a => Value.agg (kcTApiCell a).toArray) p.1, eTApiWord p.2)))] [] (fun d h k => d = .tup [eTApiCell r.1, .v (.int .i64 r.2)] ∧ h = [(o0, Blk.cells [.v (.map (some z0_0)), .v (.map (some z0_1)), .lst 2 (m0.gCells.map eTApiCell) c0_2] T0), (z0_0, Blk.mp (m0.gSizes.map fun p => ((fun s : ByteArray => Value.string s) p.1, eI64 p.2))), (z0_1, Blk.mp (m0.gWords.map fun p => ((fun a => Value.agg (kcTApiCell a).toArray) p.1, eTApiWord p.2)))] ∧ k = []) := by
  have hm := yes_of h0
  unfold mem_Mem_Place at hm
  clear h0
  refine enterX htab Try.func27 rfl rfl rfl rfl rfl (fun C => ?_)
  refine wpD_sr ?_
  refine p_alloc htab rfl rfl rfl rfl rfl rfl rfl (fun b1 => ?_)
  refine pu ?_
  refine ops_nt ?_
  refine wpD_seq ?_
  refine wpD_sr ?_
  refine pu ?_
  refine p_eqP htab rfl rfl rfl rfl rfl rfl rfl rfl rfl rfl ?_
  refine ops_nt ?_
  refine wpD_false rfl ?_
  refine wpD_skip ?_
  refine then_normal ?_
  refine wpD_sr ?_
  iterate 3 refine pu ?_
  refine pL 0 ?_
  refine pu ?_
  refine p_lookup (l := m0.gSizes) (f := (fun s : ByteArray => Value.string s)) (e := eI64) (kk := a1) (z := (0 : Int)) (dr := .v (.int .i64 (mgetD m0.gSizes a1 (0 : Int)))) 1 htab rfl rfl rfl rfl rfl rfl rfl rfl rfl rfl mk83 (fun H v h => rep_v_inv h) mz83 mr83 rfl ?_
  refine pu ?_
  refine ops_nt ?_
  refine wpD_seq ?_
  refine wpD_block ?_
  refine wpD_sr ?_
  iterate 3 refine pu ?_
  refine ops_nt ?_
  refine wpD_cond rfl (fun hc8 => ?_) (fun hc8 => ?_)
  ·replace hm := yes_t hc8 hm
   refine wpD_sr ?_
   refine p_build (r := [.v (.string ByteArray.empty), .v (.int .i64 (0 : Int))]) htab rfl rfl rfl rfl rfl rfl rfl rfl rfl ?_
   refine pS3 (ds' := [.v (.string ByteArray.empty), .v (.int .i64 (0 : Int))]) ?_
   refine pu ?_
   refine ops_nt ?_
   refine wpD_ret ?_
   refine block_ret ?_
   refine then_ret ?_
   have er9 := yes_eq hm; subst er9
   refine rP (t' := [(6, .ptr b1 0), (7, .v (.int .i64 (7 : Int)))]) [0,0,0,0] [] 3 (wC (wC wN)) (lC 3 (lT lN)) ?_
   exact ⟨rfl, rfl, rfl⟩
  ·replace hm := yes_f hc8 hm
   refine wpD_seq ?_
   obtain ⟨y11, q11, ho11⟩ := yes_bind hm
   refine wpD_mid (Y := Unit) (fun z11 => (⟨[(1, .v (.string a1)), (2, .v (.int .i64 a2)), (6, .ptr b1 0), (22, .v (.bool y11))], [(o0, Blk.cells [.v (.map (some z0_0)), .v (.map (some z0_1)), .lst 2 (m0.gCells.map eTApiCell) c0_2] T0), (z0_0, Blk.mp (m0.gSizes.map fun p => ((fun s : ByteArray => Value.string s) p.1, eI64 p.2))), (z0_1, Blk.mp (m0.gWords.map fun p => ((fun a => Value.agg (kcTApiCell a).toArray) p.1, eTApiWord p.2))), (b1, Blk.cells [.v (.string ByteArray.empty), .v (.int .i64 (0 : Int))] 43)], []⟩ : S)) ?_ ?_
   ·clear hm; have hm := yes_of q11
    refine wpD_region ?_
    iterate 3 refine pu ?_
    refine p_split (i := 25) rfl (fun hg12 => ?_) (fun hg12 => ?_)
    ·replace hm := yes_t hg12 hm
     iterate 3 refine pK ?_
     refine p_pickT rfl rfl rfl rfl rfl rfl ?_
     refine pu ?_
     refine ops_nil ?_
     have e11 := yes_eq hm; subst e11
     refine ⟨rfl, ?_⟩
     exact WkX.of () (WkS.perm (WkS.cons rfl (Wk.refl _) (WkS.cons rfl (Wk.refl _) (WkS.cons rfl (Wk.refl _) (WkS.cons rfl (Wk.refl _) (WkS.nil))))) Pf Pf)
    ·replace hm := yes_f hg12 hm
     iterate 3 refine pu ?_
     refine p_pickF rfl rfl rfl rfl rfl rfl ?_
     refine pu ?_
     refine ops_nil ?_
     have e11 := yes_eq hm; subst e11
     refine ⟨rfl, ?_⟩
     exact WkX.of () (WkS.perm (WkS.cons rfl (Wk.refl _) (WkS.cons rfl (Wk.refl _) (WkS.cons rfl (Wk.refl _) (WkS.cons rfl (Wk.refl _) (WkS.nil))))) Pf Pf)
   ·intro s11 hw11; clear hm; have hm := ho11; clear q11 ho11
    refine then_normal ?_
    refine wpD_wkX hw11 (fun z11 => ?_)
    refine wpD_cond rfl (fun hc14 => ?_) (fun hc14 => ?_)
    ·replace hm := yes_t hc14 hm
     refine wpD_sr ?_
     refine p_build (r := [.v (.string ByteArray.empty), .v (.int .i64 (0 : Int))]) htab rfl rfl rfl rfl rfl rfl rfl rfl rfl ?_
     refine pS3 (ds' := [.v (.string ByteArray.empty), .v (.int .i64 (0 : Int))]) ?_
     refine pu ?_
     refine ops_nt ?_
     refine wpD_ret ?_
     refine block_ret ?_
     refine then_ret ?_
     have er15 := yes_eq hm; subst er15
     refine rP (t' := [(6, .ptr b1 0), (7, .v (.int .i64 (11 : Int)))]) [0,0,0,0] [] 3 (wC (wC wN)) (lC 3 (lT lN)) ?_
     exact ⟨rfl, rfl, rfl⟩
    ·replace hm := yes_f hc14 hm
     refine wpD_skip ?_
     refine block_normal ?_
     refine then_normal ?_
     refine wpD_sr ?_
     refine pu ?_
     refine pu ?_
     refine p_build (r := [.v (.string a1), .v (.int .i64 a2)]) htab rfl rfl rfl rfl rfl rfl rfl rfl rfl ?_
     refine pS3 (ds' := [.v (.string a1), .v (.int .i64 a2)]) ?_
     refine pu ?_
     refine ops_nt ?_
     refine wpD_ret ?_
     have er16 := yes_eq hm; subst er16
     refine rP (t' := [(6, .ptr b1 0), (7, .v (.int .i64 (0 : Int)))]) [0,0,0,0] [] 3 (wC (wC wN)) (lC 3 (lT lN)) ?_
     exact ⟨rfl, rfl, rfl⟩
noncomputable def mem_Mem_known (m0 : TMemMem) (a1 : TApiCell) : Option (Int) :=
  (bif (decide (a1.gName = (ByteArray.mk #[]))) then some (12 : Int) else ((mem_Mem_Place m0 a1.gName a1.gAt).bind fun x5 => some x5.2))
set_option maxRecDepth 100000 in
set_option maxHeartbeats 2000000 in
theorem mem_Mem_known_ok (m0 : TMemMem) (a1 : TApiCell) (o0 : Nat) (T0 : TypeId) (z0_0 : Nat) (z0_1 : Nat) (c0_2 : Cap) (r : Int) (h0 : mem_Mem_known m0 a1 = some r) : CallsD Try.prog 22 [.ptr o0 0, eTApiCell a1] [(o0, Blk.cells [.v (.map (some z0_0)), .v (.map (some z0_1)), .lst 2 (m0.gCells.map eTApiCell) c0_2] T0), (z0_0, Blk.mp (m0.gSizes.map fun p => ((fun s : ByteArray => Value.string s) p.1, eI64 p.2))), (z0_1, Blk.mp (m0.gWords.map fun p => ((fun a => Value.agg (kcTApiCell a).toArray) p.1, eTApiWord p.2)))] [] (fun d h k => d = .v (.int .i64 r) ∧ h = [(o0, Blk.cells [.v (.map (some z0_0)), .v (.map (some z0_1)), .lst 2 (m0.gCells.map eTApiCell) c0_2] T0), (z0_0, Blk.mp (m0.gSizes.map fun p => ((fun s : ByteArray => Value.string s) p.1, eI64 p.2))), (z0_1, Blk.mp (m0.gWords.map fun p => ((fun a => Value.agg (kcTApiCell a).toArray) p.1, eTApiWord p.2)))] ∧ k = []) := by
  have hm := yes_of h0
  unfold mem_Mem_known at hm
  clear h0
  refine enterX htab Try.func22 rfl rfl rfl rfl rfl (fun C => ?_)
  refine wpD_sr ?_
  refine p_box rfl rfl rfl rfl rfl rfl rfl (fun b1 => ?_)
  refine pu ?_
  refine ops_nt ?_
  refine wpD_seq ?_
  refine wpD_sr ?_
  refine pu ?_
  refine p_eqP htab rfl rfl rfl rfl rfl rfl rfl rfl rfl rfl ?_
  refine pu ?_
  refine pu ?_
  refine pL 3 ?_
  refine pu ?_
  refine p_pickT rfl rfl rfl rfl rfl rfl ?_
  refine ops_nt ?_
  refine wpD_cond rfl (fun hc3 => ?_) (fun hc3 => ?_)
  ·replace hm := yes_t hc3 hm
   refine wpD_sr ?_
   refine pu ?_
   refine ops_nt ?_
   refine wpD_ret ?_
   refine then_ret ?_
   have er4 := yes_eq hm; subst er4
   refine rP (t' := [(4, .v (.int .i64 (12 : Int)))]) [0,0,0] [] 3 (wC wN) (lT lN) ?_
   exact ⟨rfl, rfl, rfl⟩
  ·replace hm := yes_f hc3 hm
   refine wpD_skip ?_
   refine then_normal ?_
   refine wpD_sr ?_
   refine pu ?_
   refine pu ?_
   refine pL 3 ?_
   refine pu ?_
   refine pL 3 ?_
   obtain ⟨x5, q5, hm⟩ := yes_bind hm
   refine pG (mem_Mem_Place_ok m0 a1.gName a1.gAt o0 T0 z0_0 z0_1 c0_2 x5 q5) Wl Pf Pf ?_
   rintro _ _ _ ⟨rfl, rfl, rfl⟩
   iterate 3 refine pu ?_
   refine p_alloc htab rfl rfl rfl rfl rfl rfl rfl (fun b6 => ?_)
   refine pS4 (ds' := [.v (.string x5.1.gName), .v (.int .i64 x5.1.gAt)]) ?_
   refine pu ?_
   refine ops_n2 ?_
   refine pu ?_
   refine pu ?_
   refine ops_nt ?_
   refine wpD_ret ?_
   have er7 := yes_eq hm; subst er7
   refine rP (t' := [(4, .v (.int .i64 x5.2))]) [0,0,0] [] 3 (wC wN) (lT lN) ?_
   exact ⟨rfl, rfl, rfl⟩
noncomputable def mem_Mem_Set (m0 : TMemMem) (a1 : TApiCell) (a2 : TApiWord) : Option (Int × TMemMem) :=
  ((mem_Mem_known m0 a1).bind fun x3 => (bif (x3 != (0 : Int)) then some (x3, m0) else (bif (!(((mgetD m0.gWords a1 (⟨false, (0 : Int), (⟨ByteArray.empty, (0 : Int)⟩ : TApiCell)⟩ : TApiWord)).gPtr) == a2.gPtr)) then some ((9 : Int), m0) else some ((0 : Int), (⟨m0.gSizes, (mput m0.gWords a1 a2), m0.gCells⟩ : TMemMem)))))
set_option maxRecDepth 100000 in
set_option maxHeartbeats 2000000 in
theorem mem_Mem_Set_ok (m0 : TMemMem) (a1 : TApiCell) (a2 : TApiWord) (o0 : Nat) (T0 : TypeId) (z0_0 : Nat) (z0_1 : Nat) (c0_2 : Cap) (r : Int × TMemMem) (h0 : mem_Mem_Set m0 a1 a2 = some r) : CallsD Try.prog 15 [.ptr o0 0, eTApiCell a1, eTApiWord a2] [(o0, Blk.cells [.v (.map (some z0_0)), .v (.map (some z0_1)), .lst 2 (m0.gCells.map eTApiCell) c0_2] T0), (z0_0, Blk.mp (m0.gSizes.map fun p => ((fun s : ByteArray => Value.string s) p.1, eI64 p.2))), (z0_1, Blk.mp (m0.gWords.map fun p => ((fun a => Value.agg (kcTApiCell a).toArray) p.1, eTApiWord p.2)))] [] (fun d h k => ∃ y0 y1, d = .v (.int .i64 r.1) ∧ h = [(o0, Blk.cells [.v (.map (some y0)), .v (.map (some y1)), .lst 2 (r.2.gCells.map eTApiCell) c0_2] T0), (y0, Blk.mp (r.2.gSizes.map fun p => ((fun s : ByteArray => Value.string s) p.1, eI64 p.2))), (y1, Blk.mp (r.2.gWords.map fun p => ((fun a => Value.agg (kcTApiCell a).toArray) p.1, eTApiWord p.2)))] ∧ k = []) := by
  have hm := yes_of h0
  unfold mem_Mem_Set at hm
  clear h0
  refine enterX htab Try.func15 rfl rfl rfl rfl rfl (fun C => ?_)
  refine wpD_sr ?_
  refine p_box rfl rfl rfl rfl rfl rfl rfl (fun b1 => ?_)
  refine p_box rfl rfl rfl rfl rfl rfl rfl (fun b2 => ?_)
  refine pu ?_
  refine ops_nt ?_
  refine wpD_seq ?_
  refine wpD_sr ?_
  refine pu ?_
  refine p_load (d := eTApiCell a1) 3 htab rfl rfl rfl rfl rfl rfl rfl rfl ?_
  obtain ⟨x3, q3, hm⟩ := yes_bind hm
  refine pG (mem_Mem_known_ok m0 a1 o0 T0 z0_0 z0_1 c0_2 x3 q3) Wl Pf Pf ?_
  rintro _ _ _ ⟨rfl, rfl, rfl⟩
  refine pu ?_
  refine ops_n2 ?_
  refine pu ?_
  refine pu ?_
  refine ops_nt ?_
  refine wpD_cond rfl (fun hc5 => ?_) (fun hc5 => ?_)
  ·replace hm := yes_t hc5 hm
   refine wpD_sr ?_
   refine pu ?_
   refine pu ?_
   refine ops_nt ?_
   refine wpD_ret ?_
   refine then_ret ?_
   have er6 := yes_eq hm; subst er6
   refine rP (t' := [(6, .v (.int .i64 x3))]) [0,0,0] [] 3 (wC wN) (lT lN) ?_
   exact ⟨z0_0, z0_1, rfl, rfl, rfl⟩
  ·replace hm := yes_f hc5 hm
   refine wpD_skip ?_
   refine then_normal ?_
   refine wpD_seq ?_
   refine wpD_seq ?_
   refine wpD_draws 9 [] [[],[0],[0,1],[0,1,2],[],[0,1,2,3,4],[0,1,2,3,4,5],[],[7]] [0,1,2,3,4,5,7] [[],[0],[0,1],[0,1,2],[],[0,1,2,3,4],[0,1,2,3,4,5],[],[7],[0,1,2,3,4,5,6,7,8]] (by kernel_rfl) (by kernel_rfl) (by kernel_rfl) (by rfl) (by rfl) (by kernel_rfl) ?_
   iterate 7 apply Exists.intro
   intro bs
   iterate 3 refine zep ?_
   refine z_eM rfl rfl (xm_load 0 htab rfl rfl rfl rfl rfl) rfl rfl rfl rfl rfl rfl ?_
   refine z_eM rfl rfl (xm_load (d := eTApiCell a1) 3 htab rfl rfl rfl rfl rfl) rfl rfl rfl rfl rfl rfl ?_
   refine z_eM rfl rfl ((xm_lookup (l := m0.gWords) (f := (fun a => Value.agg (kcTApiCell a).toArray)) (e := eTApiWord) (kk := a1) (z := (⟨false, (0 : Int), (⟨ByteArray.empty, (0 : Int)⟩ : TApiCell)⟩ : TApiWord)) (dr := eTApiWord (⟨(mgetD m0.gWords a1 (⟨false, (0 : Int), (⟨ByteArray.empty, (0 : Int)⟩ : TApiCell)⟩ : TApiWord)).gPtr, (mgetD m0.gWords a1 (⟨false, (0 : Int), (⟨ByteArray.empty, (0 : Int)⟩ : TApiCell)⟩ : TApiWord)).gN, ((mgetD m0.gWords a1 (⟨false, (0 : Int), (⟨ByteArray.empty, (0 : Int)⟩ : TApiCell)⟩ : TApiWord)).gTo)⟩ : TApiWord)) 2 htab rfl rfl rfl rfl rfl rfl rfl mk84 (fun H v h => rep_va_inv (us := kcTApiCell a1) h) mz84 mr84 rfl)) rfl rfl rfl rfl rfl rfl ?_
   refine zqp ?_
   refine zep ?_
   refine z_qM rfl rfl (xm_load 4 htab rfl rfl rfl rfl rfl) rfl rfl rfl rfl rfl rfl ?_
   refine z_nil rfl rfl (fun e he => by simp [isAl] at he) ?_
   refine pu ?_
   refine ops_nt ?_
   refine wpD_cond rfl (fun hc8 => ?_) (fun hc8 => ?_)
   ·replace hm := yes_t hc8 hm
    refine wpD_sr ?_
    refine pu ?_
    refine ops_nt ?_
    refine wpD_ret ?_
    refine then_ret ?_
    have er9 := yes_eq hm; subst er9
    refine rP (t' := [(6, .v (.int .i64 (9 : Int)))]) [0,0,0] [] 3 (wC wN) (lT lN) ?_
    exact ⟨z0_0, z0_1, rfl, rfl, rfl⟩
   ·replace hm := yes_f hc8 hm
    refine wpD_skip ?_
    refine then_normal ?_
    refine wpD_seq ?_
    refine wpD_draws 6 [] [[],[0],[0,1],[0,1,2],[],[]] [0,1,2,3,4,5] [[],[0],[0,1],[0,1,2],[],[],[0,1,2,3,4,5]] (by kernel_rfl) (by kernel_rfl) (by kernel_rfl) (by rfl) (by rfl) (by kernel_rfl) ?_
    iterate 6 apply Exists.intro
    intro bs
    iterate 3 refine zep ?_
    refine z_eM rfl rfl (xm_load 0 htab rfl rfl rfl rfl rfl) rfl rfl rfl rfl rfl rfl ?_
    refine z_eM rfl rfl (xm_load (d := eTApiCell a1) 3 htab rfl rfl rfl rfl rfl) rfl rfl rfl rfl rfl rfl ?_
    refine z_eM rfl rfl (xm_load (d := eTApiWord a2) 4 htab rfl rfl rfl rfl rfl) rfl rfl rfl rfl rfl rfl ?_
    refine z_nil rfl rfl (fun e he => by simp [isAl] at he) ?_
    refine p_mapUpdate (l := m0.gWords) (f := (fun a => Value.agg (kcTApiCell a).toArray)) (e := eTApiWord) (kk := a1) (vv := a2) (h' := [(o0, Blk.cells [.v (.map (some z0_0)), .v (.map (some z0_1)), .lst 2 (m0.gCells.map eTApiCell) c0_2] T0), (z0_0, Blk.mp (m0.gSizes.map fun p => ((fun s : ByteArray => Value.string s) p.1, eI64 p.2))), (z0_1, Blk.mp ((mput m0.gWords a1 a2).map fun p => ((fun a => Value.agg (kcTApiCell a).toArray) p.1, eTApiWord p.2))), (b1, Blk.cells [.v (.string a1.gName), .v (.int .i64 a1.gAt)] 43), (b2, Blk.cells [.v (.bool a2.gPtr), .v (.int .i64 a2.gN), .v (.string a2.gTo.gName), .v (.int .i64 a2.gTo.gAt)] 45)]) 2 htab rfl rfl rfl rfl rfl rfl rfl rfl rfl rfl mk84 (fun H v h => rep_va_inv (us := kcTApiCell a1) h) (Wk.refl _) rfl ?_
    refine ops_n2 ?_
    refine pu ?_
    refine ops_nt ?_
    refine wpD_ret ?_
    have er10 := yes_eq hm; subst er10
    refine rP (t' := [(6, .v (.int .i64 (0 : Int)))]) [0,0,0] [] 3 (wC wN) (lT lN) ?_
    exact ⟨z0_0, z0_1, rfl, rfl, rfl⟩
structure TApiEdge where
  gFrom : Int
  gTo : Int
  gKind : Int
  gName : ByteArray
  gFunc : ByteArray
  gExps : List TApiExpr
def eTApiEdge (x : TApiEdge) : D := .agg [.v (.int .i64 x.gFrom), .v (.int .i64 x.gTo), .v (.int .i64 x.gKind), .v (.string x.gName), .v (.string x.gFunc), .lst 5 (x.gExps.map eTApiExpr) .no]
structure TApiGraph where
  gFunc : ByteArray
  gNodes : Int
  gEdges : List TApiEdge
  gVars : List TApiVar
  gMany : Int
def eTApiGraph (x : TApiGraph) : D := .agg [.v (.string x.gFunc), .v (.int .i64 x.gNodes), .lst 6 (x.gEdges.map eTApiEdge) .no, .lst 2 (x.gVars.map eTApiVar) .no, .v (.int .i64 x.gMany)]
structure TEvalFrame where
  gVars : List TApiVar
  gWords : List TApiWord
noncomputable def eval_New (a0 : TApiGraph) (a1 : List TApiWord) : Option (TEvalFrame) :=
  ((slices_Clone_api_Var_api_Var a0.gVars).bind fun x3 => (Option.bind (α := List TApiWord) (loopM (fun (s50 : Int × List TApiWord) => (bif (decide (s50.1 < (a0.gVars.length : Int))) then ((idx a0.gVars s50.1).bind fun x81 => (Option.bind (α := Bool) (bif (decide (s50.1 < (a1.length : Int))) then some (decide (s50.1 < a0.gMany)) else some false) fun y85 => (Option.bind (α := Bool × Int × ByteArray × Int) (bif y85 then ((idx a1 s50.1).bind fun x91 => some (x91.gPtr, x91.gN, x91.gTo.gName, x91.gTo.gAt)) else some (x81.gPtr, (0 : Int), ByteArray.empty, (0 : Int))) fun y89 => ((app 40 s50.2 ([(⟨y89.1, y89.2.1, (⟨y89.2.2.1, y89.2.2.2⟩ : TApiCell)⟩ : TApiWord)] : List TApiWord)).bind fun x92 => some (.next ((IntKind.i64.wrap (s50.1 + (1 : Int))), x92)))))) else some (.done s50.2))) ((0 : Int), ([] : List TApiWord))) fun y49 => some (⟨x3, y49⟩ : TEvalFrame)))
set_option maxRecDepth 100000 in
set_option maxHeartbeats 2000000 in
theorem eval_New_ok (a0 : TApiGraph) (a1 : List TApiWord) (r : TEvalFrame) (h0 : eval_New a0 a1 = some r) : CallsD Try.prog 6 [eTApiGraph a0, .lst 4 (a1.map eTApiWord) .no] [] [] (fun d h k => ∃ y0 y1 y2, d = .ptr y0 0 ∧ h = [(y0, Blk.cells [.lst 2 (r.gVars.map eTApiVar) (.cur y1), .lst 4 (r.gWords.map eTApiWord) (.cur y2)] 81)] ∧ k = [(2, y1), (4, y2)]) := by
  have hm := yes_of h0
  unfold eval_New at hm
  clear h0
  refine enterX htab Try.func6 rfl rfl rfl rfl rfl (fun C => ?_)
  refine wpD_sr ?_
  refine p_box rfl rfl rfl rfl rfl rfl rfl (fun b1 => ?_)
  refine pu ?_
  refine ops_n2 ?_
  refine pu ?_
  refine pL 0 ?_
  obtain ⟨x3, q3, hm⟩ := yes_bind hm
  refine pG (slices_Clone_api_Var_api_Var_ok a0.gVars x3 q3) Wl Pf Pf ?_
  rintro _ _ _ ⟨w2, rfl, rfl, rfl⟩
  refine p_build (r := [.lst 2 (x3.map eTApiVar) (.cur w2), .lst 1 [] .full]) htab rfl rfl rfl rfl rfl rfl rfl rfl rfl ?_
  refine p_box rfl rfl rfl rfl rfl rfl rfl (fun b4 => ?_)
  refine pu ?_
  refine ops_nt ?_
  refine wpD_seq ?_
  refine wpD_sr ?_
  refine pu ?_
  refine pL 0 ?_
  refine p_lenL htab rfl rfl rfl rfl rfl rfl rfl (by first | exact map_len | rfl) ?_
  refine pu ?_
  refine ops_nt ?_
  obtain ⟨y49, q49, ho49⟩ := yes_bind hm
  refine wpD_mid (Y := Value) (fun z49 => (⟨[(5, .ptr b4 0)], [(b4, Blk.cells [.lst 2 (x3.map eTApiVar) (.cur w2), .lst 4 (y49.map eTApiWord) (.cur z49)] 81)], [(4, z49), (2, w2)]⟩ : S)) ?_ ?_
  ·clear hm; have hm := yes_of q49
   refine wpD_block ?_
   obtain ⟨u50, hl50, hq50⟩ := yes_m hm
   refine loop_M (Y := Value) hl50 (fun s50 z50 => (⟨[(1, .lst 4 (a1.map eTApiWord) .no), (2, .ptr b1 0), (5, .ptr b4 0), (15, .lst 2 (a0.gVars.map eTApiVar) .no), (16, .v (.int .i64 (a0.gVars.length : Int))), (17, .v (.int .i64 s50.1))], [(b1, Blk.cells [.v (.string a0.gFunc), .v (.int .i64 a0.gNodes), .lst 6 (a0.gEdges.map eTApiEdge) .no, .lst 2 (a0.gVars.map eTApiVar) .no, .v (.int .i64 a0.gMany)] 33), (b4, Blk.cells [.lst 2 (x3.map eTApiVar) (.cur w2), .lst 4 (s50.2.map eTApiWord) (.cur z50)] 81)], [(4, z50), (2, w2)]⟩ : S)) ?_ ?_
   ·skip
    refine WkX.cellF (off := 1) 4 1 rfl rfl (by first | exact Or.inl rfl | exact Or.inr rfl) (fun w79 => ?_)
    exact WkX.of w79 (WkS.perm (WkS.cons rfl (Wk.refl _) (WkS.cons rfl (Wk.refl _) (WkS.cons rfl (Wk.refl _) (WkS.cons rfl (Wk.refl _) (WkS.cons rfl (Wk.refl _) (WkS.cons rfl (Wk.refl _) (WkS.nil))))))) Pf Pf)
   ·intro G50 s50 z50 hm
    refine wpD_sr ?_
    refine pu ?_
    refine ops_nt ?_
    refine wpD_seq ?_
    refine wpD_cond rfl (fun hc80 => ?_) (fun hc80 => ?_)
    ·replace hm := yes_t hc80 hm
     refine wpD_skip ?_
     refine then_normal ?_
     refine wpD_seq ?_
     refine wpD_block ?_
     refine wpD_sr ?_
     refine pu ?_
     obtain ⟨x81, q81, hm⟩ := yes_bind hm
     refine p_elem htab rfl rfl rfl rfl rfl rfl rfl rfl rfl rfl (idx_nonneg q81) (idx_map q81) ?_
     refine p_loadEl (d := eTApiVar x81) htab rfl rfl rfl rfl rfl rfl rfl rfl ?_
     refine p_alloc htab rfl rfl rfl rfl rfl rfl rfl (fun b82 => ?_)
     refine pu ?_
     refine pS2 (ds' := [.v (.string x81.gName), .v (.bool x81.gPtr)]) ?_
     refine ops_n2 ?_
     refine pu ?_
     refine pL 2 ?_
     refine p_build (r := [.v (.bool x81.gPtr), .v (.int .i64 (0 : Int)), .v (.string ByteArray.empty), .v (.int .i64 (0 : Int))]) htab rfl rfl rfl rfl rfl rfl rfl rfl rfl ?_
     refine p_alloc htab rfl rfl rfl rfl rfl rfl rfl (fun b83 => ?_)
     refine pS3 (ds' := [.v (.bool x81.gPtr), .v (.int .i64 (0 : Int)), .v (.string ByteArray.empty), .v (.int .i64 (0 : Int))]) ?_
     refine ops_nt ?_
     refine wpD_seq ?_
     refine wpD_seq ?_
     obtain ⟨y85, q85, ho85⟩ := yes_bind hm
     refine wpD_mid (Y := Unit) (fun z85 => (⟨[(1, .lst 4 (a1.map eTApiWord) .no), (2, .ptr b1 0), (5, .ptr b4 0), (6, .v (.int .i64 s50.1)), (8, .ptr b83 0), (15, .lst 2 (a0.gVars.map eTApiVar) .no), (16, .v (.int .i64 (a0.gVars.length : Int))), (17, .v (.int .i64 s50.1)), (34, .v (.bool y85))], [(b1, Blk.cells [.v (.string a0.gFunc), .v (.int .i64 a0.gNodes), .lst 6 (a0.gEdges.map eTApiEdge) .no, .lst 2 (a0.gVars.map eTApiVar) .no, .v (.int .i64 a0.gMany)] 33), (b4, Blk.cells [.lst 2 (x3.map eTApiVar) (.cur w2), .lst 4 (s50.2.map eTApiWord) (.cur z50)] 81), (b83, Blk.cells [.v (.bool x81.gPtr), .v (.int .i64 (0 : Int)), .v (.string ByteArray.empty), .v (.int .i64 (0 : Int))] 45)], [(4, z50), (2, w2)]⟩ : S)) ?_ ?_
     ·clear hm; have hm := yes_of q85
      refine wpD_region ?_
      refine pu ?_
      refine pu ?_
      refine p_lenL htab rfl rfl rfl rfl rfl rfl rfl (by first | exact map_len | rfl) ?_
      refine pu ?_
      refine pu ?_
      refine p_split (i := 29) rfl (fun hg86 => ?_) (fun hg86 => ?_)
      ·replace hm := yes_t hg86 hm
       refine pu ?_
       refine pu ?_
       refine pL 0 ?_
       refine pu ?_
       refine p_pickT rfl rfl rfl rfl rfl rfl ?_
       refine ops_nil ?_
       have e85 := yes_eq hm; subst e85
       refine ⟨rfl, ?_⟩
       exact WkX.of () (WkS.perm (WkS.cons rfl (Wk.refl _) (WkS.cons rfl (Wk.refl _) (WkS.cons rfl (Wk.refl _) (WkS.cons rfl (Wk.refl _) (WkS.cons rfl (Wk.refl _) (WkS.cons rfl (Wk.refl _) (WkS.cons rfl (Wk.refl _) (WkS.cons rfl (Wk.refl _) (WkS.cons rfl (Wk.refl _) (WkS.nil)))))))))) ((perm_at (j := 0) rfl).trans (List.Perm.cons _ ((perm_at (j := 0) rfl).trans (List.Perm.cons _ ((perm_at (j := 1) rfl).trans (List.Perm.cons _ Pf)))))) Pf)
      ·replace hm := yes_f hg86 hm
       iterate 4 refine pK ?_
       refine p_pickF rfl rfl rfl rfl rfl rfl ?_
       refine ops_nil ?_
       have e85 := yes_eq hm; subst e85
       refine ⟨rfl, ?_⟩
       exact WkX.of () (WkS.perm (WkS.cons rfl (Wk.refl _) (WkS.cons rfl (Wk.refl _) (WkS.cons rfl (Wk.refl _) (WkS.cons rfl (Wk.refl _) (WkS.cons rfl (Wk.refl _) (WkS.cons rfl (Wk.refl _) (WkS.cons rfl (Wk.refl _) (WkS.cons rfl (Wk.refl _) (WkS.cons rfl (Wk.refl _) (WkS.nil)))))))))) ((perm_at (j := 0) rfl).trans (List.Perm.cons _ ((perm_at (j := 0) rfl).trans (List.Perm.cons _ ((perm_at (j := 1) rfl).trans (List.Perm.cons _ Pf)))))) Pf)
     ·intro s85 hw85; clear hm; have hm := ho85; clear q85 ho85
      refine then_normal ?_
      refine wpD_wkX hw85 (fun z85 => ?_)
      obtain ⟨y89, q89, ho89⟩ := yes_bind hm
      refine wpD_mid (Y := Unit) (fun z89 => (⟨[(1, .lst 4 (a1.map eTApiWord) .no), (2, .ptr b1 0), (5, .ptr b4 0), (8, .ptr b83 0), (15, .lst 2 (a0.gVars.map eTApiVar) .no), (16, .v (.int .i64 (a0.gVars.length : Int))), (17, .v (.int .i64 s50.1))], [(b1, Blk.cells [.v (.string a0.gFunc), .v (.int .i64 a0.gNodes), .lst 6 (a0.gEdges.map eTApiEdge) .no, .lst 2 (a0.gVars.map eTApiVar) .no, .v (.int .i64 a0.gMany)] 33), (b4, Blk.cells [.lst 2 (x3.map eTApiVar) (.cur w2), .lst 4 (s50.2.map eTApiWord) (.cur z50)] 81), (b83, Blk.cells [.v (.bool y89.1), .v (.int .i64 y89.2.1), .v (.string y89.2.2.1), .v (.int .i64 y89.2.2.2)] 45)], [(4, z50), (2, w2)]⟩ : S)) ?_ ?_
      ·clear hm; have hm := yes_of q89
       refine wpD_cond rfl (fun hc90 => ?_) (fun hc90 => ?_)
       ·replace hm := yes_t hc90 hm
        refine wpD_region ?_
        refine pu ?_
        refine pu ?_
        obtain ⟨x91, q91, hm⟩ := yes_bind hm
        refine p_elem htab rfl rfl rfl rfl rfl rfl rfl rfl rfl rfl (idx_nonneg q91) (idx_map q91) ?_
        refine p_loadEl (d := eTApiWord x91) htab rfl rfl rfl rfl rfl rfl rfl rfl ?_
        refine pS2 (ds' := [.v (.bool x91.gPtr), .v (.int .i64 x91.gN), .v (.string x91.gTo.gName), .v (.int .i64 x91.gTo.gAt)]) ?_
        refine ops_nil ?_
        have e89 := yes_eq hm; subst e89
        refine ⟨rfl, ?_⟩
        exact WkX.of () (WkS.perm (WkS.cons rfl (Wk.refl _) (WkS.cons rfl (Wk.refl _) (WkS.cons rfl (Wk.refl _) (WkS.cons rfl (Wk.refl _) (WkS.cons rfl (Wk.refl _) (WkS.cons rfl (Wk.refl _) (WkS.cons rfl (Wk.refl _) (WkS.nil)))))))) Pf Pf)
       ·replace hm := yes_f hc90 hm
        refine wpD_skip ?_
        have e89 := yes_eq hm; subst e89
        refine ⟨rfl, ?_⟩
        exact WkX.of () (WkS.perm (WkS.cons rfl (Wk.refl _) (WkS.cons rfl (Wk.refl _) (WkS.cons rfl (Wk.refl _) (WkS.cons rfl (Wk.refl _) (WkS.cons rfl (Wk.refl _) (WkS.cons rfl (Wk.refl _) (WkS.cons rfl (Wk.refl _) (WkS.nil)))))))) Pf Pf)
      ·intro s89 hw89; clear hm; have hm := ho89; clear q89 ho89
       refine then_normal ?_
       refine wpD_wkX hw89 (fun z89 => ?_)
       obtain ⟨x92, q92, hm⟩ := yes_bind hm
       refine wpD_app 8 [] [[],[],[1],[1,2],[1,2,3],[],[5],[1,2,3,4,5,6]] [0,1,2,3,4,5,6,7] [[],[],[1],[1,2],[1,2,3],[],[5],[1,2,3,4,5,6],[0,1,2,3,4,5,6,7],[0,1,2,3,4,5,6,7,8],[0,1,2,3,4,5,6,7,8,9]] 7 4 0 (by kernel_rfl) (by kernel_rfl) (by kernel_rfl) (by rfl) (by rfl) (by kernel_rfl) rfl ?_
       iterate 8 apply Exists.intro
       refine ⟨.any, ?_⟩
       intro bs v92
       iterate 4 refine zh_e rfl rfl (ex_pure htab rfl) rfl rfl rfl rfl rfl rfl rfl rfl ?_
       refine zh_M rfl rfl (fun _ => xm_load 1 htab rfl rfl rfl rfl rfl) (offB rfl) rfl rfl rfl rfl rfl rfl rfl rfl ?_
       refine zh_M rfl rfl (fun _ => xm_load (d := eTApiWord (⟨y89.1, y89.2.1, (⟨y89.2.2.1, y89.2.2.2⟩ : TApiCell)⟩ : TApiWord)) 2 htab rfl rfl rfl rfl rfl) (offB rfl) rfl rfl rfl rfl rfl rfl rfl rfl ?_
       refine zh_E rfl rfl (ExE.wk (x_lit htab rfl rfl rfl rfl rfl rfl rfl rfl rfl rfl rfl) (show Wk _ (.lst 4 (([(⟨y89.1, y89.2.1, (⟨y89.2.2.1, y89.2.2.2⟩ : TApiCell)⟩ : TApiWord)] : List TApiWord).map eTApiWord) .full) from Wk.lst0 (.cons (WkC.refl _) (.nil)))) rfl rfl rfl rfl rfl rfl rfl rfl ?_
       refine zh_app htab rfl rfl rfl rfl rfl rfl rfl rfl (rep_of rfl) rfl (app_kC rfl) (perm_at (j := 0) rfl) rfl rfl rfl rfl rfl rfl rfl rfl rfl (app_bound q92) (app_map q92) ?_
       refine zh_nil rfl rfl rfl rfl (fun e he => by simp [isAl] at he) ?_
       refine pu ?_
       refine pu ?_
       refine pS1 (ds' := [.lst 2 (x3.map eTApiVar) (.cur w2), .lst 4 (x92.map eTApiWord) (.cur v92)]) ?_
       refine ops_nil ?_
       refine block_normal ?_
       refine then_normal ?_
       refine wpD_region ?_
       refine pu ?_
       refine pu ?_
       refine ops_nil ?_
       refine then_normal ⟨_, lp_next hm, ?_⟩
       exact WkX.of v92 (WkS.perm (WkS.cons rfl (Wk.refl _) (WkS.cons rfl (Wk.refl _) (WkS.cons rfl (Wk.refl _) (WkS.cons rfl (Wk.refl _) (WkS.cons rfl (Wk.refl _) (WkS.cons rfl (Wk.refl _) (WkS.nil))))))) Pf Pf)
    ·replace hm := yes_f hc80 hm
     refine wpD_exit ?_
     refine then_exit ?_
     have e50 := lp_done hm; subst e50; clear hm; have hm := hq50
     refine then_exit ?_
     refine block_hit ?_
     have e49 := yes_eq hm; subst e49
     refine ⟨rfl, ?_⟩
     exact WkX.of z50 (WkS.perm (WkS.cons rfl (Wk.refl _) (WkS.nil)) ((perm_at (j := 1) rfl).trans (List.Perm.cons _ Pf)) Pf)
  ·intro s49 hw49; clear hm; have hm := ho49; clear q49 ho49
   refine then_normal ?_
   refine wpD_wkX hw49 (fun z49 => ?_)
   refine wpD_sr ?_
   refine pu ?_
   refine pu ?_
   refine ops_nt ?_
   refine wpD_ret ?_
   have er93 := yes_eq hm; subst er93
   refine rP (t' := [(4, .ptr b4 0)]) [0] [1,0] 1 (wC wN) (lT lN) ?_
   exact ⟨b4, w2, z49, rfl, rfl, rfl⟩
noncomputable def eval_needs (a0 : Int) : Option (Int) :=
  (Option.bind (α := (Unit) ⊕ (Int)) (Option.bind (α := Bool) (bif (a0 == (1 : Int)) then some (a0 == (1 : Int)) else (Option.bind (α := Bool) (bif (a0 == (2 : Int)) then some (a0 == (2 : Int)) else (Option.bind (α := Bool) (bif (a0 == (4 : Int)) then some (a0 == (4 : Int)) else (Option.bind (α := Bool) (bif (a0 == (18 : Int)) then some (a0 == (18 : Int)) else some (a0 == (19 : Int))) fun y44 => some y44)) fun y41 => some y41)) fun y37 => some y37)) fun y32 => (Option.bind (α := (Unit) ⊕ (Int)) (bif y32 then some (.inr (0 : Int)) else (Option.bind (α := Bool) (bif (a0 == (3 : Int)) then some (a0 == (3 : Int)) else (Option.bind (α := Bool) (bif (a0 == (20 : Int)) then some (a0 == (20 : Int)) else (Option.bind (α := Bool) (bif (a0 == (5 : Int)) then some (a0 == (5 : Int)) else some (a0 == (6 : Int))) fun y67 => some y67)) fun y64 => some y64)) fun y60 => (bif y60 then some (.inr (1 : Int)) else some (.inl ())))) (Sum.elim (fun y54 => some (.inl ())) (fun r => some (.inr r))))) (Sum.elim (fun y27 => (bif (decide ((7 : Int) ≤ a0)) then (bif (decide (a0 ≤ (17 : Int))) then some (2 : Int) else some (-1 : Int)) else some (-1 : Int))) (fun r => some r)))
set_option maxRecDepth 100000 in
set_option maxHeartbeats 2000000 in
theorem eval_needs_ok (a0 : Int) (r : Int) (h0 : eval_needs a0 = some r) : CallsD Try.prog 28 [.v (.int .i64 a0)] [] [] (fun d h k => d = .v (.int .i64 r) ∧ h = [] ∧ k = []) := by
  have hm := yes_of h0
  unfold eval_needs at hm
  clear h0
  refine enterX htab Try.func28 rfl rfl rfl rfl rfl (fun C => ?_)
  refine wpD_sr ?_
  refine pu ?_
  refine ops_nt ?_
  refine wpD_seq ?_
  refine wpD_sr ?_
  refine pu ?_
  refine ops_nt ?_
  obtain ⟨x27, q27, ho27⟩ := yes_bind hm
  refine wpD_midX (τ := Unit) (Y := Unit) (fun y27 z27 => (⟨[(0, .v (.int .i64 a0))], [], []⟩ : S)) x27 ?_ ?_
  ·clear hm; have hm := yes_of q27
   refine wpD_block ?_
   refine wpD_seq ?_
   refine wpD_sr ?_
   refine pu ?_
   refine pu ?_
   refine ops_nt ?_
   obtain ⟨y32, q32, ho32⟩ := yes_bind hm
   refine wpD_mid (Y := Unit) (fun z32 => (⟨[(0, .v (.int .i64 a0)), (3, .v (.int .i64 a0)), (4, .v (.bool y32))], [], []⟩ : S)) ?_ ?_
   ·clear hm; have hm := yes_of q32
    refine wpD_cond rfl (fun hc33 => ?_) (fun hc33 => ?_)
    ·replace hm := yes_t hc33 hm
     refine wpD_skip ?_
     have e32 := yes_eq hm; subst e32
     refine ⟨rfl, ?_⟩
     exact WkX.of () (WkS.perm (WkS.cons rfl (Wk.refl _) (WkS.cons rfl (Wk.refl _) (WkS.cons rfl (Wk.refl _) (WkS.nil)))) Pf Pf)
    ·replace hm := yes_f hc33 hm
     refine wpD_sr ?_
     refine pu ?_
     refine pu ?_
     refine ops_nt ?_
     obtain ⟨y37, q37, ho37⟩ := yes_bind hm
     refine wpD_mid (Y := Unit) (fun z37 => (⟨[(0, .v (.int .i64 a0)), (3, .v (.int .i64 a0)), (4, .v (.bool y37))], [], []⟩ : S)) ?_ ?_
     ·clear hm; have hm := yes_of q37
      refine wpD_cond rfl (fun hc38 => ?_) (fun hc38 => ?_)
      ·replace hm := yes_t hc38 hm
       refine wpD_skip ?_
       have e37 := yes_eq hm; subst e37
       refine ⟨rfl, ?_⟩
       exact WkX.of () (WkS.perm (WkS.cons rfl (Wk.refl _) (WkS.cons rfl (Wk.refl _) (WkS.cons rfl (Wk.refl _) (WkS.nil)))) Pf Pf)
      ·replace hm := yes_f hc38 hm
       refine wpD_sr ?_
       refine pu ?_
       refine pu ?_
       refine ops_nt ?_
       obtain ⟨y41, q41, ho41⟩ := yes_bind hm
       refine wpD_mid (Y := Unit) (fun z41 => (⟨[(0, .v (.int .i64 a0)), (3, .v (.int .i64 a0)), (4, .v (.bool y41))], [], []⟩ : S)) ?_ ?_
       ·clear hm; have hm := yes_of q41
        refine wpD_cond rfl (fun hc42 => ?_) (fun hc42 => ?_)
        ·replace hm := yes_t hc42 hm
         refine wpD_skip ?_
         have e41 := yes_eq hm; subst e41
         refine ⟨rfl, ?_⟩
         exact WkX.of () (WkS.perm (WkS.cons rfl (Wk.refl _) (WkS.cons rfl (Wk.refl _) (WkS.cons rfl (Wk.refl _) (WkS.nil)))) Pf Pf)
        ·replace hm := yes_f hc42 hm
         refine wpD_sr ?_
         refine pu ?_
         refine pu ?_
         refine ops_nt ?_
         obtain ⟨y44, q44, ho44⟩ := yes_bind hm
         refine wpD_mid (Y := Unit) (fun z44 => (⟨[(0, .v (.int .i64 a0)), (3, .v (.int .i64 a0)), (4, .v (.bool y44))], [], []⟩ : S)) ?_ ?_
         ·clear hm; have hm := yes_of q44
          refine wpD_cond rfl (fun hc45 => ?_) (fun hc45 => ?_)
          ·replace hm := yes_t hc45 hm
           refine wpD_skip ?_
           have e44 := yes_eq hm; subst e44
           refine ⟨rfl, ?_⟩
           exact WkX.of () (WkS.perm (WkS.cons rfl (Wk.refl _) (WkS.cons rfl (Wk.refl _) (WkS.cons rfl (Wk.refl _) (WkS.nil)))) Pf Pf)
          ·replace hm := yes_f hc45 hm
           refine wpD_region ?_
           refine pu ?_
           refine pu ?_
           refine ops_nil ?_
           have e44 := yes_eq hm; subst e44
           refine ⟨rfl, ?_⟩
           exact WkX.of () (WkS.perm (WkS.cons rfl (Wk.refl _) (WkS.cons rfl (Wk.refl _) (WkS.cons rfl (Wk.refl _) (WkS.nil)))) Pf Pf)
         ·intro s44 hw44; clear hm; have hm := ho44; clear q44 ho44
          have e41 := yes_eq hm; subst e41
          refine ⟨rfl, ?_⟩
          refine WkX.trans hw44 (fun z44 => ?_)
          exact WkX.of () (WkS.perm (WkS.cons rfl (Wk.refl _) (WkS.cons rfl (Wk.refl _) (WkS.cons rfl (Wk.refl _) (WkS.nil)))) Pf Pf)
       ·intro s41 hw41; clear hm; have hm := ho41; clear q41 ho41
        have e37 := yes_eq hm; subst e37
        refine ⟨rfl, ?_⟩
        refine WkX.trans hw41 (fun z41 => ?_)
        exact WkX.of () (WkS.perm (WkS.cons rfl (Wk.refl _) (WkS.cons rfl (Wk.refl _) (WkS.cons rfl (Wk.refl _) (WkS.nil)))) Pf Pf)
     ·intro s37 hw37; clear hm; have hm := ho37; clear q37 ho37
      have e32 := yes_eq hm; subst e32
      refine ⟨rfl, ?_⟩
      refine WkX.trans hw37 (fun z37 => ?_)
      exact WkX.of () (WkS.perm (WkS.cons rfl (Wk.refl _) (WkS.cons rfl (Wk.refl _) (WkS.cons rfl (Wk.refl _) (WkS.nil)))) Pf Pf)
   ·intro s32 hw32; clear hm; have hm := ho32; clear q32 ho32
    refine then_normal ?_
    refine wpD_wkX hw32 (fun z32 => ?_)
    obtain ⟨x54, q54, ho54⟩ := yes_bind hm
    refine wpD_midX (τ := Unit) (Y := Unit) (fun y54 z54 => (⟨[(0, .v (.int .i64 a0))], [], []⟩ : S)) x54 ?_ ?_
    ·clear hm; have hm := yes_of q54
     refine wpD_cond rfl (fun hc55 => ?_) (fun hc55 => ?_)
     ·replace hm := yes_t hc55 hm
      refine wpD_sr ?_
      refine pu ?_
      refine ops_nt ?_
      refine wpD_ret ?_
      have e54 := yes_eq hm; subst e54; refine midX_inr ?_; clear hm; have hm := ho54; simp only [Sum.elim_inr] at hm
      refine block_ret ?_
      have e27 := yes_eq hm; subst e27; refine midX_inr ?_; clear hm; have hm := ho27; simp only [Sum.elim_inr] at hm
      refine then_ret ?_
      have er56 := yes_eq hm; subst er56
      refine rP (t' := [(2, .v (.int .i64 (0 : Int)))]) [] [] 0 (wC wN) (lT lN) ?_
      exact ⟨rfl, rfl, rfl⟩
     ·replace hm := yes_f hc55 hm
      refine wpD_seq ?_
      refine wpD_sr ?_
      refine pu ?_
      refine pu ?_
      refine ops_nt ?_
      obtain ⟨y60, q60, ho60⟩ := yes_bind hm
      refine wpD_mid (Y := Unit) (fun z60 => (⟨[(0, .v (.int .i64 a0)), (10, .v (.bool y60))], [], []⟩ : S)) ?_ ?_
      ·clear hm; have hm := yes_of q60
       refine wpD_cond rfl (fun hc61 => ?_) (fun hc61 => ?_)
       ·replace hm := yes_t hc61 hm
        refine wpD_skip ?_
        have e60 := yes_eq hm; subst e60
        refine ⟨rfl, ?_⟩
        exact WkX.of () (WkS.perm (WkS.cons rfl (Wk.refl _) (WkS.cons rfl (Wk.refl _) (WkS.nil))) Pf Pf)
       ·replace hm := yes_f hc61 hm
        refine wpD_sr ?_
        refine pu ?_
        refine pu ?_
        refine ops_nt ?_
        obtain ⟨y64, q64, ho64⟩ := yes_bind hm
        refine wpD_mid (Y := Unit) (fun z64 => (⟨[(0, .v (.int .i64 a0)), (10, .v (.bool y64))], [], []⟩ : S)) ?_ ?_
        ·clear hm; have hm := yes_of q64
         refine wpD_cond rfl (fun hc65 => ?_) (fun hc65 => ?_)
         ·replace hm := yes_t hc65 hm
          refine wpD_skip ?_
          have e64 := yes_eq hm; subst e64
          refine ⟨rfl, ?_⟩
          exact WkX.of () (WkS.perm (WkS.cons rfl (Wk.refl _) (WkS.cons rfl (Wk.refl _) (WkS.nil))) Pf Pf)
         ·replace hm := yes_f hc65 hm
          refine wpD_sr ?_
          refine pu ?_
          refine pu ?_
          refine ops_nt ?_
          obtain ⟨y67, q67, ho67⟩ := yes_bind hm
          refine wpD_mid (Y := Unit) (fun z67 => (⟨[(0, .v (.int .i64 a0)), (10, .v (.bool y67))], [], []⟩ : S)) ?_ ?_
          ·clear hm; have hm := yes_of q67
           refine wpD_cond rfl (fun hc68 => ?_) (fun hc68 => ?_)
           ·replace hm := yes_t hc68 hm
            refine wpD_skip ?_
            have e67 := yes_eq hm; subst e67
            refine ⟨rfl, ?_⟩
            exact WkX.of () (WkS.perm (WkS.cons rfl (Wk.refl _) (WkS.cons rfl (Wk.refl _) (WkS.nil))) Pf Pf)
           ·replace hm := yes_f hc68 hm
            refine wpD_region ?_
            refine pu ?_
            refine pu ?_
            refine ops_nil ?_
            have e67 := yes_eq hm; subst e67
            refine ⟨rfl, ?_⟩
            exact WkX.of () (WkS.perm (WkS.cons rfl (Wk.refl _) (WkS.cons rfl (Wk.refl _) (WkS.nil))) Pf Pf)
          ·intro s67 hw67; clear hm; have hm := ho67; clear q67 ho67
           have e64 := yes_eq hm; subst e64
           refine ⟨rfl, ?_⟩
           refine WkX.trans hw67 (fun z67 => ?_)
           exact WkX.of () (WkS.perm (WkS.cons rfl (Wk.refl _) (WkS.cons rfl (Wk.refl _) (WkS.nil))) Pf Pf)
        ·intro s64 hw64; clear hm; have hm := ho64; clear q64 ho64
         have e60 := yes_eq hm; subst e60
         refine ⟨rfl, ?_⟩
         refine WkX.trans hw64 (fun z64 => ?_)
         exact WkX.of () (WkS.perm (WkS.cons rfl (Wk.refl _) (WkS.cons rfl (Wk.refl _) (WkS.nil))) Pf Pf)
      ·intro s60 hw60; clear hm; have hm := ho60; clear q60 ho60
       refine then_normal ?_
       refine wpD_wkX hw60 (fun z60 => ?_)
       refine wpD_cond rfl (fun hc70 => ?_) (fun hc70 => ?_)
       ·replace hm := yes_t hc70 hm
        refine wpD_sr ?_
        refine pu ?_
        refine ops_nt ?_
        refine wpD_ret ?_
        have e54 := yes_eq hm; subst e54; refine midX_inr ?_; clear hm; have hm := ho54; simp only [Sum.elim_inr] at hm
        refine block_ret ?_
        have e27 := yes_eq hm; subst e27; refine midX_inr ?_; clear hm; have hm := ho27; simp only [Sum.elim_inr] at hm
        refine then_ret ?_
        have er71 := yes_eq hm; subst er71
        refine rP (t' := [(2, .v (.int .i64 (1 : Int)))]) [] [] 0 (wC wN) (lT lN) ?_
        exact ⟨rfl, rfl, rfl⟩
       ·replace hm := yes_f hc70 hm
        refine wpD_skip ?_
        have e54 := yes_eq hm; subst e54
        refine midX_inl ?_
        exact WkX.of () (WkS.perm (WkS.cons rfl (Wk.refl _) (WkS.nil)) Pf Pf)
    ·intro y54 s54 hx54 hw54; subst hx54; clear hm; have hm := ho54; simp only [Sum.elim_inl] at hm; clear q54 ho54
     refine block_normal ?_
     have e27 := yes_eq hm; subst e27
     refine midX_inl ?_
     refine WkX.trans hw54 (fun z54 => ?_)
     exact WkX.of () (WkS.perm (WkS.cons rfl (Wk.refl _) (WkS.nil)) Pf Pf)
  ·intro y27 s27 hx27 hw27; subst hx27; clear hm; have hm := ho27; simp only [Sum.elim_inl] at hm; clear q27 ho27
   refine then_normal ?_
   refine wpD_wkX hw27 (fun z27 => ?_)
   refine wpD_seq ?_
   refine wpD_sr ?_
   iterate 3 refine pu ?_
   refine p_split (i := 17) rfl (fun hg72 => ?_) (fun hg72 => ?_)
   ·replace hm := yes_t hg72 hm
    refine pu ?_
    refine pu ?_
    refine p_pickT rfl rfl rfl rfl rfl rfl ?_
    refine ops_nt ?_
    refine wpD_cond rfl (fun hc73 => ?_) (fun hc73 => ?_)
    ·replace hm := yes_t hc73 hm
     refine wpD_sr ?_
     refine pu ?_
     refine ops_nt ?_
     refine wpD_ret ?_
     refine then_ret ?_
     have er74 := yes_eq hm; subst er74
     refine rP (t' := [(2, .v (.int .i64 (2 : Int)))]) [] [] 0 (wC wN) (lT lN) ?_
     exact ⟨rfl, rfl, rfl⟩
    ·replace hm := yes_f hc73 hm
     refine wpD_skip ?_
     refine then_normal ?_
     refine wpD_sr ?_
     refine pu ?_
     refine ops_nt ?_
     refine wpD_ret ?_
     have er75 := yes_eq hm; subst er75
     refine rP (t' := [(2, .v (.int .i64 (-1 : Int)))]) [] [] 0 (wC wN) (lT lN) ?_
     exact ⟨rfl, rfl, rfl⟩
   ·replace hm := yes_f hg72 hm
    refine pK ?_
    refine pK ?_
    refine p_pickF rfl rfl rfl rfl rfl rfl ?_
    refine ops_nt ?_
    refine wpD_false rfl ?_
    refine wpD_skip ?_
    refine then_normal ?_
    refine wpD_sr ?_
    refine pu ?_
    refine ops_nt ?_
    refine wpD_ret ?_
    have er76 := yes_eq hm; subst er76
    refine rP (t' := [(2, .v (.int .i64 (-1 : Int)))]) [] [] 0 (wC wN) (lT lN) ?_
    exact ⟨rfl, rfl, rfl⟩
noncomputable def eval_num (a0 : Int) (a1 : Int) : Option (TApiWord × Int) :=
  some ((⟨false, a0, (⟨ByteArray.empty, (0 : Int)⟩ : TApiCell)⟩ : TApiWord), a1)
set_option maxRecDepth 100000 in
set_option maxHeartbeats 2000000 in
theorem eval_num_ok (a0 : Int) (a1 : Int) (r : TApiWord × Int) (h0 : eval_num a0 a1 = some r) : CallsD Try.prog 33 [.v (.int .i64 a0), .v (.int .i64 a1)] [] [] (fun d h k => d = .tup [eTApiWord r.1, .v (.int .i64 r.2)] ∧ h = [] ∧ k = []) := by
  have hm := yes_of h0
  unfold eval_num at hm
  clear h0
  refine enterX htab Try.func33 rfl rfl rfl rfl rfl (fun C => ?_)
  refine wpD_sr ?_
  refine p_alloc htab rfl rfl rfl rfl rfl rfl rfl (fun b1 => ?_)
  refine pu ?_
  refine ops_n2 ?_
  refine pu ?_
  refine p_build (r := [.v (.bool false), .v (.int .i64 a0), .v (.string ByteArray.empty), .v (.int .i64 (0 : Int))]) htab rfl rfl rfl rfl rfl rfl rfl rfl rfl ?_
  refine pu ?_
  refine pS0 (ds' := [.v (.bool false), .v (.int .i64 a0), .v (.string ByteArray.empty), .v (.int .i64 (0 : Int))]) ?_
  refine pu ?_
  refine ops_nt ?_
  refine wpD_ret ?_
  have er2 := yes_eq hm; subst er2
  refine rP (t' := [(4, .ptr b1 0), (5, .v (.int .i64 a1))]) [0] [] 0 (wC (wC wN)) (lC 0 (lT lN)) ?_
  exact ⟨rfl, rfl, rfl⟩
noncomputable def eval_Frame_place_1 (a0 : TApiVar) (m0 : ByteArray) : Option (Bool) :=
  some (decide (a0.gName = m0))
set_option maxRecDepth 100000 in
set_option maxHeartbeats 2000000 in
theorem eval_Frame_place_1_ok (a0 : TApiVar) (m0 : ByteArray) (o0 : Nat) (T0 : TypeId) (r : Bool) (h0 : eval_Frame_place_1 a0 m0 = some r) : CallsD Try.prog 26 [eTApiVar a0, .ptr o0 0] [(o0, Blk.cells [.v (.string m0)] T0)] [] (fun d h k => d = .v (.bool r) ∧ h = [(o0, Blk.cells [.v (.string m0)] T0)] ∧ k = []) := by
  have hm := yes_of h0
  unfold eval_Frame_place_1 at hm
  clear h0
  refine enterX htab Try.func26 rfl rfl rfl rfl rfl (fun C => ?_)
  refine wpD_sr ?_
  refine p_box rfl rfl rfl rfl rfl rfl rfl (fun b1 => ?_)
  refine pu ?_
  refine ops_n2 ?_
  refine pu ?_
  refine pL 1 ?_
  refine pL 0 ?_
  refine pu ?_
  refine pu ?_
  refine ops_nt ?_
  refine wpD_ret ?_
  have er2 := yes_eq hm; subst er2
  refine rP (t' := [(3, .v (.bool (decide (a0.gName = m0))))]) [0] [] 1 (wC wN) (lT lN) ?_
  exact ⟨rfl, rfl, rfl⟩
noncomputable def slices_IndexFunc_api_Var_api_Var (a0 : List TApiVar) (m0 : ByteArray) : Option (Int) :=
  (Option.bind (α := (Unit) ⊕ (Int)) (loopM (fun (s18 : Int) => (bif (decide (s18 < (a0.length : Int))) then ((idx a0 s18).bind fun x30 => ((eval_Frame_place_1 x30 m0).bind fun x31 => (bif x31 then some (.done (.inr s18)) else some (.next (IntKind.i64.wrap (s18 + (1 : Int))))))) else some (.done (.inl ())))) (0 : Int)) (Sum.elim (fun y17 => some (-1 : Int)) (fun r => some r)))
set_option maxRecDepth 100000 in
set_option maxHeartbeats 2000000 in
theorem slices_IndexFunc_api_Var_api_Var_ok (a0 : List TApiVar) (m0 : ByteArray) (o0 : Nat) (T0 : TypeId) (r : Int) (h0 : slices_IndexFunc_api_Var_api_Var a0 m0 = some r) : CallsD Try.prog 25 [.lst 2 (a0.map eTApiVar) .no, .fn (.func 26) [] [.ptr o0 0]] [(o0, Blk.cells [.v (.string m0)] T0)] [] (fun d h k => d = .v (.int .i64 r) ∧ h = [(o0, Blk.cells [.v (.string m0)] T0)] ∧ k = []) := by
  have hm := yes_of h0
  unfold slices_IndexFunc_api_Var_api_Var at hm
  clear h0
  refine enterX htab Try.func25 rfl rfl rfl rfl rfl (fun C => ?_)
  refine wpD_sr ?_
  refine pu ?_
  refine ops_nt ?_
  refine wpD_seq ?_
  refine wpD_sr ?_
  refine pu ?_
  refine p_lenL htab rfl rfl rfl rfl rfl rfl rfl (by first | exact map_len | rfl) ?_
  refine pu ?_
  refine ops_nt ?_
  obtain ⟨x17, q17, ho17⟩ := yes_bind hm
  refine wpD_midX (τ := Unit) (Y := Unit) (fun y17 z17 => (⟨[], [(o0, Blk.cells [.v (.string m0)] T0)], []⟩ : S)) x17 ?_ ?_
  ·clear hm; have hm := yes_of q17
   refine wpD_block ?_
   obtain ⟨u18, hl18, hq18⟩ := yes_m hm
   refine loop_M (Y := Unit) hl18 (fun s18 z18 => (⟨[(0, .lst 2 (a0.map eTApiVar) .no), (1, .fn (.func 26) [] [.ptr o0 0]), (7, .v (.int .i64 (a0.length : Int))), (8, .v (.int .i64 s18))], [(o0, Blk.cells [.v (.string m0)] T0)], []⟩ : S)) ?_ ?_
   ·skip
    exact WkX.of () (WkS.perm (WkS.cons rfl (Wk.refl _) (WkS.cons rfl (Wk.refl _) (WkS.cons rfl (Wk.refl _) (WkS.cons rfl (Wk.refl _) (WkS.nil))))) Pf Pf)
   ·intro G18 s18 z18 hm
    refine wpD_sr ?_
    refine pu ?_
    refine ops_nt ?_
    refine wpD_seq ?_
    refine wpD_cond rfl (fun hc29 => ?_) (fun hc29 => ?_)
    ·replace hm := yes_t hc29 hm
     refine wpD_skip ?_
     refine then_normal ?_
     refine wpD_seq ?_
     refine wpD_block ?_
     refine wpD_sr ?_
     refine pu ?_
     refine pu ?_
     refine ops_n2 ?_
     iterate 3 refine pu ?_
     obtain ⟨x30, q30, hm⟩ := yes_bind hm
     refine p_elem htab rfl rfl rfl rfl rfl rfl rfl rfl rfl rfl (idx_nonneg q30) (idx_map q30) ?_
     refine p_loadEl (d := eTApiVar x30) htab rfl rfl rfl rfl rfl rfl rfl rfl ?_
     obtain ⟨x31, q31, hm⟩ := yes_bind hm
     refine p_callV (eval_Frame_place_1_ok x30 m0 o0 T0 x31 q31) rfl rfl rfl rfl rfl rfl rfl Wl Pf Pf ?_
     rintro _ _ _ ⟨rfl, rfl, rfl⟩
     refine ops_nt ?_
     refine wpD_cond rfl (fun hc32 => ?_) (fun hc32 => ?_)
     ·replace hm := yes_t hc32 hm
      refine wpD_sr ?_
      refine pu ?_
      refine pu ?_
      refine ops_nt ?_
      refine wpD_ret ?_
      refine block_ret ?_
      refine then_ret ?_
      have e18 := lp_done hm; subst e18; clear hm; have hm := hq18
      refine then_ret ?_
      refine block_ret ?_
      have e17 := yes_eq hm; subst e17; refine midX_inr ?_; clear hm; have hm := ho17; simp only [Sum.elim_inr] at hm
      refine then_ret ?_
      have er33 := yes_eq hm; subst er33
      refine rP (t' := [(4, .v (.int .i64 s18))]) [0] [] 1 (wC wN) (lT lN) ?_
      exact ⟨rfl, rfl, rfl⟩
     ·replace hm := yes_f hc32 hm
      refine wpD_skip ?_
      refine block_normal ?_
      refine then_normal ?_
      refine wpD_region ?_
      refine pu ?_
      refine pu ?_
      refine ops_nil ?_
      refine then_normal ⟨_, lp_next hm, ?_⟩
      exact WkX.of () (WkS.perm (WkS.cons rfl (Wk.refl _) (WkS.cons rfl (Wk.refl _) (WkS.cons rfl (Wk.refl _) (WkS.cons rfl (Wk.refl _) (WkS.nil))))) Pf Pf)
    ·replace hm := yes_f hc29 hm
     refine wpD_exit ?_
     refine then_exit ?_
     have e18 := lp_done hm; subst e18; clear hm; have hm := hq18
     refine then_exit ?_
     refine block_hit ?_
     have e17 := yes_eq hm; subst e17
     refine midX_inl ?_
     exact WkX.of () (WkS.perm (WkS.nil) Pf Pf)
  ·intro y17 s17 hx17 hw17; subst hx17; clear hm; have hm := ho17; simp only [Sum.elim_inl] at hm; clear q17 ho17
   refine then_normal ?_
   refine wpD_wkX hw17 (fun z17 => ?_)
   refine wpD_sr ?_
   refine pu ?_
   refine ops_nt ?_
   refine wpD_ret ?_
   have er34 := yes_eq hm; subst er34
   refine rP (t' := [(4, .v (.int .i64 (-1 : Int)))]) [0] [] 1 (wC wN) (lT lN) ?_
   exact ⟨rfl, rfl, rfl⟩
noncomputable def eval_Frame_place (m0 : TEvalFrame) (a1 : ByteArray) : Option (Int) :=
  ((slices_IndexFunc_api_Var_api_Var m0.gVars a1).bind fun x2 => some x2)
set_option maxRecDepth 100000 in
set_option maxHeartbeats 2000000 in
theorem eval_Frame_place_ok (m0 : TEvalFrame) (a1 : ByteArray) (o0 : Nat) (T0 : TypeId) (c0_0 : Cap) (c0_1 : Cap) (r : Int) (h0 : eval_Frame_place m0 a1 = some r) : CallsD Try.prog 20 [.ptr o0 0, .v (.string a1)] [(o0, Blk.cells [.lst 2 (m0.gVars.map eTApiVar) c0_0, .lst 4 (m0.gWords.map eTApiWord) c0_1] T0)] [] (fun d h k => d = .v (.int .i64 r) ∧ h = [(o0, Blk.cells [.lst 2 (m0.gVars.map eTApiVar) c0_0, .lst 4 (m0.gWords.map eTApiWord) c0_1] T0)] ∧ k = []) := by
  have hm := yes_of h0
  unfold eval_Frame_place at hm
  clear h0
  refine enterX htab Try.func20 rfl rfl rfl rfl rfl (fun C => ?_)
  refine wpD_sr ?_
  refine p_box rfl rfl rfl rfl rfl rfl rfl (fun b1 => ?_)
  refine pu ?_
  refine ops_nt ?_
  refine wpD_seq ?_
  refine wpD_sr ?_
  refine pu ?_
  refine p_eqP htab rfl rfl rfl rfl rfl rfl rfl rfl rfl rfl ?_
  refine ops_nt ?_
  refine wpD_false rfl ?_
  refine wpD_skip ?_
  refine then_normal ?_
  refine wpD_sr ?_
  iterate 3 refine pu ?_
  refine pL 0 ?_
  refine pu ?_
  obtain ⟨x2, q2, hm⟩ := yes_bind hm
  refine p_callG (slices_IndexFunc_api_Var_api_Var_ok m0.gVars a1 b1 9 x2 q2) rfl rfl rfl rfl rfl (WkL.cons (Wk.no) (WkL.cons (Wk.refl _) Wl)) ((perm_at (j := 1) rfl).trans (List.Perm.cons _ Pf)) Pf ?_
  rintro _ _ _ ⟨rfl, rfl, rfl⟩
  refine pu ?_
  refine ops_nt ?_
  refine wpD_ret ?_
  have er3 := yes_eq hm; subst er3
  refine rP (t' := [(4, .v (.int .i64 x2))]) [1] [] 1 (wC wN) (lT lN) ?_
  exact ⟨rfl, rfl, rfl⟩
noncomputable def eval_Frame_Get (m0 : TEvalFrame) (a1 : ByteArray) : Option (TApiWord × Bool) :=
  ((eval_Frame_place m0 a1).bind fun x2 => (bif (decide (x2 < (0 : Int))) then some ((⟨false, (0 : Int), (⟨ByteArray.empty, (0 : Int)⟩ : TApiCell)⟩ : TApiWord), false) else ((idx m0.gWords x2).bind fun x6 => some (x6, true))))
set_option maxRecDepth 100000 in
set_option maxHeartbeats 2000000 in
theorem eval_Frame_Get_ok (m0 : TEvalFrame) (a1 : ByteArray) (o0 : Nat) (T0 : TypeId) (c0_0 : Cap) (c0_1 : Cap) (r : TApiWord × Bool) (h0 : eval_Frame_Get m0 a1 = some r) : CallsD Try.prog 10 [.ptr o0 0, .v (.string a1)] [(o0, Blk.cells [.lst 2 (m0.gVars.map eTApiVar) c0_0, .lst 4 (m0.gWords.map eTApiWord) c0_1] T0)] [] (fun d h k => d = .tup [eTApiWord r.1, .v (.bool r.2)] ∧ h = [(o0, Blk.cells [.lst 2 (m0.gVars.map eTApiVar) c0_0, .lst 4 (m0.gWords.map eTApiWord) c0_1] T0)] ∧ k = []) := by
  have hm := yes_of h0
  unfold eval_Frame_Get at hm
  clear h0
  refine enterX htab Try.func10 rfl rfl rfl rfl rfl (fun C => ?_)
  refine wpD_sr ?_
  refine p_alloc htab rfl rfl rfl rfl rfl rfl rfl (fun b1 => ?_)
  refine pu ?_
  refine ops_n2 ?_
  refine pu ?_
  refine pu ?_
  obtain ⟨x2, q2, hm⟩ := yes_bind hm
  refine pG (eval_Frame_place_ok m0 a1 o0 T0 c0_0 c0_1 x2 q2) Wl Pf Pf ?_
  rintro _ _ _ ⟨rfl, rfl, rfl⟩
  refine pu ?_
  refine ops_nt ?_
  refine wpD_seq ?_
  refine wpD_sr ?_
  refine pu ?_
  refine pu ?_
  refine ops_nt ?_
  refine wpD_cond rfl (fun hc4 => ?_) (fun hc4 => ?_)
  ·replace hm := yes_t hc4 hm
   refine wpD_sr ?_
   refine p_build (r := [.v (.bool false), .v (.int .i64 (0 : Int)), .v (.string ByteArray.empty), .v (.int .i64 (0 : Int))]) htab rfl rfl rfl rfl rfl rfl rfl rfl rfl ?_
   refine pS1 (ds' := [.v (.bool false), .v (.int .i64 (0 : Int)), .v (.string ByteArray.empty), .v (.int .i64 (0 : Int))]) ?_
   refine pu ?_
   refine ops_nt ?_
   refine wpD_ret ?_
   refine then_ret ?_
   have er5 := yes_eq hm; subst er5
   refine rP (t' := [(4, .ptr b1 0), (5, .v (.bool false))]) [0,0] [] 1 (wC (wC wN)) (lC 1 (lT lN)) ?_
   exact ⟨rfl, rfl, rfl⟩
  ·replace hm := yes_f hc4 hm
   refine wpD_skip ?_
   refine then_normal ?_
   refine wpD_sr ?_
   iterate 3 refine pu ?_
   refine pL 0 ?_
   refine pu ?_
   obtain ⟨x6, q6, hm⟩ := yes_bind hm
   refine p_elem htab rfl rfl rfl rfl rfl rfl rfl rfl rfl rfl (idx_nonneg q6) (idx_map q6) ?_
   refine p_loadEl (d := eTApiWord x6) htab rfl rfl rfl rfl rfl rfl rfl rfl ?_
   refine pS1 (ds' := [.v (.bool x6.gPtr), .v (.int .i64 x6.gN), .v (.string x6.gTo.gName), .v (.int .i64 x6.gTo.gAt)]) ?_
   refine pu ?_
   refine ops_nt ?_
   refine wpD_ret ?_
   have er7 := yes_eq hm; subst er7
   refine rP (t' := [(4, .ptr b1 0), (5, .v (.bool true))]) [0,0] [] 1 (wC (wC wN)) (lC 1 (lT lN)) ?_
   exact ⟨rfl, rfl, rfl⟩
noncomputable def mem_Mem_Get (m0 : TMemMem) (a1 : TApiCell) : Option (TApiWord × Int) :=
  ((mem_Mem_known m0 a1).bind fun x3 => (bif (x3 != (0 : Int)) then some ((⟨false, (0 : Int), (⟨ByteArray.empty, (0 : Int)⟩ : TApiCell)⟩ : TApiWord), x3) else some ((⟨(mgetD m0.gWords a1 (⟨false, (0 : Int), (⟨ByteArray.empty, (0 : Int)⟩ : TApiCell)⟩ : TApiWord)).gPtr, (mgetD m0.gWords a1 (⟨false, (0 : Int), (⟨ByteArray.empty, (0 : Int)⟩ : TApiCell)⟩ : TApiWord)).gN, ((mgetD m0.gWords a1 (⟨false, (0 : Int), (⟨ByteArray.empty, (0 : Int)⟩ : TApiCell)⟩ : TApiWord)).gTo)⟩ : TApiWord), (0 : Int))))
set_option maxRecDepth 100000 in
set_option maxHeartbeats 2000000 in
theorem mem_Mem_Get_ok (m0 : TMemMem) (a1 : TApiCell) (o0 : Nat) (T0 : TypeId) (z0_0 : Nat) (z0_1 : Nat) (c0_2 : Cap) (r : TApiWord × Int) (h0 : mem_Mem_Get m0 a1 = some r) : CallsD Try.prog 40 [.ptr o0 0, eTApiCell a1] [(o0, Blk.cells [.v (.map (some z0_0)), .v (.map (some z0_1)), .lst 2 (m0.gCells.map eTApiCell) c0_2] T0), (z0_0, Blk.mp (m0.gSizes.map fun p => ((fun s : ByteArray => Value.string s) p.1, eI64 p.2))), (z0_1, Blk.mp (m0.gWords.map fun p => ((fun a => Value.agg (kcTApiCell a).toArray) p.1, eTApiWord p.2)))] [] (fun d h k => d = .tup [eTApiWord r.1, .v (.int .i64 r.2)] ∧ h = [(o0, Blk.cells [.v (.map (some z0_0)), .v (.map (some z0_1)), .lst 2 (m0.gCells.map eTApiCell) c0_2] T0), (z0_0, Blk.mp (m0.gSizes.map fun p => ((fun s : ByteArray => Value.string s) p.1, eI64 p.2))), (z0_1, Blk.mp (m0.gWords.map fun p => ((fun a => Value.agg (kcTApiCell a).toArray) p.1, eTApiWord p.2)))] ∧ k = []) := by
  have hm := yes_of h0
  unfold mem_Mem_Get at hm
  clear h0
  refine enterX htab Try.func40 rfl rfl rfl rfl rfl (fun C => ?_)
  refine wpD_sr ?_
  refine p_box rfl rfl rfl rfl rfl rfl rfl (fun b1 => ?_)
  refine p_alloc htab rfl rfl rfl rfl rfl rfl rfl (fun b2 => ?_)
  refine pu ?_
  refine ops_nt ?_
  refine wpD_seq ?_
  refine wpD_sr ?_
  refine pu ?_
  refine p_load (d := eTApiCell a1) 3 htab rfl rfl rfl rfl rfl rfl rfl rfl ?_
  obtain ⟨x3, q3, hm⟩ := yes_bind hm
  refine pG (mem_Mem_known_ok m0 a1 o0 T0 z0_0 z0_1 c0_2 x3 q3) Wl Pf Pf ?_
  rintro _ _ _ ⟨rfl, rfl, rfl⟩
  refine pu ?_
  refine ops_n2 ?_
  refine pu ?_
  refine pu ?_
  refine ops_nt ?_
  refine wpD_cond rfl (fun hc5 => ?_) (fun hc5 => ?_)
  ·replace hm := yes_t hc5 hm
   refine wpD_sr ?_
   refine p_build (r := [.v (.bool false), .v (.int .i64 (0 : Int)), .v (.string ByteArray.empty), .v (.int .i64 (0 : Int))]) htab rfl rfl rfl rfl rfl rfl rfl rfl rfl ?_
   refine pu ?_
   refine pS4 (ds' := [.v (.bool false), .v (.int .i64 (0 : Int)), .v (.string ByteArray.empty), .v (.int .i64 (0 : Int))]) ?_
   refine pu ?_
   refine ops_nt ?_
   refine wpD_ret ?_
   refine then_ret ?_
   have er6 := yes_eq hm; subst er6
   refine rP (t' := [(4, .ptr b2 0), (5, .v (.int .i64 x3))]) [0,0,0,1] [] 3 (wC (wC wN)) (lC 3 (lT lN)) ?_
   exact ⟨rfl, rfl, rfl⟩
  ·replace hm := yes_f hc5 hm
   refine wpD_skip ?_
   refine then_normal ?_
   refine wpD_seq ?_
   refine wpD_draws 5 [] [[],[0],[0,1],[0,1,2],[]] [0,1,2,3,4] [[],[0],[0,1],[0,1,2],[],[0,1,2,3,4],[0,1,2,3,4,5],[0,1,2,3,4,5,6]] (by kernel_rfl) (by kernel_rfl) (by kernel_rfl) (by rfl) (by rfl) (by kernel_rfl) ?_
   iterate 5 apply Exists.intro
   intro bs
   iterate 3 refine zep ?_
   refine z_eM rfl rfl (xm_load 0 htab rfl rfl rfl rfl rfl) rfl rfl rfl rfl rfl rfl ?_
   refine z_eM rfl rfl (xm_load (d := eTApiCell a1) 3 htab rfl rfl rfl rfl rfl) rfl rfl rfl rfl rfl rfl ?_
   refine z_nil rfl rfl (fun e he => by simp [isAl] at he) ?_
   refine p_lookup (l := m0.gWords) (f := (fun a => Value.agg (kcTApiCell a).toArray)) (e := eTApiWord) (kk := a1) (z := (⟨false, (0 : Int), (⟨ByteArray.empty, (0 : Int)⟩ : TApiCell)⟩ : TApiWord)) (dr := eTApiWord (⟨(mgetD m0.gWords a1 (⟨false, (0 : Int), (⟨ByteArray.empty, (0 : Int)⟩ : TApiCell)⟩ : TApiWord)).gPtr, (mgetD m0.gWords a1 (⟨false, (0 : Int), (⟨ByteArray.empty, (0 : Int)⟩ : TApiCell)⟩ : TApiWord)).gN, ((mgetD m0.gWords a1 (⟨false, (0 : Int), (⟨ByteArray.empty, (0 : Int)⟩ : TApiCell)⟩ : TApiWord)).gTo)⟩ : TApiWord)) 2 htab rfl rfl rfl rfl rfl rfl rfl rfl rfl rfl mk84 (fun H v h => rep_va_inv (us := kcTApiCell a1) h) mz84 mr84 rfl ?_
   refine pS4 (ds' := [.v (.bool ((mgetD m0.gWords a1 (⟨false, (0 : Int), (⟨ByteArray.empty, (0 : Int)⟩ : TApiCell)⟩ : TApiWord)).gPtr)), .v (.int .i64 ((mgetD m0.gWords a1 (⟨false, (0 : Int), (⟨ByteArray.empty, (0 : Int)⟩ : TApiCell)⟩ : TApiWord)).gN)), .v (.string (((mgetD m0.gWords a1 (⟨false, (0 : Int), (⟨ByteArray.empty, (0 : Int)⟩ : TApiCell)⟩ : TApiWord)).gTo).gName)), .v (.int .i64 (((mgetD m0.gWords a1 (⟨false, (0 : Int), (⟨ByteArray.empty, (0 : Int)⟩ : TApiCell)⟩ : TApiWord)).gTo).gAt))]) ?_
   refine pu ?_
   refine ops_nt ?_
   refine wpD_ret ?_
   have er7 := yes_eq hm; subst er7
   refine rP (t' := [(4, .ptr b2 0), (5, .v (.int .i64 (0 : Int)))]) [0,0,0,1] [] 3 (wC (wC wN)) (lC 3 (lT lN)) ?_
   exact ⟨rfl, rfl, rfl⟩
noncomputable def eval_room_at (a1 : ByteArray) (a2 : Int) (m0 : TMemMem) (m1 : TEvalFrame) : Option (TApiWord × Int) :=
  ((mem_Mem_Place m0 a1 a2).bind fun x3 => (bif (x3.2 != (0 : Int)) then some ((⟨false, (0 : Int), (⟨ByteArray.empty, (0 : Int)⟩ : TApiCell)⟩ : TApiWord), x3.2) else ((mem_Mem_Get m0 x3.1).bind fun x8 => some (x8.1, x8.2))))
set_option maxRecDepth 100000 in
set_option maxHeartbeats 2000000 in
theorem eval_room_at_ok (a1 : ByteArray) (a2 : Int) (m0 : TMemMem) (m1 : TEvalFrame) (o0 : Nat) (T0 : TypeId) (z0_0 : Nat) (z0_1 : Nat) (c0_2 : Cap) (o1 : Nat) (T1 : TypeId) (c1_0 : Cap) (c1_1 : Cap) (r : TApiWord × Int) (h0 : eval_room_at a1 a2 m0 m1 = some r) : CallsD Try.prog 37 [.agg [.ptr o0 0, .ptr o1 0], .v (.string a1), .v (.int .i64 a2)] [(o0, Blk.cells [.v (.map (some z0_0)), .v (.map (some z0_1)), .lst 2 (m0.gCells.map eTApiCell) c0_2] T0), (o1, Blk.cells [.lst 2 (m1.gVars.map eTApiVar) c1_0, .lst 4 (m1.gWords.map eTApiWord) c1_1] T1), (z0_0, Blk.mp (m0.gSizes.map fun p => ((fun s : ByteArray => Value.string s) p.1, eI64 p.2))), (z0_1, Blk.mp (m0.gWords.map fun p => ((fun a => Value.agg (kcTApiCell a).toArray) p.1, eTApiWord p.2)))] [] (fun d h k => d = .tup [eTApiWord r.1, .v (.int .i64 r.2)] ∧ h = [(o0, Blk.cells [.v (.map (some z0_0)), .v (.map (some z0_1)), .lst 2 (m0.gCells.map eTApiCell) c0_2] T0), (o1, Blk.cells [.lst 2 (m1.gVars.map eTApiVar) c1_0, .lst 4 (m1.gWords.map eTApiWord) c1_1] T1), (z0_0, Blk.mp (m0.gSizes.map fun p => ((fun s : ByteArray => Value.string s) p.1, eI64 p.2))), (z0_1, Blk.mp (m0.gWords.map fun p => ((fun a => Value.agg (kcTApiCell a).toArray) p.1, eTApiWord p.2)))] ∧ k = []) := by
  have hm := yes_of h0
  unfold eval_room_at at hm
  clear h0
  refine enterX htab Try.func37 rfl rfl rfl rfl rfl (fun C => ?_)
  refine wpD_sr ?_
  refine p_box rfl rfl rfl rfl rfl rfl rfl (fun b1 => ?_)
  refine p_alloc htab rfl rfl rfl rfl rfl rfl rfl (fun b2 => ?_)
  refine pu ?_
  refine ops_n2 ?_
  refine pu ?_
  refine pL 4 ?_
  refine pu ?_
  refine pu ?_
  obtain ⟨x3, q3, hm⟩ := yes_bind hm
  refine pG (mem_Mem_Place_ok m0 a1 a2 o0 T0 z0_0 z0_1 c0_2 x3 q3) Wl ((perm_at (j := 0) rfl).trans (List.Perm.cons _ ((perm_at (j := 1) rfl).trans (List.Perm.cons _ ((perm_at (j := 1) rfl).trans (List.Perm.cons _ Pf)))))) Pf ?_
  rintro _ _ _ ⟨rfl, rfl, rfl⟩
  iterate 3 refine pu ?_
  refine p_alloc htab rfl rfl rfl rfl rfl rfl rfl (fun b4 => ?_)
  refine pS6 (ds' := [.v (.string x3.1.gName), .v (.int .i64 x3.1.gAt)]) ?_
  refine pu ?_
  refine ops_nt ?_
  refine wpD_seq ?_
  refine wpD_sr ?_
  refine pu ?_
  refine pu ?_
  refine ops_nt ?_
  refine wpD_cond rfl (fun hc6 => ?_) (fun hc6 => ?_)
  ·replace hm := yes_t hc6 hm
   refine wpD_sr ?_
   refine p_build (r := [.v (.bool false), .v (.int .i64 (0 : Int)), .v (.string ByteArray.empty), .v (.int .i64 (0 : Int))]) htab rfl rfl rfl rfl rfl rfl rfl rfl rfl ?_
   refine pu ?_
   refine pS5 (ds' := [.v (.bool false), .v (.int .i64 (0 : Int)), .v (.string ByteArray.empty), .v (.int .i64 (0 : Int))]) ?_
   refine pu ?_
   refine ops_nt ?_
   refine wpD_ret ?_
   refine then_ret ?_
   have er7 := yes_eq hm; subst er7
   refine rP (t' := [(6, .ptr b2 0), (7, .v (.int .i64 x3.2))]) [0,2,0,0,1] [] 4 (wC (wC wN)) (lC 4 (lT lN)) ?_
   exact ⟨rfl, rfl, rfl⟩
  ·replace hm := yes_f hc6 hm
   refine wpD_skip ?_
   refine then_normal ?_
   refine wpD_sr ?_
   refine pu ?_
   refine pL 4 ?_
   refine p_load (d := eTApiCell x3.1) 6 htab rfl rfl rfl rfl rfl rfl rfl rfl ?_
   obtain ⟨x8, q8, hm⟩ := yes_bind hm
   refine pG (mem_Mem_Get_ok m0 x3.1 o0 T0 z0_0 z0_1 c0_2 x8 q8) Wl Pf Pf ?_
   rintro _ _ _ ⟨rfl, rfl, rfl⟩
   refine pu ?_
   refine pu ?_
   refine pS5 (ds' := [.v (.bool x8.1.gPtr), .v (.int .i64 x8.1.gN), .v (.string x8.1.gTo.gName), .v (.int .i64 x8.1.gTo.gAt)]) ?_
   refine pu ?_
   refine ops_nt ?_
   refine wpD_ret ?_
   have er9 := yes_eq hm; subst er9
   refine rP (t' := [(6, .ptr b2 0), (7, .v (.int .i64 x8.2))]) [0,2,0,0,1] [] 4 (wC (wC wN)) (lC 4 (lT lN)) ?_
   exact ⟨rfl, rfl, rfl⟩
noncomputable def eval_room_name (a1 : ByteArray) (m0 : TMemMem) (m1 : TEvalFrame) : Option (TApiWord × Int) :=
  ((eval_Frame_Get m1 a1).bind fun x3 => (bif x3.2 then some (x3.1, (0 : Int)) else ((eval_room_at a1 (0 : Int) m0 m1).bind fun x8 => some (x8.1, x8.2))))
set_option maxRecDepth 100000 in
set_option maxHeartbeats 2000000 in
theorem eval_room_name_ok (a1 : ByteArray) (m0 : TMemMem) (m1 : TEvalFrame) (o0 : Nat) (T0 : TypeId) (z0_0 : Nat) (z0_1 : Nat) (c0_2 : Cap) (o1 : Nat) (T1 : TypeId) (c1_0 : Cap) (c1_1 : Cap) (r : TApiWord × Int) (h0 : eval_room_name a1 m0 m1 = some r) : CallsD Try.prog 34 [.agg [.ptr o0 0, .ptr o1 0], .v (.string a1)] [(o0, Blk.cells [.v (.map (some z0_0)), .v (.map (some z0_1)), .lst 2 (m0.gCells.map eTApiCell) c0_2] T0), (o1, Blk.cells [.lst 2 (m1.gVars.map eTApiVar) c1_0, .lst 4 (m1.gWords.map eTApiWord) c1_1] T1), (z0_0, Blk.mp (m0.gSizes.map fun p => ((fun s : ByteArray => Value.string s) p.1, eI64 p.2))), (z0_1, Blk.mp (m0.gWords.map fun p => ((fun a => Value.agg (kcTApiCell a).toArray) p.1, eTApiWord p.2)))] [] (fun d h k => d = .tup [eTApiWord r.1, .v (.int .i64 r.2)] ∧ h = [(o0, Blk.cells [.v (.map (some z0_0)), .v (.map (some z0_1)), .lst 2 (m0.gCells.map eTApiCell) c0_2] T0), (o1, Blk.cells [.lst 2 (m1.gVars.map eTApiVar) c1_0, .lst 4 (m1.gWords.map eTApiWord) c1_1] T1), (z0_0, Blk.mp (m0.gSizes.map fun p => ((fun s : ByteArray => Value.string s) p.1, eI64 p.2))), (z0_1, Blk.mp (m0.gWords.map fun p => ((fun a => Value.agg (kcTApiCell a).toArray) p.1, eTApiWord p.2)))] ∧ k = []) := by
  have hm := yes_of h0
  unfold eval_room_name at hm
  clear h0
  refine enterX htab Try.func34 rfl rfl rfl rfl rfl (fun C => ?_)
  refine wpD_sr ?_
  refine p_box rfl rfl rfl rfl rfl rfl rfl (fun b1 => ?_)
  refine p_alloc htab rfl rfl rfl rfl rfl rfl rfl (fun b2 => ?_)
  refine pu ?_
  refine ops_nt ?_
  refine wpD_seq ?_
  refine wpD_sr ?_
  refine pu ?_
  refine pL 4 ?_
  refine pu ?_
  obtain ⟨x3, q3, hm⟩ := yes_bind hm
  refine pG (eval_Frame_Get_ok m1 a1 o1 T1 c1_0 c1_1 x3 q3) Wl ((perm_at (j := 1) rfl).trans (List.Perm.cons _ Pf)) Pf ?_
  rintro _ _ _ ⟨rfl, rfl, rfl⟩
  iterate 3 refine pu ?_
  refine p_alloc htab rfl rfl rfl rfl rfl rfl rfl (fun b4 => ?_)
  refine pS6 (ds' := [.v (.bool x3.1.gPtr), .v (.int .i64 x3.1.gN), .v (.string x3.1.gTo.gName), .v (.int .i64 x3.1.gTo.gAt)]) ?_
  refine pu ?_
  refine ops_n2 ?_
  refine pu ?_
  refine ops_nt ?_
  refine wpD_cond rfl (fun hc6 => ?_) (fun hc6 => ?_)
  ·replace hm := yes_t hc6 hm
   refine wpD_sr ?_
   refine p_load (d := eTApiWord x3.1) 6 htab rfl rfl rfl rfl rfl rfl rfl rfl ?_
   refine pS5 (ds' := [.v (.bool x3.1.gPtr), .v (.int .i64 x3.1.gN), .v (.string x3.1.gTo.gName), .v (.int .i64 x3.1.gTo.gAt)]) ?_
   refine pu ?_
   refine ops_nt ?_
   refine wpD_ret ?_
   refine then_ret ?_
   have er7 := yes_eq hm; subst er7
   refine rP (t' := [(4, .ptr b2 0), (5, .v (.int .i64 (0 : Int)))]) [1,0,0,0,1] [] 4 (wC (wC wN)) (lC 4 (lT lN)) ?_
   exact ⟨rfl, rfl, rfl⟩
  ·replace hm := yes_f hc6 hm
   refine wpD_skip ?_
   refine then_normal ?_
   refine wpD_sr ?_
   refine p_load (d := .agg [.ptr o0 0, .ptr o1 0]) 4 htab rfl rfl rfl rfl rfl rfl rfl rfl ?_
   refine pu ?_
   obtain ⟨x8, q8, hm⟩ := yes_bind hm
   refine pG (eval_room_at_ok a1 (0 : Int) m0 m1 o0 T0 z0_0 z0_1 c0_2 o1 T1 c1_0 c1_1 x8 q8) Wl ((perm_at (j := 1) rfl).trans (List.Perm.cons _ ((perm_at (j := 0) rfl).trans (List.Perm.cons _ ((perm_at (j := 0) rfl).trans (List.Perm.cons _ ((perm_at (j := 0) rfl).trans (List.Perm.cons _ Pf)))))))) Pf ?_
   rintro _ _ _ ⟨rfl, rfl, rfl⟩
   refine pu ?_
   refine pu ?_
   refine pS5 (ds' := [.v (.bool x8.1.gPtr), .v (.int .i64 x8.1.gN), .v (.string x8.1.gTo.gName), .v (.int .i64 x8.1.gTo.gAt)]) ?_
   refine pu ?_
   refine ops_nt ?_
   refine wpD_ret ?_
   have er9 := yes_eq hm; subst er9
   refine rP (t' := [(4, .ptr b2 0), (5, .v (.int .i64 x8.2))]) [0,0,0,0,1] [] 4 (wC (wC wN)) (lC 4 (lT lN)) ?_
   exact ⟨rfl, rfl, rfl⟩
noncomputable def eval_room_load (a1 : ByteArray) (m0 : TMemMem) (m1 : TEvalFrame) : Option (TApiWord × Int) :=
  ((eval_room_name a1 m0 m1).bind fun x3 => (bif (x3.2 != (0 : Int)) then some ((⟨false, (0 : Int), (⟨ByteArray.empty, (0 : Int)⟩ : TApiCell)⟩ : TApiWord), x3.2) else (bif (!x3.1.gPtr) then some ((⟨false, (0 : Int), (⟨ByteArray.empty, (0 : Int)⟩ : TApiCell)⟩ : TApiWord), (9 : Int)) else ((mem_Mem_Get m0 x3.1.gTo).bind fun x14 => some (x14.1, x14.2)))))
set_option maxRecDepth 100000 in
set_option maxHeartbeats 2000000 in
theorem eval_room_load_ok (a1 : ByteArray) (m0 : TMemMem) (m1 : TEvalFrame) (o0 : Nat) (T0 : TypeId) (z0_0 : Nat) (z0_1 : Nat) (c0_2 : Cap) (o1 : Nat) (T1 : TypeId) (c1_0 : Cap) (c1_1 : Cap) (r : TApiWord × Int) (h0 : eval_room_load a1 m0 m1 = some r) : CallsD Try.prog 35 [.agg [.ptr o0 0, .ptr o1 0], .v (.string a1)] [(o0, Blk.cells [.v (.map (some z0_0)), .v (.map (some z0_1)), .lst 2 (m0.gCells.map eTApiCell) c0_2] T0), (o1, Blk.cells [.lst 2 (m1.gVars.map eTApiVar) c1_0, .lst 4 (m1.gWords.map eTApiWord) c1_1] T1), (z0_0, Blk.mp (m0.gSizes.map fun p => ((fun s : ByteArray => Value.string s) p.1, eI64 p.2))), (z0_1, Blk.mp (m0.gWords.map fun p => ((fun a => Value.agg (kcTApiCell a).toArray) p.1, eTApiWord p.2)))] [] (fun d h k => d = .tup [eTApiWord r.1, .v (.int .i64 r.2)] ∧ h = [(o0, Blk.cells [.v (.map (some z0_0)), .v (.map (some z0_1)), .lst 2 (m0.gCells.map eTApiCell) c0_2] T0), (o1, Blk.cells [.lst 2 (m1.gVars.map eTApiVar) c1_0, .lst 4 (m1.gWords.map eTApiWord) c1_1] T1), (z0_0, Blk.mp (m0.gSizes.map fun p => ((fun s : ByteArray => Value.string s) p.1, eI64 p.2))), (z0_1, Blk.mp (m0.gWords.map fun p => ((fun a => Value.agg (kcTApiCell a).toArray) p.1, eTApiWord p.2)))] ∧ k = []) := by
  have hm := yes_of h0
  unfold eval_room_load at hm
  clear h0
  refine enterX htab Try.func35 rfl rfl rfl rfl rfl (fun C => ?_)
  refine wpD_sr ?_
  refine p_box rfl rfl rfl rfl rfl rfl rfl (fun b1 => ?_)
  refine p_alloc htab rfl rfl rfl rfl rfl rfl rfl (fun b2 => ?_)
  refine pu ?_
  refine ops_n2 ?_
  refine p_load (d := .agg [.ptr o0 0, .ptr o1 0]) 4 htab rfl rfl rfl rfl rfl rfl rfl rfl ?_
  refine pu ?_
  obtain ⟨x3, q3, hm⟩ := yes_bind hm
  refine pG (eval_room_name_ok a1 m0 m1 o0 T0 z0_0 z0_1 c0_2 o1 T1 c1_0 c1_1 x3 q3) Wl Pf Pf ?_
  rintro _ _ _ ⟨rfl, rfl, rfl⟩
  iterate 3 refine pu ?_
  refine p_alloc htab rfl rfl rfl rfl rfl rfl rfl (fun b4 => ?_)
  refine pS6 (ds' := [.v (.bool x3.1.gPtr), .v (.int .i64 x3.1.gN), .v (.string x3.1.gTo.gName), .v (.int .i64 x3.1.gTo.gAt)]) ?_
  refine pu ?_
  refine ops_nt ?_
  refine wpD_seq ?_
  refine wpD_block ?_
  refine wpD_sr ?_
  iterate 3 refine pu ?_
  refine ops_nt ?_
  refine wpD_cond rfl (fun hc9 => ?_) (fun hc9 => ?_)
  ·replace hm := yes_t hc9 hm
   refine wpD_sr ?_
   refine p_build (r := [.v (.bool false), .v (.int .i64 (0 : Int)), .v (.string ByteArray.empty), .v (.int .i64 (0 : Int))]) htab rfl rfl rfl rfl rfl rfl rfl rfl rfl ?_
   refine pu ?_
   refine pS5 (ds' := [.v (.bool false), .v (.int .i64 (0 : Int)), .v (.string ByteArray.empty), .v (.int .i64 (0 : Int))]) ?_
   refine pu ?_
   refine ops_nt ?_
   refine wpD_ret ?_
   refine block_ret ?_
   refine then_ret ?_
   have er10 := yes_eq hm; subst er10
   refine rP (t' := [(4, .ptr b2 0), (5, .v (.int .i64 x3.2))]) [0,0,0,0,1] [] 4 (wC (wC wN)) (lC 4 (lT lN)) ?_
   exact ⟨rfl, rfl, rfl⟩
  ·replace hm := yes_f hc9 hm
   refine wpD_sr ?_
   refine pu ?_
   refine pL 6 ?_
   refine pu ?_
   refine pu ?_
   refine ops_nt ?_
   refine wpD_cond rfl (fun hc12 => ?_) (fun hc12 => ?_)
   ·replace hm := yes_t hc12 hm
    refine wpD_sr ?_
    refine p_build (r := [.v (.bool false), .v (.int .i64 (0 : Int)), .v (.string ByteArray.empty), .v (.int .i64 (0 : Int))]) htab rfl rfl rfl rfl rfl rfl rfl rfl rfl ?_
    refine pS5 (ds' := [.v (.bool false), .v (.int .i64 (0 : Int)), .v (.string ByteArray.empty), .v (.int .i64 (0 : Int))]) ?_
    refine pu ?_
    refine ops_nt ?_
    refine wpD_ret ?_
    refine block_ret ?_
    refine then_ret ?_
    have er13 := yes_eq hm; subst er13
    refine rP (t' := [(4, .ptr b2 0), (5, .v (.int .i64 (9 : Int)))]) [0,0,0,0,1] [] 4 (wC (wC wN)) (lC 4 (lT lN)) ?_
    exact ⟨rfl, rfl, rfl⟩
   ·replace hm := yes_f hc12 hm
    refine wpD_skip ?_
    refine block_normal ?_
    refine then_normal ?_
    refine wpD_sr ?_
    refine pu ?_
    refine pL 4 ?_
    refine pu ?_
    refine p_load (d := eTApiCell x3.1.gTo) 6 htab rfl rfl rfl rfl rfl rfl rfl rfl ?_
    obtain ⟨x14, q14, hm⟩ := yes_bind hm
    refine pG (mem_Mem_Get_ok m0 x3.1.gTo o0 T0 z0_0 z0_1 c0_2 x14 q14) Wl ((perm_at (j := 0) rfl).trans (List.Perm.cons _ ((perm_at (j := 1) rfl).trans (List.Perm.cons _ ((perm_at (j := 1) rfl).trans (List.Perm.cons _ Pf)))))) Pf ?_
    rintro _ _ _ ⟨rfl, rfl, rfl⟩
    refine pu ?_
    refine pu ?_
    refine pS5 (ds' := [.v (.bool x14.1.gPtr), .v (.int .i64 x14.1.gN), .v (.string x14.1.gTo.gName), .v (.int .i64 x14.1.gTo.gAt)]) ?_
    refine pu ?_
    refine ops_nt ?_
    refine wpD_ret ?_
    have er15 := yes_eq hm; subst er15
    refine rP (t' := [(4, .ptr b2 0), (5, .v (.int .i64 x14.2))]) [0,2,0,0,1] [] 4 (wC (wC wN)) (lC 4 (lT lN)) ?_
    exact ⟨rfl, rfl, rfl⟩
noncomputable def eval_room_address (a1 : ByteArray) (a2 : Int) (m0 : TMemMem) (m1 : TEvalFrame) : Option (TApiWord × Int) :=
  ((mem_Mem_Place m0 a1 a2).bind fun x3 => (bif (x3.2 != (0 : Int)) then some ((⟨false, (0 : Int), (⟨ByteArray.empty, (0 : Int)⟩ : TApiCell)⟩ : TApiWord), x3.2) else some ((⟨true, (0 : Int), x3.1⟩ : TApiWord), (0 : Int))))
set_option maxRecDepth 100000 in
set_option maxHeartbeats 2000000 in
theorem eval_room_address_ok (a1 : ByteArray) (a2 : Int) (m0 : TMemMem) (m1 : TEvalFrame) (o0 : Nat) (T0 : TypeId) (z0_0 : Nat) (z0_1 : Nat) (c0_2 : Cap) (o1 : Nat) (T1 : TypeId) (c1_0 : Cap) (c1_1 : Cap) (r : TApiWord × Int) (h0 : eval_room_address a1 a2 m0 m1 = some r) : CallsD Try.prog 36 [.agg [.ptr o0 0, .ptr o1 0], .v (.string a1), .v (.int .i64 a2)] [(o0, Blk.cells [.v (.map (some z0_0)), .v (.map (some z0_1)), .lst 2 (m0.gCells.map eTApiCell) c0_2] T0), (o1, Blk.cells [.lst 2 (m1.gVars.map eTApiVar) c1_0, .lst 4 (m1.gWords.map eTApiWord) c1_1] T1), (z0_0, Blk.mp (m0.gSizes.map fun p => ((fun s : ByteArray => Value.string s) p.1, eI64 p.2))), (z0_1, Blk.mp (m0.gWords.map fun p => ((fun a => Value.agg (kcTApiCell a).toArray) p.1, eTApiWord p.2)))] [] (fun d h k => d = .tup [eTApiWord r.1, .v (.int .i64 r.2)] ∧ h = [(o0, Blk.cells [.v (.map (some z0_0)), .v (.map (some z0_1)), .lst 2 (m0.gCells.map eTApiCell) c0_2] T0), (o1, Blk.cells [.lst 2 (m1.gVars.map eTApiVar) c1_0, .lst 4 (m1.gWords.map eTApiWord) c1_1] T1), (z0_0, Blk.mp (m0.gSizes.map fun p => ((fun s : ByteArray => Value.string s) p.1, eI64 p.2))), (z0_1, Blk.mp (m0.gWords.map fun p => ((fun a => Value.agg (kcTApiCell a).toArray) p.1, eTApiWord p.2)))] ∧ k = []) := by
  have hm := yes_of h0
  unfold eval_room_address at hm
  clear h0
  refine enterX htab Try.func36 rfl rfl rfl rfl rfl (fun C => ?_)
  refine wpD_sr ?_
  refine p_box rfl rfl rfl rfl rfl rfl rfl (fun b1 => ?_)
  refine p_alloc htab rfl rfl rfl rfl rfl rfl rfl (fun b2 => ?_)
  refine pu ?_
  refine ops_n2 ?_
  refine pu ?_
  refine pL 4 ?_
  refine pu ?_
  refine pu ?_
  obtain ⟨x3, q3, hm⟩ := yes_bind hm
  refine pG (mem_Mem_Place_ok m0 a1 a2 o0 T0 z0_0 z0_1 c0_2 x3 q3) Wl ((perm_at (j := 0) rfl).trans (List.Perm.cons _ ((perm_at (j := 1) rfl).trans (List.Perm.cons _ ((perm_at (j := 1) rfl).trans (List.Perm.cons _ Pf)))))) Pf ?_
  rintro _ _ _ ⟨rfl, rfl, rfl⟩
  iterate 3 refine pu ?_
  refine p_alloc htab rfl rfl rfl rfl rfl rfl rfl (fun b4 => ?_)
  refine pS6 (ds' := [.v (.string x3.1.gName), .v (.int .i64 x3.1.gAt)]) ?_
  refine pu ?_
  refine ops_nt ?_
  refine wpD_seq ?_
  refine wpD_sr ?_
  refine pu ?_
  refine pu ?_
  refine ops_nt ?_
  refine wpD_cond rfl (fun hc6 => ?_) (fun hc6 => ?_)
  ·replace hm := yes_t hc6 hm
   refine wpD_sr ?_
   refine p_build (r := [.v (.bool false), .v (.int .i64 (0 : Int)), .v (.string ByteArray.empty), .v (.int .i64 (0 : Int))]) htab rfl rfl rfl rfl rfl rfl rfl rfl rfl ?_
   refine pu ?_
   refine pS5 (ds' := [.v (.bool false), .v (.int .i64 (0 : Int)), .v (.string ByteArray.empty), .v (.int .i64 (0 : Int))]) ?_
   refine pu ?_
   refine ops_nt ?_
   refine wpD_ret ?_
   refine then_ret ?_
   have er7 := yes_eq hm; subst er7
   refine rP (t' := [(6, .ptr b2 0), (7, .v (.int .i64 x3.2))]) [0,2,0,0,1] [] 4 (wC (wC wN)) (lC 4 (lT lN)) ?_
   exact ⟨rfl, rfl, rfl⟩
  ·replace hm := yes_f hc6 hm
   refine wpD_skip ?_
   refine then_normal ?_
   refine wpD_sr ?_
   refine p_load (d := eTApiCell x3.1) 6 htab rfl rfl rfl rfl rfl rfl rfl rfl ?_
   refine p_build (r := [.v (.bool true), .v (.int .i64 (0 : Int)), .v (.string x3.1.gName), .v (.int .i64 x3.1.gAt)]) htab rfl rfl rfl rfl rfl rfl rfl rfl rfl ?_
   refine pS5 (ds' := [.v (.bool true), .v (.int .i64 (0 : Int)), .v (.string x3.1.gName), .v (.int .i64 x3.1.gAt)]) ?_
   refine pu ?_
   refine ops_nt ?_
   refine wpD_ret ?_
   have er8 := yes_eq hm; subst er8
   refine rP (t' := [(6, .ptr b2 0), (7, .v (.int .i64 (0 : Int)))]) [0,2,0,0,1] [] 4 (wC (wC wN)) (lC 4 (lT lN)) ?_
   exact ⟨rfl, rfl, rfl⟩
noncomputable def eval_room_leaf (a1 : TApiExpr) (m0 : TMemMem) (m1 : TEvalFrame) : Option (TApiWord × Int) :=
  (bif (a1.gOp == (1 : Int)) then ((eval_num a1.gN (0 : Int)).bind fun x5 => some (x5.1, x5.2)) else (bif (a1.gOp == (2 : Int)) then ((eval_room_name a1.gName m0 m1).bind fun x8 => some (x8.1, x8.2)) else (bif (a1.gOp == (4 : Int)) then ((eval_room_load a1.gName m0 m1).bind fun x11 => some (x11.1, x11.2)) else (bif (a1.gOp == (19 : Int)) then ((eval_room_address a1.gName (0 : Int) m0 m1).bind fun x14 => some (x14.1, x14.2)) else some ((⟨true, (0 : Int), (⟨ByteArray.empty, (0 : Int)⟩ : TApiCell)⟩ : TApiWord), (0 : Int))))))
set_option maxRecDepth 100000 in
set_option maxHeartbeats 2000000 in
theorem eval_room_leaf_ok (a1 : TApiExpr) (m0 : TMemMem) (m1 : TEvalFrame) (o0 : Nat) (T0 : TypeId) (z0_0 : Nat) (z0_1 : Nat) (c0_2 : Cap) (o1 : Nat) (T1 : TypeId) (c1_0 : Cap) (c1_1 : Cap) (r : TApiWord × Int) (h0 : eval_room_leaf a1 m0 m1 = some r) : CallsD Try.prog 29 [.agg [.ptr o0 0, .ptr o1 0], eTApiExpr a1] [(o0, Blk.cells [.v (.map (some z0_0)), .v (.map (some z0_1)), .lst 2 (m0.gCells.map eTApiCell) c0_2] T0), (o1, Blk.cells [.lst 2 (m1.gVars.map eTApiVar) c1_0, .lst 4 (m1.gWords.map eTApiWord) c1_1] T1), (z0_0, Blk.mp (m0.gSizes.map fun p => ((fun s : ByteArray => Value.string s) p.1, eI64 p.2))), (z0_1, Blk.mp (m0.gWords.map fun p => ((fun a => Value.agg (kcTApiCell a).toArray) p.1, eTApiWord p.2)))] [] (fun d h k => d = .tup [eTApiWord r.1, .v (.int .i64 r.2)] ∧ h = [(o0, Blk.cells [.v (.map (some z0_0)), .v (.map (some z0_1)), .lst 2 (m0.gCells.map eTApiCell) c0_2] T0), (o1, Blk.cells [.lst 2 (m1.gVars.map eTApiVar) c1_0, .lst 4 (m1.gWords.map eTApiWord) c1_1] T1), (z0_0, Blk.mp (m0.gSizes.map fun p => ((fun s : ByteArray => Value.string s) p.1, eI64 p.2))), (z0_1, Blk.mp (m0.gWords.map fun p => ((fun a => Value.agg (kcTApiCell a).toArray) p.1, eTApiWord p.2)))] ∧ k = []) := by
  have hm := yes_of h0
  unfold eval_room_leaf at hm
  clear h0
  refine enterX htab Try.func29 rfl rfl rfl rfl rfl (fun C => ?_)
  refine w_eq (i := 1) rfl (Wk.of_eq (eTApiExpr_eq a1)) ?_
  refine wpD_sr ?_
  refine p_box rfl rfl rfl rfl rfl rfl rfl (fun b1 => ?_)
  refine p_box rfl rfl rfl rfl rfl rfl rfl (fun b2 => ?_)
  refine p_alloc htab rfl rfl rfl rfl rfl rfl rfl (fun b3 => ?_)
  refine pu ?_
  refine ops_nt ?_
  refine wpD_seq ?_
  refine wpD_sr ?_
  refine pu ?_
  refine pL 5 ?_
  refine ops_nt ?_
  refine wpD_block ?_
  refine wpD_sr ?_
  refine pu ?_
  refine pu ?_
  refine ops_nt ?_
  refine wpD_cond rfl (fun hc4 => ?_) (fun hc4 => ?_)
  ·replace hm := yes_t hc4 hm
   refine wpD_sr ?_
   refine pu ?_
   refine pL 5 ?_
   obtain ⟨x5, q5, hm⟩ := yes_bind hm
   refine p_call0 (eval_num_ok a1.gN (0 : Int) x5 q5) rfl rfl rfl rfl rfl Wl ?_
   rintro _ rfl
   refine pu ?_
   refine pu ?_
   refine pS6 (ds' := [.v (.bool x5.1.gPtr), .v (.int .i64 x5.1.gN), .v (.string x5.1.gTo.gName), .v (.int .i64 x5.1.gTo.gAt)]) ?_
   refine pu ?_
   refine ops_nt ?_
   refine wpD_ret ?_
   refine block_ret ?_
   refine then_ret ?_
   have er6 := yes_eq hm; subst er6
   refine rP (t' := [(4, .ptr b3 0), (5, .v (.int .i64 x5.2))]) [0,0,0,0,2] [] 4 (wC (wC wN)) (lC 4 (lT lN)) ?_
   exact ⟨rfl, rfl, rfl⟩
  ·replace hm := yes_f hc4 hm
   refine wpD_sr ?_
   refine pu ?_
   refine pu ?_
   refine ops_nt ?_
   refine wpD_cond rfl (fun hc7 => ?_) (fun hc7 => ?_)
   ·replace hm := yes_t hc7 hm
    refine wpD_sr ?_
    refine p_load (d := .agg [.ptr o0 0, .ptr o1 0]) 4 htab rfl rfl rfl rfl rfl rfl rfl rfl ?_
    refine pu ?_
    refine pL 5 ?_
    obtain ⟨x8, q8, hm⟩ := yes_bind hm
    refine pG (eval_room_name_ok a1.gName m0 m1 o0 T0 z0_0 z0_1 c0_2 o1 T1 c1_0 c1_1 x8 q8) Wl Pf Pf ?_
    rintro _ _ _ ⟨rfl, rfl, rfl⟩
    refine pu ?_
    refine pu ?_
    refine pS6 (ds' := [.v (.bool x8.1.gPtr), .v (.int .i64 x8.1.gN), .v (.string x8.1.gTo.gName), .v (.int .i64 x8.1.gTo.gAt)]) ?_
    refine pu ?_
    refine ops_nt ?_
    refine wpD_ret ?_
    refine block_ret ?_
    refine then_ret ?_
    have er9 := yes_eq hm; subst er9
    refine rP (t' := [(4, .ptr b3 0), (5, .v (.int .i64 x8.2))]) [0,0,0,0,2] [] 4 (wC (wC wN)) (lC 4 (lT lN)) ?_
    exact ⟨rfl, rfl, rfl⟩
   ·replace hm := yes_f hc7 hm
    refine wpD_sr ?_
    refine pu ?_
    refine pu ?_
    refine ops_nt ?_
    refine wpD_cond rfl (fun hc10 => ?_) (fun hc10 => ?_)
    ·replace hm := yes_t hc10 hm
     refine wpD_sr ?_
     refine p_load (d := .agg [.ptr o0 0, .ptr o1 0]) 4 htab rfl rfl rfl rfl rfl rfl rfl rfl ?_
     refine pu ?_
     refine pL 5 ?_
     obtain ⟨x11, q11, hm⟩ := yes_bind hm
     refine pG (eval_room_load_ok a1.gName m0 m1 o0 T0 z0_0 z0_1 c0_2 o1 T1 c1_0 c1_1 x11 q11) Wl Pf Pf ?_
     rintro _ _ _ ⟨rfl, rfl, rfl⟩
     refine pu ?_
     refine pu ?_
     refine pS6 (ds' := [.v (.bool x11.1.gPtr), .v (.int .i64 x11.1.gN), .v (.string x11.1.gTo.gName), .v (.int .i64 x11.1.gTo.gAt)]) ?_
     refine pu ?_
     refine ops_nt ?_
     refine wpD_ret ?_
     refine block_ret ?_
     refine then_ret ?_
     have er12 := yes_eq hm; subst er12
     refine rP (t' := [(4, .ptr b3 0), (5, .v (.int .i64 x11.2))]) [0,0,0,0,2] [] 4 (wC (wC wN)) (lC 4 (lT lN)) ?_
     exact ⟨rfl, rfl, rfl⟩
    ·replace hm := yes_f hc10 hm
     refine wpD_sr ?_
     refine pu ?_
     refine pu ?_
     refine ops_nt ?_
     refine wpD_cond rfl (fun hc13 => ?_) (fun hc13 => ?_)
     ·replace hm := yes_t hc13 hm
      refine wpD_sr ?_
      refine p_load (d := .agg [.ptr o0 0, .ptr o1 0]) 4 htab rfl rfl rfl rfl rfl rfl rfl rfl ?_
      refine pu ?_
      refine pL 5 ?_
      obtain ⟨x14, q14, hm⟩ := yes_bind hm
      refine pG (eval_room_address_ok a1.gName (0 : Int) m0 m1 o0 T0 z0_0 z0_1 c0_2 o1 T1 c1_0 c1_1 x14 q14) Wl Pf Pf ?_
      rintro _ _ _ ⟨rfl, rfl, rfl⟩
      refine pu ?_
      refine pu ?_
      refine pS6 (ds' := [.v (.bool x14.1.gPtr), .v (.int .i64 x14.1.gN), .v (.string x14.1.gTo.gName), .v (.int .i64 x14.1.gTo.gAt)]) ?_
      refine pu ?_
      refine ops_nt ?_
      refine wpD_ret ?_
      refine block_ret ?_
      refine then_ret ?_
      have er15 := yes_eq hm; subst er15
      refine rP (t' := [(4, .ptr b3 0), (5, .v (.int .i64 x14.2))]) [0,0,0,0,2] [] 4 (wC (wC wN)) (lC 4 (lT lN)) ?_
      exact ⟨rfl, rfl, rfl⟩
     ·replace hm := yes_f hc13 hm
      refine wpD_skip ?_
      refine block_normal ?_
      refine then_normal ?_
      refine wpD_sr ?_
      refine p_build (r := [.v (.bool true), .v (.int .i64 (0 : Int)), .v (.string ByteArray.empty), .v (.int .i64 (0 : Int))]) htab rfl rfl rfl rfl rfl rfl rfl rfl rfl ?_
      refine pS6 (ds' := [.v (.bool true), .v (.int .i64 (0 : Int)), .v (.string ByteArray.empty), .v (.int .i64 (0 : Int))]) ?_
      refine pu ?_
      refine ops_nt ?_
      refine wpD_ret ?_
      have er16 := yes_eq hm; subst er16
      refine rP (t' := [(4, .ptr b3 0), (5, .v (.int .i64 (0 : Int)))]) [0,0,0,0,2] [] 4 (wC (wC wN)) (lC 4 (lT lN)) ?_
      exact ⟨rfl, rfl, rfl⟩
noncomputable def wrap_truth (a0 : Bool) : Option (Int) :=
  (bif a0 then some (1 : Int) else some (0 : Int))
set_option maxRecDepth 100000 in
set_option maxHeartbeats 2000000 in
theorem wrap_truth_ok (a0 : Bool) (r : Int) (h0 : wrap_truth a0 = some r) : CallsD Try.prog 44 [.v (.bool a0)] [] [] (fun d h k => d = .v (.int .i64 r) ∧ h = [] ∧ k = []) := by
  have hm := yes_of h0
  unfold wrap_truth at hm
  clear h0
  refine enterX htab Try.func44 rfl rfl rfl rfl rfl (fun C => ?_)
  refine wpD_sr ?_
  refine pu ?_
  refine ops_nt ?_
  refine wpD_seq ?_
  refine wpD_sr ?_
  refine pu ?_
  refine ops_nt ?_
  refine wpD_cond rfl (fun hc1 => ?_) (fun hc1 => ?_)
  ·replace hm := yes_t hc1 hm
   refine wpD_sr ?_
   refine pu ?_
   refine ops_nt ?_
   refine wpD_ret ?_
   refine then_ret ?_
   have er2 := yes_eq hm; subst er2
   refine rP (t' := [(2, .v (.int .i64 (1 : Int)))]) [] [] 0 (wC wN) (lT lN) ?_
   exact ⟨rfl, rfl, rfl⟩
  ·replace hm := yes_f hc1 hm
   refine wpD_skip ?_
   refine then_normal ?_
   refine wpD_sr ?_
   refine pu ?_
   refine ops_nt ?_
   refine wpD_ret ?_
   have er3 := yes_eq hm; subst er3
   refine rP (t' := [(2, .v (.int .i64 (0 : Int)))]) [] [] 0 (wC wN) (lT lN) ?_
   exact ⟨rfl, rfl, rfl⟩
noncomputable def wrap_One (a0 : Int) (a1 : Int) : Option (Int × Int) :=
  (bif (a0 == (5 : Int)) then ((need (pI a1)).bind fun x2 => ((need (pW (wOf a1))).bind fun x3 => ((need (pW (wNeg (wOf a1)))).bind fun x4 => some ((wLow (wNeg (wOf a1))), (0 : Int))))) else (bif (a0 == (6 : Int)) then ((wrap_truth (a1 == (0 : Int))).bind fun x7 => some (x7, (0 : Int))) else some ((0 : Int), (2 : Int))))
set_option maxRecDepth 100000 in
set_option maxHeartbeats 2000000 in
theorem wrap_One_ok (a0 : Int) (a1 : Int) (r : Int × Int) (h0 : wrap_One a0 a1 = some r) : CallsD Try.prog 38 [.v (.int .i64 a0), .v (.int .i64 a1)] [] [] (fun d h k => d = .tup [.v (.int .i64 r.1), .v (.int .i64 r.2)] ∧ h = [] ∧ k = []) := by
  have hm := yes_of h0
  unfold wrap_One at hm
  clear h0
  refine enterX htab Try.func38 rfl rfl rfl rfl rfl (fun C => ?_)
  refine wpD_sr ?_
  refine pu ?_
  refine pu ?_
  refine ops_nt ?_
  refine wpD_seq ?_
  refine wpD_sr ?_
  refine pu ?_
  refine ops_nt ?_
  refine wpD_block ?_
  refine wpD_sr ?_
  refine pu ?_
  refine pu ?_
  refine ops_nt ?_
  refine wpD_cond rfl (fun hc1 => ?_) (fun hc1 => ?_)
  ·replace hm := yes_t hc1 hm
   refine wpD_sr ?_
   refine pu ?_
   obtain ⟨x2, q2, hm⟩ := yes_bind hm
   refine p_call0 (wOf_ok a1 (need_ok q2)) rfl rfl rfl rfl rfl Wl ?_
   rintro _ rfl
   obtain ⟨x3, q3, hm⟩ := yes_bind hm
   refine p_call0 (wNeg_ok (wOf a1) (need_ok q3)) rfl rfl rfl rfl rfl Wl ?_
   rintro _ rfl
   obtain ⟨x4, q4, hm⟩ := yes_bind hm
   refine p_call0 (wLow_ok (wNeg (wOf a1)) (need_ok q4)) rfl rfl rfl rfl rfl Wl ?_
   rintro _ rfl
   refine pu ?_
   refine pu ?_
   refine ops_nt ?_
   refine wpD_ret ?_
   refine block_ret ?_
   refine then_ret ?_
   have er5 := yes_eq hm; subst er5
   refine rP (t' := [(4, .v (.int .i64 (wLow (wNeg (wOf a1))))), (5, .v (.int .i64 (0 : Int)))]) [] [] 0 (wC (wC wN)) (lT (lT lN)) ?_
   exact ⟨rfl, rfl, rfl⟩
  ·replace hm := yes_f hc1 hm
   refine wpD_sr ?_
   refine pu ?_
   refine pu ?_
   refine ops_nt ?_
   refine wpD_cond rfl (fun hc6 => ?_) (fun hc6 => ?_)
   ·replace hm := yes_t hc6 hm
    refine wpD_sr ?_
    refine pu ?_
    refine pu ?_
    obtain ⟨x7, q7, hm⟩ := yes_bind hm
    refine p_call0 (wrap_truth_ok (a1 == (0 : Int)) x7 q7) rfl rfl rfl rfl rfl Wl ?_
    rintro _ rfl
    refine pu ?_
    refine pu ?_
    refine ops_nt ?_
    refine wpD_ret ?_
    refine block_ret ?_
    refine then_ret ?_
    have er8 := yes_eq hm; subst er8
    refine rP (t' := [(4, .v (.int .i64 x7)), (5, .v (.int .i64 (0 : Int)))]) [] [] 0 (wC (wC wN)) (lT (lT lN)) ?_
    exact ⟨rfl, rfl, rfl⟩
   ·replace hm := yes_f hc6 hm
    refine wpD_skip ?_
    refine block_normal ?_
    refine then_normal ?_
    refine wpD_sr ?_
    refine pu ?_
    refine pu ?_
    refine ops_nt ?_
    refine wpD_ret ?_
    have er9 := yes_eq hm; subst er9
    refine rP (t' := [(4, .v (.int .i64 (0 : Int))), (5, .v (.int .i64 (2 : Int)))]) [] [] 0 (wC (wC wN)) (lT (lT lN)) ?_
    exact ⟨rfl, rfl, rfl⟩
noncomputable def eval_room_one (a1 : TApiExpr) (a2 : TApiWord) (m0 : TMemMem) (m1 : TEvalFrame) : Option (TApiWord × Int) :=
  (bif a2.gPtr then some ((⟨false, (0 : Int), (⟨ByteArray.empty, (0 : Int)⟩ : TApiCell)⟩ : TApiWord), (9 : Int)) else (bif (a1.gOp == (3 : Int)) then ((eval_room_at a1.gName a2.gN m0 m1).bind fun x17 => some (x17.1, x17.2)) else (bif (a1.gOp == (20 : Int)) then ((eval_room_address a1.gName a2.gN m0 m1).bind fun x22 => some (x22.1, x22.2)) else ((wrap_One a1.gOp a2.gN).bind fun x24 => ((eval_num x24.1 x24.2).bind fun x25 => some (x25.1, x25.2))))))
set_option maxRecDepth 100000 in
set_option maxHeartbeats 2000000 in
theorem eval_room_one_ok (a1 : TApiExpr) (a2 : TApiWord) (m0 : TMemMem) (m1 : TEvalFrame) (o0 : Nat) (T0 : TypeId) (z0_0 : Nat) (z0_1 : Nat) (c0_2 : Cap) (o1 : Nat) (T1 : TypeId) (c1_0 : Cap) (c1_1 : Cap) (r : TApiWord × Int) (h0 : eval_room_one a1 a2 m0 m1 = some r) : CallsD Try.prog 30 [.agg [.ptr o0 0, .ptr o1 0], eTApiExpr a1, eTApiWord a2] [(o0, Blk.cells [.v (.map (some z0_0)), .v (.map (some z0_1)), .lst 2 (m0.gCells.map eTApiCell) c0_2] T0), (o1, Blk.cells [.lst 2 (m1.gVars.map eTApiVar) c1_0, .lst 4 (m1.gWords.map eTApiWord) c1_1] T1), (z0_0, Blk.mp (m0.gSizes.map fun p => ((fun s : ByteArray => Value.string s) p.1, eI64 p.2))), (z0_1, Blk.mp (m0.gWords.map fun p => ((fun a => Value.agg (kcTApiCell a).toArray) p.1, eTApiWord p.2)))] [] (fun d h k => d = .tup [eTApiWord r.1, .v (.int .i64 r.2)] ∧ h = [(o0, Blk.cells [.v (.map (some z0_0)), .v (.map (some z0_1)), .lst 2 (m0.gCells.map eTApiCell) c0_2] T0), (o1, Blk.cells [.lst 2 (m1.gVars.map eTApiVar) c1_0, .lst 4 (m1.gWords.map eTApiWord) c1_1] T1), (z0_0, Blk.mp (m0.gSizes.map fun p => ((fun s : ByteArray => Value.string s) p.1, eI64 p.2))), (z0_1, Blk.mp (m0.gWords.map fun p => ((fun a => Value.agg (kcTApiCell a).toArray) p.1, eTApiWord p.2)))] ∧ k = []) := by
  have hm := yes_of h0
  unfold eval_room_one at hm
  clear h0
  refine enterX htab Try.func30 rfl rfl rfl rfl rfl (fun C => ?_)
  refine w_eq (i := 1) rfl (Wk.of_eq (eTApiExpr_eq a1)) ?_
  refine wpD_sr ?_
  refine p_box rfl rfl rfl rfl rfl rfl rfl (fun b1 => ?_)
  refine p_box rfl rfl rfl rfl rfl rfl rfl (fun b2 => ?_)
  refine p_box rfl rfl rfl rfl rfl rfl rfl (fun b3 => ?_)
  refine p_alloc htab rfl rfl rfl rfl rfl rfl rfl (fun b4 => ?_)
  refine pu ?_
  refine ops_nt ?_
  refine wpD_seq ?_
  refine wpD_sr ?_
  refine pu ?_
  refine pL 6 ?_
  refine ops_nt ?_
  refine wpD_cond rfl (fun hc6 => ?_) (fun hc6 => ?_)
  ·replace hm := yes_t hc6 hm
   refine wpD_sr ?_
   refine p_build (r := [.v (.bool false), .v (.int .i64 (0 : Int)), .v (.string ByteArray.empty), .v (.int .i64 (0 : Int))]) htab rfl rfl rfl rfl rfl rfl rfl rfl rfl ?_
   refine pS7 (ds' := [.v (.bool false), .v (.int .i64 (0 : Int)), .v (.string ByteArray.empty), .v (.int .i64 (0 : Int))]) ?_
   refine pu ?_
   refine ops_nt ?_
   refine wpD_ret ?_
   refine then_ret ?_
   have er7 := yes_eq hm; subst er7
   refine rP (t' := [(6, .ptr b4 0), (7, .v (.int .i64 (9 : Int)))]) [0,0,0,0,3] [] 4 (wC (wC wN)) (lC 4 (lT lN)) ?_
   exact ⟨rfl, rfl, rfl⟩
  ·replace hm := yes_f hc6 hm
   refine wpD_skip ?_
   refine then_normal ?_
   refine wpD_seq ?_
   refine wpD_sr ?_
   refine pu ?_
   refine pL 5 ?_
   refine ops_nt ?_
   refine wpD_block ?_
   refine wpD_sr ?_
   refine pu ?_
   refine pu ?_
   refine ops_nt ?_
   refine wpD_cond rfl (fun hc16 => ?_) (fun hc16 => ?_)
   ·replace hm := yes_t hc16 hm
    refine wpD_sr ?_
    refine p_load (d := .agg [.ptr o0 0, .ptr o1 0]) 4 htab rfl rfl rfl rfl rfl rfl rfl rfl ?_
    refine pu ?_
    refine pL 5 ?_
    refine pu ?_
    refine pL 6 ?_
    obtain ⟨x17, q17, hm⟩ := yes_bind hm
    refine pG (eval_room_at_ok a1.gName a2.gN m0 m1 o0 T0 z0_0 z0_1 c0_2 o1 T1 c1_0 c1_1 x17 q17) Wl Pf Pf ?_
    rintro _ _ _ ⟨rfl, rfl, rfl⟩
    refine pu ?_
    refine pu ?_
    refine pS7 (ds' := [.v (.bool x17.1.gPtr), .v (.int .i64 x17.1.gN), .v (.string x17.1.gTo.gName), .v (.int .i64 x17.1.gTo.gAt)]) ?_
    refine pu ?_
    refine ops_nt ?_
    refine wpD_ret ?_
    refine block_ret ?_
    refine then_ret ?_
    have er18 := yes_eq hm; subst er18
    refine rP (t' := [(6, .ptr b4 0), (7, .v (.int .i64 x17.2))]) [0,0,0,0,3] [] 4 (wC (wC wN)) (lC 4 (lT lN)) ?_
    exact ⟨rfl, rfl, rfl⟩
   ·replace hm := yes_f hc16 hm
    refine wpD_sr ?_
    refine pu ?_
    refine pu ?_
    refine ops_nt ?_
    refine wpD_cond rfl (fun hc21 => ?_) (fun hc21 => ?_)
    ·replace hm := yes_t hc21 hm
     refine wpD_sr ?_
     refine p_load (d := .agg [.ptr o0 0, .ptr o1 0]) 4 htab rfl rfl rfl rfl rfl rfl rfl rfl ?_
     refine pu ?_
     refine pL 5 ?_
     refine pu ?_
     refine pL 6 ?_
     obtain ⟨x22, q22, hm⟩ := yes_bind hm
     refine pG (eval_room_address_ok a1.gName a2.gN m0 m1 o0 T0 z0_0 z0_1 c0_2 o1 T1 c1_0 c1_1 x22 q22) Wl Pf Pf ?_
     rintro _ _ _ ⟨rfl, rfl, rfl⟩
     refine pu ?_
     refine pu ?_
     refine pS7 (ds' := [.v (.bool x22.1.gPtr), .v (.int .i64 x22.1.gN), .v (.string x22.1.gTo.gName), .v (.int .i64 x22.1.gTo.gAt)]) ?_
     refine pu ?_
     refine ops_nt ?_
     refine wpD_ret ?_
     refine block_ret ?_
     refine then_ret ?_
     have er23 := yes_eq hm; subst er23
     refine rP (t' := [(6, .ptr b4 0), (7, .v (.int .i64 x22.2))]) [0,0,0,0,3] [] 4 (wC (wC wN)) (lC 4 (lT lN)) ?_
     exact ⟨rfl, rfl, rfl⟩
    ·replace hm := yes_f hc21 hm
     refine wpD_skip ?_
     refine block_normal ?_
     refine then_normal ?_
     refine wpD_sr ?_
     refine pu ?_
     refine pL 5 ?_
     refine pu ?_
     refine pL 6 ?_
     obtain ⟨x24, q24, hm⟩ := yes_bind hm
     refine p_call0 (wrap_One_ok a1.gOp a2.gN x24 q24) rfl rfl rfl rfl rfl Wl ?_
     rintro _ rfl
     refine pu ?_
     refine pu ?_
     obtain ⟨x25, q25, hm⟩ := yes_bind hm
     refine p_call0 (eval_num_ok x24.1 x24.2 x25 q25) rfl rfl rfl rfl rfl Wl ?_
     rintro _ rfl
     refine pu ?_
     refine pu ?_
     refine pS7 (ds' := [.v (.bool x25.1.gPtr), .v (.int .i64 x25.1.gN), .v (.string x25.1.gTo.gName), .v (.int .i64 x25.1.gTo.gAt)]) ?_
     refine pu ?_
     refine ops_nt ?_
     refine wpD_ret ?_
     have er26 := yes_eq hm; subst er26
     refine rP (t' := [(6, .ptr b4 0), (7, .v (.int .i64 x25.2))]) [0,0,0,0,3] [] 4 (wC (wC wN)) (lC 4 (lT lN)) ?_
     exact ⟨rfl, rfl, rfl⟩
noncomputable def wrap_Exact (a0 : Int) (a1 : Int) (a2 : Int) : Option (TApiWide × Bool) :=
  (bif (a0 == (10 : Int)) then ((need (pI a1)).bind fun x3 => ((need (pI a2)).bind fun x4 => ((need (pWW (wOf a1) (wOf a2))).bind fun x5 => some ((wAdd (wOf a1) (wOf a2)), true)))) else (bif (a0 == (11 : Int)) then ((need (pI a1)).bind fun x8 => ((need (pI a2)).bind fun x9 => ((need (pWW (wOf a1) (wOf a2))).bind fun x10 => some ((wSub (wOf a1) (wOf a2)), true)))) else (bif (a0 == (7 : Int)) then ((need (pII a1 a2)).bind fun x13 => some ((wMul a1 a2), true)) else some ((⟨(0 : Int), (0 : Int)⟩ : TApiWide), false))))
set_option maxRecDepth 100000 in
set_option maxHeartbeats 2000000 in
theorem wrap_Exact_ok (a0 : Int) (a1 : Int) (a2 : Int) (r : TApiWide × Bool) (h0 : wrap_Exact a0 a1 a2 = some r) : CallsD Try.prog 45 [.v (.int .i64 a0), .v (.int .i64 a1), .v (.int .i64 a2)] [] [] (fun d h k => d = .tup [eTApiWide r.1, .v (.bool r.2)] ∧ h = [] ∧ k = []) := by
  have hm := yes_of h0
  unfold wrap_Exact at hm
  clear h0
  refine enterX htab Try.func45 rfl rfl rfl rfl rfl (fun C => ?_)
  refine wpD_sr ?_
  refine p_alloc htab rfl rfl rfl rfl rfl rfl rfl (fun b1 => ?_)
  refine pu ?_
  refine ops_nt ?_
  refine wpD_seq ?_
  refine wpD_sr ?_
  refine pu ?_
  refine ops_nt ?_
  refine wpD_block ?_
  refine wpD_sr ?_
  refine pu ?_
  refine pu ?_
  refine ops_nt ?_
  refine wpD_cond rfl (fun hc2 => ?_) (fun hc2 => ?_)
  ·replace hm := yes_t hc2 hm
   refine wpD_sr ?_
   refine pu ?_
   obtain ⟨x3, q3, hm⟩ := yes_bind hm
   refine p_call0 (wOf_ok a1 (need_ok q3)) rfl rfl rfl rfl rfl Wl ?_
   rintro _ rfl
   refine pu ?_
   obtain ⟨x4, q4, hm⟩ := yes_bind hm
   refine p_call0 (wOf_ok a2 (need_ok q4)) rfl rfl rfl rfl rfl Wl ?_
   rintro _ rfl
   obtain ⟨x5, q5, hm⟩ := yes_bind hm
   refine p_call0 (wAdd_ok (wOf a1) (wOf a2) (need_ok q5)) rfl rfl rfl rfl rfl Wl ?_
   rintro _ rfl
   refine pS0 (ds' := [.v (.int .i64 ((wAdd (wOf a1) (wOf a2)).gHi)), .v (.int .u64 ((wAdd (wOf a1) (wOf a2)).gLo))]) ?_
   refine pu ?_
   refine ops_nt ?_
   refine wpD_ret ?_
   refine block_ret ?_
   refine then_ret ?_
   have er6 := yes_eq hm; subst er6
   refine rP (t' := [(6, .ptr b1 0), (7, .v (.bool true))]) [0] [] 0 (wC (wC wN)) (lC 0 (lT lN)) ?_
   exact ⟨rfl, rfl, rfl⟩
  ·replace hm := yes_f hc2 hm
   refine wpD_sr ?_
   refine pu ?_
   refine pu ?_
   refine ops_nt ?_
   refine wpD_cond rfl (fun hc7 => ?_) (fun hc7 => ?_)
   ·replace hm := yes_t hc7 hm
    refine wpD_sr ?_
    refine pu ?_
    obtain ⟨x8, q8, hm⟩ := yes_bind hm
    refine p_call0 (wOf_ok a1 (need_ok q8)) rfl rfl rfl rfl rfl Wl ?_
    rintro _ rfl
    refine pu ?_
    obtain ⟨x9, q9, hm⟩ := yes_bind hm
    refine p_call0 (wOf_ok a2 (need_ok q9)) rfl rfl rfl rfl rfl Wl ?_
    rintro _ rfl
    obtain ⟨x10, q10, hm⟩ := yes_bind hm
    refine p_call0 (wSub_ok (wOf a1) (wOf a2) (need_ok q10)) rfl rfl rfl rfl rfl Wl ?_
    rintro _ rfl
    refine pS0 (ds' := [.v (.int .i64 ((wSub (wOf a1) (wOf a2)).gHi)), .v (.int .u64 ((wSub (wOf a1) (wOf a2)).gLo))]) ?_
    refine pu ?_
    refine ops_nt ?_
    refine wpD_ret ?_
    refine block_ret ?_
    refine then_ret ?_
    have er11 := yes_eq hm; subst er11
    refine rP (t' := [(6, .ptr b1 0), (7, .v (.bool true))]) [0] [] 0 (wC (wC wN)) (lC 0 (lT lN)) ?_
    exact ⟨rfl, rfl, rfl⟩
   ·replace hm := yes_f hc7 hm
    refine wpD_sr ?_
    refine pu ?_
    refine pu ?_
    refine ops_nt ?_
    refine wpD_cond rfl (fun hc12 => ?_) (fun hc12 => ?_)
    ·replace hm := yes_t hc12 hm
     refine wpD_sr ?_
     refine pu ?_
     refine pu ?_
     obtain ⟨x13, q13, hm⟩ := yes_bind hm
     refine p_call0 (wMul_ok a1 a2 (need_ok q13)) rfl rfl rfl rfl rfl Wl ?_
     rintro _ rfl
     refine pS0 (ds' := [.v (.int .i64 ((wMul a1 a2).gHi)), .v (.int .u64 ((wMul a1 a2).gLo))]) ?_
     refine pu ?_
     refine ops_nt ?_
     refine wpD_ret ?_
     refine block_ret ?_
     refine then_ret ?_
     have er14 := yes_eq hm; subst er14
     refine rP (t' := [(6, .ptr b1 0), (7, .v (.bool true))]) [0] [] 0 (wC (wC wN)) (lC 0 (lT lN)) ?_
     exact ⟨rfl, rfl, rfl⟩
    ·replace hm := yes_f hc12 hm
     refine wpD_skip ?_
     refine block_normal ?_
     refine then_normal ?_
     refine wpD_sr ?_
     refine p_build (r := [.v (.int .i64 (0 : Int)), .v (.int .u64 (0 : Int))]) htab rfl rfl rfl rfl rfl rfl rfl rfl rfl ?_
     refine pS0 (ds' := [.v (.int .i64 (0 : Int)), .v (.int .u64 (0 : Int))]) ?_
     refine pu ?_
     refine ops_nt ?_
     refine wpD_ret ?_
     have er15 := yes_eq hm; subst er15
     refine rP (t' := [(6, .ptr b1 0), (7, .v (.bool false))]) [0] [] 0 (wC (wC wN)) (lC 0 (lT lN)) ?_
     exact ⟨rfl, rfl, rfl⟩
noncomputable def wrap_parts (a0 : Int) (a1 : Int) (a2 : Int) : Option (Int × Int) :=
  (bif (a2 == (0 : Int)) then some ((0 : Int), (10 : Int)) else (bif (a2 == (-1 : Int)) then (bif (a0 == (8 : Int)) then some ((IntKind.i64.wrap (0 - a1)), (0 : Int)) else some ((0 : Int), (0 : Int))) else (bif (a0 == (8 : Int)) then ((need (a2 != 0)).bind fun x25 => some ((IntKind.i64.wrap (a1.tdiv a2)), (0 : Int))) else ((need (a2 != 0)).bind fun x27 => some ((a1.tmod a2), (0 : Int))))))
set_option maxRecDepth 100000 in
set_option maxHeartbeats 2000000 in
theorem wrap_parts_ok (a0 : Int) (a1 : Int) (a2 : Int) (r : Int × Int) (h0 : wrap_parts a0 a1 a2 = some r) : CallsD Try.prog 46 [.v (.int .i64 a0), .v (.int .i64 a1), .v (.int .i64 a2)] [] [] (fun d h k => d = .tup [.v (.int .i64 r.1), .v (.int .i64 r.2)] ∧ h = [] ∧ k = []) := by
  have hm := yes_of h0
  unfold wrap_parts at hm
  clear h0
  refine enterX htab Try.func46 rfl rfl rfl rfl rfl (fun C => ?_)
  refine wpD_sr ?_
  refine pu ?_
  refine pu ?_
  refine ops_nt ?_
  refine wpD_seq ?_
  refine wpD_block ?_
  refine wpD_sr ?_
  iterate 3 refine pu ?_
  refine ops_nt ?_
  refine wpD_cond rfl (fun hc11 => ?_) (fun hc11 => ?_)
  ·replace hm := yes_t hc11 hm
   refine wpD_sr ?_
   refine pu ?_
   refine pu ?_
   refine ops_nt ?_
   refine wpD_ret ?_
   refine block_ret ?_
   refine then_ret ?_
   have er12 := yes_eq hm; subst er12
   refine rP (t' := [(6, .v (.int .i64 (0 : Int))), (7, .v (.int .i64 (10 : Int)))]) [] [] 0 (wC (wC wN)) (lT (lT lN)) ?_
   exact ⟨rfl, rfl, rfl⟩
  ·replace hm := yes_f hc11 hm
   refine wpD_sr ?_
   iterate 3 refine pu ?_
   refine ops_nt ?_
   refine wpD_cond rfl (fun hc17 => ?_) (fun hc17 => ?_)
   ·replace hm := yes_t hc17 hm
    refine wpD_seq ?_
    refine wpD_sr ?_
    refine pu ?_
    refine pu ?_
    refine ops_nt ?_
    refine wpD_cond rfl (fun hc19 => ?_) (fun hc19 => ?_)
    ·replace hm := yes_t hc19 hm
     refine wpD_sr ?_
     iterate 4 refine pu ?_
     refine ops_nt ?_
     refine wpD_ret ?_
     refine then_ret ?_
     refine block_ret ?_
     refine then_ret ?_
     have er20 := yes_eq hm; subst er20
     refine rP (t' := [(6, .v (.int .i64 (IntKind.i64.wrap (0 - a1)))), (7, .v (.int .i64 (0 : Int)))]) [] [] 0 (wC (wC wN)) (lT (lT lN)) ?_
     exact ⟨rfl, rfl, rfl⟩
    ·replace hm := yes_f hc19 hm
     refine wpD_skip ?_
     refine then_normal ?_
     refine wpD_sr ?_
     refine pu ?_
     refine pu ?_
     refine ops_nt ?_
     refine wpD_ret ?_
     refine block_ret ?_
     refine then_ret ?_
     have er21 := yes_eq hm; subst er21
     refine rP (t' := [(6, .v (.int .i64 (0 : Int))), (7, .v (.int .i64 (0 : Int)))]) [] [] 0 (wC (wC wN)) (lT (lT lN)) ?_
     exact ⟨rfl, rfl, rfl⟩
   ·replace hm := yes_f hc17 hm
    refine wpD_sr ?_
    iterate 3 refine pu ?_
    refine ops_nt ?_
    refine wpD_cond rfl (fun hc24 => ?_) (fun hc24 => ?_)
    ·replace hm := yes_t hc24 hm
     refine wpD_sr ?_
     refine pu ?_
     refine pu ?_
     obtain ⟨x25, q25, hm⟩ := yes_bind hm
     refine p_div rfl rfl rfl rfl rfl rfl rfl (by simpa using need_ok q25) ?_
     refine pu ?_
     refine pu ?_
     refine ops_nt ?_
     refine wpD_ret ?_
     refine block_ret ?_
     refine then_ret ?_
     have er26 := yes_eq hm; subst er26
     refine rP (t' := [(6, .v (.int .i64 (IntKind.i64.wrap (a1.tdiv a2)))), (7, .v (.int .i64 (0 : Int)))]) [] [] 0 (wC (wC wN)) (lT (lT lN)) ?_
     exact ⟨rfl, rfl, rfl⟩
    ·replace hm := yes_f hc24 hm
     refine wpD_skip ?_
     refine block_normal ?_
     refine then_normal ?_
     refine wpD_sr ?_
     refine pu ?_
     refine pu ?_
     obtain ⟨x27, q27, hm⟩ := yes_bind hm
     refine p_div rfl rfl rfl rfl rfl rfl rfl (by simpa using need_ok q27) ?_
     refine pu ?_
     refine pu ?_
     refine ops_nt ?_
     refine wpD_ret ?_
     have er28 := yes_eq hm; subst er28
     refine rP (t' := [(6, .v (.int .i64 (a1.tmod a2))), (7, .v (.int .i64 (0 : Int)))]) [] [] 0 (wC (wC wN)) (lT (lT lN)) ?_
     exact ⟨rfl, rfl, rfl⟩
noncomputable def wrap_holds (a0 : Int) (a1 : Int) (a2 : Int) : Option (Bool × Bool) :=
  (bif (a0 == (12 : Int)) then some ((decide (a1 < a2)), true) else (bif (a0 == (13 : Int)) then some ((decide (a1 ≤ a2)), true) else (bif (a0 == (14 : Int)) then some ((a1 == a2), true) else (bif (a0 == (15 : Int)) then some ((a1 != a2), true) else (bif (a0 == (16 : Int)) then (Option.bind (α := Bool) (bif (a1 != (0 : Int)) then some (a2 != (0 : Int)) else some false) fun y49 => some (y49, true)) else (bif (a0 == (17 : Int)) then (Option.bind (α := Bool) (bif (a1 != (0 : Int)) then some true else some (a2 != (0 : Int))) fun y56 => some (y56, true)) else some (false, false)))))))
set_option maxRecDepth 100000 in
set_option maxHeartbeats 2000000 in
theorem wrap_holds_ok (a0 : Int) (a1 : Int) (a2 : Int) (r : Bool × Bool) (h0 : wrap_holds a0 a1 a2 = some r) : CallsD Try.prog 47 [.v (.int .i64 a0), .v (.int .i64 a1), .v (.int .i64 a2)] [] [] (fun d h k => d = .tup [.v (.bool r.1), .v (.bool r.2)] ∧ h = [] ∧ k = []) := by
  have hm := yes_of h0
  unfold wrap_holds at hm
  clear h0
  refine enterX htab Try.func47 rfl rfl rfl rfl rfl (fun C => ?_)
  refine wpD_sr ?_
  refine pu ?_
  refine pu ?_
  refine ops_nt ?_
  refine wpD_scope 4 (jumpsD_succ ?_)
  refine wpD_sr ?_
  refine pu ?_
  refine ops_nt ?_
  refine wpD_seq ?_
  refine wpD_sr ?_
  refine pu ?_
  refine ops_nt ?_
  refine wpD_block ?_
  refine wpD_sr ?_
  refine pu ?_
  refine pu ?_
  refine ops_nt ?_
  refine wpD_cond rfl (fun hc17 => ?_) (fun hc17 => ?_)
  ·replace hm := yes_t hc17 hm
   refine wpD_sr ?_
   iterate 4 refine pu ?_
   refine ops_nt ?_
   refine wpD_goto ?_
   refine block_goto ?_
   refine then_goto ?_
   refine scope_goto rfl (jumpsD_succ ?_)
   refine wpD_seq ?_
   refine wpD_skip ?_
   refine then_normal ?_
   refine wpD_sr ?_
   iterate 3 refine pu ?_
   refine ops_nt ?_
   refine wpD_ret ?_
   refine scope_ret ?_
   have er18 := yes_eq hm; subst er18
   refine rP (t' := [(6, .v (.bool (decide (a1 < a2)))), (7, .v (.bool true))]) [] [] 0 (wC (wC wN)) (lT (lT lN)) ?_
   exact ⟨rfl, rfl, rfl⟩
  ·replace hm := yes_f hc17 hm
   refine wpD_sr ?_
   refine pu ?_
   refine pu ?_
   refine ops_nt ?_
   refine wpD_cond rfl (fun hc26 => ?_) (fun hc26 => ?_)
   ·replace hm := yes_t hc26 hm
    refine wpD_sr ?_
    iterate 4 refine pu ?_
    refine ops_nt ?_
    refine wpD_goto ?_
    refine block_goto ?_
    refine then_goto ?_
    refine scope_goto rfl (jumpsD_succ ?_)
    refine wpD_seq ?_
    refine wpD_skip ?_
    refine then_normal ?_
    refine wpD_sr ?_
    iterate 3 refine pu ?_
    refine ops_nt ?_
    refine wpD_ret ?_
    refine scope_ret ?_
    have er27 := yes_eq hm; subst er27
    refine rP (t' := [(6, .v (.bool (decide (a1 ≤ a2)))), (7, .v (.bool true))]) [] [] 0 (wC (wC wN)) (lT (lT lN)) ?_
    exact ⟨rfl, rfl, rfl⟩
   ·replace hm := yes_f hc26 hm
    refine wpD_sr ?_
    refine pu ?_
    refine pu ?_
    refine ops_nt ?_
    refine wpD_cond rfl (fun hc34 => ?_) (fun hc34 => ?_)
    ·replace hm := yes_t hc34 hm
     refine wpD_sr ?_
     iterate 4 refine pu ?_
     refine ops_nt ?_
     refine wpD_goto ?_
     refine block_goto ?_
     refine then_goto ?_
     refine scope_goto rfl (jumpsD_succ ?_)
     refine wpD_seq ?_
     refine wpD_skip ?_
     refine then_normal ?_
     refine wpD_sr ?_
     iterate 3 refine pu ?_
     refine ops_nt ?_
     refine wpD_ret ?_
     refine scope_ret ?_
     have er35 := yes_eq hm; subst er35
     refine rP (t' := [(6, .v (.bool (a1 == a2))), (7, .v (.bool true))]) [] [] 0 (wC (wC wN)) (lT (lT lN)) ?_
     exact ⟨rfl, rfl, rfl⟩
    ·replace hm := yes_f hc34 hm
     refine wpD_sr ?_
     refine pu ?_
     refine pu ?_
     refine ops_nt ?_
     refine wpD_cond rfl (fun hc41 => ?_) (fun hc41 => ?_)
     ·replace hm := yes_t hc41 hm
      refine wpD_sr ?_
      iterate 4 refine pu ?_
      refine ops_nt ?_
      refine wpD_goto ?_
      refine block_goto ?_
      refine then_goto ?_
      refine scope_goto rfl (jumpsD_succ ?_)
      refine wpD_seq ?_
      refine wpD_skip ?_
      refine then_normal ?_
      refine wpD_sr ?_
      iterate 3 refine pu ?_
      refine ops_nt ?_
      refine wpD_ret ?_
      refine scope_ret ?_
      have er42 := yes_eq hm; subst er42
      refine rP (t' := [(6, .v (.bool (a1 != a2))), (7, .v (.bool true))]) [] [] 0 (wC (wC wN)) (lT (lT lN)) ?_
      exact ⟨rfl, rfl, rfl⟩
     ·replace hm := yes_f hc41 hm
      refine wpD_sr ?_
      refine pu ?_
      refine pu ?_
      refine ops_nt ?_
      refine wpD_cond rfl (fun hc47 => ?_) (fun hc47 => ?_)
      ·replace hm := yes_t hc47 hm
       refine wpD_seq ?_
       obtain ⟨y49, q49, ho49⟩ := yes_bind hm
       refine wpD_mid (Y := Unit) (fun z49 => (⟨[(8, .v (.bool y49))], [], []⟩ : S)) ?_ ?_
       ·clear hm; have hm := yes_of q49
        refine wpD_region ?_
        iterate 3 refine pu ?_
        refine p_split (i := 34) rfl (fun hg50 => ?_) (fun hg50 => ?_)
        ·replace hm := yes_t hg50 hm
         refine pu ?_
         refine pu ?_
         refine p_pickT rfl rfl rfl rfl rfl rfl ?_
         refine pu ?_
         refine ops_nil ?_
         have e49 := yes_eq hm; subst e49
         refine ⟨rfl, ?_⟩
         exact WkX.of () (WkS.perm (WkS.cons rfl (Wk.refl _) (WkS.nil)) Pf Pf)
        ·replace hm := yes_f hg50 hm
         refine pK ?_
         refine pK ?_
         refine p_pickF rfl rfl rfl rfl rfl rfl ?_
         refine pu ?_
         refine ops_nil ?_
         have e49 := yes_eq hm; subst e49
         refine ⟨rfl, ?_⟩
         exact WkX.of () (WkS.perm (WkS.cons rfl (Wk.refl _) (WkS.nil)) Pf Pf)
       ·intro s49 hw49; clear hm; have hm := ho49; clear q49 ho49
        refine then_normal ?_
        refine wpD_wkX hw49 (fun z49 => ?_)
        refine wpD_goto ?_
        refine block_goto ?_
        refine then_goto ?_
        refine scope_goto rfl (jumpsD_succ ?_)
        refine wpD_seq ?_
        refine wpD_skip ?_
        refine then_normal ?_
        refine wpD_sr ?_
        iterate 3 refine pu ?_
        refine ops_nt ?_
        refine wpD_ret ?_
        refine scope_ret ?_
        have er51 := yes_eq hm; subst er51
        refine rP (t' := [(6, .v (.bool y49)), (7, .v (.bool true))]) [] [] 0 (wC (wC wN)) (lT (lT lN)) ?_
        exact ⟨rfl, rfl, rfl⟩
      ·replace hm := yes_f hc47 hm
       refine wpD_sr ?_
       refine pu ?_
       refine pu ?_
       refine ops_nt ?_
       refine wpD_cond rfl (fun hc54 => ?_) (fun hc54 => ?_)
       ·replace hm := yes_t hc54 hm
        refine wpD_seq ?_
        obtain ⟨y56, q56, ho56⟩ := yes_bind hm
        refine wpD_mid (Y := Unit) (fun z56 => (⟨[(8, .v (.bool y56))], [], []⟩ : S)) ?_ ?_
        ·clear hm; have hm := yes_of q56
         refine wpD_region ?_
         iterate 3 refine pu ?_
         refine p_split (i := 42) rfl (fun hg57 => ?_) (fun hg57 => ?_)
         ·replace hm := yes_t hg57 hm
          refine pK ?_
          refine pK ?_
          refine p_pickT rfl rfl rfl rfl rfl rfl ?_
          refine pu ?_
          refine ops_nil ?_
          have e56 := yes_eq hm; subst e56
          refine ⟨rfl, ?_⟩
          exact WkX.of () (WkS.perm (WkS.cons rfl (Wk.refl _) (WkS.nil)) Pf Pf)
         ·replace hm := yes_f hg57 hm
          refine pu ?_
          refine pu ?_
          refine p_pickF rfl rfl rfl rfl rfl rfl ?_
          refine pu ?_
          refine ops_nil ?_
          have e56 := yes_eq hm; subst e56
          refine ⟨rfl, ?_⟩
          exact WkX.of () (WkS.perm (WkS.cons rfl (Wk.refl _) (WkS.nil)) Pf Pf)
        ·intro s56 hw56; clear hm; have hm := ho56; clear q56 ho56
         refine then_normal ?_
         refine wpD_wkX hw56 (fun z56 => ?_)
         refine wpD_goto ?_
         refine block_goto ?_
         refine then_goto ?_
         refine scope_goto rfl (jumpsD_succ ?_)
         refine wpD_seq ?_
         refine wpD_skip ?_
         refine then_normal ?_
         refine wpD_sr ?_
         iterate 3 refine pu ?_
         refine ops_nt ?_
         refine wpD_ret ?_
         refine scope_ret ?_
         have er58 := yes_eq hm; subst er58
         refine rP (t' := [(6, .v (.bool y56)), (7, .v (.bool true))]) [] [] 0 (wC (wC wN)) (lT (lT lN)) ?_
         exact ⟨rfl, rfl, rfl⟩
       ·replace hm := yes_f hc54 hm
        refine wpD_skip ?_
        refine block_normal ?_
        refine then_normal ?_
        refine wpD_seq ?_
        refine wpD_sr ?_
        refine pu ?_
        refine pu ?_
        refine ops_nt ?_
        refine wpD_ret ?_
        refine then_ret ?_
        refine scope_ret ?_
        have er59 := yes_eq hm; subst er59
        refine rP (t' := [(6, .v (.bool false)), (7, .v (.bool false))]) [] [] 0 (wC (wC wN)) (lT (lT lN)) ?_
        exact ⟨rfl, rfl, rfl⟩
end Go.Proofs.Ytocmdafncmlaaaa.Ab
