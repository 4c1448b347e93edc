/- The texts that changeTouchesUpto_holds leans on, part 3. -/
import Derived.Test.YtpeimfcmhedjmaaCt2
namespace Go.Proofs.Ytpeimfcmhedjmaa.Ab
open Go
set_option linter.all false
structure TApiVar where
  gName : ByteArray
  gPtr : Bool
def eTApiVar (x : TApiVar) : D := .agg [.v (.string x.gName), .v (.bool x.gPtr)]
structure TApiExpr where
  gOp : Int
  gN : Int
  gName : ByteArray
  gKids : List TApiExpr
  gAt : Int
mutual
def eTApiExpr : TApiExpr → D
  | ⟨f0, f1, f2, f3, f4⟩ => .agg [.v (.int .i64 f0), .v (.int .i64 f1), .v (.string f2), .lst 5 (eTApiExpr_l f3) .no, .v (.int .i64 f4)]
def eTApiExpr_l : List TApiExpr → List D
  | [] => []
  | x :: l => eTApiExpr x :: eTApiExpr_l l
end
theorem eTApiExpr_map : ∀ l, eTApiExpr_l l = l.map eTApiExpr
  | [] => by simp [eTApiExpr_l]
  | x :: l => by simp only [eTApiExpr_l, List.map_cons, eTApiExpr_map l]
theorem eTApiExpr_eq (x : TApiExpr) : eTApiExpr x = .agg [.v (.int .i64 x.gOp), .v (.int .i64 x.gN), .v (.string x.gName), .lst 5 (x.gKids.map eTApiExpr) .no, .v (.int .i64 x.gAt)] := by
  cases x
  simp only [eTApiExpr, eTApiExpr_map]
structure TApiStmt where
  gOp : Int
  gName : ByteArray
  gFunc : ByteArray
  gExps : List TApiExpr
  gKids : List TApiStmt
  gElse : List TApiStmt
  gAt : Int
mutual
def eTApiStmt : TApiStmt → D
  | ⟨f0, f1, f2, f3, f4, f5, f6⟩ => .agg [.v (.int .i64 f0), .v (.string f1), .v (.string f2), .lst 5 (f3.map eTApiExpr) .no, .lst 7 (eTApiStmt_l f4) .no, .lst 7 (eTApiStmt_l f5) .no, .v (.int .i64 f6)]
def eTApiStmt_l : List TApiStmt → List D
  | [] => []
  | x :: l => eTApiStmt x :: eTApiStmt_l l
end
theorem eTApiStmt_map : ∀ l, eTApiStmt_l l = l.map eTApiStmt
  | [] => by simp [eTApiStmt_l]
  | x :: l => by simp only [eTApiStmt_l, List.map_cons, eTApiStmt_map l]
theorem eTApiStmt_eq (x : TApiStmt) : eTApiStmt x = .agg [.v (.int .i64 x.gOp), .v (.string x.gName), .v (.string x.gFunc), .lst 5 (x.gExps.map eTApiExpr) .no, .lst 7 (x.gKids.map eTApiStmt) .no, .lst 7 (x.gElse.map eTApiStmt) .no, .v (.int .i64 x.gAt)] := by
  cases x
  simp only [eTApiStmt, eTApiStmt_map]
structure TApiFunc where
  gName : ByteArray
  gParams : List TApiVar
  gLocals : List TApiVar
  gBody : List TApiStmt
  gAt : Int
def eTApiFunc (x : TApiFunc) : D := .agg [.v (.string x.gName), .lst 2 (x.gParams.map eTApiVar) .no, .lst 2 (x.gLocals.map eTApiVar) .no, .lst 7 (x.gBody.map eTApiStmt) .no, .v (.int .i64 x.gAt)]
structure TApiGlobal where
  gName : ByteArray
  gPtr : Bool
  gSize : Int
  gAt : Int
def eTApiGlobal (x : TApiGlobal) : D := .agg [.v (.string x.gName), .v (.bool x.gPtr), .v (.int .i64 x.gSize), .v (.int .i64 x.gAt)]
def growF38 (n : Int) : List TApiFunc := []
def growPre38 (n : Int) : Bool := decide (0 ≤ n) && decide (n * 96 ≤ 140737488355328)
set_option maxRecDepth 100000 in
open Go.RowKit Go.Shelf Go.Proofs.Ytpeimfcmhedjmaa in
theorem growOk38 (n : Int) {k0 : Nat} (h : growPre38 n = true) : CallsD Try.prog 38 [.lst k0 [] .full, .v (.int .i64 n)] [] [] (fun d h k => ∃ y0, d = .v (SL y0) ∧ h = [(0, .row 5 ((growF38 n).map eTApiFunc) (SL y0))] ∧ k = []) := by
  simp only [growPre38, Bool.and_eq_true, decide_eq_true_eq] at h
  exact grow_nil (e := 41) (bb := 96) ⟨_, Try.func38, rfl, rfl⟩ ⟨_, _, rfl, rfl, rfl, rfl, rfl⟩ (by decide)
    (fun a w => Any8.slices_Grow_room Try.grow38 a 0 0 0 w (by omega) (by omega) (by omega) (by omega))
    (fun i0 z hi0 hz0 hs0 a m w h0 hb h62 => by
      have := Any8.slices_Grow_grow Try.grow38 i0 z hi0 hz0 hs0 a 0 0 m [] w (by omega) (by omega) (by simpa using hb) (by omega) (by simp) (fun _ => rfl) (fun _ _ j v hj => by simp at hj)
      simpa [Try.grow38_ren] using this) n h.1 h.2 (by omega)
def growF58 (n : Int) : List TApiGlobal := []
def growPre58 (n : Int) : Bool := decide (0 ≤ n) && decide (n * 40 ≤ 140737488355328)
set_option maxRecDepth 100000 in
open Go.RowKit Go.Shelf Go.Proofs.Ytpeimfcmhedjmaa in
theorem growOk58 (n : Int) {k0 : Nat} (h : growPre58 n = true) : CallsD Try.prog 58 [.lst k0 [] .full, .v (.int .i64 n)] [] [] (fun d h k => ∃ y0, d = .v (SL y0) ∧ h = [(0, .row 4 ((growF58 n).map eTApiGlobal) (SL y0))] ∧ k = []) := by
  simp only [growPre58, Bool.and_eq_true, decide_eq_true_eq] at h
  exact grow_nil (e := 61) (bb := 40) ⟨_, Try.func58, rfl, rfl⟩ ⟨_, _, rfl, rfl, rfl, rfl, rfl⟩ (by decide)
    (fun a w => Any8.slices_Grow_room Try.grow58 a 0 0 0 w (by omega) (by omega) (by omega) (by omega))
    (fun i0 z hi0 hz0 hs0 a m w h0 hb h62 => by
      have := Any8.slices_Grow_grow Try.grow58 i0 z hi0 hz0 hs0 a 0 0 m [] w (by omega) (by omega) (by simpa using hb) (by omega) (by simp) (fun _ => rfl) (fun _ _ j v hj => by simp at hj)
      simpa [Try.grow58_ren] using this) n h.1 h.2 (by omega)
theorem mk54 : KeyOK Try.prog 9 (fun s : ByteArray => Value.string s) := str_key (by kernel_rfl)
theorem mz54 : (Try.prog.info? 3).bind (·.zero) = some (.int .i64 (0 : Int)) := by kernel_rfl
theorem mr54 (H : Hp) : Rep H (eI64 (0 : Int)) (.int .i64 (0 : Int)) := rep_v rfl
structure TApiProgram where
  gGlobals : List TApiGlobal
  gFuncs : List TApiFunc
def eTApiProgram (x : TApiProgram) : D := .agg [.lst 4 (x.gGlobals.map eTApiGlobal) .no, .lst 5 (x.gFuncs.map eTApiFunc) .no]
noncomputable def l18_few (a0 : TApiProgram) : Option (Bool) :=
  (bif (decide ((a0.gFuncs.length : Int) ≤ (30 : Int))) then some (decide ((a0.gGlobals.length : Int) ≤ (30 : Int))) else some false)
set_option maxRecDepth 100000 in
set_option maxHeartbeats 2000000 in
theorem l18_few_ok (a0 : TApiProgram) (r : Bool) (h0 : l18_few a0 = some r) : CallsD Try.prog 6 [eTApiProgram a0] [] [] (fun d h k => d = .v (.bool r) ∧ h = [] ∧ k = []) := by
  have hm := yes_of h0
  unfold l18_few at hm
  clear h0
  refine enterX htab Try.func6 rfl rfl rfl rfl rfl (fun C => ?_)
  refine wpD_sr ?_
  refine p_box rfl rfl rfl rfl rfl rfl rfl (fun b1 => ?_)
  refine pu ?_
  refine ops_n2 ?_
  refine pu ?_
  refine pL 0 ?_
  refine p_lenL htab rfl rfl rfl rfl rfl rfl rfl (by first | exact map_len | rfl) ?_
  refine pu ?_
  refine pu ?_
  refine p_split (i := 7) rfl (fun hg2 => ?_) (fun hg2 => ?_)
  ·replace hm := yes_t hg2 hm
   refine pu ?_
   refine pL 0 ?_
   refine p_lenL htab rfl rfl rfl rfl rfl rfl rfl (by first | exact map_len | rfl) ?_
   refine pu ?_
   refine p_pickT rfl rfl rfl rfl rfl rfl ?_
   refine pu ?_
   refine ops_nt ?_
   refine wpD_ret ?_
   have er3 := yes_eq hm; subst er3
   refine rP (t' := [(2, .v (.bool (decide ((a0.gGlobals.length : Int) ≤ (30 : Int)))))]) [] [] 0 (wC wN) (lT lN) ?_
   exact ⟨rfl, rfl, rfl⟩
  ·replace hm := yes_f hg2 hm
   iterate 4 refine pK ?_
   refine p_pickF rfl rfl rfl rfl rfl rfl ?_
   refine pu ?_
   refine ops_nt ?_
   refine wpD_ret ?_
   have er4 := yes_eq hm; subst er4
   refine rP (t' := [(2, .v (.bool false))]) [] [] 0 (wC wN) (lT lN) ?_
   exact ⟨rfl, rfl, rfl⟩
noncomputable def change_funcOf_1 (a0 : TApiFunc) (m0 : ByteArray) : Option (Bool) :=
  some (decide (a0.gName = m0))
set_option maxRecDepth 100000 in
set_option maxHeartbeats 2000000 in
theorem change_funcOf_1_ok (a0 : TApiFunc) (m0 : ByteArray) (o0 : Nat) (T0 : TypeId) (r : Bool) (h0 : change_funcOf_1 a0 m0 = some r) : CallsD Try.prog 55 [eTApiFunc a0, .ptr o0 0] [(o0, Blk.cells [.v (.string m0)] T0)] [] (fun d h k => d = .v (.bool r) ∧ h = [(o0, Blk.cells [.v (.string m0)] T0)] ∧ k = []) := by
  have hm := yes_of h0
  unfold change_funcOf_1 at hm
  clear h0
  refine enterX htab Try.func55 rfl rfl rfl rfl rfl (fun C => ?_)
  refine wpD_sr ?_
  refine p_box rfl rfl rfl rfl rfl rfl rfl (fun b1 => ?_)
  refine pu ?_
  refine ops_n2 ?_
  refine pu ?_
  refine pL 1 ?_
  refine pL 0 ?_
  refine pu ?_
  refine pu ?_
  refine ops_nt ?_
  refine wpD_ret ?_
  have er2 := yes_eq hm; subst er2
  refine rP (t' := [(3, .v (.bool (decide (a0.gName = m0))))]) [0] [] 1 (wC wN) (lT lN) ?_
  exact ⟨rfl, rfl, rfl⟩
noncomputable def slices_IndexFunc_api_Func_api_Func (a0 : List TApiFunc) (m0 : ByteArray) : Option (Int) :=
  (Option.bind (α := (Unit) ⊕ (Int)) (loopM (fun (s18 : Int) => (bif (decide (s18 < (a0.length : Int))) then ((idx a0 s18).bind fun x30 => ((change_funcOf_1 x30 m0).bind fun x31 => (bif x31 then some (.done (.inr s18)) else some (.next (IntKind.i64.wrap (s18 + (1 : Int))))))) else some (.done (.inl ())))) (0 : Int)) (Sum.elim (fun y17 => some (-1 : Int)) (fun r => some r)))
set_option maxRecDepth 100000 in
set_option maxHeartbeats 2000000 in
theorem slices_IndexFunc_api_Func_api_Func_ok (a0 : List TApiFunc) (m0 : ByteArray) (o0 : Nat) (T0 : TypeId) (r : Int) (h0 : slices_IndexFunc_api_Func_api_Func a0 m0 = some r) : CallsD Try.prog 54 [.lst 5 (a0.map eTApiFunc) .no, .fn (.func 55) [] [.ptr o0 0]] [(o0, Blk.cells [.v (.string m0)] T0)] [] (fun d h k => d = .v (.int .i64 r) ∧ h = [(o0, Blk.cells [.v (.string m0)] T0)] ∧ k = []) := by
  have hm := yes_of h0
  unfold slices_IndexFunc_api_Func_api_Func at hm
  clear h0
  refine enterX htab Try.func54 rfl rfl rfl rfl rfl (fun C => ?_)
  refine wpD_sr ?_
  refine pu ?_
  refine ops_nt ?_
  refine wpD_seq ?_
  refine wpD_sr ?_
  refine pu ?_
  refine p_lenL htab rfl rfl rfl rfl rfl rfl rfl (by first | exact map_len | rfl) ?_
  refine pu ?_
  refine ops_nt ?_
  obtain ⟨x17, q17, ho17⟩ := yes_bind hm
  refine wpD_midX (τ := Unit) (Y := Unit) (fun y17 z17 => (⟨[], [(o0, Blk.cells [.v (.string m0)] T0)], []⟩ : S)) x17 ?_ ?_
  ·clear hm; have hm := yes_of q17
   refine wpD_block ?_
   obtain ⟨u18, hl18, hq18⟩ := yes_m hm
   refine loop_M (Y := Unit) hl18 (fun s18 z18 => (⟨[(0, .lst 5 (a0.map eTApiFunc) .no), (1, .fn (.func 55) [] [.ptr o0 0]), (7, .v (.int .i64 (a0.length : Int))), (8, .v (.int .i64 s18))], [(o0, Blk.cells [.v (.string m0)] T0)], []⟩ : S)) ?_ ?_
   ·skip
    exact WkX.of () (WkS.perm (WkS.cons rfl (Wk.refl _) (WkS.cons rfl (Wk.refl _) (WkS.cons rfl (Wk.refl _) (WkS.cons rfl (Wk.refl _) (WkS.nil))))) Pf Pf)
   ·intro G18 s18 z18 hm
    refine wpD_sr ?_
    refine pu ?_
    refine ops_nt ?_
    refine wpD_seq ?_
    refine wpD_cond rfl (fun hc29 => ?_) (fun hc29 => ?_)
    ·replace hm := yes_t hc29 hm
     refine wpD_skip ?_
     refine then_normal ?_
     refine wpD_seq ?_
     refine wpD_block ?_
     refine wpD_sr ?_
     refine pu ?_
     refine pu ?_
     refine ops_n2 ?_
     iterate 3 refine pu ?_
     obtain ⟨x30, q30, hm⟩ := yes_bind hm
     refine p_elem htab rfl rfl rfl rfl rfl rfl rfl rfl rfl rfl (idx_nonneg q30) (idx_map q30) ?_
     refine p_loadEl (d := eTApiFunc x30) htab rfl rfl rfl rfl rfl rfl rfl rfl ?_
     obtain ⟨x31, q31, hm⟩ := yes_bind hm
     refine p_callV (change_funcOf_1_ok x30 m0 o0 T0 x31 q31) rfl rfl rfl rfl rfl rfl rfl Wl Pf Pf ?_
     rintro _ _ _ ⟨rfl, rfl, rfl⟩
     refine ops_nt ?_
     refine wpD_cond rfl (fun hc32 => ?_) (fun hc32 => ?_)
     ·replace hm := yes_t hc32 hm
      refine wpD_sr ?_
      refine pu ?_
      refine pu ?_
      refine ops_nt ?_
      refine wpD_ret ?_
      refine block_ret ?_
      refine then_ret ?_
      have e18 := lp_done hm; subst e18; clear hm; have hm := hq18
      refine then_ret ?_
      refine block_ret ?_
      have e17 := yes_eq hm; subst e17; refine midX_inr ?_; clear hm; have hm := ho17; simp only [Sum.elim_inr] at hm
      refine then_ret ?_
      have er33 := yes_eq hm; subst er33
      refine rP (t' := [(4, .v (.int .i64 s18))]) [0] [] 1 (wC wN) (lT lN) ?_
      exact ⟨rfl, rfl, rfl⟩
     ·replace hm := yes_f hc32 hm
      refine wpD_skip ?_
      refine block_normal ?_
      refine then_normal ?_
      refine wpD_region ?_
      refine pu ?_
      refine pu ?_
      refine ops_nil ?_
      refine then_normal ⟨_, lp_next hm, ?_⟩
      exact WkX.of () (WkS.perm (WkS.cons rfl (Wk.refl _) (WkS.cons rfl (Wk.refl _) (WkS.cons rfl (Wk.refl _) (WkS.cons rfl (Wk.refl _) (WkS.nil))))) Pf Pf)
    ·replace hm := yes_f hc29 hm
     refine wpD_exit ?_
     refine then_exit ?_
     have e18 := lp_done hm; subst e18; clear hm; have hm := hq18
     refine then_exit ?_
     refine block_hit ?_
     have e17 := yes_eq hm; subst e17
     refine midX_inl ?_
     exact WkX.of () (WkS.perm (WkS.nil) Pf Pf)
  ·intro y17 s17 hx17 hw17; subst hx17; clear hm; have hm := ho17; simp only [Sum.elim_inl] at hm; clear q17 ho17
   refine then_normal ?_
   refine wpD_wkX hw17 (fun z17 => ?_)
   refine wpD_sr ?_
   refine pu ?_
   refine ops_nt ?_
   refine wpD_ret ?_
   have er34 := yes_eq hm; subst er34
   refine rP (t' := [(4, .v (.int .i64 (-1 : Int)))]) [0] [] 1 (wC wN) (lT lN) ?_
   exact ⟨rfl, rfl, rfl⟩
noncomputable def change_funcOf (a0 : TApiProgram) (a1 : ByteArray) : Option (TApiFunc × Bool) :=
  ((slices_IndexFunc_api_Func_api_Func a0.gFuncs a1).bind fun x4 => (bif (decide (x4 < (0 : Int))) then some ((⟨ByteArray.empty, [], [], [], (0 : Int)⟩ : TApiFunc), false) else ((idx a0.gFuncs x4).bind fun x8 => some (x8, true))))
set_option maxRecDepth 100000 in
set_option maxHeartbeats 2000000 in
theorem change_funcOf_ok (a0 : TApiProgram) (a1 : ByteArray) (r : TApiFunc × Bool) (h0 : change_funcOf a0 a1 = some r) : CallsD Try.prog 31 [eTApiProgram a0, .v (.string a1)] [] [] (fun d h k => d = .tup [eTApiFunc r.1, .v (.bool r.2)] ∧ h = [] ∧ k = []) := by
  have hm := yes_of h0
  unfold change_funcOf at hm
  clear h0
  refine enterX htab Try.func31 rfl rfl rfl rfl rfl (fun C => ?_)
  refine wpD_sr ?_
  refine p_box rfl rfl rfl rfl rfl rfl rfl (fun b1 => ?_)
  refine p_box rfl rfl rfl rfl rfl rfl rfl (fun b2 => ?_)
  refine p_alloc htab rfl rfl rfl rfl rfl rfl rfl (fun b3 => ?_)
  refine pu ?_
  refine ops_n2 ?_
  refine pu ?_
  refine pL 0 ?_
  refine pu ?_
  obtain ⟨x4, q4, hm⟩ := yes_bind hm
  refine pG (slices_IndexFunc_api_Func_api_Func_ok a0.gFuncs a1 b2 9 x4 q4) Wl ((perm_at (j := 1) rfl).trans (List.Perm.cons _ Pf)) Pf ?_
  rintro _ _ _ ⟨rfl, rfl, rfl⟩
  refine pu ?_
  refine ops_nt ?_
  refine wpD_seq ?_
  refine wpD_sr ?_
  refine pu ?_
  refine pu ?_
  refine ops_nt ?_
  refine wpD_cond rfl (fun hc6 => ?_) (fun hc6 => ?_)
  ·replace hm := yes_t hc6 hm
   refine wpD_sr ?_
   refine p_build (r := [.v (.string ByteArray.empty), .lst 1 [] .full, .lst 1 [] .full, .lst 1 [] .full, .v (.int .i64 (0 : Int))]) htab rfl rfl rfl rfl rfl rfl rfl rfl rfl ?_
   refine pS2 (ds' := [.v (.string ByteArray.empty), .lst 1 [] .full, .lst 1 [] .full, .lst 1 [] .full, .v (.int .i64 (0 : Int))]) ?_
   refine pu ?_
   refine ops_nt ?_
   refine wpD_ret ?_
   refine then_ret ?_
   have er7 := yes_eq hm; subst er7
   refine retX.wk (WkS.bl2 (ds' := [.v (.string ByteArray.empty), .lst 2 (([] : List TApiVar).map eTApiVar) .no, .lst 2 (([] : List TApiVar).map eTApiVar) .no, .lst 7 (([] : List TApiStmt).map eTApiStmt) .no, .v (.int .i64 (0 : Int))]) (rC (WkR.cons (WkC.nil) rfl (WkR.cons (WkC.nil) rfl (WkR.cons (WkC.nil) rfl (rC WkR.nil)))))) ?_
   refine rP (t' := [(4, .ptr b3 0), (5, .v (.bool false))]) [2] [] 0 (wC (wC wN)) (lC 0 (lT lN)) ?_
   exact ⟨rfl, rfl, rfl⟩
  ·replace hm := yes_f hc6 hm
   refine wpD_skip ?_
   refine then_normal ?_
   refine wpD_sr ?_
   refine pu ?_
   refine pL 1 ?_
   refine pu ?_
   obtain ⟨x8, q8, hm⟩ := yes_bind hm
   refine p_elem htab rfl rfl rfl rfl rfl rfl rfl rfl rfl rfl (idx_nonneg q8) (idx_map q8) ?_
   refine p_loadEl (d := eTApiFunc x8) htab rfl rfl rfl rfl rfl rfl rfl rfl ?_
   refine pS2 (ds' := [.v (.string x8.gName), .lst 2 (x8.gParams.map eTApiVar) .no, .lst 2 (x8.gLocals.map eTApiVar) .no, .lst 7 (x8.gBody.map eTApiStmt) .no, .v (.int .i64 x8.gAt)]) ?_
   refine pu ?_
   refine ops_nt ?_
   refine wpD_ret ?_
   have er9 := yes_eq hm; subst er9
   refine rP (t' := [(4, .ptr b3 0), (5, .v (.bool true))]) [2] [] 0 (wC (wC wN)) (lC 0 (lT lN)) ?_
   exact ⟨rfl, rfl, rfl⟩
noncomputable def slices_Equal_api_Var_api_Var (a0 : List TApiVar) (a1 : List TApiVar) : Option (Bool) :=
  (bif ((a0.length : Int) != (a1.length : Int)) then some false else (Option.bind (α := (Unit) ⊕ (Bool)) (loopM (fun (s21 : Int) => (bif (decide (s21 < (a0.length : Int))) then ((idx a0 s21).bind fun x33 => ((idx a1 s21).bind fun x34 => (bif (!(decide (x33.gName = x34.gName) && (x33.gPtr == x34.gPtr && true))) then some (.done (.inr false)) else some (.next (IntKind.i64.wrap (s21 + (1 : Int))))))) else some (.done (.inl ())))) (0 : Int)) (Sum.elim (fun y20 => some true) (fun r => some r))))
set_option maxRecDepth 100000 in
set_option maxHeartbeats 2000000 in
theorem slices_Equal_api_Var_api_Var_ok (a0 : List TApiVar) (a1 : List TApiVar) (r : Bool) (h0 : slices_Equal_api_Var_api_Var a0 a1 = some r) : CallsD Try.prog 56 [.lst 2 (a0.map eTApiVar) .no, .lst 2 (a1.map eTApiVar) .no] [] [] (fun d h k => d = .v (.bool r) ∧ h = [] ∧ k = []) := by
  have hm := yes_of h0
  unfold slices_Equal_api_Var_api_Var at hm
  clear h0
  refine enterX htab Try.func56 rfl rfl rfl rfl rfl (fun C => ?_)
  refine wpD_sr ?_
  refine pu ?_
  refine ops_nt ?_
  refine wpD_seq ?_
  refine wpD_sr ?_
  refine pu ?_
  refine p_lenL htab rfl rfl rfl rfl rfl rfl rfl (by first | exact map_len | rfl) ?_
  refine pu ?_
  refine p_lenL htab rfl rfl rfl rfl rfl rfl rfl (by first | exact map_len | rfl) ?_
  refine pu ?_
  refine ops_nt ?_
  refine wpD_cond rfl (fun hc2 => ?_) (fun hc2 => ?_)
  ·replace hm := yes_t hc2 hm
   refine wpD_sr ?_
   refine pu ?_
   refine ops_nt ?_
   refine wpD_ret ?_
   refine then_ret ?_
   have er3 := yes_eq hm; subst er3
   refine rP (t' := [(4, .v (.bool false))]) [] [] 0 (wC wN) (lT lN) ?_
   exact ⟨rfl, rfl, rfl⟩
  ·replace hm := yes_f hc2 hm
   refine wpD_skip ?_
   refine then_normal ?_
   refine wpD_seq ?_
   refine wpD_sr ?_
   refine pu ?_
   refine p_lenL htab rfl rfl rfl rfl rfl rfl rfl (by first | exact map_len | rfl) ?_
   refine pu ?_
   refine ops_nt ?_
   obtain ⟨x20, q20, ho20⟩ := yes_bind hm
   refine wpD_midX (τ := Unit) (Y := Unit) (fun y20 z20 => (⟨[], [], []⟩ : S)) x20 ?_ ?_
   ·clear hm; have hm := yes_of q20
    refine wpD_block ?_
    obtain ⟨u21, hl21, hq21⟩ := yes_m hm
    refine loop_M (Y := Unit) hl21 (fun s21 z21 => (⟨[(0, .lst 2 (a0.map eTApiVar) .no), (1, .lst 2 (a1.map eTApiVar) .no), (12, .v (.int .i64 (a0.length : Int))), (13, .v (.int .i64 s21))], [], []⟩ : S)) ?_ ?_
    ·skip
     exact WkX.of () (WkS.perm (WkS.cons rfl (Wk.refl _) (WkS.cons rfl (Wk.refl _) (WkS.cons rfl (Wk.refl _) (WkS.cons rfl (Wk.refl _) (WkS.nil))))) Pf Pf)
    ·intro G21 s21 z21 hm
     refine wpD_sr ?_
     refine pu ?_
     refine ops_nt ?_
     refine wpD_seq ?_
     refine wpD_cond rfl (fun hc32 => ?_) (fun hc32 => ?_)
     ·replace hm := yes_t hc32 hm
      refine wpD_skip ?_
      refine then_normal ?_
      refine wpD_seq ?_
      refine wpD_block ?_
      refine wpD_sr ?_
      refine pu ?_
      refine pu ?_
      refine ops_nt ?_
      refine wpD_seq ?_
      obtain ⟨x33, q33, hm⟩ := yes_bind hm
      obtain ⟨x34, q34, hm⟩ := yes_bind hm
      refine wpD_draws 8 [] [[],[],[0],[0,2],[],[],[4],[4,6]] [0,2,3,4,6,7] [[],[],[0,1],[0,1,2],[],[],[4,5],[4,5,6],[0,1,2,3,4,5,6,7]] (by kernel_rfl) (by kernel_rfl) (by kernel_rfl) (by rfl) (by rfl) (by kernel_rfl) ?_
      iterate 6 apply Exists.intro
      intro bs
      refine zep ?_
      refine zqp ?_
      refine z_e rfl rfl (x_elem htab rfl rfl rfl rfl rfl rfl rfl (idx_nonneg q33) (idx_map q33)) rfl rfl rfl rfl rfl rfl ?_
      refine z_eM rfl rfl (xm_loadEl (d := eTApiVar x33) htab rfl rfl rfl rfl rfl) rfl rfl rfl rfl rfl rfl ?_
      refine zep ?_
      refine zqp ?_
      refine z_e rfl rfl (x_elem htab rfl rfl rfl rfl rfl rfl rfl (idx_nonneg q34) (idx_map q34)) rfl rfl rfl rfl rfl rfl ?_
      refine z_eM rfl rfl (xm_loadEl (d := eTApiVar x34) htab rfl rfl rfl rfl rfl) rfl rfl rfl rfl rfl rfl ?_
      refine z_nil rfl rfl (fun e he => by simp [isAl] at he) ?_
      refine p_eqS htab rfl rfl rfl rfl rfl eqt43 rfl rfl rfl rfl rfl ?_
      refine ops_nt ?_
      refine wpD_cond rfl (fun hc35 => ?_) (fun hc35 => ?_)
      ·replace hm := yes_t hc35 hm
       refine wpD_sr ?_
       refine pu ?_
       refine ops_nt ?_
       refine wpD_ret ?_
       refine block_ret ?_
       refine then_ret ?_
       have e21 := lp_done hm; subst e21; clear hm; have hm := hq21
       refine then_ret ?_
       refine block_ret ?_
       have e20 := yes_eq hm; subst e20; refine midX_inr ?_; clear hm; have hm := ho20; simp only [Sum.elim_inr] at hm
       refine then_ret ?_
       have er36 := yes_eq hm; subst er36
       refine rP (t' := [(4, .v (.bool false))]) [] [] 0 (wC wN) (lT lN) ?_
       exact ⟨rfl, rfl, rfl⟩
      ·replace hm := yes_f hc35 hm
       refine wpD_skip ?_
       refine block_normal ?_
       refine then_normal ?_
       refine wpD_region ?_
       refine pu ?_
       refine pu ?_
       refine ops_nil ?_
       refine then_normal ⟨_, lp_next hm, ?_⟩
       exact WkX.of () (WkS.perm (WkS.cons rfl (Wk.refl _) (WkS.cons rfl (Wk.refl _) (WkS.cons rfl (Wk.refl _) (WkS.cons rfl (Wk.refl _) (WkS.nil))))) Pf Pf)
     ·replace hm := yes_f hc32 hm
      refine wpD_exit ?_
      refine then_exit ?_
      have e21 := lp_done hm; subst e21; clear hm; have hm := hq21
      refine then_exit ?_
      refine block_hit ?_
      have e20 := yes_eq hm; subst e20
      refine midX_inl ?_
      exact WkX.of () (WkS.perm (WkS.nil) Pf Pf)
   ·intro y20 s20 hx20 hw20; subst hx20; clear hm; have hm := ho20; simp only [Sum.elim_inl] at hm; clear q20 ho20
    refine then_normal ?_
    refine wpD_wkX hw20 (fun z20 => ?_)
    refine wpD_sr ?_
    refine pu ?_
    refine ops_nt ?_
    refine wpD_ret ?_
    have er37 := yes_eq hm; subst er37
    refine rP (t' := [(4, .v (.bool true))]) [] [] 0 (wC wN) (lT lN) ?_
    exact ⟨rfl, rfl, rfl⟩
noncomputable def slices_EqualFunc_api_Expr_api_Expr_api_Expr_api_Expr_b (g0 : (List TApiExpr) → (List TApiExpr) → Option (Bool)) (g1 : (TApiExpr) → (TApiExpr) → Option (Bool)) (a0 : List TApiExpr) (a1 : List TApiExpr) : Option (Bool) :=
  (bif ((a0.length : Int) != (a1.length : Int)) then some false else (Option.bind (α := (Unit) ⊕ (Bool)) (loopM (fun (s30 : Int) => (bif (decide (s30 < (a0.length : Int))) then ((idx a0 s30).bind fun x48 => ((idx a1 s30).bind fun x50 => ((g1 x48 x50).bind fun x52 => (bif (!x52) then some (.done (.inr false)) else some (.next (IntKind.i64.wrap (s30 + (1 : Int)))))))) else some (.done (.inl ())))) (0 : Int)) (Sum.elim (fun y29 => some true) (fun r => some r))))
set_option maxRecDepth 100000 in
set_option maxHeartbeats 2000000 in
theorem slices_EqualFunc_api_Expr_api_Expr_api_Expr_api_Expr_b_ok (g0 : (List TApiExpr) → (List TApiExpr) → Option (Bool)) (g1 : (TApiExpr) → (TApiExpr) → Option (Bool)) (hg0 : ∀ (a0 : List TApiExpr) (a1 : List TApiExpr) (r : Bool) (h0 : g0 a0 a1 = some r), CallsD Try.prog 81 [.lst 5 (a0.map eTApiExpr) .no, .lst 5 (a1.map eTApiExpr) .no, .fn (.func 82) [] []] [] [] (fun d h k => d = .v (.bool r) ∧ h = [] ∧ k = [])) (hg1 : ∀ (a0 : TApiExpr) (a1 : TApiExpr) (r : Bool) (h0 : g1 a0 a1 = some r), CallsD Try.prog 82 [eTApiExpr a0, eTApiExpr a1] [] [] (fun d h k => d = .v (.bool r) ∧ h = [] ∧ k = [])) (a0 : List TApiExpr) (a1 : List TApiExpr) (r : Bool) (h0 : slices_EqualFunc_api_Expr_api_Expr_api_Expr_api_Expr_b g0 g1 a0 a1 = some r) : CallsD Try.prog 81 [.lst 5 (a0.map eTApiExpr) .no, .lst 5 (a1.map eTApiExpr) .no, .fn (.func 82) [] []] [] [] (fun d h k => d = .v (.bool r) ∧ h = [] ∧ k = []) := by
  have hm := yes_of h0
  unfold slices_EqualFunc_api_Expr_api_Expr_api_Expr_api_Expr_b at hm
  clear h0
  refine enterX htab Try.func81 rfl rfl rfl rfl rfl (fun C => ?_)
  refine wpD_sr ?_
  refine pu ?_
  refine ops_nt ?_
  refine wpD_seq ?_
  refine wpD_sr ?_
  refine pu ?_
  refine p_lenL htab rfl rfl rfl rfl rfl rfl rfl (by first | exact map_len | rfl) ?_
  refine pu ?_
  refine p_lenL htab rfl rfl rfl rfl rfl rfl rfl (by first | exact map_len | rfl) ?_
  refine pu ?_
  refine ops_nt ?_
  refine wpD_cond rfl (fun hc2 => ?_) (fun hc2 => ?_)
  ·replace hm := yes_t hc2 hm
   refine wpD_sr ?_
   refine pu ?_
   refine ops_nt ?_
   refine wpD_ret ?_
   refine then_ret ?_
   have er3 := yes_eq hm; subst er3
   refine rP (t' := [(6, .v (.bool false))]) [] [] 0 (wC wN) (lT lN) ?_
   exact ⟨rfl, rfl, rfl⟩
  ·replace hm := yes_f hc2 hm
   refine wpD_skip ?_
   refine then_normal ?_
   refine wpD_seq ?_
   refine wpD_sr ?_
   refine pu ?_
   refine p_lenL htab rfl rfl rfl rfl rfl rfl rfl (by first | exact map_len | rfl) ?_
   refine pu ?_
   refine ops_nt ?_
   obtain ⟨x29, q29, ho29⟩ := yes_bind hm
   refine wpD_midX (τ := Unit) (Y := Unit) (fun y29 z29 => (⟨[], [], []⟩ : S)) x29 ?_ ?_
   ·clear hm; have hm := yes_of q29
    refine wpD_block ?_
    obtain ⟨u30, hl30, hq30⟩ := yes_m hm
    refine loop_M (Y := Unit) hl30 (fun s30 z30 => (⟨[(1, .lst 5 (a1.map eTApiExpr) .no), (2, .fn (.func 82) [] []), (15, .lst 5 (a0.map eTApiExpr) .no), (16, .v (.int .i64 (a0.length : Int))), (17, .v (.int .i64 s30))], [], []⟩ : S)) ?_ ?_
    ·skip
     exact WkX.of () (WkS.perm (WkS.cons rfl (Wk.refl _) (WkS.cons rfl (Wk.refl _) (WkS.cons rfl (Wk.refl _) (WkS.cons rfl (Wk.refl _) (WkS.cons rfl (Wk.refl _) (WkS.nil)))))) Pf Pf)
    ·intro G30 s30 z30 hm
     refine wpD_sr ?_
     refine pu ?_
     refine ops_nt ?_
     refine wpD_seq ?_
     refine wpD_cond rfl (fun hc47 => ?_) (fun hc47 => ?_)
     ·replace hm := yes_t hc47 hm
      refine wpD_skip ?_
      refine then_normal ?_
      refine wpD_seq ?_
      refine wpD_block ?_
      refine wpD_sr ?_
      refine pu ?_
      obtain ⟨x48, q48, hm⟩ := yes_bind hm
      refine p_elem htab rfl rfl rfl rfl rfl rfl rfl rfl rfl rfl (idx_nonneg q48) (idx_map q48) ?_
      refine p_eq (i := 20) rfl (Wk.of_eq (congrArg D.el (eTApiExpr_eq x48))) ?_
      refine p_loadEl (d := .agg [.v (.int .i64 x48.gOp), .v (.int .i64 x48.gN), .v (.string x48.gName), .lst 5 (x48.gKids.map eTApiExpr) .no, .v (.int .i64 x48.gAt)]) htab rfl rfl rfl rfl rfl rfl rfl rfl ?_
      refine p_alloc htab rfl rfl rfl rfl rfl rfl rfl (fun b49 => ?_)
      refine pu ?_
      refine pS0 (ds' := [.v (.int .i64 x48.gOp), .v (.int .i64 x48.gN), .v (.string x48.gName), .lst 5 (x48.gKids.map eTApiExpr) .no, .v (.int .i64 x48.gAt)]) ?_
      refine ops_n2 ?_
      refine pu ?_
      refine pu ?_
      obtain ⟨x50, q50, hm⟩ := yes_bind hm
      refine p_elem htab rfl rfl rfl rfl rfl rfl rfl rfl rfl rfl (idx_nonneg q50) (idx_map q50) ?_
      refine p_eq (i := 24) rfl (Wk.of_eq (congrArg D.el (eTApiExpr_eq x50))) ?_
      refine p_loadEl (d := .agg [.v (.int .i64 x50.gOp), .v (.int .i64 x50.gN), .v (.string x50.gName), .lst 5 (x50.gKids.map eTApiExpr) .no, .v (.int .i64 x50.gAt)]) htab rfl rfl rfl rfl rfl rfl rfl rfl ?_
      refine p_alloc htab rfl rfl rfl rfl rfl rfl rfl (fun b51 => ?_)
      refine pS1 (ds' := [.v (.int .i64 x50.gOp), .v (.int .i64 x50.gN), .v (.string x50.gName), .lst 5 (x50.gKids.map eTApiExpr) .no, .v (.int .i64 x50.gAt)]) ?_
      refine ops_n2 ?_
      refine pu ?_
      refine p_load (d := .agg [.v (.int .i64 x48.gOp), .v (.int .i64 x48.gN), .v (.string x48.gName), .lst 5 (x48.gKids.map eTApiExpr) .no, .v (.int .i64 x48.gAt)]) 0 htab rfl rfl rfl rfl rfl rfl rfl rfl ?_
      refine p_load (d := .agg [.v (.int .i64 x50.gOp), .v (.int .i64 x50.gN), .v (.string x50.gName), .lst 5 (x50.gKids.map eTApiExpr) .no, .v (.int .i64 x50.gAt)]) 1 htab rfl rfl rfl rfl rfl rfl rfl rfl ?_
      obtain ⟨x52, q52, hm⟩ := yes_bind hm
      refine p_callV0 (hg1 x48 x50 x52 q52) rfl rfl rfl rfl rfl rfl rfl (WkL.cons (Wk.trans (Wk.agg (WkR.refl _)) (Wk.of_eq (eTApiExpr_eq x48).symm)) (WkL.cons (Wk.trans (Wk.agg (WkR.refl _)) (Wk.of_eq (eTApiExpr_eq x50).symm)) Wl)) ?_
      rintro _ rfl
      refine pu ?_
      refine ops_nt ?_
      refine wpD_cond rfl (fun hc53 => ?_) (fun hc53 => ?_)
      ·replace hm := yes_t hc53 hm
       refine wpD_sr ?_
       refine pu ?_
       refine ops_nt ?_
       refine wpD_ret ?_
       refine block_ret ?_
       refine then_ret ?_
       have e30 := lp_done hm; subst e30; clear hm; have hm := hq30
       refine then_ret ?_
       refine block_ret ?_
       have e29 := yes_eq hm; subst e29; refine midX_inr ?_; clear hm; have hm := ho29; simp only [Sum.elim_inr] at hm
       refine then_ret ?_
       have er54 := yes_eq hm; subst er54
       refine rP (t' := [(6, .v (.bool false))]) [] [] 0 (wC wN) (lT lN) ?_
       exact ⟨rfl, rfl, rfl⟩
      ·replace hm := yes_f hc53 hm
       refine wpD_skip ?_
       refine block_normal ?_
       refine then_normal ?_
       refine wpD_region ?_
       refine pu ?_
       refine pu ?_
       refine ops_nil ?_
       refine then_normal ⟨_, lp_next hm, ?_⟩
       exact WkX.of () (WkS.perm (WkS.cons rfl (Wk.refl _) (WkS.cons rfl (Wk.refl _) (WkS.cons rfl (Wk.refl _) (WkS.cons rfl (Wk.refl _) (WkS.cons rfl (Wk.refl _) (WkS.nil)))))) Pf Pf)
     ·replace hm := yes_f hc47 hm
      refine wpD_exit ?_
      refine then_exit ?_
      have e30 := lp_done hm; subst e30; clear hm; have hm := hq30
      refine then_exit ?_
      refine block_hit ?_
      have e29 := yes_eq hm; subst e29
      refine midX_inl ?_
      exact WkX.of () (WkS.perm (WkS.nil) Pf Pf)
   ·intro y29 s29 hx29 hw29; subst hx29; clear hm; have hm := ho29; simp only [Sum.elim_inl] at hm; clear q29 ho29
    refine then_normal ?_
    refine wpD_wkX hw29 (fun z29 => ?_)
    refine wpD_sr ?_
    refine pu ?_
    refine ops_nt ?_
    refine wpD_ret ?_
    have er55 := yes_eq hm; subst er55
    refine rP (t' := [(6, .v (.bool true))]) [] [] 0 (wC wN) (lT lN) ?_
    exact ⟨rfl, rfl, rfl⟩
noncomputable def tree_Same_b (g0 : (List TApiExpr) → (List TApiExpr) → Option (Bool)) (g1 : (TApiExpr) → (TApiExpr) → Option (Bool)) (a0 : TApiExpr) (a1 : TApiExpr) : Option (Bool) :=
  (bif (a0.gOp == a1.gOp) then (bif (a0.gN == a1.gN) then (bif (decide (a0.gName = a1.gName)) then ((g0 a0.gKids a1.gKids).bind fun x6 => some x6) else some false) else some false) else some false)
set_option maxRecDepth 100000 in
set_option maxHeartbeats 2000000 in
theorem tree_Same_b_ok (g0 : (List TApiExpr) → (List TApiExpr) → Option (Bool)) (g1 : (TApiExpr) → (TApiExpr) → Option (Bool)) (hg0 : ∀ (a0 : List TApiExpr) (a1 : List TApiExpr) (r : Bool) (h0 : g0 a0 a1 = some r), CallsD Try.prog 81 [.lst 5 (a0.map eTApiExpr) .no, .lst 5 (a1.map eTApiExpr) .no, .fn (.func 82) [] []] [] [] (fun d h k => d = .v (.bool r) ∧ h = [] ∧ k = [])) (hg1 : ∀ (a0 : TApiExpr) (a1 : TApiExpr) (r : Bool) (h0 : g1 a0 a1 = some r), CallsD Try.prog 82 [eTApiExpr a0, eTApiExpr a1] [] [] (fun d h k => d = .v (.bool r) ∧ h = [] ∧ k = [])) (a0 : TApiExpr) (a1 : TApiExpr) (r : Bool) (h0 : tree_Same_b g0 g1 a0 a1 = some r) : CallsD Try.prog 82 [eTApiExpr a0, eTApiExpr a1] [] [] (fun d h k => d = .v (.bool r) ∧ h = [] ∧ k = []) := by
  have hm := yes_of h0
  unfold tree_Same_b at hm
  clear h0
  refine enterX htab Try.func82 rfl rfl rfl rfl rfl (fun C => ?_)
  refine w_eq (i := 0) rfl (Wk.of_eq (eTApiExpr_eq a0)) ?_
  refine w_eq (i := 1) rfl (Wk.of_eq (eTApiExpr_eq a1)) ?_
  refine wpD_sr ?_
  refine p_box rfl rfl rfl rfl rfl rfl rfl (fun b1 => ?_)
  refine p_box rfl rfl rfl rfl rfl rfl rfl (fun b2 => ?_)
  refine pu ?_
  refine ops_n2 ?_
  refine pu ?_
  refine pL 0 ?_
  refine pu ?_
  refine pL 1 ?_
  refine pu ?_
  refine pu ?_
  refine p_split (i := 10) rfl (fun hg3 => ?_) (fun hg3 => ?_)
  ·replace hm := yes_t hg3 hm
   refine pu ?_
   refine pL 0 ?_
   refine pu ?_
   refine pL 1 ?_
   refine pu ?_
   refine p_pickT rfl rfl rfl rfl rfl rfl ?_
   refine pu ?_
   refine p_split (i := 17) rfl (fun hg4 => ?_) (fun hg4 => ?_)
   ·replace hm := yes_t hg4 hm
    refine pu ?_
    refine pL 0 ?_
    refine pu ?_
    refine pL 1 ?_
    refine pu ?_
    refine p_pickT rfl rfl rfl rfl rfl rfl ?_
    refine pu ?_
    refine p_split (i := 24) rfl (fun hg5 => ?_) (fun hg5 => ?_)
    ·replace hm := yes_t hg5 hm
     refine pu ?_
     refine pL 0 ?_
     refine pu ?_
     refine pL 1 ?_
     obtain ⟨x6, q6, hm⟩ := yes_bind hm
     refine p_call0 (hg0 a0.gKids a1.gKids x6 q6) rfl rfl rfl rfl rfl Wl ?_
     rintro _ rfl
     refine p_pickT rfl rfl rfl rfl rfl rfl ?_
     refine pu ?_
     refine ops_nt ?_
     refine wpD_ret ?_
     have er7 := yes_eq hm; subst er7
     refine rP (t' := [(4, .v (.bool x6))]) [] [] 0 (wC wN) (lT lN) ?_
     exact ⟨rfl, rfl, rfl⟩
    ·replace hm := yes_f hg5 hm
     iterate 5 refine pK ?_
     refine p_pickF rfl rfl rfl rfl rfl rfl ?_
     refine pu ?_
     refine ops_nt ?_
     refine wpD_ret ?_
     have er8 := yes_eq hm; subst er8
     refine rP (t' := [(4, .v (.bool false))]) [] [] 0 (wC wN) (lT lN) ?_
     exact ⟨rfl, rfl, rfl⟩
   ·replace hm := yes_f hg4 hm
    iterate 5 refine pK ?_
    refine p_pickF rfl rfl rfl rfl rfl rfl ?_
    refine pu ?_
    iterate 5 refine pK ?_
    refine p_pickF rfl rfl rfl rfl rfl rfl ?_
    refine pu ?_
    refine ops_nt ?_
    refine wpD_ret ?_
    have er9 := yes_eq hm; subst er9
    refine rP (t' := [(4, .v (.bool false))]) [] [] 0 (wC wN) (lT lN) ?_
    exact ⟨rfl, rfl, rfl⟩
  ·replace hm := yes_f hg3 hm
   iterate 5 refine pK ?_
   refine p_pickF rfl rfl rfl rfl rfl rfl ?_
   refine pu ?_
   iterate 5 refine pK ?_
   refine p_pickF rfl rfl rfl rfl rfl rfl ?_
   refine pu ?_
   iterate 5 refine pK ?_
   refine p_pickF rfl rfl rfl rfl rfl rfl ?_
   refine pu ?_
   refine ops_nt ?_
   refine wpD_ret ?_
   have er10 := yes_eq hm; subst er10
   refine rP (t' := [(4, .v (.bool false))]) [] [] 0 (wC wN) (lT lN) ?_
   exact ⟨rfl, rfl, rfl⟩
noncomputable def slices_EqualFunc_api_Expr_api_Expr_api_Expr_api_Expr_g : Nat → ((List TApiExpr) → (List TApiExpr) → Option (Bool)) × ((TApiExpr) → (TApiExpr) → Option (Bool))
  | 0 => (fun _ _ => none, fun _ _ => none)
  | n + 1 => (slices_EqualFunc_api_Expr_api_Expr_api_Expr_api_Expr_b ((slices_EqualFunc_api_Expr_api_Expr_api_Expr_api_Expr_g n).1) ((slices_EqualFunc_api_Expr_api_Expr_api_Expr_api_Expr_g n).2), tree_Same_b ((slices_EqualFunc_api_Expr_api_Expr_api_Expr_api_Expr_g n).1) ((slices_EqualFunc_api_Expr_api_Expr_api_Expr_api_Expr_g n).2))
theorem slices_EqualFunc_api_Expr_api_Expr_api_Expr_api_Expr_g_ok : ∀ n, (∀ (a0 : List TApiExpr) (a1 : List TApiExpr) (r : Bool) (h0 : (slices_EqualFunc_api_Expr_api_Expr_api_Expr_api_Expr_g n).1 a0 a1 = some r), CallsD Try.prog 81 [.lst 5 (a0.map eTApiExpr) .no, .lst 5 (a1.map eTApiExpr) .no, .fn (.func 82) [] []] [] [] (fun d h k => d = .v (.bool r) ∧ h = [] ∧ k = [])) ∧ (∀ (a0 : TApiExpr) (a1 : TApiExpr) (r : Bool) (h0 : (slices_EqualFunc_api_Expr_api_Expr_api_Expr_api_Expr_g n).2 a0 a1 = some r), CallsD Try.prog 82 [eTApiExpr a0, eTApiExpr a1] [] [] (fun d h k => d = .v (.bool r) ∧ h = [] ∧ k = []))
  | 0 => ⟨(fun _ _ _ h0 => by cases h0), (fun _ _ _ h0 => by cases h0)⟩
  | n + 1 => by
    have ih := slices_EqualFunc_api_Expr_api_Expr_api_Expr_api_Expr_g_ok n
    exact ⟨slices_EqualFunc_api_Expr_api_Expr_api_Expr_api_Expr_b_ok ((slices_EqualFunc_api_Expr_api_Expr_api_Expr_api_Expr_g n).1) ((slices_EqualFunc_api_Expr_api_Expr_api_Expr_api_Expr_g n).2) (ih.1) (ih.2), tree_Same_b_ok ((slices_EqualFunc_api_Expr_api_Expr_api_Expr_api_Expr_g n).1) ((slices_EqualFunc_api_Expr_api_Expr_api_Expr_api_Expr_g n).2) (ih.1) (ih.2)⟩
theorem slices_EqualFunc_api_Expr_api_Expr_api_Expr_api_Expr_g_le : ∀ n, (∀ (a0 : List TApiExpr) (a1 : List TApiExpr), Le ((slices_EqualFunc_api_Expr_api_Expr_api_Expr_api_Expr_g n).1 a0 a1) ((slices_EqualFunc_api_Expr_api_Expr_api_Expr_api_Expr_g (n + 1)).1 a0 a1)) ∧ (∀ (a0 : TApiExpr) (a1 : TApiExpr), Le ((slices_EqualFunc_api_Expr_api_Expr_api_Expr_api_Expr_g n).2 a0 a1) ((slices_EqualFunc_api_Expr_api_Expr_api_Expr_api_Expr_g (n + 1)).2 a0 a1))
  | 0 => ⟨fun _ _ => Le.none _, fun _ _ => Le.none _⟩
  | n + 1 => by
    have ih := slices_EqualFunc_api_Expr_api_Expr_api_Expr_api_Expr_g_le n
    exact ⟨fun a0 a1 => by show Le (slices_EqualFunc_api_Expr_api_Expr_api_Expr_api_Expr_b ((slices_EqualFunc_api_Expr_api_Expr_api_Expr_api_Expr_g n).1) ((slices_EqualFunc_api_Expr_api_Expr_api_Expr_api_Expr_g n).2) a0 a1) (slices_EqualFunc_api_Expr_api_Expr_api_Expr_api_Expr_b ((slices_EqualFunc_api_Expr_api_Expr_api_Expr_api_Expr_g (n + 1)).1) ((slices_EqualFunc_api_Expr_api_Expr_api_Expr_api_Expr_g (n + 1)).2) a0 a1); unfold slices_EqualFunc_api_Expr_api_Expr_api_Expr_api_Expr_b; repeat (first | exact Le.refl _ | exact ih.1 _ _ | exact ih.2 _ _ | assumption | (refine Le.bind ?_ (fun _ => ?_)) | (refine Le.cond ?_ ?_) | (refine Le.loop (fun _ => ?_)) | (refine Le.elim (fun _ => ?_) (fun _ => ?_))), fun a0 a1 => by show Le (tree_Same_b ((slices_EqualFunc_api_Expr_api_Expr_api_Expr_api_Expr_g n).1) ((slices_EqualFunc_api_Expr_api_Expr_api_Expr_api_Expr_g n).2) a0 a1) (tree_Same_b ((slices_EqualFunc_api_Expr_api_Expr_api_Expr_api_Expr_g (n + 1)).1) ((slices_EqualFunc_api_Expr_api_Expr_api_Expr_api_Expr_g (n + 1)).2) a0 a1); unfold tree_Same_b; repeat (first | exact Le.refl _ | exact ih.1 _ _ | exact ih.2 _ _ | assumption | (refine Le.bind ?_ (fun _ => ?_)) | (refine Le.cond ?_ ?_) | (refine Le.loop (fun _ => ?_)) | (refine Le.elim (fun _ => ?_) (fun _ => ?_)))⟩
noncomputable def slices_EqualFunc_api_Expr_api_Expr_api_Expr_api_Expr (a0 : List TApiExpr) (a1 : List TApiExpr) : Option (Bool) := anyN fun n => (slices_EqualFunc_api_Expr_api_Expr_api_Expr_api_Expr_g n).1 a0 a1
theorem slices_EqualFunc_api_Expr_api_Expr_api_Expr_api_Expr_of (a0 : List TApiExpr) (a1 : List TApiExpr) {r : Bool} (n : Nat) (h : (slices_EqualFunc_api_Expr_api_Expr_api_Expr_api_Expr_g n).1 a0 a1 = some r) : slices_EqualFunc_api_Expr_api_Expr_api_Expr_api_Expr a0 a1 = some r := anyN_of (fun m => (slices_EqualFunc_api_Expr_api_Expr_api_Expr_api_Expr_g_le m).1 a0 a1) h
theorem slices_EqualFunc_api_Expr_api_Expr_api_Expr_api_Expr_ok (a0 : List TApiExpr) (a1 : List TApiExpr) (r : Bool) (h0 : slices_EqualFunc_api_Expr_api_Expr_api_Expr_api_Expr a0 a1 = some r) : CallsD Try.prog 81 [.lst 5 (a0.map eTApiExpr) .no, .lst 5 (a1.map eTApiExpr) .no, .fn (.func 82) [] []] [] [] (fun d h k => d = .v (.bool r) ∧ h = [] ∧ k = []) :=
  let ⟨n, hn⟩ := anyN_inv h0; (slices_EqualFunc_api_Expr_api_Expr_api_Expr_api_Expr_g_ok n).1 a0 a1  r hn
noncomputable def tree_SameAll_b (g0 : (List TApiStmt) → (List TApiStmt) → Option (Bool)) (g1 : (List TApiStmt) → (List TApiStmt) → Option (Bool)) (g2 : (TApiStmt) → (TApiStmt) → Option (Bool)) (a0 : List TApiStmt) (a1 : List TApiStmt) : Option (Bool) :=
  ((g1 a0 a1).bind fun x1 => some x1)
set_option maxRecDepth 100000 in
set_option maxHeartbeats 2000000 in
theorem tree_SameAll_b_ok (g0 : (List TApiStmt) → (List TApiStmt) → Option (Bool)) (g1 : (List TApiStmt) → (List TApiStmt) → Option (Bool)) (g2 : (TApiStmt) → (TApiStmt) → Option (Bool)) (hg0 : ∀ (a0 : List TApiStmt) (a1 : List TApiStmt) (r : Bool) (h0 : g0 a0 a1 = some r), CallsD Try.prog 57 [.lst 7 (a0.map eTApiStmt) .no, .lst 7 (a1.map eTApiStmt) .no] [] [] (fun d h k => d = .v (.bool r) ∧ h = [] ∧ k = [])) (hg1 : ∀ (a0 : List TApiStmt) (a1 : List TApiStmt) (r : Bool) (h0 : g1 a0 a1 = some r), CallsD Try.prog 67 [.lst 7 (a0.map eTApiStmt) .no, .lst 7 (a1.map eTApiStmt) .no, .fn (.func 68) [] []] [] [] (fun d h k => d = .v (.bool r) ∧ h = [] ∧ k = [])) (hg2 : ∀ (a0 : TApiStmt) (a1 : TApiStmt) (r : Bool) (h0 : g2 a0 a1 = some r), CallsD Try.prog 68 [eTApiStmt a0, eTApiStmt a1] [] [] (fun d h k => d = .v (.bool r) ∧ h = [] ∧ k = [])) (a0 : List TApiStmt) (a1 : List TApiStmt) (r : Bool) (h0 : tree_SameAll_b g0 g1 g2 a0 a1 = some r) : CallsD Try.prog 57 [.lst 7 (a0.map eTApiStmt) .no, .lst 7 (a1.map eTApiStmt) .no] [] [] (fun d h k => d = .v (.bool r) ∧ h = [] ∧ k = []) := by
  have hm := yes_of h0
  unfold tree_SameAll_b at hm
  clear h0
  refine enterX htab Try.func57 rfl rfl rfl rfl rfl (fun C => ?_)
  refine wpD_sr ?_
  refine pu ?_
  refine ops_n2 ?_
  refine pu ?_
  refine pu ?_
  obtain ⟨x1, q1, hm⟩ := yes_bind hm
  refine p_call0 (hg1 a0 a1 x1 q1) rfl rfl rfl rfl rfl Wl ?_
  rintro _ rfl
  refine pu ?_
  refine ops_nt ?_
  refine wpD_ret ?_
  have er2 := yes_eq hm; subst er2
  refine rP (t' := [(4, .v (.bool x1))]) [] [] 0 (wC wN) (lT lN) ?_
  exact ⟨rfl, rfl, rfl⟩
noncomputable def slices_EqualFunc_api_Stmt_api_Stmt_api_Stmt_api_Stmt_b (g0 : (List TApiStmt) → (List TApiStmt) → Option (Bool)) (g1 : (List TApiStmt) → (List TApiStmt) → Option (Bool)) (g2 : (TApiStmt) → (TApiStmt) → Option (Bool)) (a0 : List TApiStmt) (a1 : List TApiStmt) : Option (Bool) :=
  (bif ((a0.length : Int) != (a1.length : Int)) then some false else (Option.bind (α := (Unit) ⊕ (Bool)) (loopM (fun (s30 : Int) => (bif (decide (s30 < (a0.length : Int))) then ((idx a0 s30).bind fun x48 => ((idx a1 s30).bind fun x50 => ((g2 x48 x50).bind fun x52 => (bif (!x52) then some (.done (.inr false)) else some (.next (IntKind.i64.wrap (s30 + (1 : Int)))))))) else some (.done (.inl ())))) (0 : Int)) (Sum.elim (fun y29 => some true) (fun r => some r))))
set_option maxRecDepth 100000 in
set_option maxHeartbeats 2000000 in
theorem slices_EqualFunc_api_Stmt_api_Stmt_api_Stmt_api_Stmt_b_ok (g0 : (List TApiStmt) → (List TApiStmt) → Option (Bool)) (g1 : (List TApiStmt) → (List TApiStmt) → Option (Bool)) (g2 : (TApiStmt) → (TApiStmt) → Option (Bool)) (hg0 : ∀ (a0 : List TApiStmt) (a1 : List TApiStmt) (r : Bool) (h0 : g0 a0 a1 = some r), CallsD Try.prog 57 [.lst 7 (a0.map eTApiStmt) .no, .lst 7 (a1.map eTApiStmt) .no] [] [] (fun d h k => d = .v (.bool r) ∧ h = [] ∧ k = [])) (hg1 : ∀ (a0 : List TApiStmt) (a1 : List TApiStmt) (r : Bool) (h0 : g1 a0 a1 = some r), CallsD Try.prog 67 [.lst 7 (a0.map eTApiStmt) .no, .lst 7 (a1.map eTApiStmt) .no, .fn (.func 68) [] []] [] [] (fun d h k => d = .v (.bool r) ∧ h = [] ∧ k = [])) (hg2 : ∀ (a0 : TApiStmt) (a1 : TApiStmt) (r : Bool) (h0 : g2 a0 a1 = some r), CallsD Try.prog 68 [eTApiStmt a0, eTApiStmt a1] [] [] (fun d h k => d = .v (.bool r) ∧ h = [] ∧ k = [])) (a0 : List TApiStmt) (a1 : List TApiStmt) (r : Bool) (h0 : slices_EqualFunc_api_Stmt_api_Stmt_api_Stmt_api_Stmt_b g0 g1 g2 a0 a1 = some r) : CallsD Try.prog 67 [.lst 7 (a0.map eTApiStmt) .no, .lst 7 (a1.map eTApiStmt) .no, .fn (.func 68) [] []] [] [] (fun d h k => d = .v (.bool r) ∧ h = [] ∧ k = []) := by
  have hm := yes_of h0
  unfold slices_EqualFunc_api_Stmt_api_Stmt_api_Stmt_api_Stmt_b at hm
  clear h0
  refine enterX htab Try.func67 rfl rfl rfl rfl rfl (fun C => ?_)
  refine wpD_sr ?_
  refine pu ?_
  refine ops_nt ?_
  refine wpD_seq ?_
  refine wpD_sr ?_
  refine pu ?_
  refine p_lenL htab rfl rfl rfl rfl rfl rfl rfl (by first | exact map_len | rfl) ?_
  refine pu ?_
  refine p_lenL htab rfl rfl rfl rfl rfl rfl rfl (by first | exact map_len | rfl) ?_
  refine pu ?_
  refine ops_nt ?_
  refine wpD_cond rfl (fun hc2 => ?_) (fun hc2 => ?_)
  ·replace hm := yes_t hc2 hm
   refine wpD_sr ?_
   refine pu ?_
   refine ops_nt ?_
   refine wpD_ret ?_
   refine then_ret ?_
   have er3 := yes_eq hm; subst er3
   refine rP (t' := [(6, .v (.bool false))]) [] [] 0 (wC wN) (lT lN) ?_
   exact ⟨rfl, rfl, rfl⟩
  ·replace hm := yes_f hc2 hm
   refine wpD_skip ?_
   refine then_normal ?_
   refine wpD_seq ?_
   refine wpD_sr ?_
   refine pu ?_
   refine p_lenL htab rfl rfl rfl rfl rfl rfl rfl (by first | exact map_len | rfl) ?_
   refine pu ?_
   refine ops_nt ?_
   obtain ⟨x29, q29, ho29⟩ := yes_bind hm
   refine wpD_midX (τ := Unit) (Y := Unit) (fun y29 z29 => (⟨[], [], []⟩ : S)) x29 ?_ ?_
   ·clear hm; have hm := yes_of q29
    refine wpD_block ?_
    obtain ⟨u30, hl30, hq30⟩ := yes_m hm
    refine loop_M (Y := Unit) hl30 (fun s30 z30 => (⟨[(1, .lst 7 (a1.map eTApiStmt) .no), (2, .fn (.func 68) [] []), (15, .lst 7 (a0.map eTApiStmt) .no), (16, .v (.int .i64 (a0.length : Int))), (17, .v (.int .i64 s30))], [], []⟩ : S)) ?_ ?_
    ·skip
     exact WkX.of () (WkS.perm (WkS.cons rfl (Wk.refl _) (WkS.cons rfl (Wk.refl _) (WkS.cons rfl (Wk.refl _) (WkS.cons rfl (Wk.refl _) (WkS.cons rfl (Wk.refl _) (WkS.nil)))))) Pf Pf)
    ·intro G30 s30 z30 hm
     refine wpD_sr ?_
     refine pu ?_
     refine ops_nt ?_
     refine wpD_seq ?_
     refine wpD_cond rfl (fun hc47 => ?_) (fun hc47 => ?_)
     ·replace hm := yes_t hc47 hm
      refine wpD_skip ?_
      refine then_normal ?_
      refine wpD_seq ?_
      refine wpD_block ?_
      refine wpD_sr ?_
      refine pu ?_
      obtain ⟨x48, q48, hm⟩ := yes_bind hm
      refine p_elem htab rfl rfl rfl rfl rfl rfl rfl rfl rfl rfl (idx_nonneg q48) (idx_map q48) ?_
      refine p_eq (i := 20) rfl (Wk.of_eq (congrArg D.el (eTApiStmt_eq x48))) ?_
      refine p_loadEl (d := .agg [.v (.int .i64 x48.gOp), .v (.string x48.gName), .v (.string x48.gFunc), .lst 5 (x48.gExps.map eTApiExpr) .no, .lst 7 (x48.gKids.map eTApiStmt) .no, .lst 7 (x48.gElse.map eTApiStmt) .no, .v (.int .i64 x48.gAt)]) htab rfl rfl rfl rfl rfl rfl rfl rfl ?_
      refine p_alloc htab rfl rfl rfl rfl rfl rfl rfl (fun b49 => ?_)
      refine pu ?_
      refine pS0 (ds' := [.v (.int .i64 x48.gOp), .v (.string x48.gName), .v (.string x48.gFunc), .lst 5 (x48.gExps.map eTApiExpr) .no, .lst 7 (x48.gKids.map eTApiStmt) .no, .lst 7 (x48.gElse.map eTApiStmt) .no, .v (.int .i64 x48.gAt)]) ?_
      refine ops_n2 ?_
      refine pu ?_
      refine pu ?_
      obtain ⟨x50, q50, hm⟩ := yes_bind hm
      refine p_elem htab rfl rfl rfl rfl rfl rfl rfl rfl rfl rfl (idx_nonneg q50) (idx_map q50) ?_
      refine p_eq (i := 24) rfl (Wk.of_eq (congrArg D.el (eTApiStmt_eq x50))) ?_
      refine p_loadEl (d := .agg [.v (.int .i64 x50.gOp), .v (.string x50.gName), .v (.string x50.gFunc), .lst 5 (x50.gExps.map eTApiExpr) .no, .lst 7 (x50.gKids.map eTApiStmt) .no, .lst 7 (x50.gElse.map eTApiStmt) .no, .v (.int .i64 x50.gAt)]) htab rfl rfl rfl rfl rfl rfl rfl rfl ?_
      refine p_alloc htab rfl rfl rfl rfl rfl rfl rfl (fun b51 => ?_)
      refine pS1 (ds' := [.v (.int .i64 x50.gOp), .v (.string x50.gName), .v (.string x50.gFunc), .lst 5 (x50.gExps.map eTApiExpr) .no, .lst 7 (x50.gKids.map eTApiStmt) .no, .lst 7 (x50.gElse.map eTApiStmt) .no, .v (.int .i64 x50.gAt)]) ?_
      refine ops_n2 ?_
      refine pu ?_
      refine p_load (d := .agg [.v (.int .i64 x48.gOp), .v (.string x48.gName), .v (.string x48.gFunc), .lst 5 (x48.gExps.map eTApiExpr) .no, .lst 7 (x48.gKids.map eTApiStmt) .no, .lst 7 (x48.gElse.map eTApiStmt) .no, .v (.int .i64 x48.gAt)]) 0 htab rfl rfl rfl rfl rfl rfl rfl rfl ?_
      refine p_load (d := .agg [.v (.int .i64 x50.gOp), .v (.string x50.gName), .v (.string x50.gFunc), .lst 5 (x50.gExps.map eTApiExpr) .no, .lst 7 (x50.gKids.map eTApiStmt) .no, .lst 7 (x50.gElse.map eTApiStmt) .no, .v (.int .i64 x50.gAt)]) 1 htab rfl rfl rfl rfl rfl rfl rfl rfl ?_
      obtain ⟨x52, q52, hm⟩ := yes_bind hm
      refine p_callV0 (hg2 x48 x50 x52 q52) rfl rfl rfl rfl rfl rfl rfl (WkL.cons (Wk.trans (Wk.agg (WkR.refl _)) (Wk.of_eq (eTApiStmt_eq x48).symm)) (WkL.cons (Wk.trans (Wk.agg (WkR.refl _)) (Wk.of_eq (eTApiStmt_eq x50).symm)) Wl)) ?_
      rintro _ rfl
      refine pu ?_
      refine ops_nt ?_
      refine wpD_cond rfl (fun hc53 => ?_) (fun hc53 => ?_)
      ·replace hm := yes_t hc53 hm
       refine wpD_sr ?_
       refine pu ?_
       refine ops_nt ?_
       refine wpD_ret ?_
       refine block_ret ?_
       refine then_ret ?_
       have e30 := lp_done hm; subst e30; clear hm; have hm := hq30
       refine then_ret ?_
       refine block_ret ?_
       have e29 := yes_eq hm; subst e29; refine midX_inr ?_; clear hm; have hm := ho29; simp only [Sum.elim_inr] at hm
       refine then_ret ?_
       have er54 := yes_eq hm; subst er54
       refine rP (t' := [(6, .v (.bool false))]) [] [] 0 (wC wN) (lT lN) ?_
       exact ⟨rfl, rfl, rfl⟩
      ·replace hm := yes_f hc53 hm
       refine wpD_skip ?_
       refine block_normal ?_
       refine then_normal ?_
       refine wpD_region ?_
       refine pu ?_
       refine pu ?_
       refine ops_nil ?_
       refine then_normal ⟨_, lp_next hm, ?_⟩
       exact WkX.of () (WkS.perm (WkS.cons rfl (Wk.refl _) (WkS.cons rfl (Wk.refl _) (WkS.cons rfl (Wk.refl _) (WkS.cons rfl (Wk.refl _) (WkS.cons rfl (Wk.refl _) (WkS.nil)))))) Pf Pf)
     ·replace hm := yes_f hc47 hm
      refine wpD_exit ?_
      refine then_exit ?_
      have e30 := lp_done hm; subst e30; clear hm; have hm := hq30
      refine then_exit ?_
      refine block_hit ?_
      have e29 := yes_eq hm; subst e29
      refine midX_inl ?_
      exact WkX.of () (WkS.perm (WkS.nil) Pf Pf)
   ·intro y29 s29 hx29 hw29; subst hx29; clear hm; have hm := ho29; simp only [Sum.elim_inl] at hm; clear q29 ho29
    refine then_normal ?_
    refine wpD_wkX hw29 (fun z29 => ?_)
    refine wpD_sr ?_
    refine pu ?_
    refine ops_nt ?_
    refine wpD_ret ?_
    have er55 := yes_eq hm; subst er55
    refine rP (t' := [(6, .v (.bool true))]) [] [] 0 (wC wN) (lT lN) ?_
    exact ⟨rfl, rfl, rfl⟩
noncomputable def tree_sameStmt_b (g0 : (List TApiStmt) → (List TApiStmt) → Option (Bool)) (g1 : (List TApiStmt) → (List TApiStmt) → Option (Bool)) (g2 : (TApiStmt) → (TApiStmt) → Option (Bool)) (a0 : TApiStmt) (a1 : TApiStmt) : Option (Bool) :=
  (Option.bind (α := Bool) (bif (a0.gOp != a1.gOp) then some true else (bif (!decide (a0.gName = a1.gName)) then some true else some (!decide (a0.gFunc = a1.gFunc)))) fun y5 => (bif y5 then some false else ((slices_EqualFunc_api_Expr_api_Expr_api_Expr_api_Expr a0.gExps a1.gExps).bind fun x11 => (bif x11 then ((g0 a0.gKids a1.gKids).bind fun x13 => (bif x13 then ((g0 a0.gElse a1.gElse).bind fun x15 => some x15) else some false)) else some false))))
set_option maxRecDepth 100000 in
set_option maxHeartbeats 2000000 in
theorem tree_sameStmt_b_ok (g0 : (List TApiStmt) → (List TApiStmt) → Option (Bool)) (g1 : (List TApiStmt) → (List TApiStmt) → Option (Bool)) (g2 : (TApiStmt) → (TApiStmt) → Option (Bool)) (hg0 : ∀ (a0 : List TApiStmt) (a1 : List TApiStmt) (r : Bool) (h0 : g0 a0 a1 = some r), CallsD Try.prog 57 [.lst 7 (a0.map eTApiStmt) .no, .lst 7 (a1.map eTApiStmt) .no] [] [] (fun d h k => d = .v (.bool r) ∧ h = [] ∧ k = [])) (hg1 : ∀ (a0 : List TApiStmt) (a1 : List TApiStmt) (r : Bool) (h0 : g1 a0 a1 = some r), CallsD Try.prog 67 [.lst 7 (a0.map eTApiStmt) .no, .lst 7 (a1.map eTApiStmt) .no, .fn (.func 68) [] []] [] [] (fun d h k => d = .v (.bool r) ∧ h = [] ∧ k = [])) (hg2 : ∀ (a0 : TApiStmt) (a1 : TApiStmt) (r : Bool) (h0 : g2 a0 a1 = some r), CallsD Try.prog 68 [eTApiStmt a0, eTApiStmt a1] [] [] (fun d h k => d = .v (.bool r) ∧ h = [] ∧ k = [])) (a0 : TApiStmt) (a1 : TApiStmt) (r : Bool) (h0 : tree_sameStmt_b g0 g1 g2 a0 a1 = some r) : CallsD Try.prog 68 [eTApiStmt a0, eTApiStmt a1] [] [] (fun d h k => d = .v (.bool r) ∧ h = [] ∧ k = []) := by
  have hm := yes_of h0
  unfold tree_sameStmt_b at hm
  clear h0
  refine enterX htab Try.func68 rfl rfl rfl rfl rfl (fun C => ?_)
  refine w_eq (i := 0) rfl (Wk.of_eq (eTApiStmt_eq a0)) ?_
  refine w_eq (i := 1) rfl (Wk.of_eq (eTApiStmt_eq a1)) ?_
  refine wpD_sr ?_
  refine p_box rfl rfl rfl rfl rfl rfl rfl (fun b1 => ?_)
  refine p_box rfl rfl rfl rfl rfl rfl rfl (fun b2 => ?_)
  refine pu ?_
  refine ops_nt ?_
  refine wpD_seq ?_
  refine wpD_seq ?_
  obtain ⟨y5, q5, ho5⟩ := yes_bind hm
  refine wpD_mid (Y := Unit) (fun z5 => (⟨[(2, .ptr b1 0), (3, .ptr b2 0), (23, .v (.bool y5))], [(b1, Blk.cells [.v (.int .i64 a0.gOp), .v (.string a0.gName), .v (.string a0.gFunc), .lst 5 (a0.gExps.map eTApiExpr) .no, .lst 7 (a0.gKids.map eTApiStmt) .no, .lst 7 (a0.gElse.map eTApiStmt) .no, .v (.int .i64 a0.gAt)] 73), (b2, Blk.cells [.v (.int .i64 a1.gOp), .v (.string a1.gName), .v (.string a1.gFunc), .lst 5 (a1.gExps.map eTApiExpr) .no, .lst 7 (a1.gKids.map eTApiStmt) .no, .lst 7 (a1.gElse.map eTApiStmt) .no, .v (.int .i64 a1.gAt)] 73)], []⟩ : S)) ?_ ?_
  ·clear hm; have hm := yes_of q5
   refine wpD_region ?_
   refine pu ?_
   refine pL 0 ?_
   refine pu ?_
   refine pL 1 ?_
   refine pu ?_
   refine pu ?_
   refine p_split (i := 10) rfl (fun hg6 => ?_) (fun hg6 => ?_)
   ·replace hm := yes_t hg6 hm
    iterate 5 refine pK ?_
    refine p_pickT rfl rfl rfl rfl rfl rfl ?_
    refine pu ?_
    iterate 5 refine pK ?_
    refine p_pickT rfl rfl rfl rfl rfl rfl ?_
    refine ops_nil ?_
    have e5 := yes_eq hm; subst e5
    refine ⟨rfl, ?_⟩
    exact WkX.of () (WkS.perm (WkS.cons rfl (Wk.refl _) (WkS.cons rfl (Wk.refl _) (WkS.cons rfl (Wk.refl _) (WkS.nil)))) Pf Pf)
   ·replace hm := yes_f hg6 hm
    refine pu ?_
    refine pL 0 ?_
    refine pu ?_
    refine pL 1 ?_
    refine pu ?_
    refine p_pickF rfl rfl rfl rfl rfl rfl ?_
    refine pu ?_
    refine p_split (i := 17) rfl (fun hg7 => ?_) (fun hg7 => ?_)
    ·replace hm := yes_t hg7 hm
     iterate 5 refine pK ?_
     refine p_pickT rfl rfl rfl rfl rfl rfl ?_
     refine ops_nil ?_
     have e5 := yes_eq hm; subst e5
     refine ⟨rfl, ?_⟩
     exact WkX.of () (WkS.perm (WkS.cons rfl (Wk.refl _) (WkS.cons rfl (Wk.refl _) (WkS.cons rfl (Wk.refl _) (WkS.nil)))) Pf Pf)
    ·replace hm := yes_f hg7 hm
     refine pu ?_
     refine pL 0 ?_
     refine pu ?_
     refine pL 1 ?_
     refine pu ?_
     refine p_pickF rfl rfl rfl rfl rfl rfl ?_
     refine ops_nil ?_
     have e5 := yes_eq hm; subst e5
     refine ⟨rfl, ?_⟩
     exact WkX.of () (WkS.perm (WkS.cons rfl (Wk.refl _) (WkS.cons rfl (Wk.refl _) (WkS.cons rfl (Wk.refl _) (WkS.nil)))) Pf Pf)
  ·intro s5 hw5; clear hm; have hm := ho5; clear q5 ho5
   refine then_normal ?_
   refine wpD_wkX hw5 (fun z5 => ?_)
   refine wpD_cond rfl (fun hc9 => ?_) (fun hc9 => ?_)
   ·replace hm := yes_t hc9 hm
    refine wpD_sr ?_
    refine pu ?_
    refine ops_nt ?_
    refine wpD_ret ?_
    refine then_ret ?_
    have er10 := yes_eq hm; subst er10
    refine rP (t' := [(4, .v (.bool false))]) [] [] 0 (wC wN) (lT lN) ?_
    exact ⟨rfl, rfl, rfl⟩
   ·replace hm := yes_f hc9 hm
    refine wpD_skip ?_
    refine then_normal ?_
    refine wpD_sr ?_
    refine pu ?_
    refine pL 0 ?_
    refine pu ?_
    refine pL 1 ?_
    obtain ⟨x11, q11, hm⟩ := yes_bind hm
    refine p_call0 (slices_EqualFunc_api_Expr_api_Expr_api_Expr_api_Expr_ok a0.gExps a1.gExps x11 q11) rfl rfl rfl rfl rfl Wl ?_
    rintro _ rfl
    refine pu ?_
    refine p_split (i := 29) rfl (fun hg12 => ?_) (fun hg12 => ?_)
    ·replace hm := yes_t hg12 hm
     refine pu ?_
     refine pL 0 ?_
     refine pu ?_
     refine pL 1 ?_
     obtain ⟨x13, q13, hm⟩ := yes_bind hm
     refine p_call0 (hg0 a0.gKids a1.gKids x13 q13) rfl rfl rfl rfl rfl Wl ?_
     rintro _ rfl
     refine p_pickT rfl rfl rfl rfl rfl rfl ?_
     refine pu ?_
     refine p_split (i := 36) rfl (fun hg14 => ?_) (fun hg14 => ?_)
     ·replace hm := yes_t hg14 hm
      refine pu ?_
      refine pL 0 ?_
      refine pu ?_
      refine pL 1 ?_
      obtain ⟨x15, q15, hm⟩ := yes_bind hm
      refine p_call0 (hg0 a0.gElse a1.gElse x15 q15) rfl rfl rfl rfl rfl Wl ?_
      rintro _ rfl
      refine p_pickT rfl rfl rfl rfl rfl rfl ?_
      refine pu ?_
      refine ops_nt ?_
      refine wpD_ret ?_
      have er16 := yes_eq hm; subst er16
      refine rP (t' := [(4, .v (.bool x15))]) [] [] 0 (wC wN) (lT lN) ?_
      exact ⟨rfl, rfl, rfl⟩
     ·replace hm := yes_f hg14 hm
      iterate 5 refine pK ?_
      refine p_pickF rfl rfl rfl rfl rfl rfl ?_
      refine pu ?_
      refine ops_nt ?_
      refine wpD_ret ?_
      have er17 := yes_eq hm; subst er17
      refine rP (t' := [(4, .v (.bool false))]) [] [] 0 (wC wN) (lT lN) ?_
      exact ⟨rfl, rfl, rfl⟩
    ·replace hm := yes_f hg12 hm
     iterate 5 refine pK ?_
     refine p_pickF rfl rfl rfl rfl rfl rfl ?_
     refine pu ?_
     iterate 5 refine pK ?_
     refine p_pickF rfl rfl rfl rfl rfl rfl ?_
     refine pu ?_
     refine ops_nt ?_
     refine wpD_ret ?_
     have er18 := yes_eq hm; subst er18
     refine rP (t' := [(4, .v (.bool false))]) [] [] 0 (wC wN) (lT lN) ?_
     exact ⟨rfl, rfl, rfl⟩
noncomputable def tree_SameAll_g : Nat → ((List TApiStmt) → (List TApiStmt) → Option (Bool)) × ((List TApiStmt) → (List TApiStmt) → Option (Bool)) × ((TApiStmt) → (TApiStmt) → Option (Bool))
  | 0 => (fun _ _ => none, fun _ _ => none, fun _ _ => none)
  | n + 1 => (tree_SameAll_b ((tree_SameAll_g n).1) ((tree_SameAll_g n).2.1) ((tree_SameAll_g n).2.2), slices_EqualFunc_api_Stmt_api_Stmt_api_Stmt_api_Stmt_b ((tree_SameAll_g n).1) ((tree_SameAll_g n).2.1) ((tree_SameAll_g n).2.2), tree_sameStmt_b ((tree_SameAll_g n).1) ((tree_SameAll_g n).2.1) ((tree_SameAll_g n).2.2))
theorem tree_SameAll_g_ok : ∀ n, (∀ (a0 : List TApiStmt) (a1 : List TApiStmt) (r : Bool) (h0 : (tree_SameAll_g n).1 a0 a1 = some r), CallsD Try.prog 57 [.lst 7 (a0.map eTApiStmt) .no, .lst 7 (a1.map eTApiStmt) .no] [] [] (fun d h k => d = .v (.bool r) ∧ h = [] ∧ k = [])) ∧ (∀ (a0 : List TApiStmt) (a1 : List TApiStmt) (r : Bool) (h0 : (tree_SameAll_g n).2.1 a0 a1 = some r), CallsD Try.prog 67 [.lst 7 (a0.map eTApiStmt) .no, .lst 7 (a1.map eTApiStmt) .no, .fn (.func 68) [] []] [] [] (fun d h k => d = .v (.bool r) ∧ h = [] ∧ k = [])) ∧ (∀ (a0 : TApiStmt) (a1 : TApiStmt) (r : Bool) (h0 : (tree_SameAll_g n).2.2 a0 a1 = some r), CallsD Try.prog 68 [eTApiStmt a0, eTApiStmt a1] [] [] (fun d h k => d = .v (.bool r) ∧ h = [] ∧ k = []))
  | 0 => ⟨(fun _ _ _ h0 => by cases h0), (fun _ _ _ h0 => by cases h0), (fun _ _ _ h0 => by cases h0)⟩
  | n + 1 => by
    have ih := tree_SameAll_g_ok n
    exact ⟨tree_SameAll_b_ok ((tree_SameAll_g n).1) ((tree_SameAll_g n).2.1) ((tree_SameAll_g n).2.2) (ih.1) (ih.2.1) (ih.2.2), slices_EqualFunc_api_Stmt_api_Stmt_api_Stmt_api_Stmt_b_ok ((tree_SameAll_g n).1) ((tree_SameAll_g n).2.1) ((tree_SameAll_g n).2.2) (ih.1) (ih.2.1) (ih.2.2), tree_sameStmt_b_ok ((tree_SameAll_g n).1) ((tree_SameAll_g n).2.1) ((tree_SameAll_g n).2.2) (ih.1) (ih.2.1) (ih.2.2)⟩
theorem tree_SameAll_g_le : ∀ n, (∀ (a0 : List TApiStmt) (a1 : List TApiStmt), Le ((tree_SameAll_g n).1 a0 a1) ((tree_SameAll_g (n + 1)).1 a0 a1)) ∧ (∀ (a0 : List TApiStmt) (a1 : List TApiStmt), Le ((tree_SameAll_g n).2.1 a0 a1) ((tree_SameAll_g (n + 1)).2.1 a0 a1)) ∧ (∀ (a0 : TApiStmt) (a1 : TApiStmt), Le ((tree_SameAll_g n).2.2 a0 a1) ((tree_SameAll_g (n + 1)).2.2 a0 a1))
  | 0 => ⟨fun _ _ => Le.none _, fun _ _ => Le.none _, fun _ _ => Le.none _⟩
  | n + 1 => by
    have ih := tree_SameAll_g_le n
    exact ⟨fun a0 a1 => by show Le (tree_SameAll_b ((tree_SameAll_g n).1) ((tree_SameAll_g n).2.1) ((tree_SameAll_g n).2.2) a0 a1) (tree_SameAll_b ((tree_SameAll_g (n + 1)).1) ((tree_SameAll_g (n + 1)).2.1) ((tree_SameAll_g (n + 1)).2.2) a0 a1); unfold tree_SameAll_b; repeat (first | exact Le.refl _ | exact ih.1 _ _ | exact ih.2.1 _ _ | exact ih.2.2 _ _ | assumption | (refine Le.bind ?_ (fun _ => ?_)) | (refine Le.cond ?_ ?_) | (refine Le.loop (fun _ => ?_)) | (refine Le.elim (fun _ => ?_) (fun _ => ?_))), fun a0 a1 => by show Le (slices_EqualFunc_api_Stmt_api_Stmt_api_Stmt_api_Stmt_b ((tree_SameAll_g n).1) ((tree_SameAll_g n).2.1) ((tree_SameAll_g n).2.2) a0 a1) (slices_EqualFunc_api_Stmt_api_Stmt_api_Stmt_api_Stmt_b ((tree_SameAll_g (n + 1)).1) ((tree_SameAll_g (n + 1)).2.1) ((tree_SameAll_g (n + 1)).2.2) a0 a1); unfold slices_EqualFunc_api_Stmt_api_Stmt_api_Stmt_api_Stmt_b; repeat (first | exact Le.refl _ | exact ih.1 _ _ | exact ih.2.1 _ _ | exact ih.2.2 _ _ | assumption | (refine Le.bind ?_ (fun _ => ?_)) | (refine Le.cond ?_ ?_) | (refine Le.loop (fun _ => ?_)) | (refine Le.elim (fun _ => ?_) (fun _ => ?_))), fun a0 a1 => by show Le (tree_sameStmt_b ((tree_SameAll_g n).1) ((tree_SameAll_g n).2.1) ((tree_SameAll_g n).2.2) a0 a1) (tree_sameStmt_b ((tree_SameAll_g (n + 1)).1) ((tree_SameAll_g (n + 1)).2.1) ((tree_SameAll_g (n + 1)).2.2) a0 a1); unfold tree_sameStmt_b; repeat (first | exact Le.refl _ | exact ih.1 _ _ | exact ih.2.1 _ _ | exact ih.2.2 _ _ | assumption | (refine Le.bind ?_ (fun _ => ?_)) | (refine Le.cond ?_ ?_) | (refine Le.loop (fun _ => ?_)) | (refine Le.elim (fun _ => ?_) (fun _ => ?_)))⟩
noncomputable def tree_SameAll (a0 : List TApiStmt) (a1 : List TApiStmt) : Option (Bool) := anyN fun n => (tree_SameAll_g n).1 a0 a1
theorem tree_SameAll_of (a0 : List TApiStmt) (a1 : List TApiStmt) {r : Bool} (n : Nat) (h : (tree_SameAll_g n).1 a0 a1 = some r) : tree_SameAll a0 a1 = some r := anyN_of (fun m => (tree_SameAll_g_le m).1 a0 a1) h
theorem tree_SameAll_ok (a0 : List TApiStmt) (a1 : List TApiStmt) (r : Bool) (h0 : tree_SameAll a0 a1 = some r) : CallsD Try.prog 57 [.lst 7 (a0.map eTApiStmt) .no, .lst 7 (a1.map eTApiStmt) .no] [] [] (fun d h k => d = .v (.bool r) ∧ h = [] ∧ k = []) :=
  let ⟨n, hn⟩ := anyN_inv h0; (tree_SameAll_g_ok n).1 a0 a1  r hn
noncomputable def tree_SameFunc (a0 : TApiFunc) (a1 : TApiFunc) : Option (Bool) :=
  (bif (decide (a0.gName = a1.gName)) then ((slices_Equal_api_Var_api_Var a0.gParams a1.gParams).bind fun x4 => (bif x4 then ((slices_Equal_api_Var_api_Var a0.gLocals a1.gLocals).bind fun x6 => (bif x6 then ((tree_SameAll a0.gBody a1.gBody).bind fun x8 => some x8) else some false)) else some false)) else some false)
set_option maxRecDepth 100000 in
set_option maxHeartbeats 2000000 in
theorem tree_SameFunc_ok (a0 : TApiFunc) (a1 : TApiFunc) (r : Bool) (h0 : tree_SameFunc a0 a1 = some r) : CallsD Try.prog 33 [eTApiFunc a0, eTApiFunc a1] [] [] (fun d h k => d = .v (.bool r) ∧ h = [] ∧ k = []) := by
  have hm := yes_of h0
  unfold tree_SameFunc at hm
  clear h0
  refine enterX htab Try.func33 rfl rfl rfl rfl rfl (fun C => ?_)
  refine wpD_sr ?_
  refine p_box rfl rfl rfl rfl rfl rfl rfl (fun b1 => ?_)
  refine p_box rfl rfl rfl rfl rfl rfl rfl (fun b2 => ?_)
  refine pu ?_
  refine ops_n2 ?_
  refine pu ?_
  refine pL 0 ?_
  refine pu ?_
  refine pL 1 ?_
  refine pu ?_
  refine pu ?_
  refine p_split (i := 10) rfl (fun hg3 => ?_) (fun hg3 => ?_)
  ·replace hm := yes_t hg3 hm
   refine pu ?_
   refine pL 0 ?_
   refine pu ?_
   refine pL 1 ?_
   obtain ⟨x4, q4, hm⟩ := yes_bind hm
   refine p_call0 (slices_Equal_api_Var_api_Var_ok a0.gParams a1.gParams x4 q4) rfl rfl rfl rfl rfl Wl ?_
   rintro _ rfl
   refine p_pickT rfl rfl rfl rfl rfl rfl ?_
   refine pu ?_
   refine p_split (i := 17) rfl (fun hg5 => ?_) (fun hg5 => ?_)
   ·replace hm := yes_t hg5 hm
    refine pu ?_
    refine pL 0 ?_
    refine pu ?_
    refine pL 1 ?_
    obtain ⟨x6, q6, hm⟩ := yes_bind hm
    refine p_call0 (slices_Equal_api_Var_api_Var_ok a0.gLocals a1.gLocals x6 q6) rfl rfl rfl rfl rfl Wl ?_
    rintro _ rfl
    refine p_pickT rfl rfl rfl rfl rfl rfl ?_
    refine pu ?_
    refine p_split (i := 24) rfl (fun hg7 => ?_) (fun hg7 => ?_)
    ·replace hm := yes_t hg7 hm
     refine pu ?_
     refine pL 0 ?_
     refine pu ?_
     refine pL 1 ?_
     obtain ⟨x8, q8, hm⟩ := yes_bind hm
     refine p_call0 (tree_SameAll_ok a0.gBody a1.gBody x8 q8) rfl rfl rfl rfl rfl Wl ?_
     rintro _ rfl
     refine p_pickT rfl rfl rfl rfl rfl rfl ?_
     refine pu ?_
     refine ops_nt ?_
     refine wpD_ret ?_
     have er9 := yes_eq hm; subst er9
     refine rP (t' := [(4, .v (.bool x8))]) [] [] 0 (wC wN) (lT lN) ?_
     exact ⟨rfl, rfl, rfl⟩
    ·replace hm := yes_f hg7 hm
     iterate 5 refine pK ?_
     refine p_pickF rfl rfl rfl rfl rfl rfl ?_
     refine pu ?_
     refine ops_nt ?_
     refine wpD_ret ?_
     have er10 := yes_eq hm; subst er10
     refine rP (t' := [(4, .v (.bool false))]) [] [] 0 (wC wN) (lT lN) ?_
     exact ⟨rfl, rfl, rfl⟩
   ·replace hm := yes_f hg5 hm
    iterate 5 refine pK ?_
    refine p_pickF rfl rfl rfl rfl rfl rfl ?_
    refine pu ?_
    iterate 5 refine pK ?_
    refine p_pickF rfl rfl rfl rfl rfl rfl ?_
    refine pu ?_
    refine ops_nt ?_
    refine wpD_ret ?_
    have er11 := yes_eq hm; subst er11
    refine rP (t' := [(4, .v (.bool false))]) [] [] 0 (wC wN) (lT lN) ?_
    exact ⟨rfl, rfl, rfl⟩
  ·replace hm := yes_f hg3 hm
   iterate 5 refine pK ?_
   refine p_pickF rfl rfl rfl rfl rfl rfl ?_
   refine pu ?_
   iterate 5 refine pK ?_
   refine p_pickF rfl rfl rfl rfl rfl rfl ?_
   refine pu ?_
   iterate 5 refine pK ?_
   refine p_pickF rfl rfl rfl rfl rfl rfl ?_
   refine pu ?_
   refine ops_nt ?_
   refine wpD_ret ?_
   have er12 := yes_eq hm; subst er12
   refine rP (t' := [(4, .v (.bool false))]) [] [] 0 (wC wN) (lT lN) ?_
   exact ⟨rfl, rfl, rfl⟩
noncomputable def slices_Concat_api_Func_api_Func_r (a0 : List (List TApiFunc)) : Option (List TApiFunc) :=
  (Option.bind (α := Int) (loopM (fun (s15 : Int × Int) => (bif (decide (s15.2 < (a0.length : Int))) then ((idx a0 s15.2).bind fun x25 => (bif (decide ((IntKind.i64.wrap (s15.1 + (x25.length : Int))) < (0 : Int))) then none else some (.next ((IntKind.i64.wrap (s15.1 + (x25.length : Int))), (IntKind.i64.wrap (s15.2 + (1 : Int))))))) else some (.done s15.1))) ((0 : Int), (0 : Int))) fun y14 => ((need (growPre38 y14)).bind fun x28 => (Option.bind (α := List TApiFunc) (loopM (fun (s47 : Int × List TApiFunc) => (bif (decide (s47.1 < (a0.length : Int))) then ((idx a0 s47.1).bind fun x61 => ((app 96 s47.2 x61).bind fun x62 => some (.next ((IntKind.i64.wrap (s47.1 + (1 : Int))), x62)))) else some (.done s47.2))) ((0 : Int), (growF38 y14))) fun y46 => some y46)))
set_option maxRecDepth 100000 in
set_option maxHeartbeats 2000000 in
theorem slices_Concat_api_Func_api_Func_r_ok (a0 : List (List TApiFunc)) (r : List TApiFunc) (h0 : slices_Concat_api_Func_api_Func_r a0 = some r) : CallsD Try.prog 22 [.lst 1 (a0.map (eList 5 eTApiFunc)) .no] [] [] (fun d h k => ∃ y0, d = .v (SL y0) ∧ h = [(0, Blk.row 5 (r.map eTApiFunc) (SL y0))] ∧ k = []) := by
  have hm := yes_of h0
  unfold slices_Concat_api_Func_api_Func_r at hm
  clear h0
  refine enterX htab Try.func22 rfl rfl rfl rfl rfl (fun C => ?_)
  refine wpD_sr ?_
  refine pu ?_
  refine ops_n2 ?_
  refine pu ?_
  refine ops_nt ?_
  refine wpD_seq ?_
  refine wpD_sr ?_
  refine pu ?_
  refine p_lenL htab rfl rfl rfl rfl rfl rfl rfl (by first | exact map_len | rfl) ?_
  refine pu ?_
  refine ops_nt ?_
  obtain ⟨y14, q14, ho14⟩ := yes_bind hm
  refine wpD_mid (Y := Unit) (fun z14 => (⟨[(0, .lst 1 (a0.map (eList 5 eTApiFunc)) .no), (3, .v (.int .i64 y14))], [], []⟩ : S)) ?_ ?_
  ·clear hm; have hm := yes_of q14
   refine wpD_block ?_
   obtain ⟨u15, hl15, hq15⟩ := yes_m hm
   refine loop_M (Y := Unit) hl15 (fun s15 z15 => (⟨[(0, .lst 1 (a0.map (eList 5 eTApiFunc)) .no), (3, .v (.int .i64 s15.1)), (9, .lst 1 (a0.map (eList 5 eTApiFunc)) .no), (10, .v (.int .i64 (a0.length : Int))), (11, .v (.int .i64 s15.2))], [], []⟩ : S)) ?_ ?_
   ·skip
    exact WkX.of () (WkS.perm (WkS.cons rfl (Wk.refl _) (WkS.cons rfl (Wk.refl _) (WkS.cons rfl (Wk.refl _) (WkS.cons rfl (Wk.refl _) (WkS.cons rfl (Wk.refl _) (WkS.nil)))))) Pf Pf)
   ·intro G15 s15 z15 hm
    refine wpD_sr ?_
    refine pu ?_
    refine ops_nt ?_
    refine wpD_seq ?_
    refine wpD_cond rfl (fun hc24 => ?_) (fun hc24 => ?_)
    ·replace hm := yes_t hc24 hm
     refine wpD_skip ?_
     refine then_normal ?_
     refine wpD_seq ?_
     refine wpD_block ?_
     refine wpD_sr ?_
     obtain ⟨x25, q25, hm⟩ := yes_bind hm
     refine p_elem htab rfl rfl rfl rfl rfl rfl rfl rfl rfl rfl (idx_nonneg q25) (idx_map q25) ?_
     refine p_loadEl htab rfl rfl rfl rfl rfl rfl rfl rfl ?_
     refine pu ?_
     refine ops_n2 ?_
     refine pu ?_
     refine pu ?_
     refine p_lenL htab rfl rfl rfl rfl rfl rfl rfl (by first | exact map_len | rfl) ?_
     refine pu ?_
     refine pu ?_
     refine ops_n2 ?_
     refine pu ?_
     refine pu ?_
     refine ops_nt ?_
     refine wpD_cond rfl (fun hc26 => ?_) (fun hc26 => ?_)
     ·replace hm := yes_t hc26 hm
      exact (yes_none hm).elim
     ·replace hm := yes_f hc26 hm
      refine wpD_skip ?_
      refine block_normal ?_
      refine then_normal ?_
      refine wpD_region ?_
      refine pu ?_
      refine pu ?_
      refine ops_nil ?_
      refine then_normal ⟨_, lp_next hm, ?_⟩
      exact WkX.of () (WkS.perm (WkS.cons rfl (Wk.refl _) (WkS.cons rfl (Wk.refl _) (WkS.cons rfl (Wk.refl _) (WkS.cons rfl (Wk.refl _) (WkS.cons rfl (Wk.refl _) (WkS.nil)))))) Pf Pf)
    ·replace hm := yes_f hc24 hm
     refine wpD_exit ?_
     refine then_exit ?_
     have e15 := lp_done hm; subst e15; clear hm; have hm := hq15
     refine then_exit ?_
     refine block_hit ?_
     have e14 := yes_eq hm; subst e14
     refine ⟨rfl, ?_⟩
     exact WkX.of () (WkS.perm (WkS.cons rfl (Wk.refl _) (WkS.cons rfl (Wk.refl _) (WkS.nil))) Pf Pf)
  ·intro s14 hw14; clear hm; have hm := ho14; clear q14 ho14
   refine then_normal ?_
   refine wpD_wkX hw14 (fun z14 => ?_)
   refine wpD_sr ?_
   refine pu ?_
   obtain ⟨x28, q28, hm⟩ := yes_bind hm
   refine pG (growOk38 y14 (need_ok q28)) Wl Pf Pf ?_
   rintro _ _ _ ⟨w27, rfl, rfl, rfl⟩
   refine pu ?_
   refine ops_nt ?_
   refine wpD_seq ?_
   refine wpD_sr ?_
   refine pu ?_
   refine p_lenL htab rfl rfl rfl rfl rfl rfl rfl (by first | exact map_len | rfl) ?_
   refine pu ?_
   refine ops_nt ?_
   obtain ⟨y46, q46, ho46⟩ := yes_bind hm
   refine wpD_mid (Y := Z3) (fun z46 => (⟨[(6, .v (SL z46))], [(0, Blk.row 5 (y46.map eTApiFunc) (SL z46))], []⟩ : S)) ?_ ?_
   ·clear hm; have hm := yes_of q46
    refine wpD_block ?_
    obtain ⟨u47, hl47, hq47⟩ := yes_m hm
    refine loop_M (Y := Z3) hl47 (fun s47 z47 => (⟨[(6, .v (SL z47)), (25, .lst 1 (a0.map (eList 5 eTApiFunc)) .no), (26, .v (.int .i64 (a0.length : Int))), (27, .v (.int .i64 s47.1))], [(0, Blk.row 5 (s47.2.map eTApiFunc) (SL z47))], []⟩ : S)) ?_ ?_
    ·skip
     exact WkX.of w27 (WkS.perm (WkS.cons rfl (Wk.refl _) (WkS.cons rfl (Wk.refl _) (WkS.cons rfl (Wk.refl _) (WkS.cons rfl (Wk.refl _) (WkS.nil))))) Pf Pf)
    ·intro G47 s47 z47 hm
     refine wpD_sr ?_
     refine pu ?_
     refine ops_nt ?_
     refine wpD_seq ?_
     refine wpD_cond rfl (fun hc60 => ?_) (fun hc60 => ?_)
     ·replace hm := yes_t hc60 hm
      refine wpD_skip ?_
      refine then_normal ?_
      refine wpD_seq ?_
      refine wpD_block ?_
      refine wpD_sr ?_
      obtain ⟨x61, q61, hm⟩ := yes_bind hm
      refine p_elem htab rfl rfl rfl rfl rfl rfl rfl rfl rfl rfl (idx_nonneg q61) (idx_map q61) ?_
      refine p_loadEl htab rfl rfl rfl rfl rfl rfl rfl rfl ?_
      refine pu ?_
      refine ops_nt ?_
      refine wpD_region ?_
      refine pu ?_
      refine pu ?_
      obtain ⟨x62, q62, hm⟩ := yes_bind hm
      refine p_appR2 0 htab rfl rfl rfl rfl rfl rfl rfl rfl rfl rfl rfl rfl rfl rfl rfl rfl (app_bound q62) (app_map q62) (fun v62 => ?_)
      refine pu ?_
      refine ops_nil ?_
      refine block_normal ?_
      refine then_normal ?_
      refine wpD_region ?_
      refine pu ?_
      refine pu ?_
      refine ops_nil ?_
      refine then_normal ⟨_, lp_next hm, ?_⟩
      exact WkX.of v62 (WkS.perm (WkS.cons rfl (Wk.refl _) (WkS.cons rfl (Wk.refl _) (WkS.cons rfl (Wk.refl _) (WkS.cons rfl (Wk.refl _) (WkS.nil))))) Pf Pf)
     ·replace hm := yes_f hc60 hm
      refine wpD_exit ?_
      refine then_exit ?_
      have e47 := lp_done hm; subst e47; clear hm; have hm := hq47
      refine then_exit ?_
      refine block_hit ?_
      have e46 := yes_eq hm; subst e46
      refine ⟨rfl, ?_⟩
      exact WkX.of z47 (WkS.perm (WkS.cons rfl (Wk.refl _) (WkS.nil)) Pf Pf)
   ·intro s46 hw46; clear hm; have hm := ho46; clear q46 ho46
    refine then_normal ?_
    refine wpD_wkX hw46 (fun z46 => ?_)
    refine wpD_sr ?_
    refine pu ?_
    refine pu ?_
    refine ops_nt ?_
    refine wpD_ret ?_
    have er63 := yes_eq hm; subst er63
    refine rP (t' := [(2, .v (SL z46))]) [0] [] 1 (wC wN) (lT lN) ?_
    exact ⟨z46, rfl, rfl, rfl⟩
noncomputable def change_row_r (a0 : List ByteArray) : Option (List ByteArray) :=
  ((need (len62B a0)).bind fun x1 => ((need (len62B (sortB a0))).bind fun x3 => some (compactB (sortB a0))))
set_option maxRecDepth 100000 in
set_option maxHeartbeats 2000000 in
theorem change_row_r_ok (a0 : List ByteArray) (za0 : Z3) (r : List ByteArray) (h0 : change_row_r a0 = some r) : CallsD Try.prog 27 [.v (SL za0)] [(0, Blk.row 1 (a0.map eStr) (SL za0))] [] (fun d h k => ∃ y0, d = .v (SL y0) ∧ h = [(0, Blk.row 1 (r.map eStr) (SL y0))] ∧ k = []) := by
  have hm := yes_of h0
  unfold change_row_r at hm
  clear h0
  refine enterX htab Try.func27 rfl rfl rfl rfl rfl (fun C => ?_)
  refine wpD_sr ?_
  refine pu ?_
  refine ops_n2 ?_
  refine pu ?_
  obtain ⟨x1, q1, hm⟩ := yes_bind hm
  refine pG (sortB_ok a0 za0 (need_ok q1)) Wl Pf Pf ?_
  rintro _ _ _ ⟨rfl, rfl, rfl⟩
  refine ops_n2 ?_
  refine pu ?_
  obtain ⟨x3, q3, hm⟩ := yes_bind hm
  refine pG (compactB_ok (sortB a0) za0 (need_ok q3)) Wl Pf Pf ?_
  rintro _ _ _ ⟨w2, rfl, rfl, rfl⟩
  refine pu ?_
  refine ops_nt ?_
  refine wpD_ret ?_
  have er4 := yes_eq hm; subst er4
  refine rP (t' := [(2, .v (SL w2))]) [0] [] 1 (wC wN) (lT lN) ?_
  exact ⟨w2, rfl, rfl, rfl⟩
noncomputable def change_funcs (a0 : TApiProgram) (a1 : TApiProgram) : Option (List ByteArray) :=
  ((slices_Concat_api_Func_api_Func_r ([a0.gFuncs, a1.gFuncs] : List (List TApiFunc))).bind fun x4 => (Option.bind (α := List ByteArray) (loopM (fun (s85 : List ByteArray × Int) => (bif (decide (s85.2 < (x4.length : Int))) then ((idx x4 s85.2).bind fun x118 => ((change_funcOf a0 x118.gName).bind fun x120 => ((change_funcOf a1 x118.gName).bind fun x122 => (Option.bind (α := Bool) (bif (!(x120.2 == x122.2)) then some true else ((tree_SameFunc x120.1 x122.1).bind fun x128 => some (!x128))) fun y126 => (bif y126 then ((app 16 s85.1 ([x118.gName] : List ByteArray)).bind fun x130 => some (.next (x130, (IntKind.i64.wrap (s85.2 + (1 : Int)))))) else some (.next (s85.1, (IntKind.i64.wrap (s85.2 + (1 : Int)))))))))) else some (.done s85.1))) (([] : List ByteArray), (0 : Int))) fun y68 => ((change_row_r y68).bind fun x132 => some x132)))
set_option maxRecDepth 100000 in
set_option maxHeartbeats 2000000 in
theorem change_funcs_ok (a0 : TApiProgram) (a1 : TApiProgram) (r : List ByteArray) (h0 : change_funcs a0 a1 = some r) : CallsD Try.prog 17 [eTApiProgram a0, eTApiProgram a1] [] [] (fun d h k => ∃ y0, d = .lst 1 (r.map eStr) (.cur y0) ∧ h = [] ∧ k = [(1, y0)]) := by
  have hm := yes_of h0
  unfold change_funcs at hm
  clear h0
  refine enterX htab Try.func17 rfl rfl rfl rfl rfl (fun C => ?_)
  refine wpD_sr ?_
  refine p_box rfl rfl rfl rfl rfl rfl rfl (fun b1 => ?_)
  refine p_box rfl rfl rfl rfl rfl rfl rfl (fun b2 => ?_)
  refine pu ?_
  refine ops_n2 ?_
  refine pu ?_
  refine ops_nt ?_
  refine wpD_seq ?_
  refine wpD_sr ?_
  refine pu ?_
  refine pL 0 ?_
  refine pu ?_
  refine pL 1 ?_
  refine p_lit htab rfl rfl rfl rfl rfl rfl rfl rfl rfl rfl rfl rfl rfl rfl ?_
  refine p_eq (i := 16) (d' := .lst 1 (([a0.gFuncs, a1.gFuncs] : List (List TApiFunc)).map (eList 5 eTApiFunc)) .full) rfl (Wk.lst0 (.cons (WkC.refl _) (.cons (WkC.refl _) (.nil)))) ?_
  obtain ⟨x4, q4, hm⟩ := yes_bind hm
  refine p_callG (slices_Concat_api_Func_api_Func_r_ok ([a0.gFuncs, a1.gFuncs] : List (List TApiFunc)) x4 q4) rfl rfl rfl rfl rfl (WkL.cons (Wk.no) Wl) Pf Pf ?_
  rintro _ _ _ ⟨w3, rfl, rfl, rfl⟩
  refine p_lenR 0 htab rfl rfl rfl rfl rfl rfl rfl rfl (by first | exact map_len | rfl) ?_
  refine pu ?_
  refine ops_nt ?_
  obtain ⟨y68, q68, ho68⟩ := yes_bind hm
  refine wpD_mid (Y := Z3) (fun z68 => (⟨[(5, .v (SL z68))], [(0, Blk.row 1 (y68.map eStr) (SL z68))], []⟩ : S)) ?_ ?_
  ·clear hm; have hm := yes_of q68
   refine wpD_block ?_
   refine wpD_wkX (Y := Unit) (S1 := fun _ => (⟨[(2, .ptr b1 0), (3, .ptr b2 0), (5, .lst 1 [] .full), (17, .lst 5 (x4.map eTApiFunc) (.cur (SL w3))), (18, .v (.int .i64 (x4.length : Int))), (19, .v (.int .i64 (0 : Int)))], [(b1, Blk.cells [.lst 4 (a0.gGlobals.map eTApiGlobal) .no, .lst 5 (a0.gFuncs.map eTApiFunc) .no] 25), (b2, Blk.cells [.lst 4 (a1.gGlobals.map eTApiGlobal) .no, .lst 5 (a1.gFuncs.map eTApiFunc) .no] 25)], [(5, (SL w3))]⟩ : S)) ?_ (fun _ => ?_)
   ·skip
    refine WkX.wk (WkS.frz 0 rfl rfl) ?_
    refine WkX.wk (WkS.tld 17 0 rfl rfl) ?_
    refine WkX.wk (WkS.drop 0 rfl) ?_
    exact WkX.of () (WkS.perm (WkS.cons rfl (Wk.refl _) (WkS.cons rfl (Wk.refl _) (WkS.cons rfl (Wk.refl _) (WkS.cons rfl (Wk.refl _) (WkS.cons rfl (Wk.refl _) (WkS.cons rfl (Wk.refl _) (WkS.nil))))))) Pf Pf)
   ·skip
    obtain ⟨u85, hl85, hq85⟩ := yes_m hm
    refine loop_M (Y := Z3) hl85 (fun s85 z85 => (⟨[(2, .ptr b1 0), (3, .ptr b2 0), (5, .v (SL z85)), (17, .lst 5 (x4.map eTApiFunc) (.cur (SL w3))), (18, .v (.int .i64 (x4.length : Int))), (19, .v (.int .i64 s85.2))], [(0, Blk.row 1 (s85.1.map eStr) (SL z85)), (b1, Blk.cells [.lst 4 (a0.gGlobals.map eTApiGlobal) .no, .lst 5 (a0.gFuncs.map eTApiFunc) .no] 25), (b2, Blk.cells [.lst 4 (a1.gGlobals.map eTApiGlobal) .no, .lst 5 (a1.gFuncs.map eTApiFunc) .no] 25)], [(5, (SL w3))]⟩ : S)) ?_ ?_
    ·skip
     refine WkX.rowN (i := 5) 1 rfl (fun w116 => ?_)
     exact WkX.of w116 (WkS.perm (WkS.cons rfl (Wk.refl _) (WkS.cons rfl (Wk.refl _) (WkS.cons rfl (Wk.refl _) (WkS.cons rfl (Wk.refl _) (WkS.cons rfl (Wk.refl _) (WkS.cons rfl (Wk.refl _) (WkS.nil))))))) Pf Pf)
    ·intro G85 s85 z85 hm
     refine wpD_sr ?_
     refine pu ?_
     refine ops_nt ?_
     refine wpD_seq ?_
     refine wpD_cond rfl (fun hc117 => ?_) (fun hc117 => ?_)
     ·replace hm := yes_t hc117 hm
      refine wpD_skip ?_
      refine then_normal ?_
      refine wpD_seq ?_
      refine wpD_block ?_
      refine wpD_sr ?_
      obtain ⟨x118, q118, hm⟩ := yes_bind hm
      refine p_elem htab rfl rfl rfl rfl rfl rfl rfl rfl rfl rfl (idx_nonneg q118) (idx_map q118) ?_
      refine p_loadEl (d := eTApiFunc x118) htab rfl rfl rfl rfl rfl rfl rfl rfl ?_
      refine p_alloc htab rfl rfl rfl rfl rfl rfl rfl (fun b119 => ?_)
      refine pS3 (ds' := [.v (.string x118.gName), .lst 2 (x118.gParams.map eTApiVar) .no, .lst 2 (x118.gLocals.map eTApiVar) .no, .lst 7 (x118.gBody.map eTApiStmt) .no, .v (.int .i64 x118.gAt)]) ?_
      refine ops_n2 ?_
      refine p_load (d := eTApiProgram a0) 1 htab rfl rfl rfl rfl rfl rfl rfl rfl ?_
      refine pu ?_
      refine pL 3 ?_
      obtain ⟨x120, q120, hm⟩ := yes_bind hm
      refine p_call0 (change_funcOf_ok a0 x118.gName x120 q120) rfl rfl rfl rfl rfl Wl ?_
      rintro _ rfl
      iterate 3 refine pu ?_
      refine p_alloc htab rfl rfl rfl rfl rfl rfl rfl (fun b121 => ?_)
      refine pS4 (ds' := [.v (.string x120.1.gName), .lst 2 (x120.1.gParams.map eTApiVar) .no, .lst 2 (x120.1.gLocals.map eTApiVar) .no, .lst 7 (x120.1.gBody.map eTApiStmt) .no, .v (.int .i64 x120.1.gAt)]) ?_
      refine pu ?_
      refine ops_n2 ?_
      refine p_load (d := eTApiProgram a1) 2 htab rfl rfl rfl rfl rfl rfl rfl rfl ?_
      refine pu ?_
      refine pL 3 ?_
      obtain ⟨x122, q122, hm⟩ := yes_bind hm
      refine p_call0 (change_funcOf_ok a1 x118.gName x122 q122) rfl rfl rfl rfl rfl Wl ?_
      rintro _ rfl
      iterate 3 refine pu ?_
      refine p_alloc htab rfl rfl rfl rfl rfl rfl rfl (fun b123 => ?_)
      refine pS5 (ds' := [.v (.string x122.1.gName), .lst 2 (x122.1.gParams.map eTApiVar) .no, .lst 2 (x122.1.gLocals.map eTApiVar) .no, .lst 7 (x122.1.gBody.map eTApiStmt) .no, .v (.int .i64 x122.1.gAt)]) ?_
      refine pu ?_
      refine ops_nt ?_
      refine wpD_seq ?_
      obtain ⟨y126, q126, ho126⟩ := yes_bind hm
      refine wpD_mid (Y := Unit) (fun z126 => (⟨[(2, .ptr b1 0), (3, .ptr b2 0), (5, .v (SL z85)), (7, .ptr b119 0), (17, .lst 5 (x4.map eTApiFunc) (.cur (SL w3))), (18, .v (.int .i64 (x4.length : Int))), (19, .v (.int .i64 s85.2)), (45, .v (.bool y126))], [(0, Blk.row 1 (s85.1.map eStr) (SL z85)), (b1, Blk.cells [.lst 4 (a0.gGlobals.map eTApiGlobal) .no, .lst 5 (a0.gFuncs.map eTApiFunc) .no] 25), (b2, Blk.cells [.lst 4 (a1.gGlobals.map eTApiGlobal) .no, .lst 5 (a1.gFuncs.map eTApiFunc) .no] 25), (b119, Blk.cells [.v (.string x118.gName), .lst 2 (x118.gParams.map eTApiVar) .no, .lst 2 (x118.gLocals.map eTApiVar) .no, .lst 7 (x118.gBody.map eTApiStmt) .no, .v (.int .i64 x118.gAt)] 41)], [(5, (SL w3))]⟩ : S)) ?_ ?_
      ·clear hm; have hm := yes_of q126
       refine wpD_region ?_
       iterate 4 refine pu ?_
       refine p_split (i := 40) rfl (fun hg127 => ?_) (fun hg127 => ?_)
       ·replace hm := yes_t hg127 hm
        iterate 4 refine pK ?_
        refine p_pickT rfl rfl rfl rfl rfl rfl ?_
        refine ops_nil ?_
        have e126 := yes_eq hm; subst e126
        refine ⟨rfl, ?_⟩
        exact WkX.of () (WkS.perm (WkS.cons rfl (Wk.refl _) (WkS.cons rfl (Wk.refl _) (WkS.cons rfl (Wk.refl _) (WkS.cons rfl (Wk.refl _) (WkS.cons rfl (Wk.refl _) (WkS.cons rfl (Wk.refl _) (WkS.cons rfl (Wk.refl _) (WkS.cons rfl (Wk.refl _) (WkS.nil))))))))) Pf Pf)
       ·replace hm := yes_f hg127 hm
        refine p_load (d := eTApiFunc x120.1) 4 htab rfl rfl rfl rfl rfl rfl rfl rfl ?_
        refine p_load (d := eTApiFunc x122.1) 5 htab rfl rfl rfl rfl rfl rfl rfl rfl ?_
        obtain ⟨x128, q128, hm⟩ := yes_bind hm
        refine p_call0 (tree_SameFunc_ok x120.1 x122.1 x128 q128) rfl rfl rfl rfl rfl Wl ?_
        rintro _ rfl
        refine pu ?_
        refine p_pickF rfl rfl rfl rfl rfl rfl ?_
        refine ops_nil ?_
        have e126 := yes_eq hm; subst e126
        refine ⟨rfl, ?_⟩
        exact WkX.of () (WkS.perm (WkS.cons rfl (Wk.refl _) (WkS.cons rfl (Wk.refl _) (WkS.cons rfl (Wk.refl _) (WkS.cons rfl (Wk.refl _) (WkS.cons rfl (Wk.refl _) (WkS.cons rfl (Wk.refl _) (WkS.cons rfl (Wk.refl _) (WkS.cons rfl (Wk.refl _) (WkS.nil))))))))) Pf Pf)
      ·intro s126 hw126; clear hm; have hm := ho126; clear q126 ho126
       refine then_normal ?_
       refine wpD_wkX hw126 (fun z126 => ?_)
       refine wpD_cond rfl (fun hc129 => ?_) (fun hc129 => ?_)
       ·replace hm := yes_t hc129 hm
        refine wpD_region ?_
        refine pu ?_
        refine pu ?_
        refine pL 3 ?_
        refine p_lit htab rfl rfl rfl rfl rfl rfl rfl rfl rfl rfl rfl rfl rfl rfl ?_
        refine p_eq (i := 49) (d' := .lst 1 (([x118.gName] : List ByteArray).map eStr) .full) rfl (Wk.lst0 (.cons (WkC.refl _) (.nil))) ?_
        obtain ⟨x130, q130, hm⟩ := yes_bind hm
        refine p_appR2 0 htab rfl rfl rfl rfl rfl rfl rfl rfl rfl rfl rfl rfl rfl rfl rfl rfl (app_bound q130) (app_map q130) (fun v130 => ?_)
        refine pu ?_
        refine ops_nil ?_
        refine block_normal ?_
        refine then_normal ?_
        refine wpD_region ?_
        refine pu ?_
        refine pu ?_
        refine ops_nil ?_
        refine then_normal ⟨_, lp_next hm, ?_⟩
        exact WkX.of v130 (WkS.perm (WkS.cons rfl (Wk.refl _) (WkS.cons rfl (Wk.refl _) (WkS.cons rfl (Wk.refl _) (WkS.cons rfl (Wk.refl _) (WkS.cons rfl (Wk.refl _) (WkS.cons rfl (Wk.refl _) (WkS.nil))))))) Pf Pf)
       ·replace hm := yes_f hc129 hm
        refine wpD_skip ?_
        refine block_normal ?_
        refine then_normal ?_
        refine wpD_region ?_
        refine pu ?_
        refine pu ?_
        refine ops_nil ?_
        refine then_normal ⟨_, lp_next hm, ?_⟩
        exact WkX.of z85 (WkS.perm (WkS.cons rfl (Wk.refl _) (WkS.cons rfl (Wk.refl _) (WkS.cons rfl (Wk.refl _) (WkS.cons rfl (Wk.refl _) (WkS.cons rfl (Wk.refl _) (WkS.cons rfl (Wk.refl _) (WkS.nil))))))) Pf Pf)
     ·replace hm := yes_f hc117 hm
      refine wpD_exit ?_
      refine then_exit ?_
      have e85 := lp_done hm; subst e85; clear hm; have hm := hq85
      refine then_exit ?_
      refine block_hit ?_
      have e68 := yes_eq hm; subst e68
      refine ⟨rfl, ?_⟩
      exact WkX.of z85 (WkS.perm (WkS.cons rfl (Wk.refl _) (WkS.nil)) Pf Pf)
  ·intro s68 hw68; clear hm; have hm := ho68; clear q68 ho68
   refine then_normal ?_
   refine wpD_wkX hw68 (fun z68 => ?_)
   refine wpD_sr ?_
   refine pu ?_
   obtain ⟨x132, q132, hm⟩ := yes_bind hm
   refine pG (change_row_r_ok y68 z68 x132 q132) Wl Pf Pf ?_
   rintro _ _ _ ⟨w131, rfl, rfl, rfl⟩
   refine pu ?_
   refine ops_nt ?_
   refine wpD_ret ?_
   have er133 := yes_eq hm; subst er133
   refine retX.wk (WkS.frz 0 rfl rfl) ?_
   refine retX.wk (WkS.tld 4 0 rfl rfl) ?_
   refine retX.wk (WkS.tld 53 0 rfl rfl) ?_
   refine retX.wk (WkS.drop 0 rfl) ?_
   refine rP (t' := [(4, .lst 1 (x132.map eStr) (.cur (SL w131)))]) [] [0] 0 (wC wN) (lT lN) ?_
   exact ⟨(SL w131), rfl, rfl, rfl⟩
noncomputable def change_globalOf_1 (a0 : TApiGlobal) (m0 : ByteArray) : Option (Bool) :=
  some (decide (a0.gName = m0))
set_option maxRecDepth 100000 in
set_option maxHeartbeats 2000000 in
theorem change_globalOf_1_ok (a0 : TApiGlobal) (m0 : ByteArray) (o0 : Nat) (T0 : TypeId) (r : Bool) (h0 : change_globalOf_1 a0 m0 = some r) : CallsD Try.prog 60 [eTApiGlobal a0, .ptr o0 0] [(o0, Blk.cells [.v (.string m0)] T0)] [] (fun d h k => d = .v (.bool r) ∧ h = [(o0, Blk.cells [.v (.string m0)] T0)] ∧ k = []) := by
  have hm := yes_of h0
  unfold change_globalOf_1 at hm
  clear h0
  refine enterX htab Try.func60 rfl rfl rfl rfl rfl (fun C => ?_)
  refine wpD_sr ?_
  refine p_box rfl rfl rfl rfl rfl rfl rfl (fun b1 => ?_)
  refine pu ?_
  refine ops_n2 ?_
  refine pu ?_
  refine pL 1 ?_
  refine pL 0 ?_
  refine pu ?_
  refine pu ?_
  refine ops_nt ?_
  refine wpD_ret ?_
  have er2 := yes_eq hm; subst er2
  refine rP (t' := [(3, .v (.bool (decide (a0.gName = m0))))]) [0] [] 1 (wC wN) (lT lN) ?_
  exact ⟨rfl, rfl, rfl⟩
noncomputable def slices_IndexFunc_api_Global_api_Global (a0 : List TApiGlobal) (m0 : ByteArray) : Option (Int) :=
  (Option.bind (α := (Unit) ⊕ (Int)) (loopM (fun (s18 : Int) => (bif (decide (s18 < (a0.length : Int))) then ((idx a0 s18).bind fun x30 => ((change_globalOf_1 x30 m0).bind fun x31 => (bif x31 then some (.done (.inr s18)) else some (.next (IntKind.i64.wrap (s18 + (1 : Int))))))) else some (.done (.inl ())))) (0 : Int)) (Sum.elim (fun y17 => some (-1 : Int)) (fun r => some r)))
set_option maxRecDepth 100000 in
set_option maxHeartbeats 2000000 in
theorem slices_IndexFunc_api_Global_api_Global_ok (a0 : List TApiGlobal) (m0 : ByteArray) (o0 : Nat) (T0 : TypeId) (r : Int) (h0 : slices_IndexFunc_api_Global_api_Global a0 m0 = some r) : CallsD Try.prog 59 [.lst 4 (a0.map eTApiGlobal) .no, .fn (.func 60) [] [.ptr o0 0]] [(o0, Blk.cells [.v (.string m0)] T0)] [] (fun d h k => d = .v (.int .i64 r) ∧ h = [(o0, Blk.cells [.v (.string m0)] T0)] ∧ k = []) := by
  have hm := yes_of h0
  unfold slices_IndexFunc_api_Global_api_Global at hm
  clear h0
  refine enterX htab Try.func59 rfl rfl rfl rfl rfl (fun C => ?_)
  refine wpD_sr ?_
  refine pu ?_
  refine ops_nt ?_
  refine wpD_seq ?_
  refine wpD_sr ?_
  refine pu ?_
  refine p_lenL htab rfl rfl rfl rfl rfl rfl rfl (by first | exact map_len | rfl) ?_
  refine pu ?_
  refine ops_nt ?_
  obtain ⟨x17, q17, ho17⟩ := yes_bind hm
  refine wpD_midX (τ := Unit) (Y := Unit) (fun y17 z17 => (⟨[], [(o0, Blk.cells [.v (.string m0)] T0)], []⟩ : S)) x17 ?_ ?_
  ·clear hm; have hm := yes_of q17
   refine wpD_block ?_
   obtain ⟨u18, hl18, hq18⟩ := yes_m hm
   refine loop_M (Y := Unit) hl18 (fun s18 z18 => (⟨[(0, .lst 4 (a0.map eTApiGlobal) .no), (1, .fn (.func 60) [] [.ptr o0 0]), (7, .v (.int .i64 (a0.length : Int))), (8, .v (.int .i64 s18))], [(o0, Blk.cells [.v (.string m0)] T0)], []⟩ : S)) ?_ ?_
   ·skip
    exact WkX.of () (WkS.perm (WkS.cons rfl (Wk.refl _) (WkS.cons rfl (Wk.refl _) (WkS.cons rfl (Wk.refl _) (WkS.cons rfl (Wk.refl _) (WkS.nil))))) Pf Pf)
   ·intro G18 s18 z18 hm
    refine wpD_sr ?_
    refine pu ?_
    refine ops_nt ?_
    refine wpD_seq ?_
    refine wpD_cond rfl (fun hc29 => ?_) (fun hc29 => ?_)
    ·replace hm := yes_t hc29 hm
     refine wpD_skip ?_
     refine then_normal ?_
     refine wpD_seq ?_
     refine wpD_block ?_
     refine wpD_sr ?_
     refine pu ?_
     refine pu ?_
     refine ops_n2 ?_
     iterate 3 refine pu ?_
     obtain ⟨x30, q30, hm⟩ := yes_bind hm
     refine p_elem htab rfl rfl rfl rfl rfl rfl rfl rfl rfl rfl (idx_nonneg q30) (idx_map q30) ?_
     refine p_loadEl (d := eTApiGlobal x30) htab rfl rfl rfl rfl rfl rfl rfl rfl ?_
     obtain ⟨x31, q31, hm⟩ := yes_bind hm
     refine p_callV (change_globalOf_1_ok x30 m0 o0 T0 x31 q31) rfl rfl rfl rfl rfl rfl rfl Wl Pf Pf ?_
     rintro _ _ _ ⟨rfl, rfl, rfl⟩
     refine ops_nt ?_
     refine wpD_cond rfl (fun hc32 => ?_) (fun hc32 => ?_)
     ·replace hm := yes_t hc32 hm
      refine wpD_sr ?_
      refine pu ?_
      refine pu ?_
      refine ops_nt ?_
      refine wpD_ret ?_
      refine block_ret ?_
      refine then_ret ?_
      have e18 := lp_done hm; subst e18; clear hm; have hm := hq18
      refine then_ret ?_
      refine block_ret ?_
      have e17 := yes_eq hm; subst e17; refine midX_inr ?_; clear hm; have hm := ho17; simp only [Sum.elim_inr] at hm
      refine then_ret ?_
      have er33 := yes_eq hm; subst er33
      refine rP (t' := [(4, .v (.int .i64 s18))]) [0] [] 1 (wC wN) (lT lN) ?_
      exact ⟨rfl, rfl, rfl⟩
     ·replace hm := yes_f hc32 hm
      refine wpD_skip ?_
      refine block_normal ?_
      refine then_normal ?_
      refine wpD_region ?_
      refine pu ?_
      refine pu ?_
      refine ops_nil ?_
      refine then_normal ⟨_, lp_next hm, ?_⟩
      exact WkX.of () (WkS.perm (WkS.cons rfl (Wk.refl _) (WkS.cons rfl (Wk.refl _) (WkS.cons rfl (Wk.refl _) (WkS.cons rfl (Wk.refl _) (WkS.nil))))) Pf Pf)
    ·replace hm := yes_f hc29 hm
     refine wpD_exit ?_
     refine then_exit ?_
     have e18 := lp_done hm; subst e18; clear hm; have hm := hq18
     refine then_exit ?_
     refine block_hit ?_
     have e17 := yes_eq hm; subst e17
     refine midX_inl ?_
     exact WkX.of () (WkS.perm (WkS.nil) Pf Pf)
  ·intro y17 s17 hx17 hw17; subst hx17; clear hm; have hm := ho17; simp only [Sum.elim_inl] at hm; clear q17 ho17
   refine then_normal ?_
   refine wpD_wkX hw17 (fun z17 => ?_)
   refine wpD_sr ?_
   refine pu ?_
   refine ops_nt ?_
   refine wpD_ret ?_
   have er34 := yes_eq hm; subst er34
   refine rP (t' := [(4, .v (.int .i64 (-1 : Int)))]) [0] [] 1 (wC wN) (lT lN) ?_
   exact ⟨rfl, rfl, rfl⟩
noncomputable def change_globalOf (a0 : TApiProgram) (a1 : ByteArray) : Option (TApiGlobal × Bool) :=
  ((slices_IndexFunc_api_Global_api_Global a0.gGlobals a1).bind fun x4 => (bif (decide (x4 < (0 : Int))) then some ((⟨ByteArray.empty, false, (0 : Int), (0 : Int)⟩ : TApiGlobal), false) else ((idx a0.gGlobals x4).bind fun x8 => some (x8, true))))
set_option maxRecDepth 100000 in
set_option maxHeartbeats 2000000 in
theorem change_globalOf_ok (a0 : TApiProgram) (a1 : ByteArray) (r : TApiGlobal × Bool) (h0 : change_globalOf a0 a1 = some r) : CallsD Try.prog 35 [eTApiProgram a0, .v (.string a1)] [] [] (fun d h k => d = .tup [eTApiGlobal r.1, .v (.bool r.2)] ∧ h = [] ∧ k = []) := by
  have hm := yes_of h0
  unfold change_globalOf at hm
  clear h0
  refine enterX htab Try.func35 rfl rfl rfl rfl rfl (fun C => ?_)
  refine wpD_sr ?_
  refine p_box rfl rfl rfl rfl rfl rfl rfl (fun b1 => ?_)
  refine p_box rfl rfl rfl rfl rfl rfl rfl (fun b2 => ?_)
  refine p_alloc htab rfl rfl rfl rfl rfl rfl rfl (fun b3 => ?_)
  refine pu ?_
  refine ops_n2 ?_
  refine pu ?_
  refine pL 0 ?_
  refine pu ?_
  obtain ⟨x4, q4, hm⟩ := yes_bind hm
  refine pG (slices_IndexFunc_api_Global_api_Global_ok a0.gGlobals a1 b2 9 x4 q4) Wl ((perm_at (j := 1) rfl).trans (List.Perm.cons _ Pf)) Pf ?_
  rintro _ _ _ ⟨rfl, rfl, rfl⟩
  refine pu ?_
  refine ops_nt ?_
  refine wpD_seq ?_
  refine wpD_sr ?_
  refine pu ?_
  refine pu ?_
  refine ops_nt ?_
  refine wpD_cond rfl (fun hc6 => ?_) (fun hc6 => ?_)
  ·replace hm := yes_t hc6 hm
   refine wpD_sr ?_
   refine p_build (r := [.v (.string ByteArray.empty), .v (.bool false), .v (.int .i64 (0 : Int)), .v (.int .i64 (0 : Int))]) htab rfl rfl rfl rfl rfl rfl rfl rfl rfl ?_
   refine pS2 (ds' := [.v (.string ByteArray.empty), .v (.bool false), .v (.int .i64 (0 : Int)), .v (.int .i64 (0 : Int))]) ?_
   refine pu ?_
   refine ops_nt ?_
   refine wpD_ret ?_
   refine then_ret ?_
   have er7 := yes_eq hm; subst er7
   refine rP (t' := [(4, .ptr b3 0), (5, .v (.bool false))]) [2] [] 0 (wC (wC wN)) (lC 0 (lT lN)) ?_
   exact ⟨rfl, rfl, rfl⟩
  ·replace hm := yes_f hc6 hm
   refine wpD_skip ?_
   refine then_normal ?_
   refine wpD_sr ?_
   refine pu ?_
   refine pL 1 ?_
   refine pu ?_
   obtain ⟨x8, q8, hm⟩ := yes_bind hm
   refine p_elem htab rfl rfl rfl rfl rfl rfl rfl rfl rfl rfl (idx_nonneg q8) (idx_map q8) ?_
   refine p_loadEl (d := eTApiGlobal x8) htab rfl rfl rfl rfl rfl rfl rfl rfl ?_
   refine pS2 (ds' := [.v (.string x8.gName), .v (.bool x8.gPtr), .v (.int .i64 x8.gSize), .v (.int .i64 x8.gAt)]) ?_
   refine pu ?_
   refine ops_nt ?_
   refine wpD_ret ?_
   have er9 := yes_eq hm; subst er9
   refine rP (t' := [(4, .ptr b3 0), (5, .v (.bool true))]) [2] [] 0 (wC (wC wN)) (lC 0 (lT lN)) ?_
   exact ⟨rfl, rfl, rfl⟩
noncomputable def slices_Concat_api_Global_api_Global_r (a0 : List (List TApiGlobal)) : Option (List TApiGlobal) :=
  (Option.bind (α := Int) (loopM (fun (s15 : Int × Int) => (bif (decide (s15.2 < (a0.length : Int))) then ((idx a0 s15.2).bind fun x25 => (bif (decide ((IntKind.i64.wrap (s15.1 + (x25.length : Int))) < (0 : Int))) then none else some (.next ((IntKind.i64.wrap (s15.1 + (x25.length : Int))), (IntKind.i64.wrap (s15.2 + (1 : Int))))))) else some (.done s15.1))) ((0 : Int), (0 : Int))) fun y14 => ((need (growPre58 y14)).bind fun x28 => (Option.bind (α := List TApiGlobal) (loopM (fun (s47 : Int × List TApiGlobal) => (bif (decide (s47.1 < (a0.length : Int))) then ((idx a0 s47.1).bind fun x61 => ((app 40 s47.2 x61).bind fun x62 => some (.next ((IntKind.i64.wrap (s47.1 + (1 : Int))), x62)))) else some (.done s47.2))) ((0 : Int), (growF58 y14))) fun y46 => some y46)))
set_option maxRecDepth 100000 in
set_option maxHeartbeats 2000000 in
theorem slices_Concat_api_Global_api_Global_r_ok (a0 : List (List TApiGlobal)) (r : List TApiGlobal) (h0 : slices_Concat_api_Global_api_Global_r a0 = some r) : CallsD Try.prog 34 [.lst 1 (a0.map (eList 4 eTApiGlobal)) .no] [] [] (fun d h k => ∃ y0, d = .v (SL y0) ∧ h = [(0, Blk.row 4 (r.map eTApiGlobal) (SL y0))] ∧ k = []) := by
  have hm := yes_of h0
  unfold slices_Concat_api_Global_api_Global_r at hm
  clear h0
  refine enterX htab Try.func34 rfl rfl rfl rfl rfl (fun C => ?_)
  refine wpD_sr ?_
  refine pu ?_
  refine ops_n2 ?_
  refine pu ?_
  refine ops_nt ?_
  refine wpD_seq ?_
  refine wpD_sr ?_
  refine pu ?_
  refine p_lenL htab rfl rfl rfl rfl rfl rfl rfl (by first | exact map_len | rfl) ?_
  refine pu ?_
  refine ops_nt ?_
  obtain ⟨y14, q14, ho14⟩ := yes_bind hm
  refine wpD_mid (Y := Unit) (fun z14 => (⟨[(0, .lst 1 (a0.map (eList 4 eTApiGlobal)) .no), (3, .v (.int .i64 y14))], [], []⟩ : S)) ?_ ?_
  ·clear hm; have hm := yes_of q14
   refine wpD_block ?_
   obtain ⟨u15, hl15, hq15⟩ := yes_m hm
   refine loop_M (Y := Unit) hl15 (fun s15 z15 => (⟨[(0, .lst 1 (a0.map (eList 4 eTApiGlobal)) .no), (3, .v (.int .i64 s15.1)), (9, .lst 1 (a0.map (eList 4 eTApiGlobal)) .no), (10, .v (.int .i64 (a0.length : Int))), (11, .v (.int .i64 s15.2))], [], []⟩ : S)) ?_ ?_
   ·skip
    exact WkX.of () (WkS.perm (WkS.cons rfl (Wk.refl _) (WkS.cons rfl (Wk.refl _) (WkS.cons rfl (Wk.refl _) (WkS.cons rfl (Wk.refl _) (WkS.cons rfl (Wk.refl _) (WkS.nil)))))) Pf Pf)
   ·intro G15 s15 z15 hm
    refine wpD_sr ?_
    refine pu ?_
    refine ops_nt ?_
    refine wpD_seq ?_
    refine wpD_cond rfl (fun hc24 => ?_) (fun hc24 => ?_)
    ·replace hm := yes_t hc24 hm
     refine wpD_skip ?_
     refine then_normal ?_
     refine wpD_seq ?_
     refine wpD_block ?_
     refine wpD_sr ?_
     obtain ⟨x25, q25, hm⟩ := yes_bind hm
     refine p_elem htab rfl rfl rfl rfl rfl rfl rfl rfl rfl rfl (idx_nonneg q25) (idx_map q25) ?_
     refine p_loadEl htab rfl rfl rfl rfl rfl rfl rfl rfl ?_
     refine pu ?_
     refine ops_n2 ?_
     refine pu ?_
     refine pu ?_
     refine p_lenL htab rfl rfl rfl rfl rfl rfl rfl (by first | exact map_len | rfl) ?_
     refine pu ?_
     refine pu ?_
     refine ops_n2 ?_
     refine pu ?_
     refine pu ?_
     refine ops_nt ?_
     refine wpD_cond rfl (fun hc26 => ?_) (fun hc26 => ?_)
     ·replace hm := yes_t hc26 hm
      exact (yes_none hm).elim
     ·replace hm := yes_f hc26 hm
      refine wpD_skip ?_
      refine block_normal ?_
      refine then_normal ?_
      refine wpD_region ?_
      refine pu ?_
      refine pu ?_
      refine ops_nil ?_
      refine then_normal ⟨_, lp_next hm, ?_⟩
      exact WkX.of () (WkS.perm (WkS.cons rfl (Wk.refl _) (WkS.cons rfl (Wk.refl _) (WkS.cons rfl (Wk.refl _) (WkS.cons rfl (Wk.refl _) (WkS.cons rfl (Wk.refl _) (WkS.nil)))))) Pf Pf)
    ·replace hm := yes_f hc24 hm
     refine wpD_exit ?_
     refine then_exit ?_
     have e15 := lp_done hm; subst e15; clear hm; have hm := hq15
     refine then_exit ?_
     refine block_hit ?_
     have e14 := yes_eq hm; subst e14
     refine ⟨rfl, ?_⟩
     exact WkX.of () (WkS.perm (WkS.cons rfl (Wk.refl _) (WkS.cons rfl (Wk.refl _) (WkS.nil))) Pf Pf)
  ·intro s14 hw14; clear hm; have hm := ho14; clear q14 ho14
   refine then_normal ?_
   refine wpD_wkX hw14 (fun z14 => ?_)
   refine wpD_sr ?_
   refine pu ?_
   obtain ⟨x28, q28, hm⟩ := yes_bind hm
   refine pG (growOk58 y14 (need_ok q28)) Wl Pf Pf ?_
   rintro _ _ _ ⟨w27, rfl, rfl, rfl⟩
   refine pu ?_
   refine ops_nt ?_
   refine wpD_seq ?_
   refine wpD_sr ?_
   refine pu ?_
   refine p_lenL htab rfl rfl rfl rfl rfl rfl rfl (by first | exact map_len | rfl) ?_
   refine pu ?_
   refine ops_nt ?_
   obtain ⟨y46, q46, ho46⟩ := yes_bind hm
   refine wpD_mid (Y := Z3) (fun z46 => (⟨[(6, .v (SL z46))], [(0, Blk.row 4 (y46.map eTApiGlobal) (SL z46))], []⟩ : S)) ?_ ?_
   ·clear hm; have hm := yes_of q46
    refine wpD_block ?_
    obtain ⟨u47, hl47, hq47⟩ := yes_m hm
    refine loop_M (Y := Z3) hl47 (fun s47 z47 => (⟨[(6, .v (SL z47)), (25, .lst 1 (a0.map (eList 4 eTApiGlobal)) .no), (26, .v (.int .i64 (a0.length : Int))), (27, .v (.int .i64 s47.1))], [(0, Blk.row 4 (s47.2.map eTApiGlobal) (SL z47))], []⟩ : S)) ?_ ?_
    ·skip
     exact WkX.of w27 (WkS.perm (WkS.cons rfl (Wk.refl _) (WkS.cons rfl (Wk.refl _) (WkS.cons rfl (Wk.refl _) (WkS.cons rfl (Wk.refl _) (WkS.nil))))) Pf Pf)
    ·intro G47 s47 z47 hm
     refine wpD_sr ?_
     refine pu ?_
     refine ops_nt ?_
     refine wpD_seq ?_
     refine wpD_cond rfl (fun hc60 => ?_) (fun hc60 => ?_)
     ·replace hm := yes_t hc60 hm
      refine wpD_skip ?_
      refine then_normal ?_
      refine wpD_seq ?_
      refine wpD_block ?_
      refine wpD_sr ?_
      obtain ⟨x61, q61, hm⟩ := yes_bind hm
      refine p_elem htab rfl rfl rfl rfl rfl rfl rfl rfl rfl rfl (idx_nonneg q61) (idx_map q61) ?_
      refine p_loadEl htab rfl rfl rfl rfl rfl rfl rfl rfl ?_
      refine pu ?_
      refine ops_nt ?_
      refine wpD_region ?_
      refine pu ?_
      refine pu ?_
      obtain ⟨x62, q62, hm⟩ := yes_bind hm
      refine p_appR2 0 htab rfl rfl rfl rfl rfl rfl rfl rfl rfl rfl rfl rfl rfl rfl rfl rfl (app_bound q62) (app_map q62) (fun v62 => ?_)
      refine pu ?_
      refine ops_nil ?_
      refine block_normal ?_
      refine then_normal ?_
      refine wpD_region ?_
      refine pu ?_
      refine pu ?_
      refine ops_nil ?_
      refine then_normal ⟨_, lp_next hm, ?_⟩
      exact WkX.of v62 (WkS.perm (WkS.cons rfl (Wk.refl _) (WkS.cons rfl (Wk.refl _) (WkS.cons rfl (Wk.refl _) (WkS.cons rfl (Wk.refl _) (WkS.nil))))) Pf Pf)
     ·replace hm := yes_f hc60 hm
      refine wpD_exit ?_
      refine then_exit ?_
      have e47 := lp_done hm; subst e47; clear hm; have hm := hq47
      refine then_exit ?_
      refine block_hit ?_
      have e46 := yes_eq hm; subst e46
      refine ⟨rfl, ?_⟩
      exact WkX.of z47 (WkS.perm (WkS.cons rfl (Wk.refl _) (WkS.nil)) Pf Pf)
   ·intro s46 hw46; clear hm; have hm := ho46; clear q46 ho46
    refine then_normal ?_
    refine wpD_wkX hw46 (fun z46 => ?_)
    refine wpD_sr ?_
    refine pu ?_
    refine pu ?_
    refine ops_nt ?_
    refine wpD_ret ?_
    have er63 := yes_eq hm; subst er63
    refine rP (t' := [(2, .v (SL z46))]) [0] [] 1 (wC wN) (lT lN) ?_
    exact ⟨z46, rfl, rfl, rfl⟩
noncomputable def change_globals (a0 : TApiProgram) (a1 : TApiProgram) : Option (List ByteArray) :=
  ((slices_Concat_api_Global_api_Global_r ([a0.gGlobals, a1.gGlobals] : List (List TApiGlobal))).bind fun x4 => (Option.bind (α := List ByteArray) (loopM (fun (s85 : List ByteArray × Int) => (bif (decide (s85.2 < (x4.length : Int))) then ((idx x4 s85.2).bind fun x118 => ((change_globalOf a0 x118.gName).bind fun x120 => ((change_globalOf a1 x118.gName).bind fun x122 => (Option.bind (α := Bool) (bif (!(x120.2 == x122.2)) then some true else (bif (!(x120.1.gPtr == x122.1.gPtr)) then some true else some (x120.1.gSize != x122.1.gSize))) fun y126 => (bif y126 then ((app 16 s85.1 ([x118.gName] : List ByteArray)).bind fun x130 => some (.next (x130, (IntKind.i64.wrap (s85.2 + (1 : Int)))))) else some (.next (s85.1, (IntKind.i64.wrap (s85.2 + (1 : Int)))))))))) else some (.done s85.1))) (([] : List ByteArray), (0 : Int))) fun y68 => ((change_row_r y68).bind fun x132 => some x132)))
set_option maxRecDepth 100000 in
set_option maxHeartbeats 2000000 in
theorem change_globals_ok (a0 : TApiProgram) (a1 : TApiProgram) (r : List ByteArray) (h0 : change_globals a0 a1 = some r) : CallsD Try.prog 18 [eTApiProgram a0, eTApiProgram a1] [] [] (fun d h k => ∃ y0, d = .lst 1 (r.map eStr) (.cur y0) ∧ h = [] ∧ k = [(1, y0)]) := by
  have hm := yes_of h0
  unfold change_globals at hm
  clear h0
  refine enterX htab Try.func18 rfl rfl rfl rfl rfl (fun C => ?_)
  refine wpD_sr ?_
  refine p_box rfl rfl rfl rfl rfl rfl rfl (fun b1 => ?_)
  refine p_box rfl rfl rfl rfl rfl rfl rfl (fun b2 => ?_)
  refine pu ?_
  refine ops_n2 ?_
  refine pu ?_
  refine ops_nt ?_
  refine wpD_seq ?_
  refine wpD_sr ?_
  refine pu ?_
  refine pL 0 ?_
  refine pu ?_
  refine pL 1 ?_
  refine p_lit htab rfl rfl rfl rfl rfl rfl rfl rfl rfl rfl rfl rfl rfl rfl ?_
  refine p_eq (i := 16) (d' := .lst 1 (([a0.gGlobals, a1.gGlobals] : List (List TApiGlobal)).map (eList 4 eTApiGlobal)) .full) rfl (Wk.lst0 (.cons (WkC.refl _) (.cons (WkC.refl _) (.nil)))) ?_
  obtain ⟨x4, q4, hm⟩ := yes_bind hm
  refine p_callG (slices_Concat_api_Global_api_Global_r_ok ([a0.gGlobals, a1.gGlobals] : List (List TApiGlobal)) x4 q4) rfl rfl rfl rfl rfl (WkL.cons (Wk.no) Wl) Pf Pf ?_
  rintro _ _ _ ⟨w3, rfl, rfl, rfl⟩
  refine p_lenR 0 htab rfl rfl rfl rfl rfl rfl rfl rfl (by first | exact map_len | rfl) ?_
  refine pu ?_
  refine ops_nt ?_
  obtain ⟨y68, q68, ho68⟩ := yes_bind hm
  refine wpD_mid (Y := Z3) (fun z68 => (⟨[(5, .v (SL z68))], [(0, Blk.row 1 (y68.map eStr) (SL z68))], []⟩ : S)) ?_ ?_
  ·clear hm; have hm := yes_of q68
   refine wpD_block ?_
   refine wpD_wkX (Y := Unit) (S1 := fun _ => (⟨[(2, .ptr b1 0), (3, .ptr b2 0), (5, .lst 1 [] .full), (17, .lst 4 (x4.map eTApiGlobal) (.cur (SL w3))), (18, .v (.int .i64 (x4.length : Int))), (19, .v (.int .i64 (0 : Int)))], [(b1, Blk.cells [.lst 4 (a0.gGlobals.map eTApiGlobal) .no, .lst 5 (a0.gFuncs.map eTApiFunc) .no] 25), (b2, Blk.cells [.lst 4 (a1.gGlobals.map eTApiGlobal) .no, .lst 5 (a1.gFuncs.map eTApiFunc) .no] 25)], [(4, (SL w3))]⟩ : S)) ?_ (fun _ => ?_)
   ·skip
    refine WkX.wk (WkS.frz 0 rfl rfl) ?_
    refine WkX.wk (WkS.tld 17 0 rfl rfl) ?_
    refine WkX.wk (WkS.drop 0 rfl) ?_
    exact WkX.of () (WkS.perm (WkS.cons rfl (Wk.refl _) (WkS.cons rfl (Wk.refl _) (WkS.cons rfl (Wk.refl _) (WkS.cons rfl (Wk.refl _) (WkS.cons rfl (Wk.refl _) (WkS.cons rfl (Wk.refl _) (WkS.nil))))))) Pf Pf)
   ·skip
    obtain ⟨u85, hl85, hq85⟩ := yes_m hm
    refine loop_M (Y := Z3) hl85 (fun s85 z85 => (⟨[(2, .ptr b1 0), (3, .ptr b2 0), (5, .v (SL z85)), (17, .lst 4 (x4.map eTApiGlobal) (.cur (SL w3))), (18, .v (.int .i64 (x4.length : Int))), (19, .v (.int .i64 s85.2))], [(0, Blk.row 1 (s85.1.map eStr) (SL z85)), (b1, Blk.cells [.lst 4 (a0.gGlobals.map eTApiGlobal) .no, .lst 5 (a0.gFuncs.map eTApiFunc) .no] 25), (b2, Blk.cells [.lst 4 (a1.gGlobals.map eTApiGlobal) .no, .lst 5 (a1.gFuncs.map eTApiFunc) .no] 25)], [(4, (SL w3))]⟩ : S)) ?_ ?_
    ·skip
     refine WkX.rowN (i := 5) 1 rfl (fun w116 => ?_)
     exact WkX.of w116 (WkS.perm (WkS.cons rfl (Wk.refl _) (WkS.cons rfl (Wk.refl _) (WkS.cons rfl (Wk.refl _) (WkS.cons rfl (Wk.refl _) (WkS.cons rfl (Wk.refl _) (WkS.cons rfl (Wk.refl _) (WkS.nil))))))) Pf Pf)
    ·intro G85 s85 z85 hm
     refine wpD_sr ?_
     refine pu ?_
     refine ops_nt ?_
     refine wpD_seq ?_
     refine wpD_cond rfl (fun hc117 => ?_) (fun hc117 => ?_)
     ·replace hm := yes_t hc117 hm
      refine wpD_skip ?_
      refine then_normal ?_
      refine wpD_seq ?_
      refine wpD_block ?_
      refine wpD_sr ?_
      obtain ⟨x118, q118, hm⟩ := yes_bind hm
      refine p_elem htab rfl rfl rfl rfl rfl rfl rfl rfl rfl rfl (idx_nonneg q118) (idx_map q118) ?_
      refine p_loadEl (d := eTApiGlobal x118) htab rfl rfl rfl rfl rfl rfl rfl rfl ?_
      refine p_alloc htab rfl rfl rfl rfl rfl rfl rfl (fun b119 => ?_)
      refine pS3 (ds' := [.v (.string x118.gName), .v (.bool x118.gPtr), .v (.int .i64 x118.gSize), .v (.int .i64 x118.gAt)]) ?_
      refine ops_n2 ?_
      refine p_load (d := eTApiProgram a0) 1 htab rfl rfl rfl rfl rfl rfl rfl rfl ?_
      refine pu ?_
      refine pL 3 ?_
      obtain ⟨x120, q120, hm⟩ := yes_bind hm
      refine p_call0 (change_globalOf_ok a0 x118.gName x120 q120) rfl rfl rfl rfl rfl Wl ?_
      rintro _ rfl
      iterate 3 refine pu ?_
      refine p_alloc htab rfl rfl rfl rfl rfl rfl rfl (fun b121 => ?_)
      refine pS4 (ds' := [.v (.string x120.1.gName), .v (.bool x120.1.gPtr), .v (.int .i64 x120.1.gSize), .v (.int .i64 x120.1.gAt)]) ?_
      refine pu ?_
      refine ops_n2 ?_
      refine p_load (d := eTApiProgram a1) 2 htab rfl rfl rfl rfl rfl rfl rfl rfl ?_
      refine pu ?_
      refine pL 3 ?_
      obtain ⟨x122, q122, hm⟩ := yes_bind hm
      refine p_call0 (change_globalOf_ok a1 x118.gName x122 q122) rfl rfl rfl rfl rfl Wl ?_
      rintro _ rfl
      iterate 3 refine pu ?_
      refine p_alloc htab rfl rfl rfl rfl rfl rfl rfl (fun b123 => ?_)
      refine pS5 (ds' := [.v (.string x122.1.gName), .v (.bool x122.1.gPtr), .v (.int .i64 x122.1.gSize), .v (.int .i64 x122.1.gAt)]) ?_
      refine pu ?_
      refine ops_nt ?_
      refine wpD_seq ?_
      obtain ⟨y126, q126, ho126⟩ := yes_bind hm
      refine wpD_mid (Y := Unit) (fun z126 => (⟨[(2, .ptr b1 0), (3, .ptr b2 0), (5, .v (SL z85)), (7, .ptr b119 0), (17, .lst 4 (x4.map eTApiGlobal) (.cur (SL w3))), (18, .v (.int .i64 (x4.length : Int))), (19, .v (.int .i64 s85.2)), (53, .v (.bool y126))], [(0, Blk.row 1 (s85.1.map eStr) (SL z85)), (b1, Blk.cells [.lst 4 (a0.gGlobals.map eTApiGlobal) .no, .lst 5 (a0.gFuncs.map eTApiFunc) .no] 25), (b2, Blk.cells [.lst 4 (a1.gGlobals.map eTApiGlobal) .no, .lst 5 (a1.gFuncs.map eTApiFunc) .no] 25), (b119, Blk.cells [.v (.string x118.gName), .v (.bool x118.gPtr), .v (.int .i64 x118.gSize), .v (.int .i64 x118.gAt)] 61)], [(4, (SL w3))]⟩ : S)) ?_ ?_
      ·clear hm; have hm := yes_of q126
       refine wpD_region ?_
       iterate 4 refine pu ?_
       refine p_split (i := 40) rfl (fun hg127 => ?_) (fun hg127 => ?_)
       ·replace hm := yes_t hg127 hm
        iterate 5 refine pK ?_
        refine p_pickT rfl rfl rfl rfl rfl rfl ?_
        refine pu ?_
        iterate 5 refine pK ?_
        refine p_pickT rfl rfl rfl rfl rfl rfl ?_
        refine ops_nil ?_
        have e126 := yes_eq hm; subst e126
        refine ⟨rfl, ?_⟩
        exact WkX.of () (WkS.perm (WkS.cons rfl (Wk.refl _) (WkS.cons rfl (Wk.refl _) (WkS.cons rfl (Wk.refl _) (WkS.cons rfl (Wk.refl _) (WkS.cons rfl (Wk.refl _) (WkS.cons rfl (Wk.refl _) (WkS.cons rfl (Wk.refl _) (WkS.cons rfl (Wk.refl _) (WkS.nil))))))))) Pf Pf)
       ·replace hm := yes_f hg127 hm
        refine pu ?_
        refine pL 4 ?_
        refine pu ?_
        refine pL 5 ?_
        refine pu ?_
        refine p_pickF rfl rfl rfl rfl rfl rfl ?_
        refine pu ?_
        refine p_split (i := 47) rfl (fun hg128 => ?_) (fun hg128 => ?_)
        ·replace hm := yes_t hg128 hm
         iterate 5 refine pK ?_
         refine p_pickT rfl rfl rfl rfl rfl rfl ?_
         refine ops_nil ?_
         have e126 := yes_eq hm; subst e126
         refine ⟨rfl, ?_⟩
         exact WkX.of () (WkS.perm (WkS.cons rfl (Wk.refl _) (WkS.cons rfl (Wk.refl _) (WkS.cons rfl (Wk.refl _) (WkS.cons rfl (Wk.refl _) (WkS.cons rfl (Wk.refl _) (WkS.cons rfl (Wk.refl _) (WkS.cons rfl (Wk.refl _) (WkS.cons rfl (Wk.refl _) (WkS.nil))))))))) Pf Pf)
        ·replace hm := yes_f hg128 hm
         refine pu ?_
         refine pL 4 ?_
         refine pu ?_
         refine pL 5 ?_
         refine pu ?_
         refine p_pickF rfl rfl rfl rfl rfl rfl ?_
         refine ops_nil ?_
         have e126 := yes_eq hm; subst e126
         refine ⟨rfl, ?_⟩
         exact WkX.of () (WkS.perm (WkS.cons rfl (Wk.refl _) (WkS.cons rfl (Wk.refl _) (WkS.cons rfl (Wk.refl _) (WkS.cons rfl (Wk.refl _) (WkS.cons rfl (Wk.refl _) (WkS.cons rfl (Wk.refl _) (WkS.cons rfl (Wk.refl _) (WkS.cons rfl (Wk.refl _) (WkS.nil))))))))) Pf Pf)
      ·intro s126 hw126; clear hm; have hm := ho126; clear q126 ho126
       refine then_normal ?_
       refine wpD_wkX hw126 (fun z126 => ?_)
       refine wpD_cond rfl (fun hc129 => ?_) (fun hc129 => ?_)
       ·replace hm := yes_t hc129 hm
        refine wpD_region ?_
        refine pu ?_
        refine pu ?_
        refine pL 3 ?_
        refine p_lit htab rfl rfl rfl rfl rfl rfl rfl rfl rfl rfl rfl rfl rfl rfl ?_
        refine p_eq (i := 57) (d' := .lst 1 (([x118.gName] : List ByteArray).map eStr) .full) rfl (Wk.lst0 (.cons (WkC.refl _) (.nil))) ?_
        obtain ⟨x130, q130, hm⟩ := yes_bind hm
        refine p_appR2 0 htab rfl rfl rfl rfl rfl rfl rfl rfl rfl rfl rfl rfl rfl rfl rfl rfl (app_bound q130) (app_map q130) (fun v130 => ?_)
        refine pu ?_
        refine ops_nil ?_
        refine block_normal ?_
        refine then_normal ?_
        refine wpD_region ?_
        refine pu ?_
        refine pu ?_
        refine ops_nil ?_
        refine then_normal ⟨_, lp_next hm, ?_⟩
        exact WkX.of v130 (WkS.perm (WkS.cons rfl (Wk.refl _) (WkS.cons rfl (Wk.refl _) (WkS.cons rfl (Wk.refl _) (WkS.cons rfl (Wk.refl _) (WkS.cons rfl (Wk.refl _) (WkS.cons rfl (Wk.refl _) (WkS.nil))))))) Pf Pf)
       ·replace hm := yes_f hc129 hm
        refine wpD_skip ?_
        refine block_normal ?_
        refine then_normal ?_
        refine wpD_region ?_
        refine pu ?_
        refine pu ?_
        refine ops_nil ?_
        refine then_normal ⟨_, lp_next hm, ?_⟩
        exact WkX.of z85 (WkS.perm (WkS.cons rfl (Wk.refl _) (WkS.cons rfl (Wk.refl _) (WkS.cons rfl (Wk.refl _) (WkS.cons rfl (Wk.refl _) (WkS.cons rfl (Wk.refl _) (WkS.cons rfl (Wk.refl _) (WkS.nil))))))) Pf Pf)
     ·replace hm := yes_f hc117 hm
      refine wpD_exit ?_
      refine then_exit ?_
      have e85 := lp_done hm; subst e85; clear hm; have hm := hq85
      refine then_exit ?_
      refine block_hit ?_
      have e68 := yes_eq hm; subst e68
      refine ⟨rfl, ?_⟩
      exact WkX.of z85 (WkS.perm (WkS.cons rfl (Wk.refl _) (WkS.nil)) Pf Pf)
  ·intro s68 hw68; clear hm; have hm := ho68; clear q68 ho68
   refine then_normal ?_
   refine wpD_wkX hw68 (fun z68 => ?_)
   refine wpD_sr ?_
   refine pu ?_
   obtain ⟨x132, q132, hm⟩ := yes_bind hm
   refine pG (change_row_r_ok y68 z68 x132 q132) Wl Pf Pf ?_
   rintro _ _ _ ⟨w131, rfl, rfl, rfl⟩
   refine pu ?_
   refine ops_nt ?_
   refine wpD_ret ?_
   have er133 := yes_eq hm; subst er133
   refine retX.wk (WkS.frz 0 rfl rfl) ?_
   refine retX.wk (WkS.tld 4 0 rfl rfl) ?_
   refine retX.wk (WkS.tld 61 0 rfl rfl) ?_
   refine retX.wk (WkS.drop 0 rfl) ?_
   refine rP (t' := [(4, .lst 1 (x132.map eStr) (.cur (SL w131)))]) [] [0] 0 (wC wN) (lT lN) ?_
   exact ⟨(SL w131), rfl, rfl, rfl⟩
structure TChangeDiff where
  gFuncs : List ByteArray
  gGlobals : List ByteArray
noncomputable def change_Of (a0 : TApiProgram) (a1 : TApiProgram) : Option (TChangeDiff) :=
  ((change_funcs a0 a1).bind fun x5 => ((change_globals a0 a1).bind fun x11 => some (⟨x5, x11⟩ : TChangeDiff)))
set_option maxRecDepth 100000 in
set_option maxHeartbeats 2000000 in
theorem change_Of_ok (a0 : TApiProgram) (a1 : TApiProgram) (r : TChangeDiff) (h0 : change_Of a0 a1 = some r) : CallsD Try.prog 8 [eTApiProgram a0, eTApiProgram a1] [] [] (fun d h k => ∃ y0 y1, d = .agg [.lst 1 (r.gFuncs.map eStr) (.cur y0), .lst 1 (r.gGlobals.map eStr) (.cur y1)] ∧ h = [] ∧ k = [(1, y0), (1, y1)]) := by
  have hm := yes_of h0
  unfold change_Of at hm
  clear h0
  refine enterX htab Try.func8 rfl rfl rfl rfl rfl (fun C => ?_)
  refine wpD_sr ?_
  refine p_box rfl rfl rfl rfl rfl rfl rfl (fun b1 => ?_)
  refine p_box rfl rfl rfl rfl rfl rfl rfl (fun b2 => ?_)
  refine p_alloc htab rfl rfl rfl rfl rfl rfl rfl (fun b3 => ?_)
  refine ops_nt ?_
  refine wpD_seq ?_
  obtain ⟨x5, q5, hm⟩ := yes_bind hm
  refine wpD_drawsT 5 [] [(2, 1)] [[],[],[0,1],[],[]] [0,1,2,3,4] [[],[],[0,1],[],[],[0,1,2,3,4],[0,1,2,3,4,5],[0,1,2,3,4,5,6]] (by kernel_rfl) (by kernel_rfl) (by kernel_rfl) (by rfl) (by rfl) (by kernel_rfl) ?_
  iterate 5 apply Exists.intro
  intro bs
  refine zt_eM rfl rfl (xm_load (d := eTApiProgram a0) 0 htab rfl rfl rfl rfl rfl) rfl rfl rfl rfl rfl rfl rfl ?_
  refine zt_eM rfl rfl (xm_load (d := eTApiProgram a1) 1 htab rfl rfl rfl rfl rfl) rfl rfl rfl rfl rfl rfl rfl ?_
  refine zt_callT rfl rfl (change_funcs_ok a0 a1 x5 q5) rfl rfl Wl rfl rfl rfl rfl rfl (by simp) (by decide) rfl ?_
  refine zt_eM rfl rfl (xm_load (d := eTApiProgram a0) 0 htab rfl rfl rfl rfl rfl) rfl rfl rfl rfl rfl rfl rfl ?_
  refine zt_eM rfl rfl (xm_load (d := eTApiProgram a1) 1 htab rfl rfl rfl rfl rfl) rfl rfl rfl rfl rfl rfl rfl ?_
  refine zt_nil (k' := [(1, (bs 2))]) rfl (fun e he => by simp [isT] at he; subst he; rfl) rfl rfl (fun e he => by simp [isAl] at he) ?_
  obtain ⟨w9, hw9⟩ : ∃ y, bs 2 = y := ⟨_, rfl⟩
  simp only [hw9]
  clear hw9
  obtain ⟨x11, q11, hm⟩ := yes_bind hm
  refine pG (change_globals_ok a0 a1 x11 q11) Wl Pf Pf ?_
  rintro _ _ _ ⟨w10, rfl, rfl, rfl⟩
  refine p_build (r := [.lst 1 (x5.map eStr) (.cur w9), .lst 1 (x11.map eStr) (.cur w10)]) htab rfl rfl rfl rfl rfl rfl rfl rfl rfl ?_
  refine pS2 (ds' := [.lst 1 (x5.map eStr) (.cur w9), .lst 1 (x11.map eStr) (.cur w10)]) ?_
  refine ops_nt ?_
  refine wpD_ret ?_
  have er12 := yes_eq hm; subst er12
  refine rP (t' := [(4, .ptr b3 0)]) [2] [1,0] 0 (wC wN) (lC 0 lN) ?_
  exact ⟨w9, w10, rfl, rfl, rfl⟩
noncomputable def r11_Texts (a0 : List ByteArray) (a1 : List ByteArray) : Option (Bool) :=
  (bif ((a0.length : Int) != (a1.length : Int)) then some false else (Option.bind (α := (Unit) ⊕ (Bool)) (loopM (fun (s21 : Int) => (bif (decide (s21 < (a0.length : Int))) then ((idx a0 s21).bind fun x33 => ((idx a1 s21).bind fun x34 => (bif (!decide (x33 = x34)) then some (.done (.inr false)) else some (.next (IntKind.i64.wrap (s21 + (1 : Int))))))) else some (.done (.inl ())))) (0 : Int)) (Sum.elim (fun y20 => some true) (fun r => some r))))
set_option maxRecDepth 100000 in
set_option maxHeartbeats 2000000 in
theorem r11_Texts_ok (a0 : List ByteArray) (a1 : List ByteArray) (r : Bool) (h0 : r11_Texts a0 a1 = some r) : CallsD Try.prog 9 [.lst 1 (a0.map eStr) .no, .lst 1 (a1.map eStr) .no] [] [] (fun d h k => d = .v (.bool r) ∧ h = [] ∧ k = []) := by
  have hm := yes_of h0
  unfold r11_Texts at hm
  clear h0
  refine enterX htab Try.func9 rfl rfl rfl rfl rfl (fun C => ?_)
  refine wpD_sr ?_
  refine pu ?_
  refine ops_nt ?_
  refine wpD_seq ?_
  refine wpD_sr ?_
  refine pu ?_
  refine p_lenL htab rfl rfl rfl rfl rfl rfl rfl (by first | exact map_len | rfl) ?_
  refine pu ?_
  refine p_lenL htab rfl rfl rfl rfl rfl rfl rfl (by first | exact map_len | rfl) ?_
  refine pu ?_
  refine ops_nt ?_
  refine wpD_cond rfl (fun hc2 => ?_) (fun hc2 => ?_)
  ·replace hm := yes_t hc2 hm
   refine wpD_sr ?_
   refine pu ?_
   refine ops_nt ?_
   refine wpD_ret ?_
   refine then_ret ?_
   have er3 := yes_eq hm; subst er3
   refine rP (t' := [(4, .v (.bool false))]) [] [] 0 (wC wN) (lT lN) ?_
   exact ⟨rfl, rfl, rfl⟩
  ·replace hm := yes_f hc2 hm
   refine wpD_skip ?_
   refine then_normal ?_
   refine wpD_seq ?_
   refine wpD_sr ?_
   refine pu ?_
   refine ops_nt ?_
   obtain ⟨x20, q20, ho20⟩ := yes_bind hm
   refine wpD_midX (τ := Unit) (Y := Unit) (fun y20 z20 => (⟨[], [], []⟩ : S)) x20 ?_ ?_
   ·clear hm; have hm := yes_of q20
    refine wpD_block ?_
    obtain ⟨u21, hl21, hq21⟩ := yes_m hm
    refine loop_M (Y := Unit) hl21 (fun s21 z21 => (⟨[(0, .lst 1 (a0.map eStr) .no), (1, .lst 1 (a1.map eStr) .no), (5, .v (.int .i64 s21))], [], []⟩ : S)) ?_ ?_
    ·skip
     exact WkX.of () (WkS.perm (WkS.cons rfl (Wk.refl _) (WkS.cons rfl (Wk.refl _) (WkS.cons rfl (Wk.refl _) (WkS.nil)))) Pf Pf)
    ·intro G21 s21 z21 hm
     refine wpD_seq ?_
     refine wpD_sr ?_
     refine pu ?_
     refine pu ?_
     refine p_lenL htab rfl rfl rfl rfl rfl rfl rfl (by first | exact map_len | rfl) ?_
     refine pu ?_
     refine ops_nt ?_
     refine wpD_cond rfl (fun hc32 => ?_) (fun hc32 => ?_)
     ·replace hm := yes_t hc32 hm
      refine wpD_skip ?_
      refine then_normal ?_
      refine wpD_seq ?_
      refine wpD_block ?_
      refine wpD_seq ?_
      obtain ⟨x33, q33, hm⟩ := yes_bind hm
      obtain ⟨x34, q34, hm⟩ := yes_bind hm
      refine wpD_draws 8 [] [[],[],[0],[0,2],[],[],[4],[4,6]] [0,2,4,6] [[],[],[0,1],[0,1,2],[],[],[4,5],[4,5,6],[0,1,2,3,4,5,6,7]] (by kernel_rfl) (by kernel_rfl) (by kernel_rfl) (by rfl) (by rfl) (by kernel_rfl) ?_
      iterate 4 apply Exists.intro
      intro bs
      refine zep ?_
      refine zqp ?_
      refine z_e rfl rfl (x_elem htab rfl rfl rfl rfl rfl rfl rfl (idx_nonneg q33) (idx_map q33)) rfl rfl rfl rfl rfl rfl ?_
      refine z_qM rfl rfl (xm_loadEl htab rfl rfl rfl rfl rfl) rfl rfl rfl rfl rfl rfl ?_
      refine zep ?_
      refine zqp ?_
      refine z_e rfl rfl (x_elem htab rfl rfl rfl rfl rfl rfl rfl (idx_nonneg q34) (idx_map q34)) rfl rfl rfl rfl rfl rfl ?_
      refine z_qM rfl rfl (xm_loadEl htab rfl rfl rfl rfl rfl) rfl rfl rfl rfl rfl rfl ?_
      refine z_nil rfl rfl (fun e he => by simp [isAl] at he) ?_
      refine pu ?_
      refine ops_nt ?_
      refine wpD_cond rfl (fun hc35 => ?_) (fun hc35 => ?_)
      ·replace hm := yes_t hc35 hm
       refine wpD_sr ?_
       refine pu ?_
       refine ops_nt ?_
       refine wpD_ret ?_
       refine block_ret ?_
       refine then_ret ?_
       have e21 := lp_done hm; subst e21; clear hm; have hm := hq21
       refine then_ret ?_
       refine block_ret ?_
       have e20 := yes_eq hm; subst e20; refine midX_inr ?_; clear hm; have hm := ho20; simp only [Sum.elim_inr] at hm
       refine then_ret ?_
       have er36 := yes_eq hm; subst er36
       refine rP (t' := [(4, .v (.bool false))]) [] [] 0 (wC wN) (lT lN) ?_
       exact ⟨rfl, rfl, rfl⟩
      ·replace hm := yes_f hc35 hm
       refine wpD_skip ?_
       refine block_normal ?_
       refine then_normal ?_
       refine wpD_region ?_
       iterate 3 refine pu ?_
       refine ops_nil ?_
       refine then_normal ⟨_, lp_next hm, ?_⟩
       exact WkX.of () (WkS.perm (WkS.cons rfl (Wk.refl _) (WkS.cons rfl (Wk.refl _) (WkS.cons rfl (Wk.refl _) (WkS.nil)))) Pf Pf)
     ·replace hm := yes_f hc32 hm
      refine wpD_exit ?_
      refine then_exit ?_
      have e21 := lp_done hm; subst e21; clear hm; have hm := hq21
      refine then_exit ?_
      refine block_hit ?_
      have e20 := yes_eq hm; subst e20
      refine midX_inl ?_
      exact WkX.of () (WkS.perm (WkS.nil) Pf Pf)
   ·intro y20 s20 hx20 hw20; subst hx20; clear hm; have hm := ho20; simp only [Sum.elim_inl] at hm; clear q20 ho20
    refine then_normal ?_
    refine wpD_wkX hw20 (fun z20 => ?_)
    refine wpD_sr ?_
    refine pu ?_
    refine ops_nt ?_
    refine wpD_ret ?_
    have er37 := yes_eq hm; subst er37
    refine rP (t' := [(4, .v (.bool true))]) [] [] 0 (wC wN) (lT lN) ?_
    exact ⟨rfl, rfl, rfl⟩
noncomputable def l18_lives : Option (Bool) :=
  ((change_Of (⟨[], ([(⟨(ByteArray.mk #[102]), [], [], [], (0 : Int)⟩ : TApiFunc), (⟨(ByteArray.mk #[103]), [], [], [], (0 : Int)⟩ : TApiFunc)] : List TApiFunc)⟩ : TApiProgram) (⟨[], ([(⟨(ByteArray.mk #[103]), [], [], [], (0 : Int)⟩ : TApiFunc), (⟨(ByteArray.mk #[102]), ([(⟨(ByteArray.mk #[120]), false⟩ : TApiVar)] : List TApiVar), [], [], (0 : Int)⟩ : TApiFunc)] : List TApiFunc)⟩ : TApiProgram)).bind fun x3 => ((r11_Texts x3.gFuncs ([(ByteArray.mk #[102])] : List ByteArray)).bind fun x5 => (bif x5 then some ((x3.gGlobals.length : Int) == (0 : Int)) else some false)))
set_option maxRecDepth 100000 in
set_option maxHeartbeats 2000000 in
theorem l18_lives_ok  (r : Bool) (h0 : l18_lives = some r) : CallsD Try.prog 7 [] [] [] (fun d h k => d = .v (.bool r) ∧ h = [] ∧ k = []) := by
  have hm := yes_of h0
  unfold l18_lives at hm
  clear h0
  refine enterX htab Try.func7 rfl rfl rfl rfl rfl (fun C => ?_)
  refine wpD_sr ?_
  refine pu ?_
  refine ops_n2 ?_
  refine p_build (r := [.v (.string (ByteArray.mk #[102])), .lst 1 [] .full, .lst 1 [] .full, .lst 1 [] .full, .v (.int .i64 (0 : Int))]) htab rfl rfl rfl rfl rfl rfl rfl rfl rfl ?_
  refine p_build (r := [.v (.string (ByteArray.mk #[103])), .lst 1 [] .full, .lst 1 [] .full, .lst 1 [] .full, .v (.int .i64 (0 : Int))]) htab rfl rfl rfl rfl rfl rfl rfl rfl rfl ?_
  refine p_lit htab rfl rfl rfl rfl rfl rfl rfl rfl rfl rfl rfl rfl rfl rfl ?_
  refine p_eq (i := 4) (d' := .lst 5 (([(⟨(ByteArray.mk #[102]), [], [], [], (0 : Int)⟩ : TApiFunc), (⟨(ByteArray.mk #[103]), [], [], [], (0 : Int)⟩ : TApiFunc)] : List TApiFunc).map eTApiFunc) .full) rfl (Wk.lst0 (.cons (WkC.agg (rC (WkR.cons (WkC.nil) rfl (WkR.cons (WkC.nil) rfl (WkR.cons (WkC.nil) rfl (rC WkR.nil)))))) (.cons (WkC.agg (rC (WkR.cons (WkC.nil) rfl (WkR.cons (WkC.nil) rfl (WkR.cons (WkC.nil) rfl (rC WkR.nil)))))) (.nil)))) ?_
  refine p_build (r := [.lst 1 [] .full, .lst 5 (([(⟨(ByteArray.mk #[102]), [], [], [], (0 : Int)⟩ : TApiFunc), (⟨(ByteArray.mk #[103]), [], [], [], (0 : Int)⟩ : TApiFunc)] : List TApiFunc).map eTApiFunc) .full]) htab rfl rfl rfl rfl rfl rfl rfl rfl rfl ?_
  refine p_build (r := [.v (.string (ByteArray.mk #[103])), .lst 1 [] .full, .lst 1 [] .full, .lst 1 [] .full, .v (.int .i64 (0 : Int))]) htab rfl rfl rfl rfl rfl rfl rfl rfl rfl ?_
  refine p_build (r := [.v (.string (ByteArray.mk #[120])), .v (.bool false)]) htab rfl rfl rfl rfl rfl rfl rfl rfl rfl ?_
  refine p_lit htab rfl rfl rfl rfl rfl rfl rfl rfl rfl rfl rfl rfl rfl rfl ?_
  refine p_eq (i := 8) (d' := .lst 2 (([(⟨(ByteArray.mk #[120]), false⟩ : TApiVar)] : List TApiVar).map eTApiVar) .full) rfl (Wk.lst0 (.cons (WkC.refl _) (.nil))) ?_
  refine p_build (r := [.v (.string (ByteArray.mk #[102])), .lst 2 (([(⟨(ByteArray.mk #[120]), false⟩ : TApiVar)] : List TApiVar).map eTApiVar) .full, .lst 1 [] .full, .lst 1 [] .full, .v (.int .i64 (0 : Int))]) htab rfl rfl rfl rfl rfl rfl rfl rfl rfl ?_
  refine p_lit htab rfl rfl rfl rfl rfl rfl rfl rfl rfl rfl rfl rfl rfl rfl ?_
  refine p_eq (i := 10) (d' := .lst 5 (([(⟨(ByteArray.mk #[103]), [], [], [], (0 : Int)⟩ : TApiFunc), (⟨(ByteArray.mk #[102]), ([(⟨(ByteArray.mk #[120]), false⟩ : TApiVar)] : List TApiVar), [], [], (0 : Int)⟩ : TApiFunc)] : List TApiFunc).map eTApiFunc) .full) rfl (Wk.lst0 (.cons (WkC.agg (rC (WkR.cons (WkC.nil) rfl (WkR.cons (WkC.nil) rfl (WkR.cons (WkC.nil) rfl (rC WkR.nil)))))) (.cons (WkC.agg (rC (rO (WkR.cons (WkC.nil) rfl (WkR.cons (WkC.nil) rfl (rC WkR.nil)))))) (.nil)))) ?_
  refine p_build (r := [.lst 1 [] .full, .lst 5 (([(⟨(ByteArray.mk #[103]), [], [], [], (0 : Int)⟩ : TApiFunc), (⟨(ByteArray.mk #[102]), ([(⟨(ByteArray.mk #[120]), false⟩ : TApiVar)] : List TApiVar), [], [], (0 : Int)⟩ : TApiFunc)] : List TApiFunc).map eTApiFunc) .full]) htab rfl rfl rfl rfl rfl rfl rfl rfl rfl ?_
  obtain ⟨x3, q3, hm⟩ := yes_bind hm
  refine p_callG (change_Of_ok (⟨[], ([(⟨(ByteArray.mk #[102]), [], [], [], (0 : Int)⟩ : TApiFunc), (⟨(ByteArray.mk #[103]), [], [], [], (0 : Int)⟩ : TApiFunc)] : List TApiFunc)⟩ : TApiProgram) (⟨[], ([(⟨(ByteArray.mk #[103]), [], [], [], (0 : Int)⟩ : TApiFunc), (⟨(ByteArray.mk #[102]), ([(⟨(ByteArray.mk #[120]), false⟩ : TApiVar)] : List TApiVar), [], [], (0 : Int)⟩ : TApiFunc)] : List TApiFunc)⟩ : TApiProgram) x3 q3) rfl rfl rfl rfl rfl (WkL.cons (Wk.agg (WkR.cons (WkC.nil) rfl (rO WkR.nil))) (WkL.cons (Wk.agg (WkR.cons (WkC.nil) rfl (rO WkR.nil))) Wl)) Pf Pf ?_
  rintro _ _ _ ⟨w1, w2, rfl, rfl, rfl⟩
  refine p_alloc htab rfl rfl rfl rfl rfl rfl rfl (fun b4 => ?_)
  refine pS0 (ds' := [.lst 1 (x3.gFuncs.map eStr) (.cur w1), .lst 1 (x3.gGlobals.map eStr) (.cur w2)]) ?_
  refine ops_n2 ?_
  refine pu ?_
  refine pL 0 ?_
  refine p_lit htab rfl rfl rfl rfl rfl rfl rfl rfl rfl rfl rfl rfl rfl rfl ?_
  refine p_eq (i := 15) (d' := .lst 1 (([(ByteArray.mk #[102])] : List ByteArray).map eStr) .full) rfl (Wk.lst0 (.cons (WkC.refl _) (.nil))) ?_
  obtain ⟨x5, q5, hm⟩ := yes_bind hm
  refine p_call0 (r11_Texts_ok x3.gFuncs ([(ByteArray.mk #[102])] : List ByteArray) x5 q5) rfl rfl rfl rfl rfl (WkL.cons (Wk.no) (WkL.cons (Wk.no) Wl)) ?_
  rintro _ rfl
  refine pu ?_
  refine p_split (i := 17) rfl (fun hg6 => ?_) (fun hg6 => ?_)
  ·replace hm := yes_t hg6 hm
   refine pu ?_
   refine pL 0 ?_
   refine p_lenL htab rfl rfl rfl rfl rfl rfl rfl (by first | exact map_len | rfl) ?_
   refine pu ?_
   refine p_pickT rfl rfl rfl rfl rfl rfl ?_
   refine pu ?_
   refine ops_nt ?_
   refine wpD_ret ?_
   have er7 := yes_eq hm; subst er7
   refine rP (t' := [(0, .v (.bool ((x3.gGlobals.length : Int) == (0 : Int))))]) [] [] 0 (wC wN) (lT lN) ?_
   exact ⟨rfl, rfl, rfl⟩
  ·replace hm := yes_f hg6 hm
   iterate 4 refine pK ?_
   refine p_pickF rfl rfl rfl rfl rfl rfl ?_
   refine pu ?_
   refine ops_nt ?_
   refine wpD_ret ?_
   have er8 := yes_eq hm; subst er8
   refine rP (t' := [(0, .v (.bool false))]) [] [] 0 (wC wN) (lT lN) ?_
   exact ⟨rfl, rfl, rfl⟩
structure TTreeBagString where
  gL : List ByteArray
noncomputable def tree_bag_string_add_r (m0 : TTreeBagString) (a1 : ByteArray) : Option (TTreeBagString) :=
  ((app 16 m0.gL ([a1] : List ByteArray)).bind fun x1 => some (⟨x1⟩ : TTreeBagString))
set_option maxRecDepth 100000 in
set_option maxHeartbeats 2000000 in
theorem tree_bag_string_add_r_ok (m0 : TTreeBagString) (a1 : ByteArray) (o0 : Nat) (T0 : TypeId) (z0_0 : Z3) (r : TTreeBagString) (h0 : tree_bag_string_add_r m0 a1 = some r) : CallsD Try.prog 40 [.ptr o0 0, .v (.string a1)] [(o0, Blk.cells [.v (SL z0_0)] T0), (0, Blk.row 1 (m0.gL.map eStr) (SL z0_0))] [] (fun d h k => ∃ y0, d = .tup [] ∧ h = [(o0, Blk.cells [.v (SL y0)] T0), (0, Blk.row 1 (r.gL.map eStr) (SL y0))] ∧ k = []) := by
  have hm := yes_of h0
  unfold tree_bag_string_add_r at hm
  clear h0
  refine enterX htab Try.func40 rfl rfl rfl rfl rfl (fun C => ?_)
  refine wpD_region ?_
  iterate 4 refine pu ?_
  refine pL 0 ?_
  refine pu ?_
  refine p_lit htab rfl rfl rfl rfl rfl rfl rfl rfl rfl rfl rfl rfl rfl rfl ?_
  refine p_eq (i := 10) (d' := .lst 1 (([a1] : List ByteArray).map eStr) .full) rfl (Wk.lst0 (.cons (WkC.refl _) (.nil))) ?_
  obtain ⟨x1, q1, hm⟩ := yes_bind hm
  refine p_appR2 1 htab rfl rfl rfl rfl rfl rfl rfl rfl rfl rfl rfl rfl rfl rfl rfl rfl (app_bound q1) (app_map q1) (fun v1 => ?_)
  refine pu ?_
  refine pu ?_
  refine pS0 (ds' := [.v (SL v1)]) ?_
  refine ops_nil ?_
  have er2 := yes_eq hm; subst er2
  refine rP (t' := []) [0,0] [] 2 wN lN ?_
  exact ⟨v1, rfl, rfl, rfl⟩
noncomputable def tree_Names_1_r (a0 : ByteArray) (m0 : TTreeBagString) : Option (TTreeBagString) :=
  (bif (!decide (a0 = (ByteArray.mk #[]))) then ((tree_bag_string_add_r m0 a0).bind fun x3 => some x3) else some m0)
set_option maxRecDepth 100000 in
set_option maxHeartbeats 2000000 in
theorem tree_Names_1_r_ok (a0 : ByteArray) (m0 : TTreeBagString) (o0 : Nat) (T0 : TypeId) (z0_0 : Z3) (r : TTreeBagString) (h0 : tree_Names_1_r a0 m0 = some r) : CallsD Try.prog 39 [.v (.string a0), .ptr o0 0] [(o0, Blk.cells [.v (SL z0_0)] T0), (0, Blk.row 1 (m0.gL.map eStr) (SL z0_0))] [] (fun d h k => ∃ y0, d = .tup [] ∧ h = [(o0, Blk.cells [.v (SL y0)] T0), (0, Blk.row 1 (r.gL.map eStr) (SL y0))] ∧ k = []) := by
  have hm := yes_of h0
  unfold tree_Names_1_r at hm
  clear h0
  refine enterX htab Try.func39 rfl rfl rfl rfl rfl (fun C => ?_)
  refine wpD_sr ?_
  refine pu ?_
  refine pu ?_
  refine ops_nt ?_
  refine wpD_cond rfl (fun hc1 => ?_) (fun hc1 => ?_)
  ·replace hm := yes_t hc1 hm
   refine wpD_region ?_
   refine pu ?_
   obtain ⟨x3, q3, hm⟩ := yes_bind hm
   refine pG (tree_bag_string_add_r_ok m0 a0 o0 T0 z0_0 x3 q3) Wl Pf Pf ?_
   rintro _ _ _ ⟨w2, rfl, rfl, rfl⟩
   refine ops_nil ?_
   have er4 := yes_eq hm; subst er4
   refine rP (t' := []) [0,0] [] 2 wN lN ?_
   exact ⟨w2, rfl, rfl, rfl⟩
  ·replace hm := yes_f hc1 hm
   refine wpD_skip ?_
   have er5 := yes_eq hm; subst er5
   refine rP (t' := []) [0,0] [] 2 wN lN ?_
   exact ⟨z0_0, rfl, rfl, rfl⟩
noncomputable def tree_Names_2_r (a0 : TApiStmt) (m1 : TTreeBagString) : Option (TTreeBagString) :=
  ((tree_Names_1_r a0.gName m1).bind fun x3 => some x3)
set_option maxRecDepth 100000 in
set_option maxHeartbeats 2000000 in
theorem tree_Names_2_r_ok (a0 : TApiStmt) (m1 : TTreeBagString) (o0 : Nat) (T0 : TypeId) (o1 : Nat) (T1 : TypeId) (z1_0 : Z3) (r : TTreeBagString) (h0 : tree_Names_2_r a0 m1 = some r) : CallsD Try.prog 42 [eTApiStmt a0, .ptr o0 0] [(o0, Blk.cells [.fn (.func 39) [] [.ptr o1 0]] T0), (o1, Blk.cells [.v (SL z1_0)] T1), (0, Blk.row 1 (m1.gL.map eStr) (SL z1_0))] [] (fun d h k => ∃ y0, d = .tup [] ∧ h = [(o0, Blk.cells [.fn (.func 39) [] [.ptr o1 0]] T0), (o1, Blk.cells [.v (SL y0)] T1), (0, Blk.row 1 (r.gL.map eStr) (SL y0))] ∧ k = []) := by
  have hm := yes_of h0
  unfold tree_Names_2_r at hm
  clear h0
  refine enterX htab Try.func42 rfl rfl rfl rfl rfl (fun C => ?_)
  refine w_eq (i := 0) rfl (Wk.of_eq (eTApiStmt_eq a0)) ?_
  refine wpD_sr ?_
  refine p_box rfl rfl rfl rfl rfl rfl rfl (fun b1 => ?_)
  refine ops_nt ?_
  refine wpD_region ?_
  refine pL 0 ?_
  refine pu ?_
  refine pL 3 ?_
  obtain ⟨x3, q3, hm⟩ := yes_bind hm
  refine p_callV (tree_Names_1_r_ok a0.gName m1 o1 T1 z1_0 x3 q3) rfl rfl rfl rfl rfl rfl rfl Wl ((perm_at (j := 1) rfl).trans (List.Perm.cons _ ((perm_at (j := 1) rfl).trans (List.Perm.cons _ Pf)))) Pf ?_
  rintro _ _ _ ⟨w2, rfl, rfl, rfl⟩
  refine ops_nil ?_
  have er4 := yes_eq hm; subst er4
  refine rP (t' := []) [2,0,0] [] 3 wN lN ?_
  exact ⟨w2, rfl, rfl, rfl⟩
noncomputable def tree_Names_3_r (a0 : TApiExpr) (m1 : TTreeBagString) : Option (TTreeBagString) :=
  ((tree_Names_1_r a0.gName m1).bind fun x3 => some x3)
set_option maxRecDepth 100000 in
set_option maxHeartbeats 2000000 in
theorem tree_Names_3_r_ok (a0 : TApiExpr) (m1 : TTreeBagString) (o0 : Nat) (T0 : TypeId) (o1 : Nat) (T1 : TypeId) (z1_0 : Z3) (r : TTreeBagString) (h0 : tree_Names_3_r a0 m1 = some r) : CallsD Try.prog 43 [eTApiExpr a0, .ptr o0 0] [(o0, Blk.cells [.fn (.func 39) [] [.ptr o1 0]] T0), (o1, Blk.cells [.v (SL z1_0)] T1), (0, Blk.row 1 (m1.gL.map eStr) (SL z1_0))] [] (fun d h k => ∃ y0, d = .tup [] ∧ h = [(o0, Blk.cells [.fn (.func 39) [] [.ptr o1 0]] T0), (o1, Blk.cells [.v (SL y0)] T1), (0, Blk.row 1 (r.gL.map eStr) (SL y0))] ∧ k = []) := by
  have hm := yes_of h0
  unfold tree_Names_3_r at hm
  clear h0
  refine enterX htab Try.func43 rfl rfl rfl rfl rfl (fun C => ?_)
  refine w_eq (i := 0) rfl (Wk.of_eq (eTApiExpr_eq a0)) ?_
  refine wpD_sr ?_
  refine p_box rfl rfl rfl rfl rfl rfl rfl (fun b1 => ?_)
  refine ops_nt ?_
  refine wpD_region ?_
  refine pL 0 ?_
  refine pu ?_
  refine pL 3 ?_
  obtain ⟨x3, q3, hm⟩ := yes_bind hm
  refine p_callV (tree_Names_1_r_ok a0.gName m1 o1 T1 z1_0 x3 q3) rfl rfl rfl rfl rfl rfl rfl Wl ((perm_at (j := 1) rfl).trans (List.Perm.cons _ ((perm_at (j := 1) rfl).trans (List.Perm.cons _ Pf)))) Pf ?_
  rintro _ _ _ ⟨w2, rfl, rfl, rfl⟩
  refine ops_nil ?_
  have er4 := yes_eq hm; subst er4
  refine rP (t' := []) [2,0,0] [] 3 wN lN ?_
  exact ⟨w2, rfl, rfl, rfl⟩
noncomputable def tree_walk_1_r_b (g0 : (TApiExpr) → (TTreeBagString) → Option (TTreeBagString)) (a0 : TApiExpr) (m2 : TTreeBagString) : Option (TTreeBagString) :=
  ((tree_Names_3_r a0 m2).bind fun x3 => (Option.bind (α := List ByteArray) (loopM (fun (s30 : Int × List ByteArray) => (bif (decide (s30.1 < (a0.gKids.length : Int))) then ((idx a0.gKids s30.1).bind fun x50 => ((g0 x50 (⟨s30.2⟩ : TTreeBagString)).bind fun x53 => some (.next ((IntKind.i64.wrap (s30.1 + (1 : Int))), x53.gL)))) else some (.done s30.2))) ((0 : Int), x3.gL)) fun y29 => some (⟨y29⟩ : TTreeBagString)))
set_option maxRecDepth 100000 in
set_option maxHeartbeats 2000000 in
theorem tree_walk_1_r_b_ok (g0 : (TApiExpr) → (TTreeBagString) → Option (TTreeBagString)) (hg0 : ∀ (a0 : TApiExpr) (m2 : TTreeBagString) (o0 : Nat) (T0 : TypeId) (o1 : Nat) (T1 : TypeId) (o2 : Nat) (T2 : TypeId) (z2_0 : Z3) (o3 : Nat) (T3 : TypeId) (r : TTreeBagString) (h0 : g0 a0 m2 = some r), CallsD Try.prog 63 [eTApiExpr a0, .ptr o0 0, .ptr o3 0] [(o0, Blk.cells [.fn (.func 43) [] [.ptr o1 0]] T0), (o1, Blk.cells [.fn (.func 39) [] [.ptr o2 0]] T1), (o2, Blk.cells [.v (SL z2_0)] T2), (o3, Blk.cells [.fn (.func 63) [] [.ptr o0 0, .ptr o3 0]] T3), (0, Blk.row 1 (m2.gL.map eStr) (SL z2_0))] [] (fun d h k => ∃ y0, d = .tup [] ∧ h = [(o0, Blk.cells [.fn (.func 43) [] [.ptr o1 0]] T0), (o1, Blk.cells [.fn (.func 39) [] [.ptr o2 0]] T1), (o2, Blk.cells [.v (SL y0)] T2), (o3, Blk.cells [.fn (.func 63) [] [.ptr o0 0, .ptr o3 0]] T3), (0, Blk.row 1 (r.gL.map eStr) (SL y0))] ∧ k = [])) (a0 : TApiExpr) (m2 : TTreeBagString) (o0 : Nat) (T0 : TypeId) (o1 : Nat) (T1 : TypeId) (o2 : Nat) (T2 : TypeId) (z2_0 : Z3) (o3 : Nat) (T3 : TypeId) (r : TTreeBagString) (h0 : tree_walk_1_r_b g0 a0 m2 = some r) : CallsD Try.prog 63 [eTApiExpr a0, .ptr o0 0, .ptr o3 0] [(o0, Blk.cells [.fn (.func 43) [] [.ptr o1 0]] T0), (o1, Blk.cells [.fn (.func 39) [] [.ptr o2 0]] T1), (o2, Blk.cells [.v (SL z2_0)] T2), (o3, Blk.cells [.fn (.func 63) [] [.ptr o0 0, .ptr o3 0]] T3), (0, Blk.row 1 (m2.gL.map eStr) (SL z2_0))] [] (fun d h k => ∃ y0, d = .tup [] ∧ h = [(o0, Blk.cells [.fn (.func 43) [] [.ptr o1 0]] T0), (o1, Blk.cells [.fn (.func 39) [] [.ptr o2 0]] T1), (o2, Blk.cells [.v (SL y0)] T2), (o3, Blk.cells [.fn (.func 63) [] [.ptr o0 0, .ptr o3 0]] T3), (0, Blk.row 1 (r.gL.map eStr) (SL y0))] ∧ k = []) := by
  have hm := yes_of h0
  unfold tree_walk_1_r_b at hm
  clear h0
  refine enterX htab Try.func63 rfl rfl rfl rfl rfl (fun C => ?_)
  refine w_eq (i := 0) rfl (Wk.of_eq (eTApiExpr_eq a0)) ?_
  refine wpD_sr ?_
  refine p_box rfl rfl rfl rfl rfl rfl rfl (fun b1 => ?_)
  refine ops_n2 ?_
  refine pL 0 ?_
  refine p_load (d := .agg [.v (.int .i64 a0.gOp), .v (.int .i64 a0.gN), .v (.string a0.gName), .lst 5 (a0.gKids.map eTApiExpr) .no, .v (.int .i64 a0.gAt)]) 5 htab rfl rfl rfl rfl rfl rfl rfl rfl ?_
  obtain ⟨x3, q3, hm⟩ := yes_bind hm
  refine p_callV (tree_Names_3_r_ok a0 m2 o1 T1 o2 T2 z2_0 x3 q3) rfl rfl rfl rfl rfl rfl rfl (WkL.cons (Wk.trans (Wk.agg (WkR.refl _)) (Wk.of_eq (eTApiExpr_eq a0).symm)) (WkL.cons (Wk.refl _) Wl)) ((perm_at (j := 1) rfl).trans (List.Perm.cons _ ((perm_at (j := 1) rfl).trans (List.Perm.cons _ ((perm_at (j := 2) rfl).trans (List.Perm.cons _ Pf)))))) Pf ?_
  rintro _ _ _ ⟨w2, rfl, rfl, rfl⟩
  refine ops_n2 ?_
  refine pu ?_
  refine pL 5 ?_
  refine p_lenL htab rfl rfl rfl rfl rfl rfl rfl (by first | exact map_len | rfl) ?_
  refine pu ?_
  refine ops_nt ?_
  obtain ⟨y29, q29, ho29⟩ := yes_bind hm
  refine wpD_mid (Y := Z3) (fun z29 => (⟨[], [(0, Blk.row 1 (y29.map eStr) (SL z29)), (o1, Blk.cells [.fn (.func 39) [] [.ptr o2 0]] T1), (o2, Blk.cells [.v (SL z29)] T2), (o0, Blk.cells [.fn (.func 43) [] [.ptr o1 0]] T0), (o3, Blk.cells [.fn (.func 63) [] [.ptr o0 0, .ptr o3 0]] T3)], []⟩ : S)) ?_ ?_
  ·clear hm; have hm := yes_of q29
   refine wpD_block ?_
   obtain ⟨u30, hl30, hq30⟩ := yes_m hm
   refine loop_M (Y := Z3) hl30 (fun s30 z30 => (⟨[(2, .ptr o3 0), (10, .lst 5 (a0.gKids.map eTApiExpr) .no), (11, .v (.int .i64 (a0.gKids.length : Int))), (12, .v (.int .i64 s30.1))], [(0, Blk.row 1 (s30.2.map eStr) (SL z30)), (o1, Blk.cells [.fn (.func 39) [] [.ptr o2 0]] T1), (o2, Blk.cells [.v (SL z30)] T2), (o0, Blk.cells [.fn (.func 43) [] [.ptr o1 0]] T0), (o3, Blk.cells [.fn (.func 63) [] [.ptr o0 0, .ptr o3 0]] T3)], []⟩ : S)) ?_ ?_
   ·skip
    exact WkX.of w2 (WkS.perm (WkS.cons rfl (Wk.refl _) (WkS.cons rfl (Wk.refl _) (WkS.cons rfl (Wk.refl _) (WkS.cons rfl (Wk.refl _) (WkS.nil))))) ((perm_at (j := 2) rfl).trans (List.Perm.cons _ ((perm_at (j := 0) rfl).trans (List.Perm.cons _ ((perm_at (j := 0) rfl).trans (List.Perm.cons _ ((perm_at (j := 0) rfl).trans (List.Perm.cons _ ((perm_at (j := 0) rfl).trans (List.Perm.cons _ Pf)))))))))) Pf)
   ·intro G30 s30 z30 hm
    refine wpD_sr ?_
    refine pu ?_
    refine ops_nt ?_
    refine wpD_seq ?_
    refine wpD_cond rfl (fun hc49 => ?_) (fun hc49 => ?_)
    ·replace hm := yes_t hc49 hm
     refine wpD_skip ?_
     refine then_normal ?_
     refine wpD_seq ?_
     refine wpD_block ?_
     refine wpD_sr ?_
     obtain ⟨x50, q50, hm⟩ := yes_bind hm
     refine p_elem htab rfl rfl rfl rfl rfl rfl rfl rfl rfl rfl (idx_nonneg q50) (idx_map q50) ?_
     refine p_eq (i := 14) rfl (Wk.of_eq (congrArg D.el (eTApiExpr_eq x50))) ?_
     refine p_loadEl (d := .agg [.v (.int .i64 x50.gOp), .v (.int .i64 x50.gN), .v (.string x50.gName), .lst 5 (x50.gKids.map eTApiExpr) .no, .v (.int .i64 x50.gAt)]) htab rfl rfl rfl rfl rfl rfl rfl rfl ?_
     refine p_alloc htab rfl rfl rfl rfl rfl rfl rfl (fun b51 => ?_)
     refine pS5 (ds' := [.v (.int .i64 x50.gOp), .v (.int .i64 x50.gN), .v (.string x50.gName), .lst 5 (x50.gKids.map eTApiExpr) .no, .v (.int .i64 x50.gAt)]) ?_
     refine ops_nt ?_
     refine wpD_region ?_
     refine pL 4 ?_
     refine p_load (d := .agg [.v (.int .i64 x50.gOp), .v (.int .i64 x50.gN), .v (.string x50.gName), .lst 5 (x50.gKids.map eTApiExpr) .no, .v (.int .i64 x50.gAt)]) 5 htab rfl rfl rfl rfl rfl rfl rfl rfl ?_
     obtain ⟨x53, q53, hm⟩ := yes_bind hm
     refine p_callV (hg0 x50 (⟨s30.2⟩ : TTreeBagString) o0 T0 o1 T1 o2 T2 z30 o3 T3 x53 q53) rfl rfl rfl rfl rfl rfl rfl (WkL.cons (Wk.trans (Wk.agg (WkR.refl _)) (Wk.of_eq (eTApiExpr_eq x50).symm)) (WkL.cons (Wk.refl _) (WkL.cons (Wk.refl _) Wl))) ((perm_at (j := 3) rfl).trans (List.Perm.cons _ ((perm_at (j := 1) rfl).trans (List.Perm.cons _ ((perm_at (j := 1) rfl).trans (List.Perm.cons _ ((perm_at (j := 1) rfl).trans (List.Perm.cons _ ((perm_at (j := 0) rfl).trans (List.Perm.cons _ Pf)))))))))) Pf ?_
     rintro _ _ _ ⟨w52, rfl, rfl, rfl⟩
     refine ops_nil ?_
     refine block_normal ?_
     refine then_normal ?_
     refine wpD_region ?_
     refine pu ?_
     refine pu ?_
     refine ops_nil ?_
     refine then_normal ⟨_, lp_next hm, ?_⟩
     exact WkX.of w52 (WkS.perm (WkS.cons rfl (Wk.refl _) (WkS.cons rfl (Wk.refl _) (WkS.cons rfl (Wk.refl _) (WkS.cons rfl (Wk.refl _) (WkS.nil))))) ((perm_at (j := 4) rfl).trans (List.Perm.cons _ ((perm_at (j := 1) rfl).trans (List.Perm.cons _ ((perm_at (j := 1) rfl).trans (List.Perm.cons _ ((perm_at (j := 0) rfl).trans (List.Perm.cons _ ((perm_at (j := 0) rfl).trans (List.Perm.cons _ Pf)))))))))) Pf)
    ·replace hm := yes_f hc49 hm
     refine wpD_exit ?_
     refine then_exit ?_
     have e30 := lp_done hm; subst e30; clear hm; have hm := hq30
     refine then_exit ?_
     refine block_hit ?_
     have e29 := yes_eq hm; subst e29
     refine ⟨rfl, ?_⟩
     exact WkX.of z30 (WkS.perm (WkS.nil) Pf Pf)
  ·intro s29 hw29; clear hm; have hm := ho29; clear q29 ho29
   refine retX.wkX hw29 (fun z29 => ?_)
   have er54 := yes_eq hm; subst er54
   refine rP (t' := []) [3,1,1,1,0] [] 5 wN lN ?_
   exact ⟨z29, rfl, rfl, rfl⟩
noncomputable def tree_walk_1_r_g : Nat → ((TApiExpr) → (TTreeBagString) → Option (TTreeBagString))
  | 0 => (fun _ _ => none)
  | n + 1 => (tree_walk_1_r_b ((tree_walk_1_r_g n)))
theorem tree_walk_1_r_g_ok : ∀ n, (∀ (a0 : TApiExpr) (m2 : TTreeBagString) (o0 : Nat) (T0 : TypeId) (o1 : Nat) (T1 : TypeId) (o2 : Nat) (T2 : TypeId) (z2_0 : Z3) (o3 : Nat) (T3 : TypeId) (r : TTreeBagString) (h0 : (tree_walk_1_r_g n) a0 m2 = some r), CallsD Try.prog 63 [eTApiExpr a0, .ptr o0 0, .ptr o3 0] [(o0, Blk.cells [.fn (.func 43) [] [.ptr o1 0]] T0), (o1, Blk.cells [.fn (.func 39) [] [.ptr o2 0]] T1), (o2, Blk.cells [.v (SL z2_0)] T2), (o3, Blk.cells [.fn (.func 63) [] [.ptr o0 0, .ptr o3 0]] T3), (0, Blk.row 1 (m2.gL.map eStr) (SL z2_0))] [] (fun d h k => ∃ y0, d = .tup [] ∧ h = [(o0, Blk.cells [.fn (.func 43) [] [.ptr o1 0]] T0), (o1, Blk.cells [.fn (.func 39) [] [.ptr o2 0]] T1), (o2, Blk.cells [.v (SL y0)] T2), (o3, Blk.cells [.fn (.func 63) [] [.ptr o0 0, .ptr o3 0]] T3), (0, Blk.row 1 (r.gL.map eStr) (SL y0))] ∧ k = []))
  | 0 => fun _ _ _ _ _ _ _ _ _ _ _ _ h0 => by cases h0
  | n + 1 => by
    have ih := tree_walk_1_r_g_ok n
    exact tree_walk_1_r_b_ok (tree_walk_1_r_g n) ih
theorem tree_walk_1_r_g_le : ∀ n, (∀ (a0 : TApiExpr) (m2 : TTreeBagString), Le ((tree_walk_1_r_g n) a0 m2) ((tree_walk_1_r_g (n + 1)) a0 m2))
  | 0 => fun _ _ => Le.none _
  | n + 1 => by
    have ih := tree_walk_1_r_g_le n
    exact fun a0 m2 => by show Le (tree_walk_1_r_b ((tree_walk_1_r_g n)) a0 m2) (tree_walk_1_r_b ((tree_walk_1_r_g (n + 1))) a0 m2); unfold tree_walk_1_r_b; repeat (first | exact Le.refl _ | exact ih _ _ | assumption | (refine Le.bind ?_ (fun _ => ?_)) | (refine Le.cond ?_ ?_) | (refine Le.loop (fun _ => ?_)) | (refine Le.elim (fun _ => ?_) (fun _ => ?_)))
noncomputable def tree_walk_1_r (a0 : TApiExpr) (m2 : TTreeBagString) : Option (TTreeBagString) := anyN fun n => (tree_walk_1_r_g n) a0 m2
theorem tree_walk_1_r_of (a0 : TApiExpr) (m2 : TTreeBagString) {r : TTreeBagString} (n : Nat) (h : (tree_walk_1_r_g n) a0 m2 = some r) : tree_walk_1_r a0 m2 = some r := anyN_of (fun m => (tree_walk_1_r_g_le m) a0 m2) h
theorem tree_walk_1_r_ok (a0 : TApiExpr) (m2 : TTreeBagString) (o0 : Nat) (T0 : TypeId) (o1 : Nat) (T1 : TypeId) (o2 : Nat) (T2 : TypeId) (z2_0 : Z3) (o3 : Nat) (T3 : TypeId) (r : TTreeBagString) (h0 : tree_walk_1_r a0 m2 = some r) : CallsD Try.prog 63 [eTApiExpr a0, .ptr o0 0, .ptr o3 0] [(o0, Blk.cells [.fn (.func 43) [] [.ptr o1 0]] T0), (o1, Blk.cells [.fn (.func 39) [] [.ptr o2 0]] T1), (o2, Blk.cells [.v (SL z2_0)] T2), (o3, Blk.cells [.fn (.func 63) [] [.ptr o0 0, .ptr o3 0]] T3), (0, Blk.row 1 (m2.gL.map eStr) (SL z2_0))] [] (fun d h k => ∃ y0, d = .tup [] ∧ h = [(o0, Blk.cells [.fn (.func 43) [] [.ptr o1 0]] T0), (o1, Blk.cells [.fn (.func 39) [] [.ptr o2 0]] T1), (o2, Blk.cells [.v (SL y0)] T2), (o3, Blk.cells [.fn (.func 63) [] [.ptr o0 0, .ptr o3 0]] T3), (0, Blk.row 1 (r.gL.map eStr) (SL y0))] ∧ k = []) :=
  let ⟨n, hn⟩ := anyN_inv h0; (tree_walk_1_r_g_ok n) a0 m2 o0 T0 o1 T1 o2 T2 z2_0 o3 T3 r hn
end Go.Proofs.Ytpeimfcmhedjmaa.Ab
