/- Layer 11: what the functions compute. -/
import Derived.Test.YtphpnbdfngdinaaSo2
import Derived.Test.YtphpnbdfngdinaaTr6
namespace Go.Proofs.Ytphpnbdfngdinaa.Ab
open Go
set_option linter.all false
structure TTreeBagString where
  gL : List ByteArray
def eTTreeBagString (x : TTreeBagString) : D := .agg [.lst 1 (x.gL.map eStr) .no]
noncomputable def tree_bag_string_all (m0 : TTreeBagString) : Option (List ByteArray × TTreeBagString) :=
  ((need (len62B m0.gL)).bind fun x1 => ((need (len62B (sortB m0.gL))).bind fun x3 => some ((compactB (sortB m0.gL)), (⟨[]⟩ : TTreeBagString))))
set_option maxRecDepth 100000 in
set_option maxHeartbeats 2000000 in
theorem tree_bag_string_all_ok (m0 : TTreeBagString) (o0 : Nat) (T0 : TypeId) (z0_0 : Z3) (r : List ByteArray × TTreeBagString) (h0 : tree_bag_string_all m0 = some r) : CallsD Try.prog 37 [.ptr o0 0] [(o0, Blk.cells [.v (SL z0_0)] T0), (0, Blk.row 1 (m0.gL.map eStr) (SL z0_0))] [] (fun d h k => ∃ y0, d = .v (SL y0) ∧ h = [(o0, Blk.cells [.any] T0), (0, Blk.row 1 (r.1.map eStr) (SL y0))] ∧ k = []) := by
  have hm := yes_of h0
  unfold tree_bag_string_all at hm
  clear h0
  refine enterX htab Try.func37 rfl rfl rfl rfl rfl (fun C => ?_)
  refine wpD_seq ?_
  refine wpD_region ?_
  refine p_pure htab rfl rfl rfl rfl ?_
  refine ops_nil ?_
  refine then_normal ?_
  refine wpD_seq ?_
  refine wpD_region ?_
  refine p_pure htab rfl rfl rfl rfl ?_
  refine p_pure htab rfl rfl rfl rfl ?_
  refine p_pure htab rfl rfl rfl rfl ?_
  refine p_load 0 htab rfl rfl rfl rfl rfl rfl rfl rfl ?_
  obtain ⟨x1, q1, hm⟩ := yes_bind hm
  refine p_callG (sortB_ok m0.gL z0_0 (need_ok q1)) rfl rfl rfl rfl rfl (WkL.refl _) ((perm_at (j := 1) rfl).trans (List.Perm.cons _ (List.Perm.refl _))) (List.Perm.refl _) ?_
  rintro _ _ _ ⟨rfl, rfl, rfl⟩
  refine ops_nil ?_
  refine then_normal ?_
  refine wpD_seq ?_
  refine wpD_region ?_
  refine p_pure htab rfl rfl rfl rfl ?_
  refine p_pure htab rfl rfl rfl rfl ?_
  refine p_pure htab rfl rfl rfl rfl ?_
  refine p_load 1 htab rfl rfl rfl rfl rfl rfl rfl rfl ?_
  obtain ⟨x3, q3, hm⟩ := yes_bind hm
  refine p_callG (compactB_ok (sortB m0.gL) z0_0 (need_ok q3)) rfl rfl rfl rfl rfl (WkL.refl _) (List.Perm.refl _) (List.Perm.refl _) ?_
  rintro _ _ _ ⟨w2, rfl, rfl, rfl⟩
  refine p_pure htab rfl rfl rfl rfl ?_
  refine ops_nil ?_
  refine then_normal ?_
  refine wpD_ret ?_
  have er4 := yes_eq hm; subst er4
  refine retX.wk (WkS.blk (ds' := [.any]) (h' := [(0, Blk.row 1 ((compactB (sortB m0.gL)).map eStr) (SL w2)), (o0, Blk.cells [.any] T0)]) 1 rfl (WkR.cons (WkC.any) rfl (WkR.nil)) rfl) ?_
  refine retX.of (s' := ⟨[(2, .v (SL w2))], [(o0, Blk.cells [.any] T0), (0, Blk.row 1 ((compactB (sortB m0.gL)).map eStr) (SL w2))], []⟩) (WkS.perm (WkS.cons rfl (Wk.refl _) (WkS.nil)) ((perm_at (j := 1) rfl).trans (List.Perm.cons _ ((perm_at (j := 0) rfl).trans (List.Perm.cons _ (List.Perm.refl _))))) (List.Perm.refl _)) (retD_mk (hh := [(o0, Blk.cells [.any] T0), (0, Blk.row 1 ((compactB (sortB m0.gL)).map eStr) (SL w2))]) (.inl rfl) (resL_cons (resOne_tmp rfl) (resL_nil)) (List.Sublist.refl _) (List.Sublist.refl _) ?_)
  exact ⟨w2, rfl, rfl, rfl⟩
noncomputable def tree_bag_string_add_r (m0 : TTreeBagString) (a1 : ByteArray) : Option (TTreeBagString) :=
  ((app 16 m0.gL ([a1] : List ByteArray)).bind fun x1 => some (⟨x1⟩ : TTreeBagString))
set_option maxRecDepth 100000 in
set_option maxHeartbeats 2000000 in
theorem tree_bag_string_add_r_ok (m0 : TTreeBagString) (a1 : ByteArray) (o0 : Nat) (T0 : TypeId) (z0_0 : Z3) (r : TTreeBagString) (h0 : tree_bag_string_add_r m0 a1 = some r) : CallsD Try.prog 33 [.ptr o0 0, .v (.string a1)] [(o0, Blk.cells [.v (SL z0_0)] T0), (0, Blk.row 1 (m0.gL.map eStr) (SL z0_0))] [] (fun d h k => ∃ y0, d = .tup [] ∧ h = [(o0, Blk.cells [.v (SL y0)] T0), (0, Blk.row 1 (r.gL.map eStr) (SL y0))] ∧ k = []) := by
  have hm := yes_of h0
  unfold tree_bag_string_add_r at hm
  clear h0
  refine enterX htab Try.func33 rfl rfl rfl rfl rfl (fun C => ?_)
  refine wpD_region ?_
  refine p_pure htab rfl rfl rfl rfl ?_
  refine p_pure htab rfl rfl rfl rfl ?_
  refine p_pure htab rfl rfl rfl rfl ?_
  refine p_pure htab rfl rfl rfl rfl ?_
  refine p_load 0 htab rfl rfl rfl rfl rfl rfl rfl rfl ?_
  refine p_pure htab rfl rfl rfl rfl ?_
  refine p_lit htab rfl rfl rfl rfl rfl rfl rfl rfl rfl rfl rfl rfl rfl rfl ?_
  refine p_eq (i := 10) (d' := .lst 1 (([a1] : List ByteArray).map eStr) .full) rfl (Wk.lst0 (.cons (WkC.refl _) (.nil))) ?_
  obtain ⟨x1, q1, hm⟩ := yes_bind hm
  refine p_appR2 1 htab rfl rfl rfl rfl rfl rfl rfl rfl rfl rfl rfl rfl rfl rfl rfl rfl (app_bound q1) (app_map q1) (fun v1 => ?_)
  refine p_pure htab rfl rfl rfl rfl ?_
  refine p_pure htab rfl rfl rfl rfl ?_
  refine p_store (ds' := [.v (SL v1)]) (h' := [(o0, Blk.cells [.v (SL v1)] T0), (0, Blk.row 1 (x1.map eStr) (SL v1))]) 0 htab rfl rfl rfl rfl rfl rfl rfl rfl rfl rfl rfl rfl ?_
  refine ops_nil ?_
  have er2 := yes_eq hm; subst er2
  refine retX.of (s' := ⟨[], [(o0, Blk.cells [.v (SL v1)] T0), (0, Blk.row 1 (x1.map eStr) (SL v1))], []⟩) (WkS.perm (WkS.nil) (List.Perm.refl _) (List.Perm.refl _)) (retD_mk (hh := [(o0, Blk.cells [.v (SL v1)] T0), (0, Blk.row 1 (x1.map eStr) (SL v1))]) (.inr rfl) (resL_nil) (List.Sublist.refl _) (List.Sublist.refl _) ?_)
  exact ⟨v1, rfl, rfl, rfl⟩
noncomputable def tree_Names_1_r (a0 : ByteArray) (m0 : TTreeBagString) : Option (TTreeBagString) :=
  (bif (!decide (a0 = (ByteArray.mk #[]))) then ((tree_bag_string_add_r m0 a0).bind fun x3 => some x3) else some m0)
set_option maxRecDepth 100000 in
set_option maxHeartbeats 2000000 in
theorem tree_Names_1_r_ok (a0 : ByteArray) (m0 : TTreeBagString) (o0 : Nat) (T0 : TypeId) (z0_0 : Z3) (r : TTreeBagString) (h0 : tree_Names_1_r a0 m0 = some r) : CallsD Try.prog 32 [.v (.string a0), .ptr o0 0] [(o0, Blk.cells [.v (SL z0_0)] T0), (0, Blk.row 1 (m0.gL.map eStr) (SL z0_0))] [] (fun d h k => ∃ y0, d = .tup [] ∧ h = [(o0, Blk.cells [.v (SL y0)] T0), (0, Blk.row 1 (r.gL.map eStr) (SL y0))] ∧ k = []) := by
  have hm := yes_of h0
  unfold tree_Names_1_r at hm
  clear h0
  refine enterX htab Try.func32 rfl rfl rfl rfl rfl (fun C => ?_)
  refine wpD_seq ?_
  refine wpD_region ?_
  refine p_pure htab rfl rfl rfl rfl ?_
  refine p_pure htab rfl rfl rfl rfl ?_
  refine ops_nil ?_
  refine then_normal ?_
  refine wpD_cond rfl (fun hc1 => ?_) (fun hc1 => ?_)
  · replace hm := yes_t hc1 hm
    refine wpD_region ?_
    refine p_pure htab rfl rfl rfl rfl ?_
    obtain ⟨x3, q3, hm⟩ := yes_bind hm
    refine p_callG (tree_bag_string_add_r_ok m0 a0 o0 T0 z0_0 x3 q3) rfl rfl rfl rfl rfl (WkL.refl _) (List.Perm.refl _) (List.Perm.refl _) ?_
    rintro _ _ _ ⟨w2, rfl, rfl, rfl⟩
    refine ops_nil ?_
    have er4 := yes_eq hm; subst er4
    refine retX.of (s' := ⟨[], [(o0, Blk.cells [.v (SL w2)] T0), (0, Blk.row 1 (x3.gL.map eStr) (SL w2))], []⟩) (WkS.perm (WkS.nil) (List.Perm.refl _) (List.Perm.refl _)) (retD_mk (hh := [(o0, Blk.cells [.v (SL w2)] T0), (0, Blk.row 1 (x3.gL.map eStr) (SL w2))]) (.inr rfl) (resL_nil) (List.Sublist.refl _) (List.Sublist.refl _) ?_)
    exact ⟨w2, rfl, rfl, rfl⟩
  · replace hm := yes_f hc1 hm
    refine wpD_skip ?_
    have er5 := yes_eq hm; subst er5
    refine retX.of (s' := ⟨[], [(o0, Blk.cells [.v (SL z0_0)] T0), (0, Blk.row 1 (m0.gL.map eStr) (SL z0_0))], []⟩) (WkS.perm (WkS.nil) (List.Perm.refl _) (List.Perm.refl _)) (retD_mk (hh := [(o0, Blk.cells [.v (SL z0_0)] T0), (0, Blk.row 1 (m0.gL.map eStr) (SL z0_0))]) (.inr rfl) (resL_nil) (List.Sublist.refl _) (List.Sublist.refl _) ?_)
    exact ⟨z0_0, rfl, rfl, rfl⟩
structure TApiExpr where
  gOp : Int
  gN : Int
  gName : ByteArray
  gKids : List TApiExpr
  gAt : Int
mutual
def eTApiExpr : TApiExpr → D
  | ⟨f0, f1, f2, f3, f4⟩ => .agg [.v (.int .i64 f0), .v (.int .i64 f1), .v (.string f2), .lst 5 (eTApiExpr_l f3) .no, .v (.int .i64 f4)]
def eTApiExpr_l : List TApiExpr → List D
  | [] => []
  | x :: l => eTApiExpr x :: eTApiExpr_l l
end
theorem eTApiExpr_map : ∀ l, eTApiExpr_l l = l.map eTApiExpr
  | [] => by simp [eTApiExpr_l]
  | x :: l => by simp only [eTApiExpr_l, List.map_cons, eTApiExpr_map l]
theorem eTApiExpr_eq (x : TApiExpr) : eTApiExpr x = .agg [.v (.int .i64 x.gOp), .v (.int .i64 x.gN), .v (.string x.gName), .lst 5 (x.gKids.map eTApiExpr) .no, .v (.int .i64 x.gAt)] := by
  cases x
  simp only [eTApiExpr, eTApiExpr_map]
structure TApiStmt where
  gOp : Int
  gName : ByteArray
  gFunc : ByteArray
  gExps : List TApiExpr
  gKids : List TApiStmt
  gElse : List TApiStmt
  gAt : Int
mutual
def eTApiStmt : TApiStmt → D
  | ⟨f0, f1, f2, f3, f4, f5, f6⟩ => .agg [.v (.int .i64 f0), .v (.string f1), .v (.string f2), .lst 5 (f3.map eTApiExpr) .no, .lst 7 (eTApiStmt_l f4) .no, .lst 7 (eTApiStmt_l f5) .no, .v (.int .i64 f6)]
def eTApiStmt_l : List TApiStmt → List D
  | [] => []
  | x :: l => eTApiStmt x :: eTApiStmt_l l
end
theorem eTApiStmt_map : ∀ l, eTApiStmt_l l = l.map eTApiStmt
  | [] => by simp [eTApiStmt_l]
  | x :: l => by simp only [eTApiStmt_l, List.map_cons, eTApiStmt_map l]
theorem eTApiStmt_eq (x : TApiStmt) : eTApiStmt x = .agg [.v (.int .i64 x.gOp), .v (.string x.gName), .v (.string x.gFunc), .lst 5 (x.gExps.map eTApiExpr) .no, .lst 7 (x.gKids.map eTApiStmt) .no, .lst 7 (x.gElse.map eTApiStmt) .no, .v (.int .i64 x.gAt)] := by
  cases x
  simp only [eTApiStmt, eTApiStmt_map]
noncomputable def tree_Names_2_r (a0 : TApiStmt) (m1 : TTreeBagString) : Option (TTreeBagString) :=
  ((tree_Names_1_r a0.gName m1).bind fun x3 => some x3)
set_option maxRecDepth 100000 in
set_option maxHeartbeats 2000000 in
theorem tree_Names_2_r_ok (a0 : TApiStmt) (m1 : TTreeBagString) (o0 : Nat) (T0 : TypeId) (o1 : Nat) (T1 : TypeId) (z1_0 : Z3) (r : TTreeBagString) (h0 : tree_Names_2_r a0 m1 = some r) : CallsD Try.prog 35 [eTApiStmt a0, .ptr o0 0] [(o0, Blk.cells [.fn (.func 32) [] [.ptr o1 0]] T0), (o1, Blk.cells [.v (SL z1_0)] T1), (0, Blk.row 1 (m1.gL.map eStr) (SL z1_0))] [] (fun d h k => ∃ y0, d = .tup [] ∧ h = [(o0, Blk.cells [.fn (.func 32) [] [.ptr o1 0]] T0), (o1, Blk.cells [.v (SL y0)] T1), (0, Blk.row 1 (r.gL.map eStr) (SL y0))] ∧ k = []) := by
  have hm := yes_of h0
  unfold tree_Names_2_r at hm
  clear h0
  refine enterX htab Try.func35 rfl rfl rfl rfl rfl (fun C => ?_)
  refine w_eq (i := 0) rfl (Wk.of_eq (eTApiStmt_eq a0)) ?_
  refine wpD_seq ?_
  refine wpD_region ?_
  refine p_box rfl rfl rfl rfl rfl rfl rfl (fun b1 => ?_)
  refine ops_nil ?_
  refine then_normal ?_
  refine wpD_region ?_
  refine p_load 0 htab rfl rfl rfl rfl rfl rfl rfl rfl ?_
  refine p_pure htab rfl rfl rfl rfl ?_
  refine p_load 3 htab rfl rfl rfl rfl rfl rfl rfl rfl ?_
  obtain ⟨x3, q3, hm⟩ := yes_bind hm
  refine p_callV (tree_Names_1_r_ok a0.gName m1 o1 T1 z1_0 x3 q3) rfl rfl rfl rfl rfl rfl rfl (WkL.refl _) ((perm_at (j := 1) rfl).trans (List.Perm.cons _ ((perm_at (j := 1) rfl).trans (List.Perm.cons _ (List.Perm.refl _))))) (List.Perm.refl _) ?_
  rintro _ _ _ ⟨w2, rfl, rfl, rfl⟩
  refine ops_nil ?_
  have er4 := yes_eq hm; subst er4
  refine retX.of (s' := ⟨[], [(o0, Blk.cells [.fn (.func 32) [] [.ptr o1 0]] T0), (o1, Blk.cells [.v (SL w2)] T1), (0, Blk.row 1 (x3.gL.map eStr) (SL w2))], []⟩) (WkS.perm (WkS.nil) ((perm_at (j := 2) rfl).trans (List.Perm.cons _ ((perm_at (j := 0) rfl).trans (List.Perm.cons _ ((perm_at (j := 0) rfl).trans (List.Perm.cons _ (List.Perm.refl _))))))) (List.Perm.refl _)) (retD_mk (hh := [(o0, Blk.cells [.fn (.func 32) [] [.ptr o1 0]] T0), (o1, Blk.cells [.v (SL w2)] T1), (0, Blk.row 1 (x3.gL.map eStr) (SL w2))]) (.inr rfl) (resL_nil) (List.Sublist.refl _) (List.Sublist.refl _) ?_)
  exact ⟨w2, rfl, rfl, rfl⟩
noncomputable def tree_Names_3_r (a0 : TApiExpr) (m1 : TTreeBagString) : Option (TTreeBagString) :=
  ((tree_Names_1_r a0.gName m1).bind fun x3 => some x3)
set_option maxRecDepth 100000 in
set_option maxHeartbeats 2000000 in
theorem tree_Names_3_r_ok (a0 : TApiExpr) (m1 : TTreeBagString) (o0 : Nat) (T0 : TypeId) (o1 : Nat) (T1 : TypeId) (z1_0 : Z3) (r : TTreeBagString) (h0 : tree_Names_3_r a0 m1 = some r) : CallsD Try.prog 36 [eTApiExpr a0, .ptr o0 0] [(o0, Blk.cells [.fn (.func 32) [] [.ptr o1 0]] T0), (o1, Blk.cells [.v (SL z1_0)] T1), (0, Blk.row 1 (m1.gL.map eStr) (SL z1_0))] [] (fun d h k => ∃ y0, d = .tup [] ∧ h = [(o0, Blk.cells [.fn (.func 32) [] [.ptr o1 0]] T0), (o1, Blk.cells [.v (SL y0)] T1), (0, Blk.row 1 (r.gL.map eStr) (SL y0))] ∧ k = []) := by
  have hm := yes_of h0
  unfold tree_Names_3_r at hm
  clear h0
  refine enterX htab Try.func36 rfl rfl rfl rfl rfl (fun C => ?_)
  refine w_eq (i := 0) rfl (Wk.of_eq (eTApiExpr_eq a0)) ?_
  refine wpD_seq ?_
  refine wpD_region ?_
  refine p_box rfl rfl rfl rfl rfl rfl rfl (fun b1 => ?_)
  refine ops_nil ?_
  refine then_normal ?_
  refine wpD_region ?_
  refine p_load 0 htab rfl rfl rfl rfl rfl rfl rfl rfl ?_
  refine p_pure htab rfl rfl rfl rfl ?_
  refine p_load 3 htab rfl rfl rfl rfl rfl rfl rfl rfl ?_
  obtain ⟨x3, q3, hm⟩ := yes_bind hm
  refine p_callV (tree_Names_1_r_ok a0.gName m1 o1 T1 z1_0 x3 q3) rfl rfl rfl rfl rfl rfl rfl (WkL.refl _) ((perm_at (j := 1) rfl).trans (List.Perm.cons _ ((perm_at (j := 1) rfl).trans (List.Perm.cons _ (List.Perm.refl _))))) (List.Perm.refl _) ?_
  rintro _ _ _ ⟨w2, rfl, rfl, rfl⟩
  refine ops_nil ?_
  have er4 := yes_eq hm; subst er4
  refine retX.of (s' := ⟨[], [(o0, Blk.cells [.fn (.func 32) [] [.ptr o1 0]] T0), (o1, Blk.cells [.v (SL w2)] T1), (0, Blk.row 1 (x3.gL.map eStr) (SL w2))], []⟩) (WkS.perm (WkS.nil) ((perm_at (j := 2) rfl).trans (List.Perm.cons _ ((perm_at (j := 0) rfl).trans (List.Perm.cons _ ((perm_at (j := 0) rfl).trans (List.Perm.cons _ (List.Perm.refl _))))))) (List.Perm.refl _)) (retD_mk (hh := [(o0, Blk.cells [.fn (.func 32) [] [.ptr o1 0]] T0), (o1, Blk.cells [.v (SL w2)] T1), (0, Blk.row 1 (x3.gL.map eStr) (SL w2))]) (.inr rfl) (resL_nil) (List.Sublist.refl _) (List.Sublist.refl _) ?_)
  exact ⟨w2, rfl, rfl, rfl⟩
noncomputable def tree_walk_1_r_b (g0 : (TApiExpr) → (TTreeBagString) → Option (TTreeBagString)) (a0 : TApiExpr) (m2 : TTreeBagString) : Option (TTreeBagString) :=
  ((tree_Names_3_r a0 m2).bind fun x3 => (Option.bind (α := List ByteArray) (loopM (fun (s24 : Int × List ByteArray) => (bif (decide (s24.1 < (a0.gKids.length : Int))) then ((idx a0.gKids s24.1).bind fun x38 => ((g0 x38 (⟨s24.2⟩ : TTreeBagString)).bind fun x41 => some (.next ((IntKind.i64.wrap (s24.1 + (1 : Int))), x41.gL)))) else some (.done s24.2))) ((0 : Int), x3.gL)) fun y23 => some (⟨y23⟩ : TTreeBagString)))
set_option maxRecDepth 100000 in
set_option maxHeartbeats 2000000 in
theorem tree_walk_1_r_b_ok (g0 : (TApiExpr) → (TTreeBagString) → Option (TTreeBagString)) (hg0 : ∀ (a0 : TApiExpr) (m2 : TTreeBagString) (o0 : Nat) (T0 : TypeId) (o1 : Nat) (T1 : TypeId) (o2 : Nat) (T2 : TypeId) (z2_0 : Z3) (o3 : Nat) (T3 : TypeId) (r : TTreeBagString) (h0 : g0 a0 m2 = some r), CallsD Try.prog 52 [eTApiExpr a0, .ptr o0 0, .ptr o3 0] [(o0, Blk.cells [.fn (.func 36) [] [.ptr o1 0]] T0), (o1, Blk.cells [.fn (.func 32) [] [.ptr o2 0]] T1), (o2, Blk.cells [.v (SL z2_0)] T2), (o3, Blk.cells [.fn (.func 52) [] [.ptr o0 0, .ptr o3 0]] T3), (0, Blk.row 1 (m2.gL.map eStr) (SL z2_0))] [] (fun d h k => ∃ y0, d = .tup [] ∧ h = [(o0, Blk.cells [.fn (.func 36) [] [.ptr o1 0]] T0), (o1, Blk.cells [.fn (.func 32) [] [.ptr o2 0]] T1), (o2, Blk.cells [.v (SL y0)] T2), (o3, Blk.cells [.fn (.func 52) [] [.ptr o0 0, .ptr o3 0]] T3), (0, Blk.row 1 (r.gL.map eStr) (SL y0))] ∧ k = [])) (a0 : TApiExpr) (m2 : TTreeBagString) (o0 : Nat) (T0 : TypeId) (o1 : Nat) (T1 : TypeId) (o2 : Nat) (T2 : TypeId) (z2_0 : Z3) (o3 : Nat) (T3 : TypeId) (r : TTreeBagString) (h0 : tree_walk_1_r_b g0 a0 m2 = some r) : CallsD Try.prog 52 [eTApiExpr a0, .ptr o0 0, .ptr o3 0] [(o0, Blk.cells [.fn (.func 36) [] [.ptr o1 0]] T0), (o1, Blk.cells [.fn (.func 32) [] [.ptr o2 0]] T1), (o2, Blk.cells [.v (SL z2_0)] T2), (o3, Blk.cells [.fn (.func 52) [] [.ptr o0 0, .ptr o3 0]] T3), (0, Blk.row 1 (m2.gL.map eStr) (SL z2_0))] [] (fun d h k => ∃ y0, d = .tup [] ∧ h = [(o0, Blk.cells [.fn (.func 36) [] [.ptr o1 0]] T0), (o1, Blk.cells [.fn (.func 32) [] [.ptr o2 0]] T1), (o2, Blk.cells [.v (SL y0)] T2), (o3, Blk.cells [.fn (.func 52) [] [.ptr o0 0, .ptr o3 0]] T3), (0, Blk.row 1 (r.gL.map eStr) (SL y0))] ∧ k = []) := by
  have hm := yes_of h0
  unfold tree_walk_1_r_b at hm
  clear h0
  refine enterX htab Try.func52 rfl rfl rfl rfl rfl (fun C => ?_)
  refine w_eq (i := 0) rfl (Wk.of_eq (eTApiExpr_eq a0)) ?_
  refine wpD_seq ?_
  refine wpD_region ?_
  refine p_box rfl rfl rfl rfl rfl rfl rfl (fun b1 => ?_)
  refine ops_nil ?_
  refine then_normal ?_
  refine wpD_seq ?_
  refine wpD_region ?_
  refine p_load 0 htab rfl rfl rfl rfl rfl rfl rfl rfl ?_
  refine p_load (d := .agg [.v (.int .i64 a0.gOp), .v (.int .i64 a0.gN), .v (.string a0.gName), .lst 5 (a0.gKids.map eTApiExpr) .no, .v (.int .i64 a0.gAt)]) 5 htab rfl rfl rfl rfl rfl rfl rfl rfl ?_
  obtain ⟨x3, q3, hm⟩ := yes_bind hm
  refine p_callV (tree_Names_3_r_ok a0 m2 o1 T1 o2 T2 z2_0 x3 q3) rfl rfl rfl rfl rfl rfl rfl (WkL.cons (Wk.trans (Wk.agg (WkR.refl _)) (Wk.of_eq (eTApiExpr_eq a0).symm)) (WkL.cons (Wk.refl _) (WkL.refl _))) ((perm_at (j := 1) rfl).trans (List.Perm.cons _ ((perm_at (j := 1) rfl).trans (List.Perm.cons _ ((perm_at (j := 2) rfl).trans (List.Perm.cons _ (List.Perm.refl _))))))) (List.Perm.refl _) ?_
  rintro _ _ _ ⟨w2, rfl, rfl, rfl⟩
  refine ops_nil ?_
  refine then_normal ?_
  refine wpD_seq ?_
  refine wpD_region ?_
  refine p_pure htab rfl rfl rfl rfl ?_
  refine p_load 5 htab rfl rfl rfl rfl rfl rfl rfl rfl ?_
  refine p_lenL htab rfl rfl rfl rfl rfl rfl rfl (by first | exact map_len | rfl) ?_
  refine p_pure htab rfl rfl rfl rfl ?_
  refine ops_nil ?_
  refine then_normal ?_
  obtain ⟨y23, q23, ho23⟩ := yes_bind hm
  refine wpD_mid (Y := Z3) (fun z23 => (⟨[], [(0, Blk.row 1 (y23.map eStr) (SL z23)), (o1, Blk.cells [.fn (.func 32) [] [.ptr o2 0]] T1), (o2, Blk.cells [.v (SL z23)] T2), (o0, Blk.cells [.fn (.func 36) [] [.ptr o1 0]] T0), (o3, Blk.cells [.fn (.func 52) [] [.ptr o0 0, .ptr o3 0]] T3), (b1, Blk.cells [.v (.int .i64 a0.gOp), .v (.int .i64 a0.gN), .v (.string a0.gName), .lst 5 (a0.gKids.map eTApiExpr) .no, .v (.int .i64 a0.gAt)] 34)], []⟩ : S)) ?_ ?_
  · clear hm; have hm := yes_of q23
    refine wpD_block ?_
    obtain ⟨u24, hl24, hq24⟩ := yes_m hm
    refine loop_M (Y := Z3) hl24 (fun s24 z24 => (⟨[(2, .ptr o3 0), (10, .lst 5 (a0.gKids.map eTApiExpr) .no), (11, .v (.int .i64 (a0.gKids.length : Int))), (12, .v (.int .i64 s24.1))], [(0, Blk.row 1 (s24.2.map eStr) (SL z24)), (o1, Blk.cells [.fn (.func 32) [] [.ptr o2 0]] T1), (o2, Blk.cells [.v (SL z24)] T2), (o0, Blk.cells [.fn (.func 36) [] [.ptr o1 0]] T0), (o3, Blk.cells [.fn (.func 52) [] [.ptr o0 0, .ptr o3 0]] T3), (b1, Blk.cells [.v (.int .i64 a0.gOp), .v (.int .i64 a0.gN), .v (.string a0.gName), .lst 5 (a0.gKids.map eTApiExpr) .no, .v (.int .i64 a0.gAt)] 34)], []⟩ : S)) ?_ ?_
    · skip
      exact WkX.of w2 (WkS.perm (WkS.cons rfl (Wk.refl _) (WkS.cons rfl (Wk.refl _) (WkS.cons rfl (Wk.refl _) (WkS.cons rfl (Wk.refl _) (WkS.nil))))) ((perm_at (j := 2) rfl).trans (List.Perm.cons _ ((perm_at (j := 0) rfl).trans (List.Perm.cons _ ((perm_at (j := 0) rfl).trans (List.Perm.cons _ ((perm_at (j := 0) rfl).trans (List.Perm.cons _ ((perm_at (j := 0) rfl).trans (List.Perm.cons _ ((perm_at (j := 0) rfl).trans (List.Perm.cons _ (List.Perm.refl _))))))))))))) (List.Perm.refl _))
    · intro G24 s24 z24 hm
      refine wpD_seq ?_
      refine wpD_region ?_
      refine p_pure htab rfl rfl rfl rfl ?_
      refine ops_nil ?_
      refine then_normal ?_
      refine wpD_seq ?_
      refine wpD_cond rfl (fun hc37 => ?_) (fun hc37 => ?_)
      · replace hm := yes_t hc37 hm
        refine wpD_skip ?_
        refine then_normal ?_
        refine wpD_seq ?_
        refine wpD_block ?_
        refine wpD_seq ?_
        refine wpD_region ?_
        obtain ⟨x38, q38, hm⟩ := yes_bind hm
        refine p_elem htab rfl rfl rfl rfl rfl rfl rfl rfl rfl rfl (idx_nonneg q38) (idx_map q38) ?_
        refine p_eq (i := 14) rfl (Wk.of_eq (congrArg D.el (eTApiExpr_eq x38))) ?_
        refine p_loadEl (d := .agg [.v (.int .i64 x38.gOp), .v (.int .i64 x38.gN), .v (.string x38.gName), .lst 5 (x38.gKids.map eTApiExpr) .no, .v (.int .i64 x38.gAt)]) htab rfl rfl rfl rfl rfl rfl rfl rfl ?_
        refine p_alloc htab rfl rfl rfl rfl rfl rfl rfl (fun b39 => ?_)
        refine p_store (ds' := [.v (.int .i64 x38.gOp), .v (.int .i64 x38.gN), .v (.string x38.gName), .lst 5 (x38.gKids.map eTApiExpr) .no, .v (.int .i64 x38.gAt)]) (h' := [(0, Blk.row 1 (s24.2.map eStr) (SL z24)), (o1, Blk.cells [.fn (.func 32) [] [.ptr o2 0]] T1), (o2, Blk.cells [.v (SL z24)] T2), (o0, Blk.cells [.fn (.func 36) [] [.ptr o1 0]] T0), (o3, Blk.cells [.fn (.func 52) [] [.ptr o0 0, .ptr o3 0]] T3), (b1, Blk.cells [.v (.int .i64 a0.gOp), .v (.int .i64 a0.gN), .v (.string a0.gName), .lst 5 (a0.gKids.map eTApiExpr) .no, .v (.int .i64 a0.gAt)] 34), (b39, Blk.cells [.v (.int .i64 x38.gOp), .v (.int .i64 x38.gN), .v (.string x38.gName), .lst 5 (x38.gKids.map eTApiExpr) .no, .v (.int .i64 x38.gAt)] 34)]) 6 htab rfl rfl rfl rfl rfl rfl rfl rfl rfl rfl rfl rfl ?_
        refine ops_nil ?_
        refine then_normal ?_
        refine wpD_region ?_
        refine p_load 4 htab rfl rfl rfl rfl rfl rfl rfl rfl ?_
        refine p_load (d := .agg [.v (.int .i64 x38.gOp), .v (.int .i64 x38.gN), .v (.string x38.gName), .lst 5 (x38.gKids.map eTApiExpr) .no, .v (.int .i64 x38.gAt)]) 6 htab rfl rfl rfl rfl rfl rfl rfl rfl ?_
        obtain ⟨x41, q41, hm⟩ := yes_bind hm
        refine p_callV (hg0 x38 (⟨s24.2⟩ : TTreeBagString) o0 T0 o1 T1 o2 T2 z24 o3 T3 x41 q41) rfl rfl rfl rfl rfl rfl rfl (WkL.cons (Wk.trans (Wk.agg (WkR.refl _)) (Wk.of_eq (eTApiExpr_eq x38).symm)) (WkL.cons (Wk.refl _) (WkL.cons (Wk.refl _) (WkL.refl _)))) ((perm_at (j := 3) rfl).trans (List.Perm.cons _ ((perm_at (j := 1) rfl).trans (List.Perm.cons _ ((perm_at (j := 1) rfl).trans (List.Perm.cons _ ((perm_at (j := 1) rfl).trans (List.Perm.cons _ ((perm_at (j := 0) rfl).trans (List.Perm.cons _ (List.Perm.refl _))))))))))) (List.Perm.refl _) ?_
        rintro _ _ _ ⟨w40, rfl, rfl, rfl⟩
        refine ops_nil ?_
        refine block_normal ?_
        refine then_normal ?_
        refine wpD_region ?_
        refine p_pure htab rfl rfl rfl rfl ?_
        refine p_pure htab rfl rfl rfl rfl ?_
        refine ops_nil ?_
        refine then_normal ⟨_, lp_next hm, ?_⟩
        exact WkX.of w40 (WkS.perm (WkS.cons rfl (Wk.refl _) (WkS.cons rfl (Wk.refl _) (WkS.cons rfl (Wk.refl _) (WkS.cons rfl (Wk.refl _) (WkS.nil))))) ((perm_at (j := 4) rfl).trans (List.Perm.cons _ ((perm_at (j := 1) rfl).trans (List.Perm.cons _ ((perm_at (j := 1) rfl).trans (List.Perm.cons _ ((perm_at (j := 0) rfl).trans (List.Perm.cons _ ((perm_at (j := 0) rfl).trans (List.Perm.cons _ ((perm_at (j := 0) rfl).trans (List.Perm.cons _ (List.Perm.refl _))))))))))))) (List.Perm.refl _))
      · replace hm := yes_f hc37 hm
        refine wpD_exit ?_
        refine then_exit ?_
        have e24 := lp_done hm; subst e24; clear hm; have hm := hq24
        refine then_exit ?_
        refine block_hit ?_
        have e23 := yes_eq hm; subst e23
        refine ⟨rfl, ?_⟩
        exact WkX.of z24 (WkS.perm (WkS.nil) (List.Perm.refl _) (List.Perm.refl _))
  · intro s23 hw23; clear hm; have hm := ho23; clear q23 ho23
    refine retX.wkX hw23 (fun z23 => ?_)
    have er42 := yes_eq hm; subst er42
    refine retX.of (s' := ⟨[], [(o0, Blk.cells [.fn (.func 36) [] [.ptr o1 0]] T0), (o1, Blk.cells [.fn (.func 32) [] [.ptr o2 0]] T1), (o2, Blk.cells [.v (SL z23)] T2), (o3, Blk.cells [.fn (.func 52) [] [.ptr o0 0, .ptr o3 0]] T3), (0, Blk.row 1 (y23.map eStr) (SL z23))], []⟩) (WkS.perm (WkS.nil) ((perm_at (j := 3) rfl).trans (List.Perm.cons _ ((perm_at (j := 1) rfl).trans (List.Perm.cons _ ((perm_at (j := 1) rfl).trans (List.Perm.cons _ ((perm_at (j := 1) rfl).trans (List.Perm.cons _ ((perm_at (j := 0) rfl).trans (List.Perm.cons _ (List.Perm.refl _))))))))))) (List.Perm.refl _)) (retD_mk (hh := [(o0, Blk.cells [.fn (.func 36) [] [.ptr o1 0]] T0), (o1, Blk.cells [.fn (.func 32) [] [.ptr o2 0]] T1), (o2, Blk.cells [.v (SL z23)] T2), (o3, Blk.cells [.fn (.func 52) [] [.ptr o0 0, .ptr o3 0]] T3), (0, Blk.row 1 (y23.map eStr) (SL z23))]) (.inr rfl) (resL_nil) (List.Sublist.refl _) (List.Sublist.refl _) ?_)
    exact ⟨z23, rfl, rfl, rfl⟩
noncomputable def tree_walk_1_r_g : Nat → ((TApiExpr) → (TTreeBagString) → Option (TTreeBagString))
  | 0 => (fun _ _ => none)
  | n + 1 => (tree_walk_1_r_b ((tree_walk_1_r_g n)))
theorem tree_walk_1_r_g_ok : ∀ n, (∀ (a0 : TApiExpr) (m2 : TTreeBagString) (o0 : Nat) (T0 : TypeId) (o1 : Nat) (T1 : TypeId) (o2 : Nat) (T2 : TypeId) (z2_0 : Z3) (o3 : Nat) (T3 : TypeId) (r : TTreeBagString) (h0 : (tree_walk_1_r_g n) a0 m2 = some r), CallsD Try.prog 52 [eTApiExpr a0, .ptr o0 0, .ptr o3 0] [(o0, Blk.cells [.fn (.func 36) [] [.ptr o1 0]] T0), (o1, Blk.cells [.fn (.func 32) [] [.ptr o2 0]] T1), (o2, Blk.cells [.v (SL z2_0)] T2), (o3, Blk.cells [.fn (.func 52) [] [.ptr o0 0, .ptr o3 0]] T3), (0, Blk.row 1 (m2.gL.map eStr) (SL z2_0))] [] (fun d h k => ∃ y0, d = .tup [] ∧ h = [(o0, Blk.cells [.fn (.func 36) [] [.ptr o1 0]] T0), (o1, Blk.cells [.fn (.func 32) [] [.ptr o2 0]] T1), (o2, Blk.cells [.v (SL y0)] T2), (o3, Blk.cells [.fn (.func 52) [] [.ptr o0 0, .ptr o3 0]] T3), (0, Blk.row 1 (r.gL.map eStr) (SL y0))] ∧ k = []))
  | 0 => fun _ _ _ _ _ _ _ _ _ _ _ _ h0 => by cases h0
  | n + 1 => by
    have ih := tree_walk_1_r_g_ok n
    exact tree_walk_1_r_b_ok (tree_walk_1_r_g n) ih
theorem tree_walk_1_r_g_le : ∀ n, (∀ (a0 : TApiExpr) (m2 : TTreeBagString), Le ((tree_walk_1_r_g n) a0 m2) ((tree_walk_1_r_g (n + 1)) a0 m2))
  | 0 => fun _ _ => Le.none _
  | n + 1 => by
    have ih := tree_walk_1_r_g_le n
    exact fun a0 m2 => by show Le (tree_walk_1_r_b ((tree_walk_1_r_g n)) a0 m2) (tree_walk_1_r_b ((tree_walk_1_r_g (n + 1))) a0 m2); unfold tree_walk_1_r_b; repeat (first | exact Le.refl _ | exact ih _ _ | assumption | (refine Le.bind ?_ (fun _ => ?_)) | (refine Le.cond ?_ ?_) | (refine Le.loop (fun _ => ?_)) | (refine Le.elim (fun _ => ?_) (fun _ => ?_)))
noncomputable def tree_walk_1_r (a0 : TApiExpr) (m2 : TTreeBagString) : Option (TTreeBagString) := anyN fun n => (tree_walk_1_r_g n) a0 m2
theorem tree_walk_1_r_of (a0 : TApiExpr) (m2 : TTreeBagString) {r : TTreeBagString} (n : Nat) (h : (tree_walk_1_r_g n) a0 m2 = some r) : tree_walk_1_r a0 m2 = some r := anyN_of (fun m => (tree_walk_1_r_g_le m) a0 m2) h
theorem tree_walk_1_r_ok (a0 : TApiExpr) (m2 : TTreeBagString) (o0 : Nat) (T0 : TypeId) (o1 : Nat) (T1 : TypeId) (o2 : Nat) (T2 : TypeId) (z2_0 : Z3) (o3 : Nat) (T3 : TypeId) (r : TTreeBagString) (h0 : tree_walk_1_r a0 m2 = some r) : CallsD Try.prog 52 [eTApiExpr a0, .ptr o0 0, .ptr o3 0] [(o0, Blk.cells [.fn (.func 36) [] [.ptr o1 0]] T0), (o1, Blk.cells [.fn (.func 32) [] [.ptr o2 0]] T1), (o2, Blk.cells [.v (SL z2_0)] T2), (o3, Blk.cells [.fn (.func 52) [] [.ptr o0 0, .ptr o3 0]] T3), (0, Blk.row 1 (m2.gL.map eStr) (SL z2_0))] [] (fun d h k => ∃ y0, d = .tup [] ∧ h = [(o0, Blk.cells [.fn (.func 36) [] [.ptr o1 0]] T0), (o1, Blk.cells [.fn (.func 32) [] [.ptr o2 0]] T1), (o2, Blk.cells [.v (SL y0)] T2), (o3, Blk.cells [.fn (.func 52) [] [.ptr o0 0, .ptr o3 0]] T3), (0, Blk.row 1 (r.gL.map eStr) (SL y0))] ∧ k = []) :=
  let ⟨n, hn⟩ := anyN_inv h0; (tree_walk_1_r_g_ok n) a0 m2 o0 T0 o1 T1 o2 T2 z2_0 o3 T3 r hn
noncomputable def tree_walk_r_b (g0 : (List TApiStmt) → (TTreeBagString) → Option (TTreeBagString)) (a0 : List TApiStmt) (m1 : TTreeBagString) : Option (TTreeBagString) :=
  (Option.bind (α := List ByteArray) (loopM (fun (s147 : Int × List ByteArray) => (bif (decide (s147.1 < (a0.length : Int))) then ((idx a0 s147.1).bind fun x243 => ((tree_Names_2_r x243 (⟨s147.2⟩ : TTreeBagString)).bind fun x246 => (Option.bind (α := List ByteArray) (loopM (fun (s266 : Int × List ByteArray) => (bif (decide (s266.1 < (x243.gExps.length : Int))) then ((idx x243.gExps s266.1).bind fun x280 => ((tree_walk_1_r x280 (⟨s266.2⟩ : TTreeBagString)).bind fun x283 => some (.next ((IntKind.i64.wrap (s266.1 + (1 : Int))), x283.gL)))) else some (.done s266.2))) ((0 : Int), x246.gL)) fun y265 => ((g0 x243.gKids (⟨y265⟩ : TTreeBagString)).bind fun x285 => ((g0 x243.gElse x285).bind fun x287 => some (.next ((IntKind.i64.wrap (s147.1 + (1 : Int))), x287.gL))))))) else some (.done s147.2))) ((0 : Int), m1.gL)) fun y146 => some (⟨y146⟩ : TTreeBagString))
set_option maxRecDepth 100000 in
set_option maxHeartbeats 2000000 in
theorem tree_walk_r_b_ok (g0 : (List TApiStmt) → (TTreeBagString) → Option (TTreeBagString)) (hg0 : ∀ (a0 : List TApiStmt) (m1 : TTreeBagString) (o0 : Nat) (T0 : TypeId) (o1 : Nat) (T1 : TypeId) (z1_0 : Z3) (r : TTreeBagString) (h0 : g0 a0 m1 = some r), CallsD Try.prog 34 [.lst 7 (a0.map eTApiStmt) .no, .fn (.func 35) [] [.ptr o0 0], .fn (.func 36) [] [.ptr o0 0]] [(o0, Blk.cells [.fn (.func 32) [] [.ptr o1 0]] T0), (o1, Blk.cells [.v (SL z1_0)] T1), (0, Blk.row 1 (m1.gL.map eStr) (SL z1_0))] [] (fun d h k => ∃ y0, d = .tup [] ∧ h = [(o0, Blk.cells [.fn (.func 32) [] [.ptr o1 0]] T0), (o1, Blk.cells [.v (SL y0)] T1), (0, Blk.row 1 (r.gL.map eStr) (SL y0))] ∧ k = [])) (a0 : List TApiStmt) (m1 : TTreeBagString) (o0 : Nat) (T0 : TypeId) (o1 : Nat) (T1 : TypeId) (z1_0 : Z3) (r : TTreeBagString) (h0 : tree_walk_r_b g0 a0 m1 = some r) : CallsD Try.prog 34 [.lst 7 (a0.map eTApiStmt) .no, .fn (.func 35) [] [.ptr o0 0], .fn (.func 36) [] [.ptr o0 0]] [(o0, Blk.cells [.fn (.func 32) [] [.ptr o1 0]] T0), (o1, Blk.cells [.v (SL z1_0)] T1), (0, Blk.row 1 (m1.gL.map eStr) (SL z1_0))] [] (fun d h k => ∃ y0, d = .tup [] ∧ h = [(o0, Blk.cells [.fn (.func 32) [] [.ptr o1 0]] T0), (o1, Blk.cells [.v (SL y0)] T1), (0, Blk.row 1 (r.gL.map eStr) (SL y0))] ∧ k = []) := by
  have hm := yes_of h0
  unfold tree_walk_r_b at hm
  clear h0
  refine enterX htab Try.func34 rfl rfl rfl rfl rfl (fun C => ?_)
  refine wpD_seq ?_
  refine wpD_region ?_
  refine p_box rfl rfl rfl rfl rfl rfl rfl (fun b1 => ?_)
  refine ops_nil ?_
  refine then_normal ?_
  refine wpD_seq ?_
  refine wpD_region ?_
  refine p_alloc htab rfl rfl rfl rfl rfl rfl rfl (fun b2 => ?_)
  refine ops_nil ?_
  refine then_normal ?_
  refine wpD_seq ?_
  refine wpD_region ?_
  refine p_pure htab rfl rfl rfl rfl ?_
  refine p_store (ds' := [.fn (.func 52) [] [.ptr b1 0, .ptr b2 0]]) (h' := [(o0, Blk.cells [.fn (.func 32) [] [.ptr o1 0]] T0), (o1, Blk.cells [.v (SL z1_0)] T1), (0, Blk.row 1 (m1.gL.map eStr) (SL z1_0)), (b1, Blk.cells [.fn (.func 36) [] [.ptr o0 0]] 58), (b2, Blk.cells [.fn (.func 52) [] [.ptr b1 0, .ptr b2 0]] 58)]) 4 htab rfl rfl rfl rfl rfl rfl rfl rfl rfl rfl rfl rfl ?_
  refine ops_nil ?_
  refine then_normal ?_
  refine wpD_seq ?_
  refine wpD_region ?_
  refine p_pure htab rfl rfl rfl rfl ?_
  refine p_lenL htab rfl rfl rfl rfl rfl rfl rfl (by first | exact map_len | rfl) ?_
  refine p_pure htab rfl rfl rfl rfl ?_
  refine ops_nil ?_
  refine then_normal ?_
  obtain ⟨y146, q146, ho146⟩ := yes_bind hm
  refine wpD_mid (Y := Z3) (fun z146 => (⟨[], [(0, Blk.row 1 (y146.map eStr) (SL z146)), (o0, Blk.cells [.fn (.func 32) [] [.ptr o1 0]] T0), (o1, Blk.cells [.v (SL z146)] T1), (b1, Blk.cells [.fn (.func 36) [] [.ptr o0 0]] 58), (b2, Blk.cells [.fn (.func 52) [] [.ptr b1 0, .ptr b2 0]] 58)], []⟩ : S)) ?_ ?_
  · clear hm; have hm := yes_of q146
    refine wpD_block ?_
    obtain ⟨u147, hl147, hq147⟩ := yes_m hm
    refine loop_M (Y := Z3) hl147 (fun s147 z147 => (⟨[(1, .fn (.func 35) [] [.ptr o0 0]), (5, .ptr b1 0), (6, .ptr b2 0), (12, .lst 7 (a0.map eTApiStmt) .no), (13, .v (.int .i64 (a0.length : Int))), (14, .v (.int .i64 s147.1))], [(0, Blk.row 1 (s147.2.map eStr) (SL z147)), (o0, Blk.cells [.fn (.func 32) [] [.ptr o1 0]] T0), (o1, Blk.cells [.v (SL z147)] T1), (b1, Blk.cells [.fn (.func 36) [] [.ptr o0 0]] 58), (b2, Blk.cells [.fn (.func 52) [] [.ptr b1 0, .ptr b2 0]] 58)], []⟩ : S)) ?_ ?_
    · skip
      exact WkX.of z1_0 (WkS.perm (WkS.cons rfl (Wk.refl _) (WkS.cons rfl (Wk.refl _) (WkS.cons rfl (Wk.refl _) (WkS.cons rfl (Wk.refl _) (WkS.cons rfl (Wk.refl _) (WkS.cons rfl (Wk.refl _) (WkS.nil))))))) ((perm_at (j := 2) rfl).trans (List.Perm.cons _ ((perm_at (j := 0) rfl).trans (List.Perm.cons _ ((perm_at (j := 0) rfl).trans (List.Perm.cons _ ((perm_at (j := 0) rfl).trans (List.Perm.cons _ ((perm_at (j := 0) rfl).trans (List.Perm.cons _ (List.Perm.refl _))))))))))) (List.Perm.refl _))
    · intro G147 s147 z147 hm
      refine wpD_seq ?_
      refine wpD_region ?_
      refine p_pure htab rfl rfl rfl rfl ?_
      refine ops_nil ?_
      refine then_normal ?_
      refine wpD_seq ?_
      refine wpD_cond rfl (fun hc242 => ?_) (fun hc242 => ?_)
      · replace hm := yes_t hc242 hm
        refine wpD_skip ?_
        refine then_normal ?_
        refine wpD_seq ?_
        refine wpD_block ?_
        refine wpD_seq ?_
        refine wpD_region ?_
        obtain ⟨x243, q243, hm⟩ := yes_bind hm
        refine p_elem htab rfl rfl rfl rfl rfl rfl rfl rfl rfl rfl (idx_nonneg q243) (idx_map q243) ?_
        refine p_eq (i := 16) rfl (Wk.of_eq (congrArg D.el (eTApiStmt_eq x243))) ?_
        refine p_loadEl (d := .agg [.v (.int .i64 x243.gOp), .v (.string x243.gName), .v (.string x243.gFunc), .lst 5 (x243.gExps.map eTApiExpr) .no, .lst 7 (x243.gKids.map eTApiStmt) .no, .lst 7 (x243.gElse.map eTApiStmt) .no, .v (.int .i64 x243.gAt)]) htab rfl rfl rfl rfl rfl rfl rfl rfl ?_
        refine p_alloc htab rfl rfl rfl rfl rfl rfl rfl (fun b244 => ?_)
        refine p_store (ds' := [.v (.int .i64 x243.gOp), .v (.string x243.gName), .v (.string x243.gFunc), .lst 5 (x243.gExps.map eTApiExpr) .no, .lst 7 (x243.gKids.map eTApiStmt) .no, .lst 7 (x243.gElse.map eTApiStmt) .no, .v (.int .i64 x243.gAt)]) (h' := [(0, Blk.row 1 (s147.2.map eStr) (SL z147)), (o0, Blk.cells [.fn (.func 32) [] [.ptr o1 0]] T0), (o1, Blk.cells [.v (SL z147)] T1), (b1, Blk.cells [.fn (.func 36) [] [.ptr o0 0]] 58), (b2, Blk.cells [.fn (.func 52) [] [.ptr b1 0, .ptr b2 0]] 58), (b244, Blk.cells [.v (.int .i64 x243.gOp), .v (.string x243.gName), .v (.string x243.gFunc), .lst 5 (x243.gExps.map eTApiExpr) .no, .lst 7 (x243.gKids.map eTApiStmt) .no, .lst 7 (x243.gElse.map eTApiStmt) .no, .v (.int .i64 x243.gAt)] 56)]) 5 htab rfl rfl rfl rfl rfl rfl rfl rfl rfl rfl rfl rfl ?_
        refine ops_nil ?_
        refine then_normal ?_
        refine wpD_seq ?_
        refine wpD_region ?_
        refine p_pure htab rfl rfl rfl rfl ?_
        refine p_load (d := .agg [.v (.int .i64 x243.gOp), .v (.string x243.gName), .v (.string x243.gFunc), .lst 5 (x243.gExps.map eTApiExpr) .no, .lst 7 (x243.gKids.map eTApiStmt) .no, .lst 7 (x243.gElse.map eTApiStmt) .no, .v (.int .i64 x243.gAt)]) 5 htab rfl rfl rfl rfl rfl rfl rfl rfl ?_
        obtain ⟨x246, q246, hm⟩ := yes_bind hm
        refine p_callV (tree_Names_2_r_ok x243 (⟨s147.2⟩ : TTreeBagString) o0 T0 o1 T1 z147 x246 q246) rfl rfl rfl rfl rfl rfl rfl (WkL.cons (Wk.trans (Wk.agg (WkR.refl _)) (Wk.of_eq (eTApiStmt_eq x243).symm)) (WkL.cons (Wk.refl _) (WkL.refl _))) ((perm_at (j := 1) rfl).trans (List.Perm.cons _ ((perm_at (j := 1) rfl).trans (List.Perm.cons _ ((perm_at (j := 0) rfl).trans (List.Perm.cons _ (List.Perm.refl _))))))) (List.Perm.refl _) ?_
        rintro _ _ _ ⟨w245, rfl, rfl, rfl⟩
        refine ops_nil ?_
        refine then_normal ?_
        refine wpD_seq ?_
        refine wpD_seq ?_
        refine wpD_region ?_
        refine p_pure htab rfl rfl rfl rfl ?_
        refine p_load 5 htab rfl rfl rfl rfl rfl rfl rfl rfl ?_
        refine p_lenL htab rfl rfl rfl rfl rfl rfl rfl (by first | exact map_len | rfl) ?_
        refine p_pure htab rfl rfl rfl rfl ?_
        refine ops_nil ?_
        refine then_normal ?_
        obtain ⟨y265, q265, ho265⟩ := yes_bind hm
        refine wpD_mid (Y := Z3) (fun z265 => (⟨[(1, .fn (.func 35) [] [.ptr o0 0]), (5, .ptr b1 0), (6, .ptr b2 0), (8, .ptr b244 0), (12, .lst 7 (a0.map eTApiStmt) .no), (13, .v (.int .i64 (a0.length : Int))), (14, .v (.int .i64 s147.1))], [(0, Blk.row 1 (y265.map eStr) (SL z265)), (o0, Blk.cells [.fn (.func 32) [] [.ptr o1 0]] T0), (o1, Blk.cells [.v (SL z265)] T1), (b1, Blk.cells [.fn (.func 36) [] [.ptr o0 0]] 58), (b2, Blk.cells [.fn (.func 52) [] [.ptr b1 0, .ptr b2 0]] 58), (b244, Blk.cells [.v (.int .i64 x243.gOp), .v (.string x243.gName), .v (.string x243.gFunc), .lst 5 (x243.gExps.map eTApiExpr) .no, .lst 7 (x243.gKids.map eTApiStmt) .no, .lst 7 (x243.gElse.map eTApiStmt) .no, .v (.int .i64 x243.gAt)] 56)], []⟩ : S)) ?_ ?_
        · clear hm; have hm := yes_of q265
          refine wpD_block ?_
          obtain ⟨u266, hl266, hq266⟩ := yes_m hm
          refine loop_M (Y := Z3) hl266 (fun s266 z266 => (⟨[(1, .fn (.func 35) [] [.ptr o0 0]), (5, .ptr b1 0), (6, .ptr b2 0), (8, .ptr b244 0), (12, .lst 7 (a0.map eTApiStmt) .no), (13, .v (.int .i64 (a0.length : Int))), (14, .v (.int .i64 s147.1)), (22, .lst 5 (x243.gExps.map eTApiExpr) .no), (23, .v (.int .i64 (x243.gExps.length : Int))), (24, .v (.int .i64 s266.1))], [(0, Blk.row 1 (s266.2.map eStr) (SL z266)), (o0, Blk.cells [.fn (.func 32) [] [.ptr o1 0]] T0), (o1, Blk.cells [.v (SL z266)] T1), (b1, Blk.cells [.fn (.func 36) [] [.ptr o0 0]] 58), (b2, Blk.cells [.fn (.func 52) [] [.ptr b1 0, .ptr b2 0]] 58), (b244, Blk.cells [.v (.int .i64 x243.gOp), .v (.string x243.gName), .v (.string x243.gFunc), .lst 5 (x243.gExps.map eTApiExpr) .no, .lst 7 (x243.gKids.map eTApiStmt) .no, .lst 7 (x243.gElse.map eTApiStmt) .no, .v (.int .i64 x243.gAt)] 56)], []⟩ : S)) ?_ ?_
          · skip
            exact WkX.of w245 (WkS.perm (WkS.cons rfl (Wk.refl _) (WkS.cons rfl (Wk.refl _) (WkS.cons rfl (Wk.refl _) (WkS.cons rfl (Wk.refl _) (WkS.cons rfl (Wk.refl _) (WkS.cons rfl (Wk.refl _) (WkS.cons rfl (Wk.refl _) (WkS.cons rfl (Wk.refl _) (WkS.cons rfl (Wk.refl _) (WkS.cons rfl (Wk.refl _) (WkS.nil))))))))))) ((perm_at (j := 2) rfl).trans (List.Perm.cons _ ((perm_at (j := 0) rfl).trans (List.Perm.cons _ ((perm_at (j := 0) rfl).trans (List.Perm.cons _ ((perm_at (j := 0) rfl).trans (List.Perm.cons _ ((perm_at (j := 0) rfl).trans (List.Perm.cons _ ((perm_at (j := 0) rfl).trans (List.Perm.cons _ (List.Perm.refl _))))))))))))) (List.Perm.refl _))
          · intro G266 s266 z266 hm
            refine wpD_seq ?_
            refine wpD_region ?_
            refine p_pure htab rfl rfl rfl rfl ?_
            refine ops_nil ?_
            refine then_normal ?_
            refine wpD_seq ?_
            refine wpD_cond rfl (fun hc279 => ?_) (fun hc279 => ?_)
            · replace hm := yes_t hc279 hm
              refine wpD_skip ?_
              refine then_normal ?_
              refine wpD_seq ?_
              refine wpD_block ?_
              refine wpD_seq ?_
              refine wpD_region ?_
              obtain ⟨x280, q280, hm⟩ := yes_bind hm
              refine p_elem htab rfl rfl rfl rfl rfl rfl rfl rfl rfl rfl (idx_nonneg q280) (idx_map q280) ?_
              refine p_eq (i := 26) rfl (Wk.of_eq (congrArg D.el (eTApiExpr_eq x280))) ?_
              refine p_loadEl (d := .agg [.v (.int .i64 x280.gOp), .v (.int .i64 x280.gN), .v (.string x280.gName), .lst 5 (x280.gKids.map eTApiExpr) .no, .v (.int .i64 x280.gAt)]) htab rfl rfl rfl rfl rfl rfl rfl rfl ?_
              refine p_alloc htab rfl rfl rfl rfl rfl rfl rfl (fun b281 => ?_)
              refine p_store (ds' := [.v (.int .i64 x280.gOp), .v (.int .i64 x280.gN), .v (.string x280.gName), .lst 5 (x280.gKids.map eTApiExpr) .no, .v (.int .i64 x280.gAt)]) (h' := [(0, Blk.row 1 (s266.2.map eStr) (SL z266)), (o0, Blk.cells [.fn (.func 32) [] [.ptr o1 0]] T0), (o1, Blk.cells [.v (SL z266)] T1), (b1, Blk.cells [.fn (.func 36) [] [.ptr o0 0]] 58), (b2, Blk.cells [.fn (.func 52) [] [.ptr b1 0, .ptr b2 0]] 58), (b244, Blk.cells [.v (.int .i64 x243.gOp), .v (.string x243.gName), .v (.string x243.gFunc), .lst 5 (x243.gExps.map eTApiExpr) .no, .lst 7 (x243.gKids.map eTApiStmt) .no, .lst 7 (x243.gElse.map eTApiStmt) .no, .v (.int .i64 x243.gAt)] 56), (b281, Blk.cells [.v (.int .i64 x280.gOp), .v (.int .i64 x280.gN), .v (.string x280.gName), .lst 5 (x280.gKids.map eTApiExpr) .no, .v (.int .i64 x280.gAt)] 34)]) 6 htab rfl rfl rfl rfl rfl rfl rfl rfl rfl rfl rfl rfl ?_
              refine ops_nil ?_
              refine then_normal ?_
              refine wpD_region ?_
              refine p_load 4 htab rfl rfl rfl rfl rfl rfl rfl rfl ?_
              refine p_load (d := .agg [.v (.int .i64 x280.gOp), .v (.int .i64 x280.gN), .v (.string x280.gName), .lst 5 (x280.gKids.map eTApiExpr) .no, .v (.int .i64 x280.gAt)]) 6 htab rfl rfl rfl rfl rfl rfl rfl rfl ?_
              obtain ⟨x283, q283, hm⟩ := yes_bind hm
              refine p_callV (tree_walk_1_r_ok x280 (⟨s266.2⟩ : TTreeBagString) b1 58 o0 T0 o1 T1 z266 b2 58 x283 q283) rfl rfl rfl rfl rfl rfl rfl (WkL.cons (Wk.trans (Wk.agg (WkR.refl _)) (Wk.of_eq (eTApiExpr_eq x280).symm)) (WkL.cons (Wk.refl _) (WkL.cons (Wk.refl _) (WkL.refl _)))) ((perm_at (j := 3) rfl).trans (List.Perm.cons _ ((perm_at (j := 1) rfl).trans (List.Perm.cons _ ((perm_at (j := 1) rfl).trans (List.Perm.cons _ ((perm_at (j := 1) rfl).trans (List.Perm.cons _ ((perm_at (j := 0) rfl).trans (List.Perm.cons _ (List.Perm.refl _))))))))))) (List.Perm.refl _) ?_
              rintro _ _ _ ⟨w282, rfl, rfl, rfl⟩
              refine ops_nil ?_
              refine block_normal ?_
              refine then_normal ?_
              refine wpD_region ?_
              refine p_pure htab rfl rfl rfl rfl ?_
              refine p_pure htab rfl rfl rfl rfl ?_
              refine ops_nil ?_
              refine then_normal ⟨_, lp_next hm, ?_⟩
              exact WkX.of w282 (WkS.perm (WkS.cons rfl (Wk.refl _) (WkS.cons rfl (Wk.refl _) (WkS.cons rfl (Wk.refl _) (WkS.cons rfl (Wk.refl _) (WkS.cons rfl (Wk.refl _) (WkS.cons rfl (Wk.refl _) (WkS.cons rfl (Wk.refl _) (WkS.cons rfl (Wk.refl _) (WkS.cons rfl (Wk.refl _) (WkS.cons rfl (Wk.refl _) (WkS.nil))))))))))) ((perm_at (j := 4) rfl).trans (List.Perm.cons _ ((perm_at (j := 1) rfl).trans (List.Perm.cons _ ((perm_at (j := 1) rfl).trans (List.Perm.cons _ ((perm_at (j := 0) rfl).trans (List.Perm.cons _ ((perm_at (j := 0) rfl).trans (List.Perm.cons _ ((perm_at (j := 0) rfl).trans (List.Perm.cons _ (List.Perm.refl _))))))))))))) (List.Perm.refl _))
            · replace hm := yes_f hc279 hm
              refine wpD_exit ?_
              refine then_exit ?_
              have e266 := lp_done hm; subst e266; clear hm; have hm := hq266
              refine then_exit ?_
              refine block_hit ?_
              have e265 := yes_eq hm; subst e265
              refine ⟨rfl, ?_⟩
              exact WkX.of z266 (WkS.perm (WkS.cons rfl (Wk.refl _) (WkS.cons rfl (Wk.refl _) (WkS.cons rfl (Wk.refl _) (WkS.cons rfl (Wk.refl _) (WkS.cons rfl (Wk.refl _) (WkS.cons rfl (Wk.refl _) (WkS.cons rfl (Wk.refl _) (WkS.nil)))))))) (List.Perm.refl _) (List.Perm.refl _))
        · intro s265 hw265; clear hm; have hm := ho265; clear q265 ho265
          refine then_normal ?_
          refine wpD_wkX hw265 (fun z265 => ?_)
          refine wpD_seq ?_
          refine wpD_region ?_
          refine p_pure htab rfl rfl rfl rfl ?_
          refine p_load 5 htab rfl rfl rfl rfl rfl rfl rfl rfl ?_
          refine p_pure htab rfl rfl rfl rfl ?_
          refine p_load 3 htab rfl rfl rfl rfl rfl rfl rfl rfl ?_
          obtain ⟨x285, q285, hm⟩ := yes_bind hm
          refine p_callG (hg0 x243.gKids (⟨y265⟩ : TTreeBagString) o0 T0 o1 T1 z265 x285 q285) rfl rfl rfl rfl rfl (WkL.refl _) ((perm_at (j := 1) rfl).trans (List.Perm.cons _ ((perm_at (j := 1) rfl).trans (List.Perm.cons _ ((perm_at (j := 0) rfl).trans (List.Perm.cons _ (List.Perm.refl _))))))) (List.Perm.refl _) ?_
          rintro _ _ _ ⟨w284, rfl, rfl, rfl⟩
          refine ops_nil ?_
          refine then_normal ?_
          refine wpD_region ?_
          refine p_pure htab rfl rfl rfl rfl ?_
          refine p_load 5 htab rfl rfl rfl rfl rfl rfl rfl rfl ?_
          refine p_pure htab rfl rfl rfl rfl ?_
          refine p_load 3 htab rfl rfl rfl rfl rfl rfl rfl rfl ?_
          obtain ⟨x287, q287, hm⟩ := yes_bind hm
          refine p_callG (hg0 x243.gElse x285 o0 T0 o1 T1 w284 x287 q287) rfl rfl rfl rfl rfl (WkL.refl _) (List.Perm.refl _) (List.Perm.refl _) ?_
          rintro _ _ _ ⟨w286, rfl, rfl, rfl⟩
          refine ops_nil ?_
          refine block_normal ?_
          refine then_normal ?_
          refine wpD_region ?_
          refine p_pure htab rfl rfl rfl rfl ?_
          refine p_pure htab rfl rfl rfl rfl ?_
          refine ops_nil ?_
          refine then_normal ⟨_, lp_next hm, ?_⟩
          exact WkX.of w286 (WkS.perm (WkS.cons rfl (Wk.refl _) (WkS.cons rfl (Wk.refl _) (WkS.cons rfl (Wk.refl _) (WkS.cons rfl (Wk.refl _) (WkS.cons rfl (Wk.refl _) (WkS.cons rfl (Wk.refl _) (WkS.nil))))))) ((perm_at (j := 2) rfl).trans (List.Perm.cons _ ((perm_at (j := 0) rfl).trans (List.Perm.cons _ ((perm_at (j := 0) rfl).trans (List.Perm.cons _ ((perm_at (j := 0) rfl).trans (List.Perm.cons _ ((perm_at (j := 0) rfl).trans (List.Perm.cons _ (List.Perm.refl _))))))))))) (List.Perm.refl _))
      · replace hm := yes_f hc242 hm
        refine wpD_exit ?_
        refine then_exit ?_
        have e147 := lp_done hm; subst e147; clear hm; have hm := hq147
        refine then_exit ?_
        refine block_hit ?_
        have e146 := yes_eq hm; subst e146
        refine ⟨rfl, ?_⟩
        exact WkX.of z147 (WkS.perm (WkS.nil) (List.Perm.refl _) (List.Perm.refl _))
  · intro s146 hw146; clear hm; have hm := ho146; clear q146 ho146
    refine retX.wkX hw146 (fun z146 => ?_)
    have er288 := yes_eq hm; subst er288
    refine retX.of (s' := ⟨[], [(o0, Blk.cells [.fn (.func 32) [] [.ptr o1 0]] T0), (o1, Blk.cells [.v (SL z146)] T1), (0, Blk.row 1 (y146.map eStr) (SL z146))], []⟩) (WkS.perm (WkS.nil) ((perm_at (j := 1) rfl).trans (List.Perm.cons _ ((perm_at (j := 1) rfl).trans (List.Perm.cons _ ((perm_at (j := 0) rfl).trans (List.Perm.cons _ (List.Perm.refl _))))))) (List.Perm.refl _)) (retD_mk (hh := [(o0, Blk.cells [.fn (.func 32) [] [.ptr o1 0]] T0), (o1, Blk.cells [.v (SL z146)] T1), (0, Blk.row 1 (y146.map eStr) (SL z146))]) (.inr rfl) (resL_nil) (List.Sublist.refl _) (List.Sublist.refl _) ?_)
    exact ⟨z146, rfl, rfl, rfl⟩
noncomputable def tree_walk_r_g : Nat → ((List TApiStmt) → (TTreeBagString) → Option (TTreeBagString))
  | 0 => (fun _ _ => none)
  | n + 1 => (tree_walk_r_b ((tree_walk_r_g n)))
theorem tree_walk_r_g_ok : ∀ n, (∀ (a0 : List TApiStmt) (m1 : TTreeBagString) (o0 : Nat) (T0 : TypeId) (o1 : Nat) (T1 : TypeId) (z1_0 : Z3) (r : TTreeBagString) (h0 : (tree_walk_r_g n) a0 m1 = some r), CallsD Try.prog 34 [.lst 7 (a0.map eTApiStmt) .no, .fn (.func 35) [] [.ptr o0 0], .fn (.func 36) [] [.ptr o0 0]] [(o0, Blk.cells [.fn (.func 32) [] [.ptr o1 0]] T0), (o1, Blk.cells [.v (SL z1_0)] T1), (0, Blk.row 1 (m1.gL.map eStr) (SL z1_0))] [] (fun d h k => ∃ y0, d = .tup [] ∧ h = [(o0, Blk.cells [.fn (.func 32) [] [.ptr o1 0]] T0), (o1, Blk.cells [.v (SL y0)] T1), (0, Blk.row 1 (r.gL.map eStr) (SL y0))] ∧ k = []))
  | 0 => fun _ _ _ _ _ _ _ _ h0 => by cases h0
  | n + 1 => by
    have ih := tree_walk_r_g_ok n
    exact tree_walk_r_b_ok (tree_walk_r_g n) ih
theorem tree_walk_r_g_le : ∀ n, (∀ (a0 : List TApiStmt) (m1 : TTreeBagString), Le ((tree_walk_r_g n) a0 m1) ((tree_walk_r_g (n + 1)) a0 m1))
  | 0 => fun _ _ => Le.none _
  | n + 1 => by
    have ih := tree_walk_r_g_le n
    exact fun a0 m1 => by show Le (tree_walk_r_b ((tree_walk_r_g n)) a0 m1) (tree_walk_r_b ((tree_walk_r_g (n + 1))) a0 m1); unfold tree_walk_r_b; repeat (first | exact Le.refl _ | exact ih _ _ | assumption | (refine Le.bind ?_ (fun _ => ?_)) | (refine Le.cond ?_ ?_) | (refine Le.loop (fun _ => ?_)) | (refine Le.elim (fun _ => ?_) (fun _ => ?_)))
noncomputable def tree_walk_r (a0 : List TApiStmt) (m1 : TTreeBagString) : Option (TTreeBagString) := anyN fun n => (tree_walk_r_g n) a0 m1
theorem tree_walk_r_of (a0 : List TApiStmt) (m1 : TTreeBagString) {r : TTreeBagString} (n : Nat) (h : (tree_walk_r_g n) a0 m1 = some r) : tree_walk_r a0 m1 = some r := anyN_of (fun m => (tree_walk_r_g_le m) a0 m1) h
theorem tree_walk_r_ok (a0 : List TApiStmt) (m1 : TTreeBagString) (o0 : Nat) (T0 : TypeId) (o1 : Nat) (T1 : TypeId) (z1_0 : Z3) (r : TTreeBagString) (h0 : tree_walk_r a0 m1 = some r) : CallsD Try.prog 34 [.lst 7 (a0.map eTApiStmt) .no, .fn (.func 35) [] [.ptr o0 0], .fn (.func 36) [] [.ptr o0 0]] [(o0, Blk.cells [.fn (.func 32) [] [.ptr o1 0]] T0), (o1, Blk.cells [.v (SL z1_0)] T1), (0, Blk.row 1 (m1.gL.map eStr) (SL z1_0))] [] (fun d h k => ∃ y0, d = .tup [] ∧ h = [(o0, Blk.cells [.fn (.func 32) [] [.ptr o1 0]] T0), (o1, Blk.cells [.v (SL y0)] T1), (0, Blk.row 1 (r.gL.map eStr) (SL y0))] ∧ k = []) :=
  let ⟨n, hn⟩ := anyN_inv h0; (tree_walk_r_g_ok n) a0 m1 o0 T0 o1 T1 z1_0 r hn
noncomputable def tree_Names (a0 : List TApiStmt) : Option (List ByteArray) :=
  ((tree_walk_r a0 (⟨[]⟩ : TTreeBagString)).bind fun x5 => ((tree_bag_string_all x5).bind fun x7 => some x7.1))
set_option maxRecDepth 100000 in
set_option maxHeartbeats 2000000 in
theorem tree_Names_ok (a0 : List TApiStmt) (r : List ByteArray) (h0 : tree_Names a0 = some r) : CallsD Try.prog 8 [.lst 7 (a0.map eTApiStmt) .no] [] [] (fun d h k => ∃ y0, d = .v (SL y0) ∧ h = [(0, Blk.row 1 (r.map eStr) (SL y0))] ∧ k = []) := by
  have hm := yes_of h0
  unfold tree_Names at hm
  clear h0
  refine enterX htab Try.func8 rfl rfl rfl rfl rfl (fun C => ?_)
  refine wpD_seq ?_
  refine wpD_region ?_
  refine p_pure htab rfl rfl rfl rfl ?_
  refine ops_nil ?_
  refine then_normal ?_
  refine wpD_seq ?_
  refine wpD_region ?_
  refine p_alloc htab rfl rfl rfl rfl rfl rfl rfl (fun b1 => ?_)
  refine ops_nil ?_
  refine then_normal ?_
  refine wpD_seq ?_
  refine wpD_region ?_
  refine p_pure htab rfl rfl rfl rfl ?_
  refine p_alloc htab rfl rfl rfl rfl rfl rfl rfl (fun b2 => ?_)
  refine p_store (ds' := [.fn (.func 32) [] [.ptr b1 0]]) (h' := [(b1, Blk.cells [.lst 1 [] .full] 52), (b2, Blk.cells [.fn (.func 32) [] [.ptr b1 0]] 53)]) 1 htab rfl rfl rfl rfl rfl rfl rfl rfl rfl rfl rfl rfl ?_
  refine ops_nil ?_
  refine then_normal ?_
  refine wpD_seq ?_
  refine wpD_region ?_
  refine p_pure htab rfl rfl rfl rfl ?_
  refine p_pure htab rfl rfl rfl rfl ?_
  refine p_pure htab rfl rfl rfl rfl ?_
  refine o_rowC (off := 0) 1 0 rfl rfl (fun w3 => ?_)
  obtain ⟨x5, q5, hm⟩ := yes_bind hm
  refine p_callG (tree_walk_r_ok a0 (⟨[]⟩ : TTreeBagString) b2 53 b1 52 w3 x5 q5) rfl rfl rfl rfl rfl (WkL.refl _) ((perm_at (j := 2) rfl).trans (List.Perm.cons _ ((perm_at (j := 1) rfl).trans (List.Perm.cons _ ((perm_at (j := 0) rfl).trans (List.Perm.cons _ (List.Perm.refl _))))))) (List.Perm.refl _) ?_
  rintro _ _ _ ⟨w4, rfl, rfl, rfl⟩
  refine ops_nil ?_
  refine then_normal ?_
  refine wpD_seq ?_
  refine wpD_region ?_
  obtain ⟨x7, q7, hm⟩ := yes_bind hm
  refine p_callG (tree_bag_string_all_ok x5 b1 52 w4 x7 q7) rfl rfl rfl rfl rfl (WkL.refl _) ((perm_at (j := 1) rfl).trans (List.Perm.cons _ ((perm_at (j := 1) rfl).trans (List.Perm.cons _ (List.Perm.refl _))))) (List.Perm.refl _) ?_
  rintro _ _ _ ⟨w6, rfl, rfl, rfl⟩
  refine p_pure htab rfl rfl rfl rfl ?_
  refine ops_nil ?_
  refine then_normal ?_
  refine wpD_ret ?_
  have er8 := yes_eq hm; subst er8
  refine retX.of (s' := ⟨[(2, .v (SL w6))], [(0, Blk.row 1 (x7.1.map eStr) (SL w6))], []⟩) (WkS.perm (WkS.cons rfl (Wk.refl _) (WkS.nil)) ((perm_at (j := 1) rfl).trans (List.Perm.cons _ (List.Perm.refl _))) (List.Perm.refl _)) (retD_mk (hh := [(0, Blk.row 1 (x7.1.map eStr) (SL w6))]) (.inl rfl) (resL_cons (resOne_tmp rfl) (resL_nil)) (List.Sublist.refl _) (List.Sublist.refl _) ?_)
  exact ⟨w6, rfl, rfl, rfl⟩
noncomputable def r11_Stmts_b (g0 : (List TApiStmt) → Option (List TApiStmt)) (a0 : List TApiStmt) : Option (List TApiStmt) :=
  (Option.bind (α := List TApiStmt) (loopM (fun (s40 : List TApiStmt × Int) => (bif (decide (s40.2 < (a0.length : Int))) then ((idx a0 s40.2).bind fun x67 => ((app 120 s40.1 ([x67] : List TApiStmt)).bind fun x68 => ((idx a0 s40.2).bind fun x69 => ((g0 x69.gKids).bind fun x71 => ((app 120 x68 x71).bind fun x72 => ((idx a0 s40.2).bind fun x73 => ((g0 x73.gElse).bind fun x75 => ((app 120 x72 x75).bind fun x76 => some (.next (x76, (IntKind.i64.wrap (s40.2 + (1 : Int))))))))))))) else some (.done s40.1))) (([] : List TApiStmt), (0 : Int))) fun y39 => some y39)
set_option maxRecDepth 100000 in
set_option maxHeartbeats 2000000 in
theorem r11_Stmts_b_ok (g0 : (List TApiStmt) → Option (List TApiStmt)) (hg0 : ∀ (a0 : List TApiStmt) (r : List TApiStmt) (h0 : g0 a0 = some r), CallsD Try.prog 20 [.lst 7 (a0.map eTApiStmt) .no] [] [] (fun d h k => ∃ y0, d = .lst 7 (r.map eTApiStmt) (.cur y0) ∧ h = [] ∧ k = [(7, y0)])) (a0 : List TApiStmt) (r : List TApiStmt) (h0 : r11_Stmts_b g0 a0 = some r) : CallsD Try.prog 20 [.lst 7 (a0.map eTApiStmt) .no] [] [] (fun d h k => ∃ y0, d = .lst 7 (r.map eTApiStmt) (.cur y0) ∧ h = [] ∧ k = [(7, y0)]) := by
  have hm := yes_of h0
  unfold r11_Stmts_b at hm
  clear h0
  refine enterX htab Try.func20 rfl rfl rfl rfl rfl (fun C => ?_)
  refine wpD_seq ?_
  refine wpD_region ?_
  refine p_pure htab rfl rfl rfl rfl ?_
  refine ops_nil ?_
  refine then_normal ?_
  refine wpD_seq ?_
  refine wpD_region ?_
  refine p_pure htab rfl rfl rfl rfl ?_
  refine ops_nil ?_
  refine then_normal ?_
  refine wpD_seq ?_
  refine wpD_seq ?_
  refine wpD_region ?_
  refine p_pure htab rfl rfl rfl rfl ?_
  refine ops_nil ?_
  refine then_normal ?_
  obtain ⟨y39, q39, ho39⟩ := yes_bind hm
  refine wpD_mid (Y := Value) (fun z39 => (⟨[(3, .lst 7 (y39.map eTApiStmt) (.cur z39))], [], [(7, z39)]⟩ : S)) ?_ ?_
  · clear hm; have hm := yes_of q39
    refine wpD_block ?_
    obtain ⟨u40, hl40, hq40⟩ := yes_m hm
    refine loop_M (Y := Value) hl40 (fun s40 z40 => (⟨[(0, .lst 7 (a0.map eTApiStmt) .no), (3, .lst 7 (s40.1.map eTApiStmt) (.cur z40)), (4, .v (.int .i64 s40.2))], [], [(7, z40)]⟩ : S)) ?_ ?_
    · skip
      refine WkX.tokN (i := 3) 7 rfl (fun w65 => ?_)
      exact WkX.of w65 (WkS.perm (WkS.cons rfl (Wk.refl _) (WkS.cons rfl (Wk.refl _) (WkS.cons rfl (Wk.refl _) (WkS.nil)))) (List.Perm.refl _) (List.Perm.refl _))
    · intro G40 s40 z40 hm
      refine wpD_seq ?_
      refine wpD_seq ?_
      refine wpD_region ?_
      refine p_pure htab rfl rfl rfl rfl ?_
      refine p_pure htab rfl rfl rfl rfl ?_
      refine p_lenL htab rfl rfl rfl rfl rfl rfl rfl (by first | exact map_len | rfl) ?_
      refine p_pure htab rfl rfl rfl rfl ?_
      refine ops_nil ?_
      refine then_normal ?_
      refine wpD_cond rfl (fun hc66 => ?_) (fun hc66 => ?_)
      · replace hm := yes_t hc66 hm
        refine wpD_skip ?_
        refine then_normal ?_
        refine wpD_seq ?_
        refine wpD_block ?_
        refine wpD_seq ?_
        refine wpD_region ?_
        refine p_pure htab rfl rfl rfl rfl ?_
        refine p_pure htab rfl rfl rfl rfl ?_
        refine p_pure htab rfl rfl rfl rfl ?_
        obtain ⟨x67, q67, hm⟩ := yes_bind hm
        refine p_elem htab rfl rfl rfl rfl rfl rfl rfl rfl rfl rfl (idx_nonneg q67) (idx_map q67) ?_
        refine p_eq (i := 14) rfl (Wk.of_eq (congrArg D.el (eTApiStmt_eq x67))) ?_
        refine p_loadEl (d := .agg [.v (.int .i64 x67.gOp), .v (.string x67.gName), .v (.string x67.gFunc), .lst 5 (x67.gExps.map eTApiExpr) .no, .lst 7 (x67.gKids.map eTApiStmt) .no, .lst 7 (x67.gElse.map eTApiStmt) .no, .v (.int .i64 x67.gAt)]) htab rfl rfl rfl rfl rfl rfl rfl rfl ?_
        refine p_lit htab rfl rfl rfl rfl rfl rfl rfl rfl rfl rfl rfl rfl rfl rfl ?_
        refine p_eq (i := 16) (d' := .lst 7 (([x67] : List TApiStmt).map eTApiStmt) .full) rfl (Wk.lst0 (.cons (WkC.trans (WkC.agg (WkR.refl _)) (WkC.of_eq (eTApiStmt_eq x67).symm)) (.nil))) ?_
        obtain ⟨x68, q68, hm⟩ := yes_bind hm
        refine p_appC 0 htab rfl rfl rfl rfl rfl rfl rfl rfl rfl rfl rfl rfl rfl rfl rfl rfl rfl (app_bound q68) (fun v68 => ?_)
        refine p_mapD (i := 17) q68 rfl ?_
        refine p_pure htab rfl rfl rfl rfl ?_
        refine ops_nil ?_
        refine then_normal ?_
        refine wpD_seq ?_
        refine wpD_region ?_
        refine p_pure htab rfl rfl rfl rfl ?_
        refine p_pure htab rfl rfl rfl rfl ?_
        refine p_pure htab rfl rfl rfl rfl ?_
        obtain ⟨x69, q69, hm⟩ := yes_bind hm
        refine p_elem htab rfl rfl rfl rfl rfl rfl rfl rfl rfl rfl (idx_nonneg q69) (idx_map q69) ?_
        refine p_eq (i := 21) rfl (Wk.of_eq (congrArg D.el (eTApiStmt_eq x69))) ?_
        refine p_pure htab rfl rfl rfl rfl ?_
        refine p_loadEl htab rfl rfl rfl rfl rfl rfl rfl rfl ?_
        obtain ⟨x71, q71, hm⟩ := yes_bind hm
        refine p_callG (hg0 x69.gKids x71 q71) rfl rfl rfl rfl rfl (WkL.refl _) (List.Perm.refl _) (List.Perm.refl _) ?_
        rintro _ _ _ ⟨w70, rfl, rfl, rfl⟩
        obtain ⟨x72, q72, hm⟩ := yes_bind hm
        refine p_appC 1 htab rfl rfl rfl rfl rfl rfl rfl rfl rfl rfl rfl rfl rfl rfl rfl rfl rfl (app_bound q72) (fun v72 => ?_)
        refine p_mapD (i := 25) q72 rfl ?_
        refine p_pure htab rfl rfl rfl rfl ?_
        refine ops_nil ?_
        refine then_normal ?_
        refine wpD_region ?_
        refine p_pure htab rfl rfl rfl rfl ?_
        refine p_pure htab rfl rfl rfl rfl ?_
        refine p_pure htab rfl rfl rfl rfl ?_
        obtain ⟨x73, q73, hm⟩ := yes_bind hm
        refine p_elem htab rfl rfl rfl rfl rfl rfl rfl rfl rfl rfl (idx_nonneg q73) (idx_map q73) ?_
        refine p_eq (i := 29) rfl (Wk.of_eq (congrArg D.el (eTApiStmt_eq x73))) ?_
        refine p_pure htab rfl rfl rfl rfl ?_
        refine p_loadEl htab rfl rfl rfl rfl rfl rfl rfl rfl ?_
        obtain ⟨x75, q75, hm⟩ := yes_bind hm
        refine p_callG (hg0 x73.gElse x75 q75) rfl rfl rfl rfl rfl (WkL.refl _) (List.Perm.refl _) (List.Perm.refl _) ?_
        rintro _ _ _ ⟨w74, rfl, rfl, rfl⟩
        obtain ⟨x76, q76, hm⟩ := yes_bind hm
        refine p_appC 1 htab rfl rfl rfl rfl rfl rfl rfl rfl rfl rfl rfl rfl rfl rfl rfl rfl rfl (app_bound q76) (fun v76 => ?_)
        refine p_mapD (i := 33) q76 rfl ?_
        refine p_pure htab rfl rfl rfl rfl ?_
        refine ops_nil ?_
        refine block_normal ?_
        refine then_normal ?_
        refine wpD_region ?_
        refine p_pure htab rfl rfl rfl rfl ?_
        refine p_pure htab rfl rfl rfl rfl ?_
        refine p_pure htab rfl rfl rfl rfl ?_
        refine ops_nil ?_
        refine then_normal ⟨_, lp_next hm, ?_⟩
        exact WkX.of v76 (WkS.perm (WkS.cons rfl (Wk.refl _) (WkS.cons rfl (Wk.refl _) (WkS.cons rfl (Wk.refl _) (WkS.nil)))) (List.Perm.refl _) (List.Perm.refl _))
      · replace hm := yes_f hc66 hm
        refine wpD_exit ?_
        refine then_exit ?_
        have e40 := lp_done hm; subst e40; clear hm; have hm := hq40
        refine then_exit ?_
        refine block_hit ?_
        have e39 := yes_eq hm; subst e39
        refine ⟨rfl, ?_⟩
        exact WkX.of z40 (WkS.perm (WkS.cons rfl (Wk.refl _) (WkS.nil)) (List.Perm.refl _) (List.Perm.refl _))
  · intro s39 hw39; clear hm; have hm := ho39; clear q39 ho39
    refine then_normal ?_
    refine wpD_wkX hw39 (fun z39 => ?_)
    refine wpD_seq ?_
    refine wpD_region ?_
    refine p_pure htab rfl rfl rfl rfl ?_
    refine p_pure htab rfl rfl rfl rfl ?_
    refine ops_nil ?_
    refine then_normal ?_
    refine wpD_ret ?_
    have er77 := yes_eq hm; subst er77
    refine retX.of (s' := ⟨[(2, .lst 7 (y39.map eTApiStmt) (.cur z39))], [], [(7, z39)]⟩) (WkS.perm (WkS.cons rfl (Wk.refl _) (WkS.nil)) (List.Perm.refl _) (List.Perm.refl _)) (retD_mk (hh := []) (.inl rfl) (resL_cons (resOne_tmp rfl) (resL_nil)) (List.nil_sublist _) (List.Sublist.refl _) ?_)
    exact ⟨z39, rfl, rfl, rfl⟩
noncomputable def r11_Stmts_g : Nat → ((List TApiStmt) → Option (List TApiStmt))
  | 0 => (fun _ => none)
  | n + 1 => (r11_Stmts_b ((r11_Stmts_g n)))
theorem r11_Stmts_g_ok : ∀ n, (∀ (a0 : List TApiStmt) (r : List TApiStmt) (h0 : (r11_Stmts_g n) a0 = some r), CallsD Try.prog 20 [.lst 7 (a0.map eTApiStmt) .no] [] [] (fun d h k => ∃ y0, d = .lst 7 (r.map eTApiStmt) (.cur y0) ∧ h = [] ∧ k = [(7, y0)]))
  | 0 => fun _ _ h0 => by cases h0
  | n + 1 => by
    have ih := r11_Stmts_g_ok n
    exact r11_Stmts_b_ok (r11_Stmts_g n) ih
theorem r11_Stmts_g_le : ∀ n, (∀ (a0 : List TApiStmt), Le ((r11_Stmts_g n) a0) ((r11_Stmts_g (n + 1)) a0))
  | 0 => fun _ => Le.none _
  | n + 1 => by
    have ih := r11_Stmts_g_le n
    exact fun a0 => by show Le (r11_Stmts_b ((r11_Stmts_g n)) a0) (r11_Stmts_b ((r11_Stmts_g (n + 1))) a0); unfold r11_Stmts_b; repeat (first | exact Le.refl _ | exact ih _ | assumption | (refine Le.bind ?_ (fun _ => ?_)) | (refine Le.cond ?_ ?_) | (refine Le.loop (fun _ => ?_)) | (refine Le.elim (fun _ => ?_) (fun _ => ?_)))
noncomputable def r11_Stmts (a0 : List TApiStmt) : Option (List TApiStmt) := anyN fun n => (r11_Stmts_g n) a0
theorem r11_Stmts_of (a0 : List TApiStmt) {r : List TApiStmt} (n : Nat) (h : (r11_Stmts_g n) a0 = some r) : r11_Stmts a0 = some r := anyN_of (fun m => (r11_Stmts_g_le m) a0) h
theorem r11_Stmts_ok (a0 : List TApiStmt) (r : List TApiStmt) (h0 : r11_Stmts a0 = some r) : CallsD Try.prog 20 [.lst 7 (a0.map eTApiStmt) .no] [] [] (fun d h k => ∃ y0, d = .lst 7 (r.map eTApiStmt) (.cur y0) ∧ h = [] ∧ k = [(7, y0)]) :=
  let ⟨n, hn⟩ := anyN_inv h0; (r11_Stmts_g_ok n) a0  r hn
theorem r11_Stmts_ok0 (a0 : List TApiStmt) (r : List TApiStmt) (h0 : r11_Stmts a0 = some r) : CallsD Try.prog 20 [.lst 7 (a0.map eTApiStmt) .no] [] [] (fun d h k => d = .lst 7 (r.map eTApiStmt) .no ∧ h = [] ∧ k = []) :=
  (r11_Stmts_ok a0 r h0).drop fun d h k ⟨y0, e, _, _⟩ => by subst e; exact Wk.no
noncomputable def r11_put (a0 : List ByteArray) (a1 : ByteArray) : Option (List ByteArray) :=
  (Option.bind (α := List ByteArray × Bool) (loopM (fun (s62 : List ByteArray × Bool × Int) => (bif (decide (s62.2.2 < (a0.length : Int))) then (bif (!s62.2.1) then ((idx a0 s62.2.2).bind fun x102 => (Option.bind (α := List ByteArray × Bool) (bif (ltB a1 x102) then ((app 16 s62.1 ([a1] : List ByteArray)).bind fun x107 => some (x107, true)) else some (s62.1, s62.2.1)) fun y105 => ((idx a0 s62.2.2).bind fun x108 => (Option.bind (α := Bool) (bif (decide (a1 = x108)) then some true else some y105.2) fun y110 => ((idx a0 s62.2.2).bind fun x112 => ((app 16 y105.1 ([x112] : List ByteArray)).bind fun x113 => some (.next (x113, y110, (IntKind.i64.wrap (s62.2.2 + (1 : Int))))))))))) else ((idx a0 s62.2.2).bind fun x114 => (Option.bind (α := Bool) (bif (decide (a1 = x114)) then some true else some s62.2.1) fun y116 => ((idx a0 s62.2.2).bind fun x118 => ((app 16 s62.1 ([x118] : List ByteArray)).bind fun x119 => some (.next (x119, y116, (IntKind.i64.wrap (s62.2.2 + (1 : Int)))))))))) else some (.done (s62.1, s62.2.1)))) (([] : List ByteArray), false, (0 : Int))) fun y61 => (bif (!y61.2) then ((app 16 y61.1 ([a1] : List ByteArray)).bind fun x121 => some x121) else some y61.1))
set_option maxRecDepth 100000 in
set_option maxHeartbeats 2000000 in
theorem r11_put_ok (a0 : List ByteArray) (a1 : ByteArray) (r : List ByteArray) (h0 : r11_put a0 a1 = some r) : CallsD Try.prog 38 [.lst 1 (a0.map eStr) .no, .v (.string a1)] [] [] (fun d h k => ∃ y0, d = .lst 1 (r.map eStr) (.cur y0) ∧ h = [] ∧ k = [(1, y0)]) := by
  have hm := yes_of h0
  unfold r11_put at hm
  clear h0
  refine enterX htab Try.func38 rfl rfl rfl rfl rfl (fun C => ?_)
  refine wpD_seq ?_
  refine wpD_region ?_
  refine p_pure htab rfl rfl rfl rfl ?_
  refine ops_nil ?_
  refine then_normal ?_
  refine wpD_seq ?_
  refine wpD_region ?_
  refine p_pure htab rfl rfl rfl rfl ?_
  refine ops_nil ?_
  refine then_normal ?_
  refine wpD_seq ?_
  refine wpD_region ?_
  refine p_pure htab rfl rfl rfl rfl ?_
  refine ops_nil ?_
  refine then_normal ?_
  refine wpD_seq ?_
  refine wpD_seq ?_
  refine wpD_region ?_
  refine p_pure htab rfl rfl rfl rfl ?_
  refine ops_nil ?_
  refine then_normal ?_
  obtain ⟨y61, q61, ho61⟩ := yes_bind hm
  refine wpD_mid (Y := Value) (fun z61 => (⟨[(1, .v (.string a1)), (5, .lst 1 (y61.1.map eStr) (.cur z61)), (6, .v (.bool y61.2))], [], [(1, z61)]⟩ : S)) ?_ ?_
  · clear hm; have hm := yes_of q61
    refine wpD_block ?_
    obtain ⟨u62, hl62, hq62⟩ := yes_m hm
    refine loop_M (Y := Value) hl62 (fun s62 z62 => (⟨[(0, .lst 1 (a0.map eStr) .no), (1, .v (.string a1)), (5, .lst 1 (s62.1.map eStr) (.cur z62)), (6, .v (.bool s62.2.1)), (7, .v (.int .i64 s62.2.2))], [], [(1, z62)]⟩ : S)) ?_ ?_
    · skip
      refine WkX.tokN (i := 5) 1 rfl (fun w99 => ?_)
      exact WkX.of w99 (WkS.perm (WkS.cons rfl (Wk.refl _) (WkS.cons rfl (Wk.refl _) (WkS.cons rfl (Wk.refl _) (WkS.cons rfl (Wk.refl _) (WkS.cons rfl (Wk.refl _) (WkS.nil)))))) (List.Perm.refl _) (List.Perm.refl _))
    · intro G62 s62 z62 hm
      refine wpD_seq ?_
      refine wpD_seq ?_
      refine wpD_region ?_
      refine p_pure htab rfl rfl rfl rfl ?_
      refine p_pure htab rfl rfl rfl rfl ?_
      refine p_lenL htab rfl rfl rfl rfl rfl rfl rfl (by first | exact map_len | rfl) ?_
      refine p_pure htab rfl rfl rfl rfl ?_
      refine ops_nil ?_
      refine then_normal ?_
      refine wpD_cond rfl (fun hc100 => ?_) (fun hc100 => ?_)
      · replace hm := yes_t hc100 hm
        refine wpD_skip ?_
        refine then_normal ?_
        refine wpD_seq ?_
        refine wpD_block ?_
        refine wpD_seq ?_
        refine wpD_seq ?_
        refine wpD_region ?_
        refine p_pure htab rfl rfl rfl rfl ?_
        refine p_pure htab rfl rfl rfl rfl ?_
        refine p_pure htab rfl rfl rfl rfl ?_
        refine p_split (i := 16) rfl (fun hg101 => ?_) (fun hg101 => ?_)
        · replace hm := yes_t hg101 hm
          refine p_pure htab rfl rfl rfl rfl ?_
          refine p_pure htab rfl rfl rfl rfl ?_
          refine p_pure htab rfl rfl rfl rfl ?_
          obtain ⟨x102, q102, hm⟩ := yes_bind hm
          refine p_elem htab rfl rfl rfl rfl rfl rfl rfl rfl rfl rfl (idx_nonneg q102) (idx_map q102) ?_
          refine p_loadEl htab rfl rfl rfl rfl rfl rfl rfl rfl ?_
          refine p_ltS rfl rfl rfl rfl rfl rfl rfl ?_
          refine p_pickT rfl rfl rfl rfl rfl rfl ?_
          refine ops_nil ?_
          refine then_normal ?_
          obtain ⟨y105, q105, ho105⟩ := yes_bind hm
          refine wpD_mid (Y := Value) (fun z105 => (⟨[(0, .lst 1 (a0.map eStr) .no), (1, .v (.string a1)), (5, .lst 1 (y105.1.map eStr) (.cur z105)), (6, .v (.bool y105.2)), (7, .v (.int .i64 s62.2.2))], [], [(1, z105)]⟩ : S)) ?_ ?_
          · clear hm; have hm := yes_of q105
            refine wpD_cond rfl (fun hc106 => ?_) (fun hc106 => ?_)
            · replace hm := yes_t hc106 hm
              refine wpD_seq ?_
              refine wpD_region ?_
              refine p_pure htab rfl rfl rfl rfl ?_
              refine p_pure htab rfl rfl rfl rfl ?_
              refine p_lit htab rfl rfl rfl rfl rfl rfl rfl rfl rfl rfl rfl rfl rfl rfl ?_
              refine p_eq (i := 26) (d' := .lst 1 (([a1] : List ByteArray).map eStr) .full) rfl (Wk.lst0 (.cons (WkC.refl _) (.nil))) ?_
              obtain ⟨x107, q107, hm⟩ := yes_bind hm
              refine p_appC 0 htab rfl rfl rfl rfl rfl rfl rfl rfl rfl rfl rfl rfl rfl rfl rfl rfl rfl (app_bound q107) (fun v107 => ?_)
              refine p_mapD (i := 27) q107 rfl ?_
              refine p_pure htab rfl rfl rfl rfl ?_
              refine ops_nil ?_
              refine then_normal ?_
              refine wpD_region ?_
              refine p_pure htab rfl rfl rfl rfl ?_
              refine ops_nil ?_
              have e105 := yes_eq hm; subst e105
              refine ⟨rfl, ?_⟩
              exact WkX.of v107 (WkS.perm (WkS.cons rfl (Wk.refl _) (WkS.cons rfl (Wk.refl _) (WkS.cons rfl (Wk.refl _) (WkS.cons rfl (Wk.refl _) (WkS.cons rfl (Wk.refl _) (WkS.nil)))))) (List.Perm.refl _) (List.Perm.refl _))
            · replace hm := yes_f hc106 hm
              refine wpD_skip ?_
              have e105 := yes_eq hm; subst e105
              refine ⟨rfl, ?_⟩
              exact WkX.of z62 (WkS.perm (WkS.cons rfl (Wk.refl _) (WkS.cons rfl (Wk.refl _) (WkS.cons rfl (Wk.refl _) (WkS.cons rfl (Wk.refl _) (WkS.cons rfl (Wk.refl _) (WkS.nil)))))) (List.Perm.refl _) (List.Perm.refl _))
          · intro s105 hw105; clear hm; have hm := ho105; clear q105 ho105
            refine then_normal ?_
            refine wpD_wkX hw105 (fun z105 => ?_)
            refine wpD_seq ?_
            refine wpD_seq ?_
            refine wpD_region ?_
            refine p_pure htab rfl rfl rfl rfl ?_
            refine p_pure htab rfl rfl rfl rfl ?_
            refine p_pure htab rfl rfl rfl rfl ?_
            obtain ⟨x108, q108, hm⟩ := yes_bind hm
            refine p_elem htab rfl rfl rfl rfl rfl rfl rfl rfl rfl rfl (idx_nonneg q108) (idx_map q108) ?_
            refine p_loadEl htab rfl rfl rfl rfl rfl rfl rfl rfl ?_
            refine p_pure htab rfl rfl rfl rfl ?_
            refine ops_nil ?_
            refine then_normal ?_
            obtain ⟨y110, q110, ho110⟩ := yes_bind hm
            refine wpD_mid (Y := Unit) (fun z110 => (⟨[(0, .lst 1 (a0.map eStr) .no), (1, .v (.string a1)), (5, .lst 1 (y105.1.map eStr) (.cur z105)), (6, .v (.bool y110)), (7, .v (.int .i64 s62.2.2))], [], [(1, z105)]⟩ : S)) ?_ ?_
            · clear hm; have hm := yes_of q110
              refine wpD_cond rfl (fun hc111 => ?_) (fun hc111 => ?_)
              · replace hm := yes_t hc111 hm
                refine wpD_region ?_
                refine p_pure htab rfl rfl rfl rfl ?_
                refine ops_nil ?_
                have e110 := yes_eq hm; subst e110
                refine ⟨rfl, ?_⟩
                exact WkX.of () (WkS.perm (WkS.cons rfl (Wk.refl _) (WkS.cons rfl (Wk.refl _) (WkS.cons rfl (Wk.refl _) (WkS.cons rfl (Wk.refl _) (WkS.cons rfl (Wk.refl _) (WkS.nil)))))) (List.Perm.refl _) (List.Perm.refl _))
              · replace hm := yes_f hc111 hm
                refine wpD_skip ?_
                have e110 := yes_eq hm; subst e110
                refine ⟨rfl, ?_⟩
                exact WkX.of () (WkS.perm (WkS.cons rfl (Wk.refl _) (WkS.cons rfl (Wk.refl _) (WkS.cons rfl (Wk.refl _) (WkS.cons rfl (Wk.refl _) (WkS.cons rfl (Wk.refl _) (WkS.nil)))))) (List.Perm.refl _) (List.Perm.refl _))
            · intro s110 hw110; clear hm; have hm := ho110; clear q110 ho110
              refine then_normal ?_
              refine wpD_wkX hw110 (fun z110 => ?_)
              refine wpD_region ?_
              refine p_pure htab rfl rfl rfl rfl ?_
              refine p_pure htab rfl rfl rfl rfl ?_
              refine p_pure htab rfl rfl rfl rfl ?_
              obtain ⟨x112, q112, hm⟩ := yes_bind hm
              refine p_elem htab rfl rfl rfl rfl rfl rfl rfl rfl rfl rfl (idx_nonneg q112) (idx_map q112) ?_
              refine p_loadEl htab rfl rfl rfl rfl rfl rfl rfl rfl ?_
              refine p_lit htab rfl rfl rfl rfl rfl rfl rfl rfl rfl rfl rfl rfl rfl rfl ?_
              refine p_eq (i := 39) (d' := .lst 1 (([x112] : List ByteArray).map eStr) .full) rfl (Wk.lst0 (.cons (WkC.refl _) (.nil))) ?_
              obtain ⟨x113, q113, hm⟩ := yes_bind hm
              refine p_appC 0 htab rfl rfl rfl rfl rfl rfl rfl rfl rfl rfl rfl rfl rfl rfl rfl rfl rfl (app_bound q113) (fun v113 => ?_)
              refine p_mapD (i := 40) q113 rfl ?_
              refine p_pure htab rfl rfl rfl rfl ?_
              refine ops_nil ?_
              refine block_normal ?_
              refine then_normal ?_
              refine wpD_region ?_
              refine p_pure htab rfl rfl rfl rfl ?_
              refine p_pure htab rfl rfl rfl rfl ?_
              refine p_pure htab rfl rfl rfl rfl ?_
              refine ops_nil ?_
              refine then_normal ⟨_, lp_next hm, ?_⟩
              exact WkX.of v113 (WkS.perm (WkS.cons rfl (Wk.refl _) (WkS.cons rfl (Wk.refl _) (WkS.cons rfl (Wk.refl _) (WkS.cons rfl (Wk.refl _) (WkS.cons rfl (Wk.refl _) (WkS.nil)))))) (List.Perm.refl _) (List.Perm.refl _))
        · replace hm := yes_f hg101 hm
          refine p_skip rfl rfl rfl ?_
          refine p_skip rfl rfl rfl ?_
          refine p_skip rfl rfl rfl ?_
          refine p_skip rfl rfl rfl ?_
          refine p_skip rfl rfl rfl ?_
          refine p_skip rfl rfl rfl ?_
          refine p_pickF rfl rfl rfl rfl rfl rfl ?_
          refine ops_nil ?_
          refine then_normal ?_
          refine wpD_false rfl ?_
          refine wpD_skip ?_
          refine then_normal ?_
          refine wpD_seq ?_
          refine wpD_seq ?_
          refine wpD_region ?_
          refine p_pure htab rfl rfl rfl rfl ?_
          refine p_pure htab rfl rfl rfl rfl ?_
          refine p_pure htab rfl rfl rfl rfl ?_
          obtain ⟨x114, q114, hm⟩ := yes_bind hm
          refine p_elem htab rfl rfl rfl rfl rfl rfl rfl rfl rfl rfl (idx_nonneg q114) (idx_map q114) ?_
          refine p_loadEl htab rfl rfl rfl rfl rfl rfl rfl rfl ?_
          refine p_pure htab rfl rfl rfl rfl ?_
          refine ops_nil ?_
          refine then_normal ?_
          obtain ⟨y116, q116, ho116⟩ := yes_bind hm
          refine wpD_mid (Y := Unit) (fun z116 => (⟨[(0, .lst 1 (a0.map eStr) .no), (1, .v (.string a1)), (5, .lst 1 (s62.1.map eStr) (.cur z62)), (6, .v (.bool y116)), (7, .v (.int .i64 s62.2.2))], [], [(1, z62)]⟩ : S)) ?_ ?_
          · clear hm; have hm := yes_of q116
            refine wpD_cond rfl (fun hc117 => ?_) (fun hc117 => ?_)
            · replace hm := yes_t hc117 hm
              refine wpD_region ?_
              refine p_pure htab rfl rfl rfl rfl ?_
              refine ops_nil ?_
              have e116 := yes_eq hm; subst e116
              refine ⟨rfl, ?_⟩
              exact WkX.of () (WkS.perm (WkS.cons rfl (Wk.refl _) (WkS.cons rfl (Wk.refl _) (WkS.cons rfl (Wk.refl _) (WkS.cons rfl (Wk.refl _) (WkS.cons rfl (Wk.refl _) (WkS.nil)))))) (List.Perm.refl _) (List.Perm.refl _))
            · replace hm := yes_f hc117 hm
              refine wpD_skip ?_
              have e116 := yes_eq hm; subst e116
              refine ⟨rfl, ?_⟩
              exact WkX.of () (WkS.perm (WkS.cons rfl (Wk.refl _) (WkS.cons rfl (Wk.refl _) (WkS.cons rfl (Wk.refl _) (WkS.cons rfl (Wk.refl _) (WkS.cons rfl (Wk.refl _) (WkS.nil)))))) (List.Perm.refl _) (List.Perm.refl _))
          · intro s116 hw116; clear hm; have hm := ho116; clear q116 ho116
            refine then_normal ?_
            refine wpD_wkX hw116 (fun z116 => ?_)
            refine wpD_region ?_
            refine p_pure htab rfl rfl rfl rfl ?_
            refine p_pure htab rfl rfl rfl rfl ?_
            refine p_pure htab rfl rfl rfl rfl ?_
            obtain ⟨x118, q118, hm⟩ := yes_bind hm
            refine p_elem htab rfl rfl rfl rfl rfl rfl rfl rfl rfl rfl (idx_nonneg q118) (idx_map q118) ?_
            refine p_loadEl htab rfl rfl rfl rfl rfl rfl rfl rfl ?_
            refine p_lit htab rfl rfl rfl rfl rfl rfl rfl rfl rfl rfl rfl rfl rfl rfl ?_
            refine p_eq (i := 39) (d' := .lst 1 (([x118] : List ByteArray).map eStr) .full) rfl (Wk.lst0 (.cons (WkC.refl _) (.nil))) ?_
            obtain ⟨x119, q119, hm⟩ := yes_bind hm
            refine p_appC 0 htab rfl rfl rfl rfl rfl rfl rfl rfl rfl rfl rfl rfl rfl rfl rfl rfl rfl (app_bound q119) (fun v119 => ?_)
            refine p_mapD (i := 40) q119 rfl ?_
            refine p_pure htab rfl rfl rfl rfl ?_
            refine ops_nil ?_
            refine block_normal ?_
            refine then_normal ?_
            refine wpD_region ?_
            refine p_pure htab rfl rfl rfl rfl ?_
            refine p_pure htab rfl rfl rfl rfl ?_
            refine p_pure htab rfl rfl rfl rfl ?_
            refine ops_nil ?_
            refine then_normal ⟨_, lp_next hm, ?_⟩
            exact WkX.of v119 (WkS.perm (WkS.cons rfl (Wk.refl _) (WkS.cons rfl (Wk.refl _) (WkS.cons rfl (Wk.refl _) (WkS.cons rfl (Wk.refl _) (WkS.cons rfl (Wk.refl _) (WkS.nil)))))) (List.Perm.refl _) (List.Perm.refl _))
      · replace hm := yes_f hc100 hm
        refine wpD_exit ?_
        refine then_exit ?_
        have e62 := lp_done hm; subst e62; clear hm; have hm := hq62
        refine then_exit ?_
        refine block_hit ?_
        have e61 := yes_eq hm; subst e61
        refine ⟨rfl, ?_⟩
        exact WkX.of z62 (WkS.perm (WkS.cons rfl (Wk.refl _) (WkS.cons rfl (Wk.refl _) (WkS.cons rfl (Wk.refl _) (WkS.nil)))) (List.Perm.refl _) (List.Perm.refl _))
  · intro s61 hw61; clear hm; have hm := ho61; clear q61 ho61
    refine then_normal ?_
    refine wpD_wkX hw61 (fun z61 => ?_)
    refine wpD_seq ?_
    refine wpD_seq ?_
    refine wpD_region ?_
    refine p_pure htab rfl rfl rfl rfl ?_
    refine p_pure htab rfl rfl rfl rfl ?_
    refine ops_nil ?_
    refine then_normal ?_
    refine wpD_cond rfl (fun hc120 => ?_) (fun hc120 => ?_)
    · replace hm := yes_t hc120 hm
      refine wpD_region ?_
      refine p_pure htab rfl rfl rfl rfl ?_
      refine p_pure htab rfl rfl rfl rfl ?_
      refine p_lit htab rfl rfl rfl rfl rfl rfl rfl rfl rfl rfl rfl rfl rfl rfl ?_
      refine p_eq (i := 45) (d' := .lst 1 (([a1] : List ByteArray).map eStr) .full) rfl (Wk.lst0 (.cons (WkC.refl _) (.nil))) ?_
      obtain ⟨x121, q121, hm⟩ := yes_bind hm
      refine p_appC 0 htab rfl rfl rfl rfl rfl rfl rfl rfl rfl rfl rfl rfl rfl rfl rfl rfl rfl (app_bound q121) (fun v121 => ?_)
      refine p_mapD (i := 46) q121 rfl ?_
      refine p_pure htab rfl rfl rfl rfl ?_
      refine ops_nil ?_
      refine then_normal ?_
      refine wpD_seq ?_
      refine wpD_region ?_
      refine p_pure htab rfl rfl rfl rfl ?_
      refine p_pure htab rfl rfl rfl rfl ?_
      refine ops_nil ?_
      refine then_normal ?_
      refine wpD_ret ?_
      have er122 := yes_eq hm; subst er122
      refine retX.of (s' := ⟨[(4, .lst 1 (x121.map eStr) (.cur v121))], [], [(1, v121)]⟩) (WkS.perm (WkS.cons rfl (Wk.refl _) (WkS.nil)) (List.Perm.refl _) (List.Perm.refl _)) (retD_mk (hh := []) (.inl rfl) (resL_cons (resOne_tmp rfl) (resL_nil)) (List.nil_sublist _) (List.Sublist.refl _) ?_)
      exact ⟨v121, rfl, rfl, rfl⟩
    · replace hm := yes_f hc120 hm
      refine wpD_skip ?_
      refine then_normal ?_
      refine wpD_seq ?_
      refine wpD_region ?_
      refine p_pure htab rfl rfl rfl rfl ?_
      refine p_pure htab rfl rfl rfl rfl ?_
      refine ops_nil ?_
      refine then_normal ?_
      refine wpD_ret ?_
      have er123 := yes_eq hm; subst er123
      refine retX.of (s' := ⟨[(4, .lst 1 (y61.1.map eStr) (.cur z61))], [], [(1, z61)]⟩) (WkS.perm (WkS.cons rfl (Wk.refl _) (WkS.nil)) (List.Perm.refl _) (List.Perm.refl _)) (retD_mk (hh := []) (.inl rfl) (resL_cons (resOne_tmp rfl) (resL_nil)) (List.nil_sublist _) (List.Sublist.refl _) ?_)
      exact ⟨z61, rfl, rfl, rfl⟩
theorem r11_put_ok0 (a0 : List ByteArray) (a1 : ByteArray) (r : List ByteArray) (h0 : r11_put a0 a1 = some r) : CallsD Try.prog 38 [.lst 1 (a0.map eStr) .no, .v (.string a1)] [] [] (fun d h k => d = .lst 1 (r.map eStr) .no ∧ h = [] ∧ k = []) :=
  (r11_put_ok a0 a1 r h0).drop fun d h k ⟨y0, e, _, _⟩ => by subst e; exact Wk.no
noncomputable def r11_All_b (g0 : (TApiExpr) → Option (List TApiExpr)) (a0 : TApiExpr) : Option (List TApiExpr) :=
  (Option.bind (α := List TApiExpr) (loopM (fun (s23 : List TApiExpr × Int) => (bif (decide (s23.2 < (a0.gKids.length : Int))) then ((idx a0.gKids s23.2).bind fun x38 => ((g0 x38).bind fun x40 => ((app 64 s23.1 x40).bind fun x41 => some (.next (x41, (IntKind.i64.wrap (s23.2 + (1 : Int)))))))) else some (.done s23.1))) (([a0] : List TApiExpr), (0 : Int))) fun y22 => some y22)
set_option maxRecDepth 100000 in
set_option maxHeartbeats 2000000 in
theorem r11_All_b_ok (g0 : (TApiExpr) → Option (List TApiExpr)) (hg0 : ∀ (a0 : TApiExpr) (r : List TApiExpr) (h0 : g0 a0 = some r), CallsD Try.prog 16 [eTApiExpr a0] [] [] (fun d h k => ∃ y0, d = .lst 5 (r.map eTApiExpr) (.cur y0) ∧ h = [] ∧ k = [(5, y0)])) (a0 : TApiExpr) (r : List TApiExpr) (h0 : r11_All_b g0 a0 = some r) : CallsD Try.prog 16 [eTApiExpr a0] [] [] (fun d h k => ∃ y0, d = .lst 5 (r.map eTApiExpr) (.cur y0) ∧ h = [] ∧ k = [(5, y0)]) := by
  have hm := yes_of h0
  unfold r11_All_b at hm
  clear h0
  refine enterX htab Try.func16 rfl rfl rfl rfl rfl (fun C => ?_)
  refine w_eq (i := 0) rfl (Wk.of_eq (eTApiExpr_eq a0)) ?_
  refine wpD_seq ?_
  refine wpD_region ?_
  refine p_box rfl rfl rfl rfl rfl rfl rfl (fun b1 => ?_)
  refine p_pure htab rfl rfl rfl rfl ?_
  refine ops_nil ?_
  refine then_normal ?_
  refine wpD_seq ?_
  refine wpD_region ?_
  refine p_load (d := .agg [.v (.int .i64 a0.gOp), .v (.int .i64 a0.gN), .v (.string a0.gName), .lst 5 (a0.gKids.map eTApiExpr) .no, .v (.int .i64 a0.gAt)]) 0 htab rfl rfl rfl rfl rfl rfl rfl rfl ?_
  refine p_lit htab rfl rfl rfl rfl rfl rfl rfl rfl rfl rfl rfl rfl rfl rfl ?_
  refine p_eq (i := 6) (d' := .lst 5 (([a0] : List TApiExpr).map eTApiExpr) .full) rfl (Wk.lst0 (.cons (WkC.trans (WkC.agg (WkR.refl _)) (WkC.of_eq (eTApiExpr_eq a0).symm)) (.nil))) ?_
  refine p_pure htab rfl rfl rfl rfl ?_
  refine ops_nil ?_
  refine then_normal ?_
  refine wpD_seq ?_
  refine wpD_seq ?_
  refine wpD_region ?_
  refine p_pure htab rfl rfl rfl rfl ?_
  refine ops_nil ?_
  refine then_normal ?_
  obtain ⟨y22, q22, ho22⟩ := yes_bind hm
  refine wpD_mid (Y := Value) (fun z22 => (⟨[(3, .lst 5 (y22.map eTApiExpr) (.cur z22))], [(b1, Blk.cells [.v (.int .i64 a0.gOp), .v (.int .i64 a0.gN), .v (.string a0.gName), .lst 5 (a0.gKids.map eTApiExpr) .no, .v (.int .i64 a0.gAt)] 34)], [(5, z22)]⟩ : S)) ?_ ?_
  · clear hm; have hm := yes_of q22
    refine wpD_block ?_
    obtain ⟨u23, hl23, hq23⟩ := yes_m hm
    refine loop_M (Y := Value) hl23 (fun s23 z23 => (⟨[(1, .ptr b1 0), (3, .lst 5 (s23.1.map eTApiExpr) (.cur z23)), (4, .v (.int .i64 s23.2))], [(b1, Blk.cells [.v (.int .i64 a0.gOp), .v (.int .i64 a0.gN), .v (.string a0.gName), .lst 5 (a0.gKids.map eTApiExpr) .no, .v (.int .i64 a0.gAt)] 34)], [(5, z23)]⟩ : S)) ?_ ?_
    · skip
      refine WkX.tokF (i := 3) rfl (fun w36 => ?_)
      exact WkX.of w36 (WkS.perm (WkS.cons rfl (Wk.refl _) (WkS.cons rfl (Wk.refl _) (WkS.cons rfl (Wk.refl _) (WkS.nil)))) (List.Perm.refl _) (List.Perm.refl _))
    · intro G23 s23 z23 hm
      refine wpD_seq ?_
      refine wpD_seq ?_
      refine wpD_region ?_
      refine p_pure htab rfl rfl rfl rfl ?_
      refine p_pure htab rfl rfl rfl rfl ?_
      refine p_load 0 htab rfl rfl rfl rfl rfl rfl rfl rfl ?_
      refine p_lenL htab rfl rfl rfl rfl rfl rfl rfl (by first | exact map_len | rfl) ?_
      refine p_pure htab rfl rfl rfl rfl ?_
      refine ops_nil ?_
      refine then_normal ?_
      refine wpD_cond rfl (fun hc37 => ?_) (fun hc37 => ?_)
      · replace hm := yes_t hc37 hm
        refine wpD_skip ?_
        refine then_normal ?_
        refine wpD_seq ?_
        refine wpD_block ?_
        refine wpD_region ?_
        refine p_pure htab rfl rfl rfl rfl ?_
        refine p_pure htab rfl rfl rfl rfl ?_
        refine p_load 0 htab rfl rfl rfl rfl rfl rfl rfl rfl ?_
        refine p_pure htab rfl rfl rfl rfl ?_
        obtain ⟨x38, q38, hm⟩ := yes_bind hm
        refine p_elem htab rfl rfl rfl rfl rfl rfl rfl rfl rfl rfl (idx_nonneg q38) (idx_map q38) ?_
        refine p_eq (i := 18) rfl (Wk.of_eq (congrArg D.el (eTApiExpr_eq x38))) ?_
        refine p_loadEl (d := .agg [.v (.int .i64 x38.gOp), .v (.int .i64 x38.gN), .v (.string x38.gName), .lst 5 (x38.gKids.map eTApiExpr) .no, .v (.int .i64 x38.gAt)]) htab rfl rfl rfl rfl rfl rfl rfl rfl ?_
        obtain ⟨x40, q40, hm⟩ := yes_bind hm
        refine p_callG (hg0 x38 x40 q40) rfl rfl rfl rfl rfl (WkL.cons (Wk.trans (Wk.agg (WkR.refl _)) (Wk.of_eq (eTApiExpr_eq x38).symm)) (WkL.refl _)) (List.Perm.refl _) (List.Perm.refl _) ?_
        rintro _ _ _ ⟨w39, rfl, rfl, rfl⟩
        obtain ⟨x41, q41, hm⟩ := yes_bind hm
        refine p_appC 1 htab rfl rfl rfl rfl rfl rfl rfl rfl rfl rfl rfl rfl rfl rfl rfl rfl rfl (app_bound q41) (fun v41 => ?_)
        refine p_mapD (i := 21) q41 rfl ?_
        refine p_pure htab rfl rfl rfl rfl ?_
        refine ops_nil ?_
        refine block_normal ?_
        refine then_normal ?_
        refine wpD_region ?_
        refine p_pure htab rfl rfl rfl rfl ?_
        refine p_pure htab rfl rfl rfl rfl ?_
        refine p_pure htab rfl rfl rfl rfl ?_
        refine ops_nil ?_
        refine then_normal ⟨_, lp_next hm, ?_⟩
        exact WkX.of v41 (WkS.perm (WkS.cons rfl (Wk.refl _) (WkS.cons rfl (Wk.refl _) (WkS.cons rfl (Wk.refl _) (WkS.nil)))) (List.Perm.refl _) (List.Perm.refl _))
      · replace hm := yes_f hc37 hm
        refine wpD_exit ?_
        refine then_exit ?_
        have e23 := lp_done hm; subst e23; clear hm; have hm := hq23
        refine then_exit ?_
        refine block_hit ?_
        have e22 := yes_eq hm; subst e22
        refine ⟨rfl, ?_⟩
        exact WkX.of z23 (WkS.perm (WkS.cons rfl (Wk.refl _) (WkS.nil)) (List.Perm.refl _) (List.Perm.refl _))
  · intro s22 hw22; clear hm; have hm := ho22; clear q22 ho22
    refine then_normal ?_
    refine wpD_wkX hw22 (fun z22 => ?_)
    refine wpD_seq ?_
    refine wpD_region ?_
    refine p_pure htab rfl rfl rfl rfl ?_
    refine p_pure htab rfl rfl rfl rfl ?_
    refine ops_nil ?_
    refine then_normal ?_
    refine wpD_ret ?_
    have er42 := yes_eq hm; subst er42
    refine retX.of (s' := ⟨[(2, .lst 5 (y22.map eTApiExpr) (.cur z22))], [], [(5, z22)]⟩) (WkS.perm (WkS.cons rfl (Wk.refl _) (WkS.nil)) (List.Perm.refl _) (List.Perm.refl _)) (retD_mk (hh := []) (.inl rfl) (resL_cons (resOne_tmp rfl) (resL_nil)) (List.nil_sublist _) (List.Sublist.refl _) ?_)
    exact ⟨z22, rfl, rfl, rfl⟩
noncomputable def r11_All_g : Nat → ((TApiExpr) → Option (List TApiExpr))
  | 0 => (fun _ => none)
  | n + 1 => (r11_All_b ((r11_All_g n)))
theorem r11_All_g_ok : ∀ n, (∀ (a0 : TApiExpr) (r : List TApiExpr) (h0 : (r11_All_g n) a0 = some r), CallsD Try.prog 16 [eTApiExpr a0] [] [] (fun d h k => ∃ y0, d = .lst 5 (r.map eTApiExpr) (.cur y0) ∧ h = [] ∧ k = [(5, y0)]))
  | 0 => fun _ _ h0 => by cases h0
  | n + 1 => by
    have ih := r11_All_g_ok n
    exact r11_All_b_ok (r11_All_g n) ih
theorem r11_All_g_le : ∀ n, (∀ (a0 : TApiExpr), Le ((r11_All_g n) a0) ((r11_All_g (n + 1)) a0))
  | 0 => fun _ => Le.none _
  | n + 1 => by
    have ih := r11_All_g_le n
    exact fun a0 => by show Le (r11_All_b ((r11_All_g n)) a0) (r11_All_b ((r11_All_g (n + 1))) a0); unfold r11_All_b; repeat (first | exact Le.refl _ | exact ih _ | assumption | (refine Le.bind ?_ (fun _ => ?_)) | (refine Le.cond ?_ ?_) | (refine Le.loop (fun _ => ?_)) | (refine Le.elim (fun _ => ?_) (fun _ => ?_)))
noncomputable def r11_All (a0 : TApiExpr) : Option (List TApiExpr) := anyN fun n => (r11_All_g n) a0
theorem r11_All_of (a0 : TApiExpr) {r : List TApiExpr} (n : Nat) (h : (r11_All_g n) a0 = some r) : r11_All a0 = some r := anyN_of (fun m => (r11_All_g_le m) a0) h
theorem r11_All_ok (a0 : TApiExpr) (r : List TApiExpr) (h0 : r11_All a0 = some r) : CallsD Try.prog 16 [eTApiExpr a0] [] [] (fun d h k => ∃ y0, d = .lst 5 (r.map eTApiExpr) (.cur y0) ∧ h = [] ∧ k = [(5, y0)]) :=
  let ⟨n, hn⟩ := anyN_inv h0; (r11_All_g_ok n) a0  r hn
theorem r11_All_ok0 (a0 : TApiExpr) (r : List TApiExpr) (h0 : r11_All a0 = some r) : CallsD Try.prog 16 [eTApiExpr a0] [] [] (fun d h k => d = .lst 5 (r.map eTApiExpr) .no ∧ h = [] ∧ k = []) :=
  (r11_All_ok a0 r h0).drop fun d h k ⟨y0, e, _, _⟩ => by subst e; exact Wk.no
noncomputable def r11_Exprs (a0 : List TApiStmt) : Option (List TApiExpr) :=
  ((r11_Stmts a0).bind fun x2 => (Option.bind (α := List TApiExpr) (loopM (fun (s162 : List TApiExpr × Int) => (bif (decide (s162.2 < (x2.length : Int))) then (Option.bind (α := List TApiExpr) (loopM (fun (s294 : List TApiExpr × Int) => ((idx x2 s162.2).bind fun x311 => (bif (decide (s294.2 < (x311.gExps.length : Int))) then ((idx x2 s162.2).bind fun x313 => ((idx x313.gExps s294.2).bind fun x314 => ((r11_All x314).bind fun x316 => ((app 64 s294.1 x316).bind fun x317 => some (.next (x317, (IntKind.i64.wrap (s294.2 + (1 : Int))))))))) else some (.done s294.1)))) (s162.1, (0 : Int))) fun y293 => some (.next (y293, (IntKind.i64.wrap (s162.2 + (1 : Int)))))) else some (.done s162.1))) (([] : List TApiExpr), (0 : Int))) fun y161 => some y161))
set_option maxRecDepth 100000 in
set_option maxHeartbeats 2000000 in
theorem r11_Exprs_ok (a0 : List TApiStmt) (r : List TApiExpr) (h0 : r11_Exprs a0 = some r) : CallsD Try.prog 21 [.lst 7 (a0.map eTApiStmt) .no] [] [] (fun d h k => ∃ y0, d = .lst 5 (r.map eTApiExpr) (.cur y0) ∧ h = [] ∧ k = [(5, y0)]) := by
  have hm := yes_of h0
  unfold r11_Exprs at hm
  clear h0
  refine enterX htab Try.func21 rfl rfl rfl rfl rfl (fun C => ?_)
  refine wpD_seq ?_
  refine wpD_region ?_
  refine p_pure htab rfl rfl rfl rfl ?_
  refine ops_nil ?_
  refine then_normal ?_
  refine wpD_seq ?_
  refine wpD_region ?_
  refine p_pure htab rfl rfl rfl rfl ?_
  refine ops_nil ?_
  refine then_normal ?_
  refine wpD_seq ?_
  refine wpD_region ?_
  refine p_pure htab rfl rfl rfl rfl ?_
  obtain ⟨x2, q2, hm⟩ := yes_bind hm
  refine p_callG (r11_Stmts_ok a0 x2 q2) rfl rfl rfl rfl rfl (WkL.refl _) (List.Perm.refl _) (List.Perm.refl _) ?_
  rintro _ _ _ ⟨w1, rfl, rfl, rfl⟩
  refine p_pure htab rfl rfl rfl rfl ?_
  refine ops_nil ?_
  refine then_normal ?_
  refine wpD_seq ?_
  refine wpD_seq ?_
  refine wpD_region ?_
  refine p_pure htab rfl rfl rfl rfl ?_
  refine ops_nil ?_
  refine then_normal ?_
  obtain ⟨y161, q161, ho161⟩ := yes_bind hm
  refine wpD_mid (Y := Value) (fun z161 => (⟨[(3, .lst 5 (y161.map eTApiExpr) (.cur z161))], [], [(5, z161)]⟩ : S)) ?_ ?_
  · clear hm; have hm := yes_of q161
    refine wpD_block ?_
    obtain ⟨u162, hl162, hq162⟩ := yes_m hm
    refine loop_M (Y := Value) hl162 (fun s162 z162 => (⟨[(3, .lst 5 (s162.1.map eTApiExpr) (.cur z162)), (4, .lst 7 (x2.map eTApiStmt) (.cur w1)), (5, .v (.int .i64 s162.2))], [], [(5, z162), (7, w1)]⟩ : S)) ?_ ?_
    · skip
      refine WkX.tokN (i := 3) 5 rfl (fun w267 => ?_)
      exact WkX.of w267 (WkS.perm (WkS.cons rfl (Wk.refl _) (WkS.cons rfl (Wk.refl _) (WkS.cons rfl (Wk.refl _) (WkS.nil)))) (List.Perm.refl _) (List.Perm.refl _))
    · intro G162 s162 z162 hm
      refine wpD_seq ?_
      refine wpD_seq ?_
      refine wpD_region ?_
      refine p_pure htab rfl rfl rfl rfl ?_
      refine p_pure htab rfl rfl rfl rfl ?_
      refine p_lenL htab rfl rfl rfl rfl rfl rfl rfl (by first | exact map_len | rfl) ?_
      refine p_pure htab rfl rfl rfl rfl ?_
      refine ops_nil ?_
      refine then_normal ?_
      refine wpD_cond rfl (fun hc268 => ?_) (fun hc268 => ?_)
      · replace hm := yes_t hc268 hm
        refine wpD_skip ?_
        refine then_normal ?_
        refine wpD_seq ?_
        refine wpD_block ?_
        refine wpD_seq ?_
        refine wpD_region ?_
        refine p_pure htab rfl rfl rfl rfl ?_
        refine ops_nil ?_
        refine then_normal ?_
        obtain ⟨y293, q293, ho293⟩ := yes_bind hm
        refine wpD_mid (Y := Value) (fun z293 => (⟨[(3, .lst 5 (y293.map eTApiExpr) (.cur z293)), (4, .lst 7 (x2.map eTApiStmt) (.cur w1)), (5, .v (.int .i64 s162.2))], [], [(5, z293), (7, w1)]⟩ : S)) ?_ ?_
        · clear hm; have hm := yes_of q293
          refine wpD_block ?_
          obtain ⟨u294, hl294, hq294⟩ := yes_m hm
          refine loop_M (Y := Value) hl294 (fun s294 z294 => (⟨[(3, .lst 5 (s294.1.map eTApiExpr) (.cur z294)), (4, .lst 7 (x2.map eTApiStmt) (.cur w1)), (5, .v (.int .i64 s162.2)), (6, .v (.int .i64 s294.2))], [], [(5, z294), (7, w1)]⟩ : S)) ?_ ?_
          · skip
            exact WkX.of z162 (WkS.perm (WkS.cons rfl (Wk.refl _) (WkS.cons rfl (Wk.refl _) (WkS.cons rfl (Wk.refl _) (WkS.cons rfl (Wk.refl _) (WkS.nil))))) (List.Perm.refl _) (List.Perm.refl _))
          · intro G294 s294 z294 hm
            refine wpD_seq ?_
            refine wpD_seq ?_
            refine wpD_region ?_
            refine p_pure htab rfl rfl rfl rfl ?_
            refine p_pure htab rfl rfl rfl rfl ?_
            refine p_pure htab rfl rfl rfl rfl ?_
            obtain ⟨x311, q311, hm⟩ := yes_bind hm
            refine p_elem htab rfl rfl rfl rfl rfl rfl rfl rfl rfl rfl (idx_nonneg q311) (idx_map q311) ?_
            refine p_eq (i := 18) rfl (Wk.of_eq (congrArg D.el (eTApiStmt_eq x311))) ?_
            refine p_pure htab rfl rfl rfl rfl ?_
            refine p_loadEl htab rfl rfl rfl rfl rfl rfl rfl rfl ?_
            refine p_lenL htab rfl rfl rfl rfl rfl rfl rfl (by first | exact map_len | rfl) ?_
            refine p_pure htab rfl rfl rfl rfl ?_
            refine ops_nil ?_
            refine then_normal ?_
            refine wpD_cond rfl (fun hc312 => ?_) (fun hc312 => ?_)
            · replace hm := yes_t hc312 hm
              refine wpD_skip ?_
              refine then_normal ?_
              refine wpD_seq ?_
              refine wpD_block ?_
              refine wpD_region ?_
              refine p_pure htab rfl rfl rfl rfl ?_
              refine p_pure htab rfl rfl rfl rfl ?_
              refine p_pure htab rfl rfl rfl rfl ?_
              obtain ⟨x313, q313, hm⟩ := yes_bind hm
              refine p_elem htab rfl rfl rfl rfl rfl rfl rfl rfl rfl rfl (idx_nonneg q313) (idx_map q313) ?_
              refine p_eq (i := 28) rfl (Wk.of_eq (congrArg D.el (eTApiStmt_eq x313))) ?_
              refine p_pure htab rfl rfl rfl rfl ?_
              refine p_loadEl htab rfl rfl rfl rfl rfl rfl rfl rfl ?_
              refine p_pure htab rfl rfl rfl rfl ?_
              obtain ⟨x314, q314, hm⟩ := yes_bind hm
              refine p_elem htab rfl rfl rfl rfl rfl rfl rfl rfl rfl rfl (idx_nonneg q314) (idx_map q314) ?_
              refine p_eq (i := 32) rfl (Wk.of_eq (congrArg D.el (eTApiExpr_eq x314))) ?_
              refine p_loadEl (d := .agg [.v (.int .i64 x314.gOp), .v (.int .i64 x314.gN), .v (.string x314.gName), .lst 5 (x314.gKids.map eTApiExpr) .no, .v (.int .i64 x314.gAt)]) htab rfl rfl rfl rfl rfl rfl rfl rfl ?_
              obtain ⟨x316, q316, hm⟩ := yes_bind hm
              refine p_callG (r11_All_ok x314 x316 q316) rfl rfl rfl rfl rfl (WkL.cons (Wk.trans (Wk.agg (WkR.refl _)) (Wk.of_eq (eTApiExpr_eq x314).symm)) (WkL.refl _)) (List.Perm.refl _) (List.Perm.refl _) ?_
              rintro _ _ _ ⟨w315, rfl, rfl, rfl⟩
              obtain ⟨x317, q317, hm⟩ := yes_bind hm
              refine p_appC 1 htab rfl rfl rfl rfl rfl rfl rfl rfl rfl rfl rfl rfl rfl rfl rfl rfl rfl (app_bound q317) (fun v317 => ?_)
              refine p_mapD (i := 35) q317 rfl ?_
              refine p_pure htab rfl rfl rfl rfl ?_
              refine ops_nil ?_
              refine block_normal ?_
              refine then_normal ?_
              refine wpD_region ?_
              refine p_pure htab rfl rfl rfl rfl ?_
              refine p_pure htab rfl rfl rfl rfl ?_
              refine p_pure htab rfl rfl rfl rfl ?_
              refine ops_nil ?_
              refine then_normal ⟨_, lp_next hm, ?_⟩
              exact WkX.of v317 (WkS.perm (WkS.cons rfl (Wk.refl _) (WkS.cons rfl (Wk.refl _) (WkS.cons rfl (Wk.refl _) (WkS.cons rfl (Wk.refl _) (WkS.nil))))) (List.Perm.refl _) ((perm_at (j := 0) rfl).trans (List.Perm.cons _ ((perm_at (j := 1) rfl).trans (List.Perm.cons _ (List.Perm.refl _))))))
            · replace hm := yes_f hc312 hm
              refine wpD_exit ?_
              refine then_exit ?_
              have e294 := lp_done hm; subst e294; clear hm; have hm := hq294
              refine then_exit ?_
              refine block_hit ?_
              have e293 := yes_eq hm; subst e293
              refine ⟨rfl, ?_⟩
              exact WkX.of z294 (WkS.perm (WkS.cons rfl (Wk.refl _) (WkS.cons rfl (Wk.refl _) (WkS.cons rfl (Wk.refl _) (WkS.nil)))) (List.Perm.refl _) (List.Perm.refl _))
        · intro s293 hw293; clear hm; have hm := ho293; clear q293 ho293
          refine block_normal ?_
          refine then_normal ?_
          refine wpD_wkX hw293 (fun z293 => ?_)
          refine wpD_region ?_
          refine p_pure htab rfl rfl rfl rfl ?_
          refine p_pure htab rfl rfl rfl rfl ?_
          refine p_pure htab rfl rfl rfl rfl ?_
          refine ops_nil ?_
          refine then_normal ⟨_, lp_next hm, ?_⟩
          exact WkX.of z293 (WkS.perm (WkS.cons rfl (Wk.refl _) (WkS.cons rfl (Wk.refl _) (WkS.cons rfl (Wk.refl _) (WkS.nil)))) (List.Perm.refl _) (List.Perm.refl _))
      · replace hm := yes_f hc268 hm
        refine wpD_exit ?_
        refine then_exit ?_
        have e162 := lp_done hm; subst e162; clear hm; have hm := hq162
        refine then_exit ?_
        refine block_hit ?_
        have e161 := yes_eq hm; subst e161
        refine ⟨rfl, ?_⟩
        exact WkX.of z162 (WkS.perm (WkS.cons rfl (Wk.refl _) (WkS.nil)) (List.Perm.refl _) (List.Perm.refl _))
  · intro s161 hw161; clear hm; have hm := ho161; clear q161 ho161
    refine then_normal ?_
    refine wpD_wkX hw161 (fun z161 => ?_)
    refine wpD_seq ?_
    refine wpD_region ?_
    refine p_pure htab rfl rfl rfl rfl ?_
    refine p_pure htab rfl rfl rfl rfl ?_
    refine ops_nil ?_
    refine then_normal ?_
    refine wpD_ret ?_
    have er318 := yes_eq hm; subst er318
    refine retX.of (s' := ⟨[(2, .lst 5 (y161.map eTApiExpr) (.cur z161))], [], [(5, z161)]⟩) (WkS.perm (WkS.cons rfl (Wk.refl _) (WkS.nil)) (List.Perm.refl _) (List.Perm.refl _)) (retD_mk (hh := []) (.inl rfl) (resL_cons (resOne_tmp rfl) (resL_nil)) (List.nil_sublist _) (List.Sublist.refl _) ?_)
    exact ⟨z161, rfl, rfl, rfl⟩
theorem r11_Exprs_ok0 (a0 : List TApiStmt) (r : List TApiExpr) (h0 : r11_Exprs a0 = some r) : CallsD Try.prog 21 [.lst 7 (a0.map eTApiStmt) .no] [] [] (fun d h k => d = .lst 5 (r.map eTApiExpr) .no ∧ h = [] ∧ k = []) :=
  (r11_Exprs_ok a0 r h0).drop fun d h k ⟨y0, e, _, _⟩ => by subst e; exact Wk.no
noncomputable def r11_Names (a0 : List TApiStmt) (a1 : Bool) : Option (List ByteArray) :=
  ((r11_Stmts a0).bind fun x2 => (Option.bind (α := List ByteArray) (loopM (fun (s39 : List ByteArray × Int) => (bif (decide (s39.2 < (x2.length : Int))) then ((idx x2 s39.2).bind fun x64 => (Option.bind (α := ByteArray) (bif a1 then ((idx x2 s39.2).bind fun x69 => some x69.gFunc) else some x64.gName) fun y67 => (bif (!decide (y67 = (ByteArray.mk #[]))) then ((r11_put s39.1 y67).bind fun x72 => some (.next (x72, (IntKind.i64.wrap (s39.2 + (1 : Int)))))) else some (.next (s39.1, (IntKind.i64.wrap (s39.2 + (1 : Int)))))))) else some (.done s39.1))) (([] : List ByteArray), (0 : Int))) fun y38 => ((r11_Exprs a0).bind fun x74 => (Option.bind (α := List ByteArray) (loopM (fun (s107 : List ByteArray × Int) => (Option.bind (α := Bool) (bif (decide (s107.2 < (x74.length : Int))) then some (!a1) else some false) fun y129 => (bif y129 then ((idx x74 s107.2).bind fun x132 => (bif (!decide (x132.gName = (ByteArray.mk #[]))) then ((idx x74 s107.2).bind fun x134 => ((r11_put s107.1 x134.gName).bind fun x136 => some (.next (x136, (IntKind.i64.wrap (s107.2 + (1 : Int))))))) else some (.next (s107.1, (IntKind.i64.wrap (s107.2 + (1 : Int))))))) else some (.done s107.1)))) (y38, (0 : Int))) fun y106 => some y106))))
set_option maxRecDepth 100000 in
set_option maxHeartbeats 2000000 in
theorem r11_Names_ok (a0 : List TApiStmt) (a1 : Bool) (r : List ByteArray) (h0 : r11_Names a0 a1 = some r) : CallsD Try.prog 9 [.lst 7 (a0.map eTApiStmt) .no, .v (.bool a1)] [] [] (fun d h k => ∃ y0, d = .lst 1 (r.map eStr) (.cur y0) ∧ h = [] ∧ k = [(1, y0)]) := by
  have hm := yes_of h0
  unfold r11_Names at hm
  clear h0
  refine enterX htab Try.func9 rfl rfl rfl rfl rfl (fun C => ?_)
  refine wpD_seq ?_
  refine wpD_region ?_
  refine p_pure htab rfl rfl rfl rfl ?_
  refine ops_nil ?_
  refine then_normal ?_
  refine wpD_seq ?_
  refine wpD_region ?_
  refine p_pure htab rfl rfl rfl rfl ?_
  refine ops_nil ?_
  refine then_normal ?_
  refine wpD_seq ?_
  refine wpD_region ?_
  refine p_pure htab rfl rfl rfl rfl ?_
  obtain ⟨x2, q2, hm⟩ := yes_bind hm
  refine p_callG (r11_Stmts_ok a0 x2 q2) rfl rfl rfl rfl rfl (WkL.refl _) (List.Perm.refl _) (List.Perm.refl _) ?_
  rintro _ _ _ ⟨w1, rfl, rfl, rfl⟩
  refine p_pure htab rfl rfl rfl rfl ?_
  refine ops_nil ?_
  refine then_normal ?_
  refine wpD_seq ?_
  refine wpD_seq ?_
  refine wpD_region ?_
  refine p_pure htab rfl rfl rfl rfl ?_
  refine ops_nil ?_
  refine then_normal ?_
  obtain ⟨y38, q38, ho38⟩ := yes_bind hm
  refine wpD_mid (Y := Value) (fun z38 => (⟨[(0, .lst 7 (a0.map eTApiStmt) .no), (1, .v (.bool a1)), (5, .lst 1 (y38.map eStr) (.cur z38))], [], [(1, z38)]⟩ : S)) ?_ ?_
  · clear hm; have hm := yes_of q38
    refine wpD_block ?_
    obtain ⟨u39, hl39, hq39⟩ := yes_m hm
    refine loop_M (Y := Value) hl39 (fun s39 z39 => (⟨[(0, .lst 7 (a0.map eTApiStmt) .no), (1, .v (.bool a1)), (5, .lst 1 (s39.1.map eStr) (.cur z39)), (6, .lst 7 (x2.map eTApiStmt) (.cur w1)), (7, .v (.int .i64 s39.2))], [], [(1, z39), (7, w1)]⟩ : S)) ?_ ?_
    · skip
      refine WkX.tokN (i := 5) 1 rfl (fun w62 => ?_)
      exact WkX.of w62 (WkS.perm (WkS.cons rfl (Wk.refl _) (WkS.cons rfl (Wk.refl _) (WkS.cons rfl (Wk.refl _) (WkS.cons rfl (Wk.refl _) (WkS.cons rfl (Wk.refl _) (WkS.nil)))))) (List.Perm.refl _) (List.Perm.refl _))
    · intro G39 s39 z39 hm
      refine wpD_seq ?_
      refine wpD_seq ?_
      refine wpD_region ?_
      refine p_pure htab rfl rfl rfl rfl ?_
      refine p_pure htab rfl rfl rfl rfl ?_
      refine p_lenL htab rfl rfl rfl rfl rfl rfl rfl (by first | exact map_len | rfl) ?_
      refine p_pure htab rfl rfl rfl rfl ?_
      refine ops_nil ?_
      refine then_normal ?_
      refine wpD_cond rfl (fun hc63 => ?_) (fun hc63 => ?_)
      · replace hm := yes_t hc63 hm
        refine wpD_skip ?_
        refine then_normal ?_
        refine wpD_seq ?_
        refine wpD_block ?_
        refine wpD_seq ?_
        refine wpD_region ?_
        refine p_pure htab rfl rfl rfl rfl ?_
        refine p_pure htab rfl rfl rfl rfl ?_
        obtain ⟨x64, q64, hm⟩ := yes_bind hm
        refine p_elem htab rfl rfl rfl rfl rfl rfl rfl rfl rfl rfl (idx_nonneg q64) (idx_map q64) ?_
        refine p_eq (i := 21) rfl (Wk.of_eq (congrArg D.el (eTApiStmt_eq x64))) ?_
        refine p_pure htab rfl rfl rfl rfl ?_
        refine p_loadEl htab rfl rfl rfl rfl rfl rfl rfl rfl ?_
        refine p_pure htab rfl rfl rfl rfl ?_
        refine ops_nil ?_
        refine then_normal ?_
        refine wpD_seq ?_
        refine wpD_seq ?_
        refine wpD_region ?_
        refine p_pure htab rfl rfl rfl rfl ?_
        refine ops_nil ?_
        refine then_normal ?_
        obtain ⟨y67, q67, ho67⟩ := yes_bind hm
        refine wpD_mid (Y := Unit) (fun z67 => (⟨[(0, .lst 7 (a0.map eTApiStmt) .no), (1, .v (.bool a1)), (5, .lst 1 (s39.1.map eStr) (.cur z39)), (6, .lst 7 (x2.map eTApiStmt) (.cur w1)), (7, .v (.int .i64 s39.2)), (8, .v (.string y67))], [], [(1, z39), (7, w1)]⟩ : S)) ?_ ?_
        · clear hm; have hm := yes_of q67
          refine wpD_cond rfl (fun hc68 => ?_) (fun hc68 => ?_)
          · replace hm := yes_t hc68 hm
            refine wpD_region ?_
            refine p_pure htab rfl rfl rfl rfl ?_
            refine p_pure htab rfl rfl rfl rfl ?_
            obtain ⟨x69, q69, hm⟩ := yes_bind hm
            refine p_elem htab rfl rfl rfl rfl rfl rfl rfl rfl rfl rfl (idx_nonneg q69) (idx_map q69) ?_
            refine p_eq (i := 27) rfl (Wk.of_eq (congrArg D.el (eTApiStmt_eq x69))) ?_
            refine p_pure htab rfl rfl rfl rfl ?_
            refine p_loadEl htab rfl rfl rfl rfl rfl rfl rfl rfl ?_
            refine p_pure htab rfl rfl rfl rfl ?_
            refine ops_nil ?_
            have e67 := yes_eq hm; subst e67
            refine ⟨rfl, ?_⟩
            exact WkX.of () (WkS.perm (WkS.cons rfl (Wk.refl _) (WkS.cons rfl (Wk.refl _) (WkS.cons rfl (Wk.refl _) (WkS.cons rfl (Wk.refl _) (WkS.cons rfl (Wk.refl _) (WkS.cons rfl (Wk.refl _) (WkS.nil))))))) (List.Perm.refl _) (List.Perm.refl _))
          · replace hm := yes_f hc68 hm
            refine wpD_skip ?_
            have e67 := yes_eq hm; subst e67
            refine ⟨rfl, ?_⟩
            exact WkX.of () (WkS.perm (WkS.cons rfl (Wk.refl _) (WkS.cons rfl (Wk.refl _) (WkS.cons rfl (Wk.refl _) (WkS.cons rfl (Wk.refl _) (WkS.cons rfl (Wk.refl _) (WkS.cons rfl (Wk.refl _) (WkS.nil))))))) (List.Perm.refl _) (List.Perm.refl _))
        · intro s67 hw67; clear hm; have hm := ho67; clear q67 ho67
          refine then_normal ?_
          refine wpD_wkX hw67 (fun z67 => ?_)
          refine wpD_seq ?_
          refine wpD_region ?_
          refine p_pure htab rfl rfl rfl rfl ?_
          refine p_pure htab rfl rfl rfl rfl ?_
          refine ops_nil ?_
          refine then_normal ?_
          refine wpD_cond rfl (fun hc70 => ?_) (fun hc70 => ?_)
          · replace hm := yes_t hc70 hm
            refine wpD_region ?_
            refine p_pure htab rfl rfl rfl rfl ?_
            refine p_pure htab rfl rfl rfl rfl ?_
            obtain ⟨x72, q72, hm⟩ := yes_bind hm
            refine p_callG (r11_put_ok s39.1 y67 x72 q72) rfl rfl rfl rfl rfl (WkL.cons (Wk.no) (WkL.cons (Wk.refl _) (WkL.refl _))) (List.Perm.refl _) (List.Perm.refl _) ?_
            rintro _ _ _ ⟨w71, rfl, rfl, rfl⟩
            refine p_pure htab rfl rfl rfl rfl ?_
            refine ops_nil ?_
            refine block_normal ?_
            refine then_normal ?_
            refine wpD_region ?_
            refine p_pure htab rfl rfl rfl rfl ?_
            refine p_pure htab rfl rfl rfl rfl ?_
            refine p_pure htab rfl rfl rfl rfl ?_
            refine ops_nil ?_
            refine then_normal ⟨_, lp_next hm, ?_⟩
            exact WkX.of w71 (WkS.perm (WkS.cons rfl (Wk.refl _) (WkS.cons rfl (Wk.refl _) (WkS.cons rfl (Wk.refl _) (WkS.cons rfl (Wk.refl _) (WkS.cons rfl (Wk.refl _) (WkS.nil)))))) (List.Perm.refl _) ((perm_at (j := 0) rfl).trans (List.Perm.cons _ ((perm_at (j := 1) rfl).trans (List.Perm.cons _ (List.Perm.refl _))))))
          · replace hm := yes_f hc70 hm
            refine wpD_skip ?_
            refine block_normal ?_
            refine then_normal ?_
            refine wpD_region ?_
            refine p_pure htab rfl rfl rfl rfl ?_
            refine p_pure htab rfl rfl rfl rfl ?_
            refine p_pure htab rfl rfl rfl rfl ?_
            refine ops_nil ?_
            refine then_normal ⟨_, lp_next hm, ?_⟩
            exact WkX.of z39 (WkS.perm (WkS.cons rfl (Wk.refl _) (WkS.cons rfl (Wk.refl _) (WkS.cons rfl (Wk.refl _) (WkS.cons rfl (Wk.refl _) (WkS.cons rfl (Wk.refl _) (WkS.nil)))))) (List.Perm.refl _) (List.Perm.refl _))
      · replace hm := yes_f hc63 hm
        refine wpD_exit ?_
        refine then_exit ?_
        have e39 := lp_done hm; subst e39; clear hm; have hm := hq39
        refine then_exit ?_
        refine block_hit ?_
        have e38 := yes_eq hm; subst e38
        refine ⟨rfl, ?_⟩
        exact WkX.of z39 (WkS.perm (WkS.cons rfl (Wk.refl _) (WkS.cons rfl (Wk.refl _) (WkS.cons rfl (Wk.refl _) (WkS.nil)))) (List.Perm.refl _) (List.Perm.refl _))
  · intro s38 hw38; clear hm; have hm := ho38; clear q38 ho38
    refine then_normal ?_
    refine wpD_wkX hw38 (fun z38 => ?_)
    refine wpD_seq ?_
    refine wpD_region ?_
    refine p_pure htab rfl rfl rfl rfl ?_
    obtain ⟨x74, q74, hm⟩ := yes_bind hm
    refine p_callG (r11_Exprs_ok a0 x74 q74) rfl rfl rfl rfl rfl (WkL.refl _) (List.Perm.refl _) (List.Perm.refl _) ?_
    rintro _ _ _ ⟨w73, rfl, rfl, rfl⟩
    refine p_pure htab rfl rfl rfl rfl ?_
    refine ops_nil ?_
    refine then_normal ?_
    refine wpD_seq ?_
    refine wpD_seq ?_
    refine wpD_region ?_
    refine p_pure htab rfl rfl rfl rfl ?_
    refine ops_nil ?_
    refine then_normal ?_
    obtain ⟨y106, q106, ho106⟩ := yes_bind hm
    refine wpD_mid (Y := Value) (fun z106 => (⟨[(5, .lst 1 (y106.map eStr) (.cur z106))], [], [(1, z106)]⟩ : S)) ?_ ?_
    · clear hm; have hm := yes_of q106
      refine wpD_block ?_
      obtain ⟨u107, hl107, hq107⟩ := yes_m hm
      refine loop_M (Y := Value) hl107 (fun s107 z107 => (⟨[(1, .v (.bool a1)), (5, .lst 1 (s107.1.map eStr) (.cur z107)), (9, .lst 5 (x74.map eTApiExpr) (.cur w73)), (10, .v (.int .i64 s107.2))], [], [(1, z107), (5, w73)]⟩ : S)) ?_ ?_
      · skip
        exact WkX.of z38 (WkS.perm (WkS.cons rfl (Wk.refl _) (WkS.cons rfl (Wk.refl _) (WkS.cons rfl (Wk.refl _) (WkS.cons rfl (Wk.refl _) (WkS.nil))))) (List.Perm.refl _) ((perm_at (j := 1) rfl).trans (List.Perm.cons _ ((perm_at (j := 0) rfl).trans (List.Perm.cons _ (List.Perm.refl _))))))
      · intro G107 s107 z107 hm
        refine wpD_seq ?_
        refine wpD_seq ?_
        obtain ⟨y129, q129, ho129⟩ := yes_bind hm
        refine wpD_mid (Y := Unit) (fun z129 => (⟨[(1, .v (.bool a1)), (5, .lst 1 (s107.1.map eStr) (.cur z107)), (9, .lst 5 (x74.map eTApiExpr) (.cur w73)), (10, .v (.int .i64 s107.2)), (44, .v (.bool y129))], [], [(1, z107), (5, w73)]⟩ : S)) ?_ ?_
        · clear hm; have hm := yes_of q129
          refine wpD_region ?_
          refine p_pure htab rfl rfl rfl rfl ?_
          refine p_pure htab rfl rfl rfl rfl ?_
          refine p_lenL htab rfl rfl rfl rfl rfl rfl rfl (by first | exact map_len | rfl) ?_
          refine p_pure htab rfl rfl rfl rfl ?_
          refine p_pure htab rfl rfl rfl rfl ?_
          refine p_split (i := 41) rfl (fun hg130 => ?_) (fun hg130 => ?_)
          · replace hm := yes_t hg130 hm
            refine p_pure htab rfl rfl rfl rfl ?_
            refine p_pure htab rfl rfl rfl rfl ?_
            refine p_pickT rfl rfl rfl rfl rfl rfl ?_
            refine ops_nil ?_
            have e129 := yes_eq hm; subst e129
            refine ⟨rfl, ?_⟩
            exact WkX.of () (WkS.perm (WkS.cons rfl (Wk.refl _) (WkS.cons rfl (Wk.refl _) (WkS.cons rfl (Wk.refl _) (WkS.cons rfl (Wk.refl _) (WkS.cons rfl (Wk.refl _) (WkS.nil)))))) (List.Perm.refl _) (List.Perm.refl _))
          · replace hm := yes_f hg130 hm
            refine p_skip rfl rfl rfl ?_
            refine p_skip rfl rfl rfl ?_
            refine p_pickF rfl rfl rfl rfl rfl rfl ?_
            refine ops_nil ?_
            have e129 := yes_eq hm; subst e129
            refine ⟨rfl, ?_⟩
            exact WkX.of () (WkS.perm (WkS.cons rfl (Wk.refl _) (WkS.cons rfl (Wk.refl _) (WkS.cons rfl (Wk.refl _) (WkS.cons rfl (Wk.refl _) (WkS.cons rfl (Wk.refl _) (WkS.nil)))))) (List.Perm.refl _) (List.Perm.refl _))
        · intro s129 hw129; clear hm; have hm := ho129; clear q129 ho129
          refine then_normal ?_
          refine wpD_wkX hw129 (fun z129 => ?_)
          refine wpD_cond rfl (fun hc131 => ?_) (fun hc131 => ?_)
          · replace hm := yes_t hc131 hm
            refine wpD_skip ?_
            refine then_normal ?_
            refine wpD_seq ?_
            refine wpD_block ?_
            refine wpD_seq ?_
            refine wpD_region ?_
            refine p_pure htab rfl rfl rfl rfl ?_
            refine p_pure htab rfl rfl rfl rfl ?_
            obtain ⟨x132, q132, hm⟩ := yes_bind hm
            refine p_elem htab rfl rfl rfl rfl rfl rfl rfl rfl rfl rfl (idx_nonneg q132) (idx_map q132) ?_
            refine p_eq (i := 49) rfl (Wk.of_eq (congrArg D.el (eTApiExpr_eq x132))) ?_
            refine p_pure htab rfl rfl rfl rfl ?_
            refine p_loadEl htab rfl rfl rfl rfl rfl rfl rfl rfl ?_
            refine p_pure htab rfl rfl rfl rfl ?_
            refine ops_nil ?_
            refine then_normal ?_
            refine wpD_cond rfl (fun hc133 => ?_) (fun hc133 => ?_)
            · replace hm := yes_t hc133 hm
              refine wpD_region ?_
              refine p_pure htab rfl rfl rfl rfl ?_
              refine p_pure htab rfl rfl rfl rfl ?_
              refine p_pure htab rfl rfl rfl rfl ?_
              obtain ⟨x134, q134, hm⟩ := yes_bind hm
              refine p_elem htab rfl rfl rfl rfl rfl rfl rfl rfl rfl rfl (idx_nonneg q134) (idx_map q134) ?_
              refine p_eq (i := 56) rfl (Wk.of_eq (congrArg D.el (eTApiExpr_eq x134))) ?_
              refine p_pure htab rfl rfl rfl rfl ?_
              refine p_loadEl htab rfl rfl rfl rfl rfl rfl rfl rfl ?_
              obtain ⟨x136, q136, hm⟩ := yes_bind hm
              refine p_callG (r11_put_ok s107.1 x134.gName x136 q136) rfl rfl rfl rfl rfl (WkL.cons (Wk.no) (WkL.cons (Wk.refl _) (WkL.refl _))) (List.Perm.refl _) (List.Perm.refl _) ?_
              rintro _ _ _ ⟨w135, rfl, rfl, rfl⟩
              refine p_pure htab rfl rfl rfl rfl ?_
              refine ops_nil ?_
              refine block_normal ?_
              refine then_normal ?_
              refine wpD_region ?_
              refine p_pure htab rfl rfl rfl rfl ?_
              refine p_pure htab rfl rfl rfl rfl ?_
              refine p_pure htab rfl rfl rfl rfl ?_
              refine ops_nil ?_
              refine then_normal ⟨_, lp_next hm, ?_⟩
              exact WkX.of w135 (WkS.perm (WkS.cons rfl (Wk.refl _) (WkS.cons rfl (Wk.refl _) (WkS.cons rfl (Wk.refl _) (WkS.cons rfl (Wk.refl _) (WkS.nil))))) (List.Perm.refl _) ((perm_at (j := 0) rfl).trans (List.Perm.cons _ ((perm_at (j := 1) rfl).trans (List.Perm.cons _ (List.Perm.refl _))))))
            · replace hm := yes_f hc133 hm
              refine wpD_skip ?_
              refine block_normal ?_
              refine then_normal ?_
              refine wpD_region ?_
              refine p_pure htab rfl rfl rfl rfl ?_
              refine p_pure htab rfl rfl rfl rfl ?_
              refine p_pure htab rfl rfl rfl rfl ?_
              refine ops_nil ?_
              refine then_normal ⟨_, lp_next hm, ?_⟩
              exact WkX.of z107 (WkS.perm (WkS.cons rfl (Wk.refl _) (WkS.cons rfl (Wk.refl _) (WkS.cons rfl (Wk.refl _) (WkS.cons rfl (Wk.refl _) (WkS.nil))))) (List.Perm.refl _) (List.Perm.refl _))
          · replace hm := yes_f hc131 hm
            refine wpD_exit ?_
            refine then_exit ?_
            have e107 := lp_done hm; subst e107; clear hm; have hm := hq107
            refine then_exit ?_
            refine block_hit ?_
            have e106 := yes_eq hm; subst e106
            refine ⟨rfl, ?_⟩
            exact WkX.of z107 (WkS.perm (WkS.cons rfl (Wk.refl _) (WkS.nil)) (List.Perm.refl _) (List.Perm.refl _))
    · intro s106 hw106; clear hm; have hm := ho106; clear q106 ho106
      refine then_normal ?_
      refine wpD_wkX hw106 (fun z106 => ?_)
      refine wpD_seq ?_
      refine wpD_region ?_
      refine p_pure htab rfl rfl rfl rfl ?_
      refine p_pure htab rfl rfl rfl rfl ?_
      refine ops_nil ?_
      refine then_normal ?_
      refine wpD_ret ?_
      have er137 := yes_eq hm; subst er137
      refine retX.of (s' := ⟨[(4, .lst 1 (y106.map eStr) (.cur z106))], [], [(1, z106)]⟩) (WkS.perm (WkS.cons rfl (Wk.refl _) (WkS.nil)) (List.Perm.refl _) (List.Perm.refl _)) (retD_mk (hh := []) (.inl rfl) (resL_cons (resOne_tmp rfl) (resL_nil)) (List.nil_sublist _) (List.Sublist.refl _) ?_)
      exact ⟨z106, rfl, rfl, rfl⟩
theorem r11_Names_ok0 (a0 : List TApiStmt) (a1 : Bool) (r : List ByteArray) (h0 : r11_Names a0 a1 = some r) : CallsD Try.prog 9 [.lst 7 (a0.map eTApiStmt) .no, .v (.bool a1)] [] [] (fun d h k => d = .lst 1 (r.map eStr) .no ∧ h = [] ∧ k = []) :=
  (r11_Names_ok a0 a1 r h0).drop fun d h k ⟨y0, e, _, _⟩ => by subst e; exact Wk.no
noncomputable def r11_Texts (a0 : List ByteArray) (a1 : List ByteArray) : Option (Bool) :=
  (bif ((a0.length : Int) != (a1.length : Int)) then some false else (Option.bind (α := (Unit) ⊕ (Bool)) (loopM (fun (s21 : Int) => (bif (decide (s21 < (a0.length : Int))) then ((idx a0 s21).bind fun x33 => ((idx a1 s21).bind fun x34 => (bif (!decide (x33 = x34)) then some (.done (.inr false)) else some (.next (IntKind.i64.wrap (s21 + (1 : Int))))))) else some (.done (.inl ())))) (0 : Int)) (Sum.elim (fun y20 => some true) (fun r => some r))))
set_option maxRecDepth 100000 in
set_option maxHeartbeats 2000000 in
theorem r11_Texts_ok (a0 : List ByteArray) (a1 : List ByteArray) (r : Bool) (h0 : r11_Texts a0 a1 = some r) : CallsD Try.prog 7 [.lst 1 (a0.map eStr) .no, .lst 1 (a1.map eStr) .no] [] [] (fun d h k => d = .v (.bool r) ∧ h = [] ∧ k = []) := by
  have hm := yes_of h0
  unfold r11_Texts at hm
  clear h0
  refine enterX htab Try.func7 rfl rfl rfl rfl rfl (fun C => ?_)
  refine wpD_seq ?_
  refine wpD_region ?_
  refine p_pure htab rfl rfl rfl rfl ?_
  refine ops_nil ?_
  refine then_normal ?_
  refine wpD_seq ?_
  refine wpD_seq ?_
  refine wpD_region ?_
  refine p_pure htab rfl rfl rfl rfl ?_
  refine p_lenL htab rfl rfl rfl rfl rfl rfl rfl (by first | exact map_len | rfl) ?_
  refine p_pure htab rfl rfl rfl rfl ?_
  refine p_lenL htab rfl rfl rfl rfl rfl rfl rfl (by first | exact map_len | rfl) ?_
  refine p_pure htab rfl rfl rfl rfl ?_
  refine ops_nil ?_
  refine then_normal ?_
  refine wpD_cond rfl (fun hc2 => ?_) (fun hc2 => ?_)
  · replace hm := yes_t hc2 hm
    refine wpD_seq ?_
    refine wpD_region ?_
    refine p_pure htab rfl rfl rfl rfl ?_
    refine ops_nil ?_
    refine then_normal ?_
    refine wpD_ret ?_
    refine then_ret ?_
    have er3 := yes_eq hm; subst er3
    refine retX.of (s' := ⟨[(4, .v (.bool false))], [], []⟩) (WkS.perm (WkS.cons rfl (Wk.refl _) (WkS.nil)) (List.Perm.refl _) (List.Perm.refl _)) (retD_mk (hh := []) (.inl rfl) (resL_cons (resOne_tmp rfl) (resL_nil)) (List.nil_sublist _) (List.Sublist.refl _) ?_)
    exact ⟨rfl, rfl, rfl⟩
  · replace hm := yes_f hc2 hm
    refine wpD_skip ?_
    refine then_normal ?_
    refine wpD_seq ?_
    refine wpD_seq ?_
    refine wpD_region ?_
    refine p_pure htab rfl rfl rfl rfl ?_
    refine ops_nil ?_
    refine then_normal ?_
    obtain ⟨x20, q20, ho20⟩ := yes_bind hm
    refine wpD_midX (τ := Unit) (Y := Unit) (fun y20 z20 => (⟨[], [], []⟩ : S)) x20 ?_ ?_
    · clear hm; have hm := yes_of q20
      refine wpD_block ?_
      obtain ⟨u21, hl21, hq21⟩ := yes_m hm
      refine loop_M (Y := Unit) hl21 (fun s21 z21 => (⟨[(0, .lst 1 (a0.map eStr) .no), (1, .lst 1 (a1.map eStr) .no), (5, .v (.int .i64 s21))], [], []⟩ : S)) ?_ ?_
      · skip
        exact WkX.of () (WkS.perm (WkS.cons rfl (Wk.refl _) (WkS.cons rfl (Wk.refl _) (WkS.cons rfl (Wk.refl _) (WkS.nil)))) (List.Perm.refl _) (List.Perm.refl _))
      · intro G21 s21 z21 hm
        refine wpD_seq ?_
        refine wpD_seq ?_
        refine wpD_region ?_
        refine p_pure htab rfl rfl rfl rfl ?_
        refine p_pure htab rfl rfl rfl rfl ?_
        refine p_lenL htab rfl rfl rfl rfl rfl rfl rfl (by first | exact map_len | rfl) ?_
        refine p_pure htab rfl rfl rfl rfl ?_
        refine ops_nil ?_
        refine then_normal ?_
        refine wpD_cond rfl (fun hc32 => ?_) (fun hc32 => ?_)
        · replace hm := yes_t hc32 hm
          refine wpD_skip ?_
          refine then_normal ?_
          refine wpD_seq ?_
          refine wpD_block ?_
          refine wpD_seq ?_
          obtain ⟨x33, q33, hm⟩ := yes_bind hm
          obtain ⟨x34, q34, hm⟩ := yes_bind hm
          refine wpD_draws 8 [] [[],[],[0],[0,2],[],[],[4],[4,6]] [0,2,4,6] [[],[],[0,1],[0,1,2],[],[],[4,5],[4,5,6],[0,1,2,3,4,5,6,7]] (by kernel_rfl) (by kernel_rfl) (by kernel_rfl) (by rfl) (by rfl) (by kernel_rfl) ?_
          apply Exists.intro
          apply Exists.intro
          apply Exists.intro
          apply Exists.intro
          intro bs
          refine z_e rfl rfl (ex_pure htab rfl) rfl rfl rfl rfl rfl rfl ?_
          refine z_q rfl rfl (ex_pure htab rfl) rfl rfl rfl rfl rfl rfl ?_
          refine z_e rfl rfl (x_elem htab rfl rfl rfl rfl rfl rfl rfl (idx_nonneg q33) (idx_map q33)) rfl rfl rfl rfl rfl rfl ?_
          refine z_qM rfl rfl (xm_loadEl htab rfl rfl rfl rfl rfl) rfl rfl rfl rfl rfl rfl ?_
          refine z_e rfl rfl (ex_pure htab rfl) rfl rfl rfl rfl rfl rfl ?_
          refine z_q rfl rfl (ex_pure htab rfl) rfl rfl rfl rfl rfl rfl ?_
          refine z_e rfl rfl (x_elem htab rfl rfl rfl rfl rfl rfl rfl (idx_nonneg q34) (idx_map q34)) rfl rfl rfl rfl rfl rfl ?_
          refine z_qM rfl rfl (xm_loadEl htab rfl rfl rfl rfl rfl) rfl rfl rfl rfl rfl rfl ?_
          refine z_nil rfl rfl (fun e he => by simp [isAl] at he) ?_
          refine p_pure htab rfl rfl rfl rfl ?_
          refine ops_nil ?_
          refine then_normal ?_
          refine wpD_cond rfl (fun hc35 => ?_) (fun hc35 => ?_)
          · replace hm := yes_t hc35 hm
            refine wpD_seq ?_
            refine wpD_region ?_
            refine p_pure htab rfl rfl rfl rfl ?_
            refine ops_nil ?_
            refine then_normal ?_
            refine wpD_ret ?_
            refine block_ret ?_
            refine then_ret ?_
            have e21 := lp_done hm; subst e21; clear hm; have hm := hq21
            refine then_ret ?_
            refine block_ret ?_
            have e20 := yes_eq hm; subst e20; refine midX_inr ?_; clear hm; have hm := ho20; simp only [Sum.elim_inr] at hm
            refine then_ret ?_
            have er36 := yes_eq hm; subst er36
            refine retX.of (s' := ⟨[(4, .v (.bool false))], [], []⟩) (WkS.perm (WkS.cons rfl (Wk.refl _) (WkS.nil)) (List.Perm.refl _) (List.Perm.refl _)) (retD_mk (hh := []) (.inl rfl) (resL_cons (resOne_tmp rfl) (resL_nil)) (List.nil_sublist _) (List.Sublist.refl _) ?_)
            exact ⟨rfl, rfl, rfl⟩
          · replace hm := yes_f hc35 hm
            refine wpD_skip ?_
            refine block_normal ?_
            refine then_normal ?_
            refine wpD_region ?_
            refine p_pure htab rfl rfl rfl rfl ?_
            refine p_pure htab rfl rfl rfl rfl ?_
            refine p_pure htab rfl rfl rfl rfl ?_
            refine ops_nil ?_
            refine then_normal ⟨_, lp_next hm, ?_⟩
            exact WkX.of () (WkS.perm (WkS.cons rfl (Wk.refl _) (WkS.cons rfl (Wk.refl _) (WkS.cons rfl (Wk.refl _) (WkS.nil)))) (List.Perm.refl _) (List.Perm.refl _))
        · replace hm := yes_f hc32 hm
          refine wpD_exit ?_
          refine then_exit ?_
          have e21 := lp_done hm; subst e21; clear hm; have hm := hq21
          refine then_exit ?_
          refine block_hit ?_
          have e20 := yes_eq hm; subst e20
          refine midX_inl ?_
          exact WkX.of () (WkS.perm (WkS.nil) (List.Perm.refl _) (List.Perm.refl _))
    · intro y20 s20 hx20 hw20; subst hx20; clear hm; have hm := ho20; simp only [Sum.elim_inl] at hm; clear q20 ho20
      refine then_normal ?_
      refine wpD_wkX hw20 (fun z20 => ?_)
      refine wpD_seq ?_
      refine wpD_region ?_
      refine p_pure htab rfl rfl rfl rfl ?_
      refine ops_nil ?_
      refine then_normal ?_
      refine wpD_ret ?_
      have er37 := yes_eq hm; subst er37
      refine retX.of (s' := ⟨[(4, .v (.bool true))], [], []⟩) (WkS.perm (WkS.cons rfl (Wk.refl _) (WkS.nil)) (List.Perm.refl _) (List.Perm.refl _)) (retD_mk (hh := []) (.inl rfl) (resL_cons (resOne_tmp rfl) (resL_nil)) (List.nil_sublist _) (List.Sublist.refl _) ?_)
      exact ⟨rfl, rfl, rfl⟩
noncomputable def tree_Calls_2 (a0 : TApiExpr) : Option (Unit) :=
  some ()
set_option maxRecDepth 100000 in
set_option maxHeartbeats 2000000 in
theorem tree_Calls_2_ok (a0 : TApiExpr) (r : Unit) (h0 : tree_Calls_2 a0 = some r) : CallsD Try.prog 40 [eTApiExpr a0] [] [] (fun d h k => d = .tup [] ∧ h = [] ∧ k = []) := by
  have hm := yes_of h0
  unfold tree_Calls_2 at hm
  clear h0
  refine enterX htab Try.func40 rfl rfl rfl rfl rfl (fun C => ?_)
  refine w_eq (i := 0) rfl (Wk.of_eq (eTApiExpr_eq a0)) ?_
  refine wpD_region ?_
  refine p_box rfl rfl rfl rfl rfl rfl rfl (fun b1 => ?_)
  refine ops_nil ?_
  have er2 := yes_eq hm; subst er2
  refine retX.of (s' := ⟨[], [], []⟩) (WkS.perm (WkS.nil) (List.Perm.refl _) (List.Perm.refl _)) (retD_mk (hh := []) (.inr rfl) (resL_nil) (List.nil_sublist _) (List.Sublist.refl _) ?_)
  exact ⟨rfl, rfl, rfl⟩
noncomputable def tree_walk_12_b (g0 : (TApiExpr) → Option (Unit)) (a0 : TApiExpr) : Option (Unit) :=
  ((tree_Calls_2 a0).bind fun x2 => (Option.bind (α := Unit) (loopM (fun (s20 : Int) => (bif (decide (s20 < (a0.gKids.length : Int))) then ((idx a0.gKids s20).bind fun x32 => ((g0 x32).bind fun x34 => some (.next (IntKind.i64.wrap (s20 + (1 : Int)))))) else some (.done ()))) (0 : Int)) fun y19 => some ()))
set_option maxRecDepth 100000 in
set_option maxHeartbeats 2000000 in
theorem tree_walk_12_b_ok (g0 : (TApiExpr) → Option (Unit)) (hg0 : ∀ (a0 : TApiExpr) (o0 : Nat) (T0 : TypeId) (o1 : Nat) (T1 : TypeId) (r : Unit) (h0 : g0 a0 = some r), CallsD Try.prog 52 [eTApiExpr a0, .ptr o0 0, .ptr o1 0] [(o0, Blk.cells [.fn (.func 40) [] []] T0), (o1, Blk.cells [.fn (.func 52) [] [.ptr o0 0, .ptr o1 0]] T1)] [] (fun d h k => d = .tup [] ∧ h = [(o0, Blk.cells [.fn (.func 40) [] []] T0), (o1, Blk.cells [.fn (.func 52) [] [.ptr o0 0, .ptr o1 0]] T1)] ∧ k = [])) (a0 : TApiExpr) (o0 : Nat) (T0 : TypeId) (o1 : Nat) (T1 : TypeId) (r : Unit) (h0 : tree_walk_12_b g0 a0 = some r) : CallsD Try.prog 52 [eTApiExpr a0, .ptr o0 0, .ptr o1 0] [(o0, Blk.cells [.fn (.func 40) [] []] T0), (o1, Blk.cells [.fn (.func 52) [] [.ptr o0 0, .ptr o1 0]] T1)] [] (fun d h k => d = .tup [] ∧ h = [(o0, Blk.cells [.fn (.func 40) [] []] T0), (o1, Blk.cells [.fn (.func 52) [] [.ptr o0 0, .ptr o1 0]] T1)] ∧ k = []) := by
  have hm := yes_of h0
  unfold tree_walk_12_b at hm
  clear h0
  refine enterX htab Try.func52 rfl rfl rfl rfl rfl (fun C => ?_)
  refine w_eq (i := 0) rfl (Wk.of_eq (eTApiExpr_eq a0)) ?_
  refine wpD_seq ?_
  refine wpD_region ?_
  refine p_box rfl rfl rfl rfl rfl rfl rfl (fun b1 => ?_)
  refine ops_nil ?_
  refine then_normal ?_
  refine wpD_seq ?_
  refine wpD_region ?_
  refine p_load 0 htab rfl rfl rfl rfl rfl rfl rfl rfl ?_
  refine p_load (d := .agg [.v (.int .i64 a0.gOp), .v (.int .i64 a0.gN), .v (.string a0.gName), .lst 5 (a0.gKids.map eTApiExpr) .no, .v (.int .i64 a0.gAt)]) 2 htab rfl rfl rfl rfl rfl rfl rfl rfl ?_
  obtain ⟨x2, q2, hm⟩ := yes_bind hm
  refine p_callV0 (tree_Calls_2_ok a0 x2 q2) rfl rfl rfl rfl rfl rfl rfl (WkL.cons (Wk.trans (Wk.agg (WkR.refl _)) (Wk.of_eq (eTApiExpr_eq a0).symm)) (WkL.refl _)) ?_
  rintro _ rfl
  refine ops_nil ?_
  refine then_normal ?_
  refine wpD_seq ?_
  refine wpD_region ?_
  refine p_pure htab rfl rfl rfl rfl ?_
  refine p_load 2 htab rfl rfl rfl rfl rfl rfl rfl rfl ?_
  refine p_lenL htab rfl rfl rfl rfl rfl rfl rfl (by first | exact map_len | rfl) ?_
  refine p_pure htab rfl rfl rfl rfl ?_
  refine ops_nil ?_
  refine then_normal ?_
  obtain ⟨y19, q19, ho19⟩ := yes_bind hm
  refine wpD_mid (Y := Unit) (fun z19 => (⟨[], [(o0, Blk.cells [.fn (.func 40) [] []] T0), (o1, Blk.cells [.fn (.func 52) [] [.ptr o0 0, .ptr o1 0]] T1), (b1, Blk.cells [.v (.int .i64 a0.gOp), .v (.int .i64 a0.gN), .v (.string a0.gName), .lst 5 (a0.gKids.map eTApiExpr) .no, .v (.int .i64 a0.gAt)] 34)], []⟩ : S)) ?_ ?_
  · clear hm; have hm := yes_of q19
    refine wpD_block ?_
    obtain ⟨u20, hl20, hq20⟩ := yes_m hm
    refine loop_M (Y := Unit) hl20 (fun s20 z20 => (⟨[(2, .ptr o1 0), (10, .lst 5 (a0.gKids.map eTApiExpr) .no), (11, .v (.int .i64 (a0.gKids.length : Int))), (12, .v (.int .i64 s20))], [(o0, Blk.cells [.fn (.func 40) [] []] T0), (o1, Blk.cells [.fn (.func 52) [] [.ptr o0 0, .ptr o1 0]] T1), (b1, Blk.cells [.v (.int .i64 a0.gOp), .v (.int .i64 a0.gN), .v (.string a0.gName), .lst 5 (a0.gKids.map eTApiExpr) .no, .v (.int .i64 a0.gAt)] 34)], []⟩ : S)) ?_ ?_
    · skip
      exact WkX.of () (WkS.perm (WkS.cons rfl (Wk.refl _) (WkS.cons rfl (Wk.refl _) (WkS.cons rfl (Wk.refl _) (WkS.cons rfl (Wk.refl _) (WkS.nil))))) (List.Perm.refl _) (List.Perm.refl _))
    · intro G20 s20 z20 hm
      refine wpD_seq ?_
      refine wpD_region ?_
      refine p_pure htab rfl rfl rfl rfl ?_
      refine ops_nil ?_
      refine then_normal ?_
      refine wpD_seq ?_
      refine wpD_cond rfl (fun hc31 => ?_) (fun hc31 => ?_)
      · replace hm := yes_t hc31 hm
        refine wpD_skip ?_
        refine then_normal ?_
        refine wpD_seq ?_
        refine wpD_block ?_
        refine wpD_seq ?_
        refine wpD_region ?_
        obtain ⟨x32, q32, hm⟩ := yes_bind hm
        refine p_elem htab rfl rfl rfl rfl rfl rfl rfl rfl rfl rfl (idx_nonneg q32) (idx_map q32) ?_
        refine p_eq (i := 14) rfl (Wk.of_eq (congrArg D.el (eTApiExpr_eq x32))) ?_
        refine p_loadEl (d := .agg [.v (.int .i64 x32.gOp), .v (.int .i64 x32.gN), .v (.string x32.gName), .lst 5 (x32.gKids.map eTApiExpr) .no, .v (.int .i64 x32.gAt)]) htab rfl rfl rfl rfl rfl rfl rfl rfl ?_
        refine p_alloc htab rfl rfl rfl rfl rfl rfl rfl (fun b33 => ?_)
        refine p_store (ds' := [.v (.int .i64 x32.gOp), .v (.int .i64 x32.gN), .v (.string x32.gName), .lst 5 (x32.gKids.map eTApiExpr) .no, .v (.int .i64 x32.gAt)]) (h' := [(o0, Blk.cells [.fn (.func 40) [] []] T0), (o1, Blk.cells [.fn (.func 52) [] [.ptr o0 0, .ptr o1 0]] T1), (b1, Blk.cells [.v (.int .i64 a0.gOp), .v (.int .i64 a0.gN), .v (.string a0.gName), .lst 5 (a0.gKids.map eTApiExpr) .no, .v (.int .i64 a0.gAt)] 34), (b33, Blk.cells [.v (.int .i64 x32.gOp), .v (.int .i64 x32.gN), .v (.string x32.gName), .lst 5 (x32.gKids.map eTApiExpr) .no, .v (.int .i64 x32.gAt)] 34)]) 3 htab rfl rfl rfl rfl rfl rfl rfl rfl rfl rfl rfl rfl ?_
        refine ops_nil ?_
        refine then_normal ?_
        refine wpD_region ?_
        refine p_load 1 htab rfl rfl rfl rfl rfl rfl rfl rfl ?_
        refine p_load (d := .agg [.v (.int .i64 x32.gOp), .v (.int .i64 x32.gN), .v (.string x32.gName), .lst 5 (x32.gKids.map eTApiExpr) .no, .v (.int .i64 x32.gAt)]) 3 htab rfl rfl rfl rfl rfl rfl rfl rfl ?_
        obtain ⟨x34, q34, hm⟩ := yes_bind hm
        refine p_callV (hg0 x32 o0 T0 o1 T1 x34 q34) rfl rfl rfl rfl rfl rfl rfl (WkL.cons (Wk.trans (Wk.agg (WkR.refl _)) (Wk.of_eq (eTApiExpr_eq x32).symm)) (WkL.cons (Wk.refl _) (WkL.cons (Wk.refl _) (WkL.refl _)))) (List.Perm.refl _) (List.Perm.refl _) ?_
        rintro _ _ _ ⟨rfl, rfl, rfl⟩
        refine ops_nil ?_
        refine block_normal ?_
        refine then_normal ?_
        refine wpD_region ?_
        refine p_pure htab rfl rfl rfl rfl ?_
        refine p_pure htab rfl rfl rfl rfl ?_
        refine ops_nil ?_
        refine then_normal ⟨_, lp_next hm, ?_⟩
        exact WkX.of () (WkS.perm (WkS.cons rfl (Wk.refl _) (WkS.cons rfl (Wk.refl _) (WkS.cons rfl (Wk.refl _) (WkS.cons rfl (Wk.refl _) (WkS.nil))))) (List.Perm.refl _) (List.Perm.refl _))
      · replace hm := yes_f hc31 hm
        refine wpD_exit ?_
        refine then_exit ?_
        have e20 := lp_done hm; subst e20; clear hm; have hm := hq20
        refine then_exit ?_
        refine block_hit ?_
        have e19 := yes_eq hm; subst e19
        refine ⟨rfl, ?_⟩
        exact WkX.of () (WkS.perm (WkS.nil) (List.Perm.refl _) (List.Perm.refl _))
  · intro s19 hw19; clear hm; have hm := ho19; clear q19 ho19
    refine retX.wkX hw19 (fun z19 => ?_)
    have er35 := yes_eq hm; subst er35
    refine retX.of (s' := ⟨[], [(o0, Blk.cells [.fn (.func 40) [] []] T0), (o1, Blk.cells [.fn (.func 52) [] [.ptr o0 0, .ptr o1 0]] T1)], []⟩) (WkS.perm (WkS.nil) (List.Perm.refl _) (List.Perm.refl _)) (retD_mk (hh := [(o0, Blk.cells [.fn (.func 40) [] []] T0), (o1, Blk.cells [.fn (.func 52) [] [.ptr o0 0, .ptr o1 0]] T1)]) (.inr rfl) (resL_nil) (List.Sublist.refl _) (List.Sublist.refl _) ?_)
    exact ⟨rfl, rfl, rfl⟩
noncomputable def tree_walk_12_g : Nat → ((TApiExpr) → Option (Unit))
  | 0 => (fun _ => none)
  | n + 1 => (tree_walk_12_b ((tree_walk_12_g n)))
theorem tree_walk_12_g_ok : ∀ n, (∀ (a0 : TApiExpr) (o0 : Nat) (T0 : TypeId) (o1 : Nat) (T1 : TypeId) (r : Unit) (h0 : (tree_walk_12_g n) a0 = some r), CallsD Try.prog 52 [eTApiExpr a0, .ptr o0 0, .ptr o1 0] [(o0, Blk.cells [.fn (.func 40) [] []] T0), (o1, Blk.cells [.fn (.func 52) [] [.ptr o0 0, .ptr o1 0]] T1)] [] (fun d h k => d = .tup [] ∧ h = [(o0, Blk.cells [.fn (.func 40) [] []] T0), (o1, Blk.cells [.fn (.func 52) [] [.ptr o0 0, .ptr o1 0]] T1)] ∧ k = []))
  | 0 => fun _ _ _ _ _ _ h0 => by cases h0
  | n + 1 => by
    have ih := tree_walk_12_g_ok n
    exact tree_walk_12_b_ok (tree_walk_12_g n) ih
theorem tree_walk_12_g_le : ∀ n, (∀ (a0 : TApiExpr), Le ((tree_walk_12_g n) a0) ((tree_walk_12_g (n + 1)) a0))
  | 0 => fun _ => Le.none _
  | n + 1 => by
    have ih := tree_walk_12_g_le n
    exact fun a0 => by show Le (tree_walk_12_b ((tree_walk_12_g n)) a0) (tree_walk_12_b ((tree_walk_12_g (n + 1))) a0); unfold tree_walk_12_b; repeat (first | exact Le.refl _ | exact ih _ | assumption | (refine Le.bind ?_ (fun _ => ?_)) | (refine Le.cond ?_ ?_) | (refine Le.loop (fun _ => ?_)) | (refine Le.elim (fun _ => ?_) (fun _ => ?_)))
noncomputable def tree_walk_12 (a0 : TApiExpr) : Option (Unit) := anyN fun n => (tree_walk_12_g n) a0
theorem tree_walk_12_of (a0 : TApiExpr) {r : Unit} (n : Nat) (h : (tree_walk_12_g n) a0 = some r) : tree_walk_12 a0 = some r := anyN_of (fun m => (tree_walk_12_g_le m) a0) h
theorem tree_walk_12_ok (a0 : TApiExpr) (o0 : Nat) (T0 : TypeId) (o1 : Nat) (T1 : TypeId) (r : Unit) (h0 : tree_walk_12 a0 = some r) : CallsD Try.prog 52 [eTApiExpr a0, .ptr o0 0, .ptr o1 0] [(o0, Blk.cells [.fn (.func 40) [] []] T0), (o1, Blk.cells [.fn (.func 52) [] [.ptr o0 0, .ptr o1 0]] T1)] [] (fun d h k => d = .tup [] ∧ h = [(o0, Blk.cells [.fn (.func 40) [] []] T0), (o1, Blk.cells [.fn (.func 52) [] [.ptr o0 0, .ptr o1 0]] T1)] ∧ k = []) :=
  let ⟨n, hn⟩ := anyN_inv h0; (tree_walk_12_g_ok n) a0 o0 T0 o1 T1 r hn
noncomputable def tree_Calls_1_r (a0 : TApiStmt) (m0 : TTreeBagString) : Option (TTreeBagString) :=
  (bif (!decide (a0.gFunc = (ByteArray.mk #[]))) then ((tree_bag_string_add_r m0 a0.gFunc).bind fun x4 => some x4) else some m0)
set_option maxRecDepth 100000 in
set_option maxHeartbeats 2000000 in
theorem tree_Calls_1_r_ok (a0 : TApiStmt) (m0 : TTreeBagString) (o0 : Nat) (T0 : TypeId) (z0_0 : Z3) (r : TTreeBagString) (h0 : tree_Calls_1_r a0 m0 = some r) : CallsD Try.prog 39 [eTApiStmt a0, .ptr o0 0] [(o0, Blk.cells [.v (SL z0_0)] T0), (0, Blk.row 1 (m0.gL.map eStr) (SL z0_0))] [] (fun d h k => ∃ y0, d = .tup [] ∧ h = [(o0, Blk.cells [.v (SL y0)] T0), (0, Blk.row 1 (r.gL.map eStr) (SL y0))] ∧ k = []) := by
  have hm := yes_of h0
  unfold tree_Calls_1_r at hm
  clear h0
  refine enterX htab Try.func39 rfl rfl rfl rfl rfl (fun C => ?_)
  refine w_eq (i := 0) rfl (Wk.of_eq (eTApiStmt_eq a0)) ?_
  refine wpD_seq ?_
  refine wpD_region ?_
  refine p_box rfl rfl rfl rfl rfl rfl rfl (fun b1 => ?_)
  refine ops_nil ?_
  refine then_normal ?_
  refine wpD_seq ?_
  refine wpD_region ?_
  refine p_pure htab rfl rfl rfl rfl ?_
  refine p_load 2 htab rfl rfl rfl rfl rfl rfl rfl rfl ?_
  refine p_pure htab rfl rfl rfl rfl ?_
  refine ops_nil ?_
  refine then_normal ?_
  refine wpD_cond rfl (fun hc2 => ?_) (fun hc2 => ?_)
  · replace hm := yes_t hc2 hm
    refine wpD_region ?_
    refine p_pure htab rfl rfl rfl rfl ?_
    refine p_load 2 htab rfl rfl rfl rfl rfl rfl rfl rfl ?_
    obtain ⟨x4, q4, hm⟩ := yes_bind hm
    refine p_callG (tree_bag_string_add_r_ok m0 a0.gFunc o0 T0 z0_0 x4 q4) rfl rfl rfl rfl rfl (WkL.refl _) (List.Perm.refl _) (List.Perm.refl _) ?_
    rintro _ _ _ ⟨w3, rfl, rfl, rfl⟩
    refine ops_nil ?_
    have er5 := yes_eq hm; subst er5
    refine retX.of (s' := ⟨[], [(o0, Blk.cells [.v (SL w3)] T0), (0, Blk.row 1 (x4.gL.map eStr) (SL w3))], []⟩) (WkS.perm (WkS.nil) (List.Perm.refl _) (List.Perm.refl _)) (retD_mk (hh := [(o0, Blk.cells [.v (SL w3)] T0), (0, Blk.row 1 (x4.gL.map eStr) (SL w3))]) (.inr rfl) (resL_nil) (List.Sublist.refl _) (List.Sublist.refl _) ?_)
    exact ⟨w3, rfl, rfl, rfl⟩
  · replace hm := yes_f hc2 hm
    refine wpD_skip ?_
    have er6 := yes_eq hm; subst er6
    refine retX.of (s' := ⟨[], [(o0, Blk.cells [.v (SL z0_0)] T0), (0, Blk.row 1 (m0.gL.map eStr) (SL z0_0))], []⟩) (WkS.perm (WkS.nil) (List.Perm.refl _) (List.Perm.refl _)) (retD_mk (hh := [(o0, Blk.cells [.v (SL z0_0)] T0), (0, Blk.row 1 (m0.gL.map eStr) (SL z0_0))]) (.inr rfl) (resL_nil) (List.Sublist.refl _) (List.Sublist.refl _) ?_)
    exact ⟨z0_0, rfl, rfl, rfl⟩
end Go.Proofs.Ytphpnbdfngdinaa.Ab
