/- Layer 17: what the functions compute. -/
import Derived.Test.YtpapooaaccmnpaaFl3
namespace Go.Proofs.Ytpapooaaccmnpaa.Ab
open Go
set_option linter.all false
noncomputable def flow_maker_leave (m0 : TFlowMaker) (a1 : TApiStmt) : Option (TFlowMaker) :=
  ((flow_maker_edge m0 m0.gAt (1 : Int) (8 : Int) (⟨(0 : Int), ByteArray.empty, ByteArray.empty, a1.gExps, [], [], (0 : Int)⟩ : TApiStmt)).bind fun x3 => ((flow_maker_node x3).bind fun x4 => some (⟨x4.2.gG, x4.1, x4.2.gPlaces⟩ : TFlowMaker)))
set_option maxRecDepth 100000 in
set_option maxHeartbeats 2000000 in
theorem flow_maker_leave_ok (m0 : TFlowMaker) (a1 : TApiStmt) (o0 : Nat) (T0 : TypeId) (k0_2 : Value) (c0_3 : Cap) (c0_6 : Cap) (r : TFlowMaker) (h0 : flow_maker_leave m0 a1 = some r) : CallsD Try.prog 26 [.ptr o0 0, eTApiStmt a1] [(o0, Blk.cells [.v (.string m0.gG.gFunc), .v (.int .i64 m0.gG.gNodes), .lst 6 (m0.gG.gEdges.map eTApiEdge) (.cur k0_2), .lst 2 (m0.gG.gVars.map eTApiVar) c0_3, .v (.int .i64 m0.gG.gMany), .v (.int .i64 m0.gAt), .lst 1 (m0.gPlaces.map eI64) c0_6] T0)] [(6, k0_2)] (fun d h k => ∃ y0, d = .tup [] ∧ h = [(o0, Blk.cells [.v (.string r.gG.gFunc), .v (.int .i64 r.gG.gNodes), .lst 6 (r.gG.gEdges.map eTApiEdge) (.cur y0), .lst 2 (r.gG.gVars.map eTApiVar) c0_3, .v (.int .i64 r.gG.gMany), .v (.int .i64 r.gAt), .lst 1 (r.gPlaces.map eI64) c0_6] T0)] ∧ k = [(6, y0)]) := by
  have hm := yes_of h0
  unfold flow_maker_leave at hm
  clear h0
  refine enterX htab Try.func26 rfl rfl rfl rfl rfl (fun C => ?_)
  refine w_eq (i := 1) rfl (Wk.of_eq (eTApiStmt_eq a1)) ?_
  refine wpD_seq ?_
  refine wpD_region ?_
  refine p_box rfl rfl rfl rfl rfl rfl rfl (fun b1 => ?_)
  refine ops_nil ?_
  refine then_normal ?_
  refine wpD_seq ?_
  refine wpD_draws 8 [] [[],[],[1],[1,2],[1,2,3],[],[5],[5,6]] [0,1,2,3,5,6,7] [[],[],[1],[1,2],[1,2,3],[],[5],[5,6],[0,1,2,3,4,5,6,7]] (by kernel_rfl) (by kernel_rfl) (by kernel_rfl) (by rfl) (by rfl) (by kernel_rfl) ?_
  apply Exists.intro
  apply Exists.intro
  apply Exists.intro
  apply Exists.intro
  apply Exists.intro
  apply Exists.intro
  apply Exists.intro
  intro bs
  refine z_e rfl rfl (ex_pure htab rfl) rfl rfl rfl rfl rfl rfl ?_
  refine z_e rfl rfl (ex_pure htab rfl) rfl rfl rfl rfl rfl rfl ?_
  refine z_e rfl rfl (ex_pure htab rfl) rfl rfl rfl rfl rfl rfl ?_
  refine z_e rfl rfl (ex_pure htab rfl) rfl rfl rfl rfl rfl rfl ?_
  refine z_qM rfl rfl (xm_load 0 htab rfl rfl rfl rfl rfl) rfl rfl rfl rfl rfl rfl ?_
  refine z_e rfl rfl (ex_pure htab rfl) rfl rfl rfl rfl rfl rfl ?_
  refine z_eM rfl rfl (xm_load 1 htab rfl rfl rfl rfl rfl) rfl rfl rfl rfl rfl rfl ?_
  refine z_e rfl rfl (x_build (r := [.v (.int .i64 (0 : Int)), .v (.string ByteArray.empty), .v (.string ByteArray.empty), .lst 5 (a1.gExps.map eTApiExpr) .no, .lst 1 [] .full, .lst 1 [] .full, .v (.int .i64 (0 : Int))]) htab rfl rfl rfl rfl rfl rfl) rfl rfl rfl rfl rfl rfl ?_
  refine z_nil rfl rfl (fun e he => by simp [isAl] at he) ?_
  obtain ⟨x3, q3, hm⟩ := yes_bind hm
  refine p_callG (flow_maker_edge_ok m0 m0.gAt (1 : Int) (8 : Int) (⟨(0 : Int), ByteArray.empty, ByteArray.empty, a1.gExps, [], [], (0 : Int)⟩ : TApiStmt) o0 T0 k0_2 c0_3 c0_6 x3 q3) rfl rfl rfl rfl rfl (WkL.cons (Wk.refl _) (WkL.cons (Wk.refl _) (WkL.cons (Wk.refl _) (WkL.cons (Wk.refl _) (WkL.cons (Wk.trans (Wk.agg (WkR.cons (WkC.refl _) rfl (WkR.cons (WkC.refl _) rfl (WkR.cons (WkC.refl _) rfl (WkR.cons (WkC.refl _) rfl (WkR.cons (WkC.nil) rfl (WkR.cons (WkC.nil) rfl (WkR.cons (WkC.refl _) rfl (WkR.nil))))))))) (Wk.of_eq (eTApiStmt_eq (⟨(0 : Int), ByteArray.empty, ByteArray.empty, a1.gExps, [], [], (0 : Int)⟩ : TApiStmt)).symm)) (WkL.refl _)))))) (List.Perm.refl _) (List.Perm.refl _) ?_
  rintro _ _ _ ⟨w2, rfl, rfl, rfl⟩
  refine ops_nil ?_
  refine then_normal ?_
  refine wpD_region ?_
  refine p_pure htab rfl rfl rfl rfl ?_
  refine p_pure htab rfl rfl rfl rfl ?_
  obtain ⟨x4, q4, hm⟩ := yes_bind hm
  refine p_callG (flow_maker_node_ok x3 o0 T0 (.cur w2) c0_3 c0_6 x4 q4) rfl rfl rfl rfl rfl (WkL.refl _) (List.Perm.refl _) (List.Perm.refl _) ?_
  rintro _ _ _ ⟨rfl, rfl, rfl⟩
  refine p_pure htab rfl rfl rfl rfl ?_
  refine p_pure htab rfl rfl rfl rfl ?_
  refine p_store (ds' := [.v (.string x4.2.gG.gFunc), .v (.int .i64 x4.2.gG.gNodes), .lst 6 (x4.2.gG.gEdges.map eTApiEdge) (.cur w2), .lst 2 (x4.2.gG.gVars.map eTApiVar) c0_3, .v (.int .i64 x4.2.gG.gMany), .v (.int .i64 x4.1), .lst 1 (x4.2.gPlaces.map eI64) c0_6]) (h' := [(o0, Blk.cells [.v (.string x4.2.gG.gFunc), .v (.int .i64 x4.2.gG.gNodes), .lst 6 (x4.2.gG.gEdges.map eTApiEdge) (.cur w2), .lst 2 (x4.2.gG.gVars.map eTApiVar) c0_3, .v (.int .i64 x4.2.gG.gMany), .v (.int .i64 x4.1), .lst 1 (x4.2.gPlaces.map eI64) c0_6] T0), (b1, Blk.cells [.v (.int .i64 a1.gOp), .v (.string a1.gName), .v (.string a1.gFunc), .lst 5 (a1.gExps.map eTApiExpr) .no, .lst 7 (a1.gKids.map eTApiStmt) .no, .lst 7 (a1.gElse.map eTApiStmt) .no, .v (.int .i64 a1.gAt)] 49)]) 0 htab rfl rfl rfl rfl rfl rfl rfl rfl rfl rfl rfl rfl ?_
  refine ops_nil ?_
  have er5 := yes_eq hm; subst er5
  refine retX.of (s' := ⟨[], [(o0, Blk.cells [.v (.string x4.2.gG.gFunc), .v (.int .i64 x4.2.gG.gNodes), .lst 6 (x4.2.gG.gEdges.map eTApiEdge) (.cur w2), .lst 2 (x4.2.gG.gVars.map eTApiVar) c0_3, .v (.int .i64 x4.2.gG.gMany), .v (.int .i64 x4.1), .lst 1 (x4.2.gPlaces.map eI64) c0_6] T0)], [(6, w2)]⟩) (WkS.perm (WkS.nil) (List.Perm.refl _) (List.Perm.refl _)) (retD_mk (hh := [(o0, Blk.cells [.v (.string x4.2.gG.gFunc), .v (.int .i64 x4.2.gG.gNodes), .lst 6 (x4.2.gG.gEdges.map eTApiEdge) (.cur w2), .lst 2 (x4.2.gG.gVars.map eTApiVar) c0_3, .v (.int .i64 x4.2.gG.gMany), .v (.int .i64 x4.1), .lst 1 (x4.2.gPlaces.map eI64) c0_6] T0)]) (.inr rfl) (resL_nil) (List.Sublist.refl _) (List.Sublist.refl _) ?_)
  exact ⟨w2, rfl, rfl, rfl⟩
noncomputable def flow_test (a0 : TApiStmt) : Option (TApiStmt) :=
  some (⟨(0 : Int), ByteArray.empty, ByteArray.empty, a0.gExps, [], [], (0 : Int)⟩ : TApiStmt)
set_option maxRecDepth 100000 in
set_option maxHeartbeats 2000000 in
theorem flow_test_ok (a0 : TApiStmt) (r : TApiStmt) (h0 : flow_test a0 = some r) : CallsD Try.prog 30 [eTApiStmt a0] [] [] (fun d h k => d = eTApiStmt r ∧ h = [] ∧ k = []) := by
  have hm := yes_of h0
  unfold flow_test at hm
  clear h0
  refine enterX htab Try.func30 rfl rfl rfl rfl rfl (fun C => ?_)
  refine w_eq (i := 0) rfl (Wk.of_eq (eTApiStmt_eq a0)) ?_
  refine wpD_seq ?_
  refine wpD_region ?_
  refine p_box rfl rfl rfl rfl rfl rfl rfl (fun b1 => ?_)
  refine p_alloc htab rfl rfl rfl rfl rfl rfl rfl (fun b2 => ?_)
  refine ops_nil ?_
  refine then_normal ?_
  refine wpD_seq ?_
  refine wpD_region ?_
  refine p_pure htab rfl rfl rfl rfl ?_
  refine p_load 0 htab rfl rfl rfl rfl rfl rfl rfl rfl ?_
  refine p_build (r := [.v (.int .i64 (0 : Int)), .v (.string ByteArray.empty), .v (.string ByteArray.empty), .lst 5 (a0.gExps.map eTApiExpr) .no, .lst 1 [] .full, .lst 1 [] .full, .v (.int .i64 (0 : Int))]) htab rfl rfl rfl rfl rfl rfl rfl rfl rfl ?_
  refine p_store (ds' := [.v (.int .i64 (0 : Int)), .v (.string ByteArray.empty), .v (.string ByteArray.empty), .lst 5 (a0.gExps.map eTApiExpr) .no, .lst 1 [] .full, .lst 1 [] .full, .v (.int .i64 (0 : Int))]) (h' := [(b1, Blk.cells [.v (.int .i64 a0.gOp), .v (.string a0.gName), .v (.string a0.gFunc), .lst 5 (a0.gExps.map eTApiExpr) .no, .lst 7 (a0.gKids.map eTApiStmt) .no, .lst 7 (a0.gElse.map eTApiStmt) .no, .v (.int .i64 a0.gAt)] 49), (b2, Blk.cells [.v (.int .i64 (0 : Int)), .v (.string ByteArray.empty), .v (.string ByteArray.empty), .lst 5 (a0.gExps.map eTApiExpr) .no, .lst 1 [] .full, .lst 1 [] .full, .v (.int .i64 (0 : Int))] 49)]) 1 htab rfl rfl rfl rfl rfl rfl rfl rfl rfl rfl rfl rfl ?_
  refine ops_nil ?_
  refine then_normal ?_
  refine wpD_ret ?_
  have er3 := yes_eq hm; subst er3
  refine retX.wk (WkS.blk (ds' := [.v (.int .i64 (0 : Int)), .v (.string ByteArray.empty), .v (.string ByteArray.empty), .lst 5 (a0.gExps.map eTApiExpr) .no, .lst 7 (([] : List TApiStmt).map eTApiStmt) .no, .lst 7 (([] : List TApiStmt).map eTApiStmt) .no, .v (.int .i64 (0 : Int))]) (h' := [(b1, Blk.cells [.v (.int .i64 a0.gOp), .v (.string a0.gName), .v (.string a0.gFunc), .lst 5 (a0.gExps.map eTApiExpr) .no, .lst 7 (a0.gKids.map eTApiStmt) .no, .lst 7 (a0.gElse.map eTApiStmt) .no, .v (.int .i64 a0.gAt)] 49), (b2, Blk.cells [.v (.int .i64 (0 : Int)), .v (.string ByteArray.empty), .v (.string ByteArray.empty), .lst 5 (a0.gExps.map eTApiExpr) .no, .lst 7 (([] : List TApiStmt).map eTApiStmt) .no, .lst 7 (([] : List TApiStmt).map eTApiStmt) .no, .v (.int .i64 (0 : Int))] 49)]) 1 rfl (WkR.cons (WkC.refl _) rfl (WkR.cons (WkC.refl _) rfl (WkR.cons (WkC.refl _) rfl (WkR.cons (WkC.refl _) rfl (WkR.cons (WkC.nil) rfl (WkR.cons (WkC.nil) rfl (WkR.cons (WkC.refl _) rfl (WkR.nil)))))))) rfl) ?_
  refine retX.of (s' := ⟨[(2, .ptr b2 0)], [(b2, Blk.cells [.v (.int .i64 (0 : Int)), .v (.string ByteArray.empty), .v (.string ByteArray.empty), .lst 5 (a0.gExps.map eTApiExpr) .no, .lst 7 (([] : List TApiStmt).map eTApiStmt) .no, .lst 7 (([] : List TApiStmt).map eTApiStmt) .no, .v (.int .i64 (0 : Int))] 49)], []⟩) (WkS.perm (WkS.cons rfl (Wk.refl _) (WkS.nil)) ((perm_at (j := 1) rfl).trans (List.Perm.cons _ (List.Perm.refl _))) (List.Perm.refl _)) (retD_mk (hh := []) (.inl rfl) (resL_cons (resOne_cell 0 rfl rfl rfl rfl) (resL_nil)) (List.nil_sublist _) (List.Sublist.refl _) ?_)
  exact ⟨by first | rfl | (simp only [wrapD, eTApiStmt_eq]), rfl, rfl⟩
abbrev nlFl3_1 : List (List Nat) := [[],[],[1],[1,2],[1,2,3],[],[5],[5,6],[5,6,7],[5,6,7,8],[1,2,3,4,5,6,7,8,9],[0,1,2,3,4,5,6,7,8,9,10],[0,1,2,3,4,5,6,7,8,9,10,11],[0,1,2,3,4,5,6,7,8,9,10,11,12]]
noncomputable def flow_maker_all_b (g0 : (TFlowMaker) → (List TApiStmt) → Option (TFlowMaker)) (g1 : (TFlowMaker) → (TApiStmt) → Option (TFlowMaker)) (g2 : (TFlowMaker) → (TApiStmt) → Option (TFlowMaker)) (g3 : (TFlowMaker) → (TApiStmt) → Option (TFlowMaker)) (m0 : TFlowMaker) (a1 : List TApiStmt) : Option (TFlowMaker) :=
  (Option.bind (α := ByteArray × Int × List TApiEdge × List TApiVar × Int × Int × List Int) (loopM (fun (s24 : Int × ByteArray × Int × List TApiEdge × List TApiVar × Int × Int × List Int) => (bif (decide (s24.1 < (a1.length : Int))) then ((idx a1 s24.1).bind fun x40 => ((g1 (⟨(⟨s24.2.1, s24.2.2.1, s24.2.2.2.1, s24.2.2.2.2.1, s24.2.2.2.2.2.1⟩ : TApiGraph), s24.2.2.2.2.2.2.1, s24.2.2.2.2.2.2.2⟩ : TFlowMaker) x40).bind fun x44 => some (.next ((IntKind.i64.wrap (s24.1 + (1 : Int))), x44.gG.gFunc, x44.gG.gNodes, x44.gG.gEdges, x44.gG.gVars, x44.gG.gMany, x44.gAt, x44.gPlaces)))) else some (.done (s24.2.1, s24.2.2.1, s24.2.2.2.1, s24.2.2.2.2.1, s24.2.2.2.2.2.1, s24.2.2.2.2.2.2.1, s24.2.2.2.2.2.2.2)))) ((0 : Int), m0.gG.gFunc, m0.gG.gNodes, m0.gG.gEdges, m0.gG.gVars, m0.gG.gMany, m0.gAt, m0.gPlaces)) fun y23 => some (⟨(⟨y23.1, y23.2.1, y23.2.2.1, y23.2.2.2.1, y23.2.2.2.2.1⟩ : TApiGraph), y23.2.2.2.2.2.1, y23.2.2.2.2.2.2⟩ : TFlowMaker))
set_option maxRecDepth 100000 in
set_option maxHeartbeats 2000000 in
theorem flow_maker_all_b_ok (g0 : (TFlowMaker) → (List TApiStmt) → Option (TFlowMaker)) (g1 : (TFlowMaker) → (TApiStmt) → Option (TFlowMaker)) (g2 : (TFlowMaker) → (TApiStmt) → Option (TFlowMaker)) (g3 : (TFlowMaker) → (TApiStmt) → Option (TFlowMaker)) (hg0 : ∀ (m0 : TFlowMaker) (a1 : List TApiStmt) (o0 : Nat) (T0 : TypeId) (k0_2 : Value) (c0_3 : Cap) (k0_6 : Value) (r : TFlowMaker) (h0 : g0 m0 a1 = some r), CallsD Try.prog 19 [.ptr o0 0, .lst 7 (a1.map eTApiStmt) .no] [(o0, Blk.cells [.v (.string m0.gG.gFunc), .v (.int .i64 m0.gG.gNodes), .lst 6 (m0.gG.gEdges.map eTApiEdge) (.cur k0_2), .lst 2 (m0.gG.gVars.map eTApiVar) c0_3, .v (.int .i64 m0.gG.gMany), .v (.int .i64 m0.gAt), .lst 1 (m0.gPlaces.map eI64) (.cur k0_6)] T0)] [(6, k0_2), (1, k0_6)] (fun d h k => ∃ y0 y1, d = .tup [] ∧ h = [(o0, Blk.cells [.v (.string r.gG.gFunc), .v (.int .i64 r.gG.gNodes), .lst 6 (r.gG.gEdges.map eTApiEdge) (.cur y0), .lst 2 (r.gG.gVars.map eTApiVar) .no, .v (.int .i64 r.gG.gMany), .v (.int .i64 r.gAt), .lst 1 (r.gPlaces.map eI64) (.cur y1)] T0)] ∧ k = [(6, y0), (1, y1)])) (hg1 : ∀ (m0 : TFlowMaker) (a1 : TApiStmt) (o0 : Nat) (T0 : TypeId) (k0_2 : Value) (c0_3 : Cap) (k0_6 : Value) (r : TFlowMaker) (h0 : g1 m0 a1 = some r), CallsD Try.prog 23 [.ptr o0 0, eTApiStmt a1] [(o0, Blk.cells [.v (.string m0.gG.gFunc), .v (.int .i64 m0.gG.gNodes), .lst 6 (m0.gG.gEdges.map eTApiEdge) (.cur k0_2), .lst 2 (m0.gG.gVars.map eTApiVar) c0_3, .v (.int .i64 m0.gG.gMany), .v (.int .i64 m0.gAt), .lst 1 (m0.gPlaces.map eI64) (.cur k0_6)] T0)] [(6, k0_2), (1, k0_6)] (fun d h k => ∃ y0 y1, d = .tup [] ∧ h = [(o0, Blk.cells [.v (.string r.gG.gFunc), .v (.int .i64 r.gG.gNodes), .lst 6 (r.gG.gEdges.map eTApiEdge) (.cur y0), .lst 2 (r.gG.gVars.map eTApiVar) .no, .v (.int .i64 r.gG.gMany), .v (.int .i64 r.gAt), .lst 1 (r.gPlaces.map eI64) (.cur y1)] T0)] ∧ k = [(6, y0), (1, y1)])) (hg2 : ∀ (m0 : TFlowMaker) (a1 : TApiStmt) (o0 : Nat) (T0 : TypeId) (k0_2 : Value) (c0_3 : Cap) (k0_6 : Value) (r : TFlowMaker) (h0 : g2 m0 a1 = some r), CallsD Try.prog 27 [.ptr o0 0, eTApiStmt a1] [(o0, Blk.cells [.v (.string m0.gG.gFunc), .v (.int .i64 m0.gG.gNodes), .lst 6 (m0.gG.gEdges.map eTApiEdge) (.cur k0_2), .lst 2 (m0.gG.gVars.map eTApiVar) c0_3, .v (.int .i64 m0.gG.gMany), .v (.int .i64 m0.gAt), .lst 1 (m0.gPlaces.map eI64) (.cur k0_6)] T0)] [(6, k0_2), (1, k0_6)] (fun d h k => ∃ y0 y1, d = .tup [] ∧ h = [(o0, Blk.cells [.v (.string r.gG.gFunc), .v (.int .i64 r.gG.gNodes), .lst 6 (r.gG.gEdges.map eTApiEdge) (.cur y0), .lst 2 (r.gG.gVars.map eTApiVar) .no, .v (.int .i64 r.gG.gMany), .v (.int .i64 r.gAt), .lst 1 (r.gPlaces.map eI64) (.cur y1)] T0)] ∧ k = [(6, y0), (1, y1)])) (hg3 : ∀ (m0 : TFlowMaker) (a1 : TApiStmt) (o0 : Nat) (T0 : TypeId) (k0_2 : Value) (c0_3 : Cap) (k0_6 : Value) (r : TFlowMaker) (h0 : g3 m0 a1 = some r), CallsD Try.prog 28 [.ptr o0 0, eTApiStmt a1] [(o0, Blk.cells [.v (.string m0.gG.gFunc), .v (.int .i64 m0.gG.gNodes), .lst 6 (m0.gG.gEdges.map eTApiEdge) (.cur k0_2), .lst 2 (m0.gG.gVars.map eTApiVar) c0_3, .v (.int .i64 m0.gG.gMany), .v (.int .i64 m0.gAt), .lst 1 (m0.gPlaces.map eI64) (.cur k0_6)] T0)] [(6, k0_2), (1, k0_6)] (fun d h k => ∃ y0 y1, d = .tup [] ∧ h = [(o0, Blk.cells [.v (.string r.gG.gFunc), .v (.int .i64 r.gG.gNodes), .lst 6 (r.gG.gEdges.map eTApiEdge) (.cur y0), .lst 2 (r.gG.gVars.map eTApiVar) .no, .v (.int .i64 r.gG.gMany), .v (.int .i64 r.gAt), .lst 1 (r.gPlaces.map eI64) (.cur y1)] T0)] ∧ k = [(6, y0), (1, y1)])) (m0 : TFlowMaker) (a1 : List TApiStmt) (o0 : Nat) (T0 : TypeId) (k0_2 : Value) (c0_3 : Cap) (k0_6 : Value) (r : TFlowMaker) (h0 : flow_maker_all_b g0 g1 g2 g3 m0 a1 = some r) : CallsD Try.prog 19 [.ptr o0 0, .lst 7 (a1.map eTApiStmt) .no] [(o0, Blk.cells [.v (.string m0.gG.gFunc), .v (.int .i64 m0.gG.gNodes), .lst 6 (m0.gG.gEdges.map eTApiEdge) (.cur k0_2), .lst 2 (m0.gG.gVars.map eTApiVar) c0_3, .v (.int .i64 m0.gG.gMany), .v (.int .i64 m0.gAt), .lst 1 (m0.gPlaces.map eI64) (.cur k0_6)] T0)] [(6, k0_2), (1, k0_6)] (fun d h k => ∃ y0 y1, d = .tup [] ∧ h = [(o0, Blk.cells [.v (.string r.gG.gFunc), .v (.int .i64 r.gG.gNodes), .lst 6 (r.gG.gEdges.map eTApiEdge) (.cur y0), .lst 2 (r.gG.gVars.map eTApiVar) .no, .v (.int .i64 r.gG.gMany), .v (.int .i64 r.gAt), .lst 1 (r.gPlaces.map eI64) (.cur y1)] T0)] ∧ k = [(6, y0), (1, y1)]) := by
  have hm := yes_of h0
  unfold flow_maker_all_b at hm
  clear h0
  refine enterX htab Try.func19 rfl rfl rfl rfl rfl (fun C => ?_)
  refine wpD_seq ?_
  refine wpD_region ?_
  refine p_pure htab rfl rfl rfl rfl ?_
  refine p_pure htab rfl rfl rfl rfl ?_
  refine p_pure htab rfl rfl rfl rfl ?_
  refine ops_nil ?_
  refine then_normal ?_
  refine wpD_seq ?_
  refine wpD_region ?_
  refine p_pure htab rfl rfl rfl rfl ?_
  refine p_lenL htab rfl rfl rfl rfl rfl rfl rfl (by first | exact map_len | rfl) ?_
  refine p_pure htab rfl rfl rfl rfl ?_
  refine ops_nil ?_
  refine then_normal ?_
  obtain ⟨y23, q23, ho23⟩ := yes_bind hm
  refine wpD_mid (Y := Value × Value) (fun z23 => (⟨[], [(o0, Blk.cells [.v (.string y23.1), .v (.int .i64 y23.2.1), .lst 6 (y23.2.2.1.map eTApiEdge) (.cur z23.1), .lst 2 (y23.2.2.2.1.map eTApiVar) .no, .v (.int .i64 y23.2.2.2.2.1), .v (.int .i64 y23.2.2.2.2.2.1), .lst 1 (y23.2.2.2.2.2.2.map eI64) (.cur z23.2)] T0)], [(6, z23.1), (1, z23.2)]⟩ : S)) ?_ ?_
  · clear hm; have hm := yes_of q23
    refine wpD_block ?_
    obtain ⟨u24, hl24, hq24⟩ := yes_m hm
    refine loop_M (Y := Value × Value) hl24 (fun s24 z24 => (⟨[(4, .fn (.func 23) [.ptr o0 0] []), (9, .lst 7 (a1.map eTApiStmt) .no), (10, .v (.int .i64 (a1.length : Int))), (11, .v (.int .i64 s24.1))], [(o0, Blk.cells [.v (.string s24.2.1), .v (.int .i64 s24.2.2.1), .lst 6 (s24.2.2.2.1.map eTApiEdge) (.cur z24.1), .lst 2 (s24.2.2.2.2.1.map eTApiVar) .no, .v (.int .i64 s24.2.2.2.2.2.1), .v (.int .i64 s24.2.2.2.2.2.2.1), .lst 1 (s24.2.2.2.2.2.2.2.map eI64) (.cur z24.2)] T0)], [(6, z24.1), (1, z24.2)]⟩ : S)) ?_ ?_
    · skip
      refine WkX.wk (WkS.blk (ds' := [.v (.string m0.gG.gFunc), .v (.int .i64 m0.gG.gNodes), .lst 6 (m0.gG.gEdges.map eTApiEdge) (.cur k0_2), .lst 2 (m0.gG.gVars.map eTApiVar) .no, .v (.int .i64 m0.gG.gMany), .v (.int .i64 m0.gAt), .lst 1 (m0.gPlaces.map eI64) (.cur k0_6)]) (h' := [(o0, Blk.cells [.v (.string m0.gG.gFunc), .v (.int .i64 m0.gG.gNodes), .lst 6 (m0.gG.gEdges.map eTApiEdge) (.cur k0_2), .lst 2 (m0.gG.gVars.map eTApiVar) .no, .v (.int .i64 m0.gG.gMany), .v (.int .i64 m0.gAt), .lst 1 (m0.gPlaces.map eI64) (.cur k0_6)] T0)]) 0 rfl (WkR.cons (WkC.refl _) rfl (WkR.cons (WkC.refl _) rfl (WkR.cons (WkC.refl _) rfl (WkR.cons (WkC.no) rfl (WkR.cons (WkC.refl _) rfl (WkR.cons (WkC.refl _) rfl (WkR.cons (WkC.refl _) rfl (WkR.nil)))))))) rfl) ?_
      exact WkX.of (k0_2, k0_6) (WkS.perm (WkS.cons rfl (Wk.refl _) (WkS.cons rfl (Wk.refl _) (WkS.cons rfl (Wk.refl _) (WkS.cons rfl (Wk.refl _) (WkS.nil))))) (List.Perm.refl _) (List.Perm.refl _))
    · intro G24 s24 z24 hm
      refine wpD_seq ?_
      refine wpD_region ?_
      refine p_pure htab rfl rfl rfl rfl ?_
      refine ops_nil ?_
      refine then_normal ?_
      refine wpD_seq ?_
      refine wpD_cond rfl (fun hc39 => ?_) (fun hc39 => ?_)
      · replace hm := yes_t hc39 hm
        refine wpD_skip ?_
        refine then_normal ?_
        refine wpD_seq ?_
        refine wpD_block ?_
        refine wpD_seq ?_
        refine wpD_region ?_
        obtain ⟨x40, q40, hm⟩ := yes_bind hm
        refine p_elem htab rfl rfl rfl rfl rfl rfl rfl rfl rfl rfl (idx_nonneg q40) (idx_map q40) ?_
        refine p_eq (i := 13) rfl (Wk.of_eq (congrArg D.el (eTApiStmt_eq x40))) ?_
        refine p_loadEl (d := .agg [.v (.int .i64 x40.gOp), .v (.string x40.gName), .v (.string x40.gFunc), .lst 5 (x40.gExps.map eTApiExpr) .no, .lst 7 (x40.gKids.map eTApiStmt) .no, .lst 7 (x40.gElse.map eTApiStmt) .no, .v (.int .i64 x40.gAt)]) htab rfl rfl rfl rfl rfl rfl rfl rfl ?_
        refine p_alloc htab rfl rfl rfl rfl rfl rfl rfl (fun b41 => ?_)
        refine p_store (ds' := [.v (.int .i64 x40.gOp), .v (.string x40.gName), .v (.string x40.gFunc), .lst 5 (x40.gExps.map eTApiExpr) .no, .lst 7 (x40.gKids.map eTApiStmt) .no, .lst 7 (x40.gElse.map eTApiStmt) .no, .v (.int .i64 x40.gAt)]) (h' := [(o0, Blk.cells [.v (.string s24.2.1), .v (.int .i64 s24.2.2.1), .lst 6 (s24.2.2.2.1.map eTApiEdge) (.cur z24.1), .lst 2 (s24.2.2.2.2.1.map eTApiVar) .no, .v (.int .i64 s24.2.2.2.2.2.1), .v (.int .i64 s24.2.2.2.2.2.2.1), .lst 1 (s24.2.2.2.2.2.2.2.map eI64) (.cur z24.2)] T0), (b41, Blk.cells [.v (.int .i64 x40.gOp), .v (.string x40.gName), .v (.string x40.gFunc), .lst 5 (x40.gExps.map eTApiExpr) .no, .lst 7 (x40.gKids.map eTApiStmt) .no, .lst 7 (x40.gElse.map eTApiStmt) .no, .v (.int .i64 x40.gAt)] 49)]) 1 htab rfl rfl rfl rfl rfl rfl rfl rfl rfl rfl rfl rfl ?_
        refine ops_nil ?_
        refine then_normal ?_
        refine wpD_region ?_
        refine p_pure htab rfl rfl rfl rfl ?_
        refine p_load (d := .agg [.v (.int .i64 x40.gOp), .v (.string x40.gName), .v (.string x40.gFunc), .lst 5 (x40.gExps.map eTApiExpr) .no, .lst 7 (x40.gKids.map eTApiStmt) .no, .lst 7 (x40.gElse.map eTApiStmt) .no, .v (.int .i64 x40.gAt)]) 1 htab rfl rfl rfl rfl rfl rfl rfl rfl ?_
        obtain ⟨x44, q44, hm⟩ := yes_bind hm
        refine p_callV (hg1 (⟨(⟨s24.2.1, s24.2.2.1, s24.2.2.2.1, s24.2.2.2.2.1, s24.2.2.2.2.2.1⟩ : TApiGraph), s24.2.2.2.2.2.2.1, s24.2.2.2.2.2.2.2⟩ : TFlowMaker) x40 o0 T0 z24.1 .no z24.2 x44 q44) rfl rfl rfl rfl rfl rfl rfl (WkL.cons (Wk.refl _) (WkL.cons (Wk.trans (Wk.agg (WkR.refl _)) (Wk.of_eq (eTApiStmt_eq x40).symm)) (WkL.refl _))) (List.Perm.refl _) (List.Perm.refl _) ?_
        rintro _ _ _ ⟨w42, w43, rfl, rfl, rfl⟩
        refine ops_nil ?_
        refine block_normal ?_
        refine then_normal ?_
        refine wpD_region ?_
        refine p_pure htab rfl rfl rfl rfl ?_
        refine p_pure htab rfl rfl rfl rfl ?_
        refine ops_nil ?_
        refine then_normal ⟨_, lp_next hm, ?_⟩
        exact WkX.of (w42, w43) (WkS.perm (WkS.cons rfl (Wk.refl _) (WkS.cons rfl (Wk.refl _) (WkS.cons rfl (Wk.refl _) (WkS.cons rfl (Wk.refl _) (WkS.nil))))) (List.Perm.refl _) (List.Perm.refl _))
      · replace hm := yes_f hc39 hm
        refine wpD_exit ?_
        refine then_exit ?_
        have e24 := lp_done hm; subst e24; clear hm; have hm := hq24
        refine then_exit ?_
        refine block_hit ?_
        have e23 := yes_eq hm; subst e23
        refine ⟨rfl, ?_⟩
        exact WkX.of (z24.1, z24.2) (WkS.perm (WkS.nil) (List.Perm.refl _) (List.Perm.refl _))
  · intro s23 hw23; clear hm; have hm := ho23; clear q23 ho23
    refine retX.wkX hw23 (fun z23 => ?_)
    have er45 := yes_eq hm; subst er45
    refine retX.of (s' := ⟨[], [(o0, Blk.cells [.v (.string y23.1), .v (.int .i64 y23.2.1), .lst 6 (y23.2.2.1.map eTApiEdge) (.cur z23.1), .lst 2 (y23.2.2.2.1.map eTApiVar) .no, .v (.int .i64 y23.2.2.2.2.1), .v (.int .i64 y23.2.2.2.2.2.1), .lst 1 (y23.2.2.2.2.2.2.map eI64) (.cur z23.2)] T0)], [(6, z23.1), (1, z23.2)]⟩) (WkS.perm (WkS.nil) (List.Perm.refl _) (List.Perm.refl _)) (retD_mk (hh := [(o0, Blk.cells [.v (.string y23.1), .v (.int .i64 y23.2.1), .lst 6 (y23.2.2.1.map eTApiEdge) (.cur z23.1), .lst 2 (y23.2.2.2.1.map eTApiVar) .no, .v (.int .i64 y23.2.2.2.2.1), .v (.int .i64 y23.2.2.2.2.2.1), .lst 1 (y23.2.2.2.2.2.2.map eI64) (.cur z23.2)] T0)]) (.inr rfl) (resL_nil) (List.Sublist.refl _) (List.Sublist.refl _) ?_)
    exact ⟨z23.1, z23.2, rfl, rfl, rfl⟩
noncomputable def flow_maker_stmt_b (g0 : (TFlowMaker) → (List TApiStmt) → Option (TFlowMaker)) (g1 : (TFlowMaker) → (TApiStmt) → Option (TFlowMaker)) (g2 : (TFlowMaker) → (TApiStmt) → Option (TFlowMaker)) (g3 : (TFlowMaker) → (TApiStmt) → Option (TFlowMaker)) (m0 : TFlowMaker) (a1 : TApiStmt) : Option (TFlowMaker) :=
  ((app 8 m0.gPlaces ([m0.gAt] : List Int)).bind fun x2 => (bif (a1.gOp == (1 : Int)) then ((flow_maker_step (⟨m0.gG, m0.gAt, x2⟩ : TFlowMaker) (1 : Int) a1).bind fun x5 => some x5) else (bif (a1.gOp == (2 : Int)) then ((flow_maker_step (⟨m0.gG, m0.gAt, x2⟩ : TFlowMaker) (2 : Int) a1).bind fun x9 => some x9) else (bif (a1.gOp == (3 : Int)) then ((flow_maker_step (⟨m0.gG, m0.gAt, x2⟩ : TFlowMaker) (3 : Int) a1).bind fun x13 => some x13) else (bif (a1.gOp == (4 : Int)) then ((flow_maker_step (⟨m0.gG, m0.gAt, x2⟩ : TFlowMaker) (4 : Int) a1).bind fun x17 => some x17) else (bif (a1.gOp == (5 : Int)) then ((flow_maker_step (⟨m0.gG, m0.gAt, x2⟩ : TFlowMaker) (5 : Int) a1).bind fun x21 => some x21) else (bif (a1.gOp == (9 : Int)) then ((flow_maker_step (⟨m0.gG, m0.gAt, x2⟩ : TFlowMaker) (9 : Int) a1).bind fun x25 => some x25) else (bif (a1.gOp == (8 : Int)) then ((flow_maker_leave (⟨m0.gG, m0.gAt, x2⟩ : TFlowMaker) a1).bind fun x29 => some x29) else (bif (a1.gOp == (6 : Int)) then ((g2 (⟨m0.gG, m0.gAt, x2⟩ : TFlowMaker) a1).bind fun x34 => some x34) else (bif (a1.gOp == (7 : Int)) then ((g3 (⟨m0.gG, m0.gAt, x2⟩ : TFlowMaker) a1).bind fun x39 => some x39) else some (⟨m0.gG, m0.gAt, x2⟩ : TFlowMaker)))))))))))
set_option maxRecDepth 100000 in
set_option maxHeartbeats 2000000 in
theorem flow_maker_stmt_b_ok (g0 : (TFlowMaker) → (List TApiStmt) → Option (TFlowMaker)) (g1 : (TFlowMaker) → (TApiStmt) → Option (TFlowMaker)) (g2 : (TFlowMaker) → (TApiStmt) → Option (TFlowMaker)) (g3 : (TFlowMaker) → (TApiStmt) → Option (TFlowMaker)) (hg0 : ∀ (m0 : TFlowMaker) (a1 : List TApiStmt) (o0 : Nat) (T0 : TypeId) (k0_2 : Value) (c0_3 : Cap) (k0_6 : Value) (r : TFlowMaker) (h0 : g0 m0 a1 = some r), CallsD Try.prog 19 [.ptr o0 0, .lst 7 (a1.map eTApiStmt) .no] [(o0, Blk.cells [.v (.string m0.gG.gFunc), .v (.int .i64 m0.gG.gNodes), .lst 6 (m0.gG.gEdges.map eTApiEdge) (.cur k0_2), .lst 2 (m0.gG.gVars.map eTApiVar) c0_3, .v (.int .i64 m0.gG.gMany), .v (.int .i64 m0.gAt), .lst 1 (m0.gPlaces.map eI64) (.cur k0_6)] T0)] [(6, k0_2), (1, k0_6)] (fun d h k => ∃ y0 y1, d = .tup [] ∧ h = [(o0, Blk.cells [.v (.string r.gG.gFunc), .v (.int .i64 r.gG.gNodes), .lst 6 (r.gG.gEdges.map eTApiEdge) (.cur y0), .lst 2 (r.gG.gVars.map eTApiVar) .no, .v (.int .i64 r.gG.gMany), .v (.int .i64 r.gAt), .lst 1 (r.gPlaces.map eI64) (.cur y1)] T0)] ∧ k = [(6, y0), (1, y1)])) (hg1 : ∀ (m0 : TFlowMaker) (a1 : TApiStmt) (o0 : Nat) (T0 : TypeId) (k0_2 : Value) (c0_3 : Cap) (k0_6 : Value) (r : TFlowMaker) (h0 : g1 m0 a1 = some r), CallsD Try.prog 23 [.ptr o0 0, eTApiStmt a1] [(o0, Blk.cells [.v (.string m0.gG.gFunc), .v (.int .i64 m0.gG.gNodes), .lst 6 (m0.gG.gEdges.map eTApiEdge) (.cur k0_2), .lst 2 (m0.gG.gVars.map eTApiVar) c0_3, .v (.int .i64 m0.gG.gMany), .v (.int .i64 m0.gAt), .lst 1 (m0.gPlaces.map eI64) (.cur k0_6)] T0)] [(6, k0_2), (1, k0_6)] (fun d h k => ∃ y0 y1, d = .tup [] ∧ h = [(o0, Blk.cells [.v (.string r.gG.gFunc), .v (.int .i64 r.gG.gNodes), .lst 6 (r.gG.gEdges.map eTApiEdge) (.cur y0), .lst 2 (r.gG.gVars.map eTApiVar) .no, .v (.int .i64 r.gG.gMany), .v (.int .i64 r.gAt), .lst 1 (r.gPlaces.map eI64) (.cur y1)] T0)] ∧ k = [(6, y0), (1, y1)])) (hg2 : ∀ (m0 : TFlowMaker) (a1 : TApiStmt) (o0 : Nat) (T0 : TypeId) (k0_2 : Value) (c0_3 : Cap) (k0_6 : Value) (r : TFlowMaker) (h0 : g2 m0 a1 = some r), CallsD Try.prog 27 [.ptr o0 0, eTApiStmt a1] [(o0, Blk.cells [.v (.string m0.gG.gFunc), .v (.int .i64 m0.gG.gNodes), .lst 6 (m0.gG.gEdges.map eTApiEdge) (.cur k0_2), .lst 2 (m0.gG.gVars.map eTApiVar) c0_3, .v (.int .i64 m0.gG.gMany), .v (.int .i64 m0.gAt), .lst 1 (m0.gPlaces.map eI64) (.cur k0_6)] T0)] [(6, k0_2), (1, k0_6)] (fun d h k => ∃ y0 y1, d = .tup [] ∧ h = [(o0, Blk.cells [.v (.string r.gG.gFunc), .v (.int .i64 r.gG.gNodes), .lst 6 (r.gG.gEdges.map eTApiEdge) (.cur y0), .lst 2 (r.gG.gVars.map eTApiVar) .no, .v (.int .i64 r.gG.gMany), .v (.int .i64 r.gAt), .lst 1 (r.gPlaces.map eI64) (.cur y1)] T0)] ∧ k = [(6, y0), (1, y1)])) (hg3 : ∀ (m0 : TFlowMaker) (a1 : TApiStmt) (o0 : Nat) (T0 : TypeId) (k0_2 : Value) (c0_3 : Cap) (k0_6 : Value) (r : TFlowMaker) (h0 : g3 m0 a1 = some r), CallsD Try.prog 28 [.ptr o0 0, eTApiStmt a1] [(o0, Blk.cells [.v (.string m0.gG.gFunc), .v (.int .i64 m0.gG.gNodes), .lst 6 (m0.gG.gEdges.map eTApiEdge) (.cur k0_2), .lst 2 (m0.gG.gVars.map eTApiVar) c0_3, .v (.int .i64 m0.gG.gMany), .v (.int .i64 m0.gAt), .lst 1 (m0.gPlaces.map eI64) (.cur k0_6)] T0)] [(6, k0_2), (1, k0_6)] (fun d h k => ∃ y0 y1, d = .tup [] ∧ h = [(o0, Blk.cells [.v (.string r.gG.gFunc), .v (.int .i64 r.gG.gNodes), .lst 6 (r.gG.gEdges.map eTApiEdge) (.cur y0), .lst 2 (r.gG.gVars.map eTApiVar) .no, .v (.int .i64 r.gG.gMany), .v (.int .i64 r.gAt), .lst 1 (r.gPlaces.map eI64) (.cur y1)] T0)] ∧ k = [(6, y0), (1, y1)])) (m0 : TFlowMaker) (a1 : TApiStmt) (o0 : Nat) (T0 : TypeId) (k0_2 : Value) (c0_3 : Cap) (k0_6 : Value) (r : TFlowMaker) (h0 : flow_maker_stmt_b g0 g1 g2 g3 m0 a1 = some r) : CallsD Try.prog 23 [.ptr o0 0, eTApiStmt a1] [(o0, Blk.cells [.v (.string m0.gG.gFunc), .v (.int .i64 m0.gG.gNodes), .lst 6 (m0.gG.gEdges.map eTApiEdge) (.cur k0_2), .lst 2 (m0.gG.gVars.map eTApiVar) c0_3, .v (.int .i64 m0.gG.gMany), .v (.int .i64 m0.gAt), .lst 1 (m0.gPlaces.map eI64) (.cur k0_6)] T0)] [(6, k0_2), (1, k0_6)] (fun d h k => ∃ y0 y1, d = .tup [] ∧ h = [(o0, Blk.cells [.v (.string r.gG.gFunc), .v (.int .i64 r.gG.gNodes), .lst 6 (r.gG.gEdges.map eTApiEdge) (.cur y0), .lst 2 (r.gG.gVars.map eTApiVar) .no, .v (.int .i64 r.gG.gMany), .v (.int .i64 r.gAt), .lst 1 (r.gPlaces.map eI64) (.cur y1)] T0)] ∧ k = [(6, y0), (1, y1)]) := by
  have hm := yes_of h0
  unfold flow_maker_stmt_b at hm
  clear h0
  refine enterX htab Try.func23 rfl rfl rfl rfl rfl (fun C => ?_)
  refine w_eq (i := 1) rfl (Wk.of_eq (eTApiStmt_eq a1)) ?_
  refine wpD_seq ?_
  refine wpD_region ?_
  refine p_box rfl rfl rfl rfl rfl rfl rfl (fun b1 => ?_)
  refine ops_nil ?_
  refine then_normal ?_
  refine wpD_seq ?_
  obtain ⟨x2, q2, hm⟩ := yes_bind hm
  refine wpD_app 11 [] [[],[],[1],[1,2],[1,2,3],[],[5],[5,6],[5,6,7],[5,6,7,8],[1,2,3,4,5,6,7,8,9]] [0,1,2,3,4,5,6,7,8,9,10] nlFl3_1 10 1 1 (by kernel_rfl) (by kernel_rfl) (by kernel_rfl) (by rfl) (by rfl) (by kernel_rfl) rfl ?_
  apply Exists.intro
  apply Exists.intro
  apply Exists.intro
  apply Exists.intro
  apply Exists.intro
  apply Exists.intro
  apply Exists.intro
  apply Exists.intro
  apply Exists.intro
  apply Exists.intro
  apply Exists.intro
  refine ⟨.any, ?_⟩
  intro bs v2
  refine zh_e rfl rfl (ex_pure htab rfl) rfl rfl rfl rfl rfl rfl rfl rfl ?_
  refine zh_e rfl rfl (ex_pure htab rfl) rfl rfl rfl rfl rfl rfl rfl rfl ?_
  refine zh_e rfl rfl (ex_pure htab rfl) rfl rfl rfl rfl rfl rfl rfl rfl ?_
  refine zh_e rfl rfl (ex_pure htab rfl) rfl rfl rfl rfl rfl rfl rfl rfl ?_
  refine zh_M rfl rfl (fun _ => xm_load 0 htab rfl rfl rfl rfl rfl) (offB rfl) rfl rfl rfl rfl rfl rfl rfl rfl ?_
  refine zh_e rfl rfl (ex_pure htab rfl) rfl rfl rfl rfl rfl rfl rfl rfl ?_
  refine zh_e rfl rfl (ex_pure htab rfl) rfl rfl rfl rfl rfl rfl rfl rfl ?_
  refine zh_e rfl rfl (ex_pure htab rfl) rfl rfl rfl rfl rfl rfl rfl rfl ?_
  refine zh_M rfl rfl (fun _ => xm_load 0 htab rfl rfl rfl rfl rfl) (offB rfl) rfl rfl rfl rfl rfl rfl rfl rfl ?_
  refine zh_E rfl rfl (ExE.wk (x_lit htab rfl rfl rfl rfl rfl rfl rfl rfl rfl rfl rfl) (show Wk _ (.lst 1 (([m0.gAt] : List Int).map eI64) .full) from Wk.lst0 (.cons (WkC.refl _) (.nil)))) rfl rfl rfl rfl rfl rfl rfl rfl ?_
  refine zh_app htab rfl rfl rfl rfl rfl rfl rfl rfl (rep_of rfl) rfl (app_kC rfl) (perm_at (j := 1) rfl) rfl rfl rfl rfl rfl rfl rfl rfl rfl (app_bound q2) (app_map q2) ?_
  refine zh_nil rfl rfl rfl rfl (fun e he => by simp [isAl] at he) ?_
  refine p_pure htab rfl rfl rfl rfl ?_
  refine p_pure htab rfl rfl rfl rfl ?_
  refine p_store (ds' := [.v (.string m0.gG.gFunc), .v (.int .i64 m0.gG.gNodes), .lst 6 (m0.gG.gEdges.map eTApiEdge) (.cur k0_2), .lst 2 (m0.gG.gVars.map eTApiVar) c0_3, .v (.int .i64 m0.gG.gMany), .v (.int .i64 m0.gAt), .lst 1 (x2.map eI64) (.cur v2)]) (h' := [(o0, Blk.cells [.v (.string m0.gG.gFunc), .v (.int .i64 m0.gG.gNodes), .lst 6 (m0.gG.gEdges.map eTApiEdge) (.cur k0_2), .lst 2 (m0.gG.gVars.map eTApiVar) c0_3, .v (.int .i64 m0.gG.gMany), .v (.int .i64 m0.gAt), .lst 1 (x2.map eI64) (.cur v2)] T0), (b1, Blk.cells [.v (.int .i64 a1.gOp), .v (.string a1.gName), .v (.string a1.gFunc), .lst 5 (a1.gExps.map eTApiExpr) .no, .lst 7 (a1.gKids.map eTApiStmt) .no, .lst 7 (a1.gElse.map eTApiStmt) .no, .v (.int .i64 a1.gAt)] 49)]) 0 htab rfl rfl rfl rfl rfl rfl rfl rfl rfl rfl rfl rfl ?_
  refine ops_nil ?_
  refine then_normal ?_
  refine wpD_seq ?_
  refine wpD_region ?_
  refine p_pure htab rfl rfl rfl rfl ?_
  refine p_load 1 htab rfl rfl rfl rfl rfl rfl rfl rfl ?_
  refine ops_nil ?_
  refine then_normal ?_
  refine wpD_block ?_
  refine wpD_seq ?_
  refine wpD_region ?_
  refine p_pure htab rfl rfl rfl rfl ?_
  refine p_pure htab rfl rfl rfl rfl ?_
  refine ops_nil ?_
  refine then_normal ?_
  refine wpD_cond rfl (fun hc3 => ?_) (fun hc3 => ?_)
  · replace hm := yes_t hc3 hm
    refine wpD_region ?_
    refine p_pure htab rfl rfl rfl rfl ?_
    refine p_load (d := .agg [.v (.int .i64 a1.gOp), .v (.string a1.gName), .v (.string a1.gFunc), .lst 5 (a1.gExps.map eTApiExpr) .no, .lst 7 (a1.gKids.map eTApiStmt) .no, .lst 7 (a1.gElse.map eTApiStmt) .no, .v (.int .i64 a1.gAt)]) 1 htab rfl rfl rfl rfl rfl rfl rfl rfl ?_
    obtain ⟨x5, q5, hm⟩ := yes_bind hm
    refine p_callG (flow_maker_step_ok (⟨m0.gG, m0.gAt, x2⟩ : TFlowMaker) (1 : Int) a1 o0 T0 k0_2 c0_3 (.cur v2) x5 q5) rfl rfl rfl rfl rfl (WkL.cons (Wk.refl _) (WkL.cons (Wk.refl _) (WkL.cons (Wk.trans (Wk.agg (WkR.refl _)) (Wk.of_eq (eTApiStmt_eq a1).symm)) (WkL.refl _)))) (List.Perm.refl _) ((perm_at (j := 1) rfl).trans (List.Perm.cons _ (List.Perm.refl _))) ?_
    rintro _ _ _ ⟨w4, rfl, rfl, rfl⟩
    refine ops_nil ?_
    refine block_normal ?_
    have er6 := yes_eq hm; subst er6
    refine retX.wk (WkS.blk (ds' := [.v (.string x5.gG.gFunc), .v (.int .i64 x5.gG.gNodes), .lst 6 (x5.gG.gEdges.map eTApiEdge) (.cur w4), .lst 2 (x5.gG.gVars.map eTApiVar) .no, .v (.int .i64 x5.gG.gMany), .v (.int .i64 x5.gAt), .lst 1 (x5.gPlaces.map eI64) (.cur v2)]) (h' := [(o0, Blk.cells [.v (.string x5.gG.gFunc), .v (.int .i64 x5.gG.gNodes), .lst 6 (x5.gG.gEdges.map eTApiEdge) (.cur w4), .lst 2 (x5.gG.gVars.map eTApiVar) .no, .v (.int .i64 x5.gG.gMany), .v (.int .i64 x5.gAt), .lst 1 (x5.gPlaces.map eI64) (.cur v2)] T0), (b1, Blk.cells [.v (.int .i64 a1.gOp), .v (.string a1.gName), .v (.string a1.gFunc), .lst 5 (a1.gExps.map eTApiExpr) .no, .lst 7 (a1.gKids.map eTApiStmt) .no, .lst 7 (a1.gElse.map eTApiStmt) .no, .v (.int .i64 a1.gAt)] 49)]) 0 rfl (WkR.cons (WkC.refl _) rfl (WkR.cons (WkC.refl _) rfl (WkR.cons (WkC.refl _) rfl (WkR.cons (WkC.no) rfl (WkR.cons (WkC.refl _) rfl (WkR.cons (WkC.refl _) rfl (WkR.cons (WkC.refl _) rfl (WkR.nil)))))))) rfl) ?_
    refine retX.of (s' := ⟨[], [(o0, Blk.cells [.v (.string x5.gG.gFunc), .v (.int .i64 x5.gG.gNodes), .lst 6 (x5.gG.gEdges.map eTApiEdge) (.cur w4), .lst 2 (x5.gG.gVars.map eTApiVar) .no, .v (.int .i64 x5.gG.gMany), .v (.int .i64 x5.gAt), .lst 1 (x5.gPlaces.map eI64) (.cur v2)] T0)], [(6, w4), (1, v2)]⟩) (WkS.perm (WkS.nil) (List.Perm.refl _) (List.Perm.refl _)) (retD_mk (hh := [(o0, Blk.cells [.v (.string x5.gG.gFunc), .v (.int .i64 x5.gG.gNodes), .lst 6 (x5.gG.gEdges.map eTApiEdge) (.cur w4), .lst 2 (x5.gG.gVars.map eTApiVar) .no, .v (.int .i64 x5.gG.gMany), .v (.int .i64 x5.gAt), .lst 1 (x5.gPlaces.map eI64) (.cur v2)] T0)]) (.inr rfl) (resL_nil) (List.Sublist.refl _) (List.Sublist.refl _) ?_)
    exact ⟨w4, v2, rfl, rfl, rfl⟩
  · replace hm := yes_f hc3 hm
    refine wpD_seq ?_
    refine wpD_region ?_
    refine p_pure htab rfl rfl rfl rfl ?_
    refine p_pure htab rfl rfl rfl rfl ?_
    refine ops_nil ?_
    refine then_normal ?_
    refine wpD_cond rfl (fun hc7 => ?_) (fun hc7 => ?_)
    · replace hm := yes_t hc7 hm
      refine wpD_region ?_
      refine p_pure htab rfl rfl rfl rfl ?_
      refine p_load (d := .agg [.v (.int .i64 a1.gOp), .v (.string a1.gName), .v (.string a1.gFunc), .lst 5 (a1.gExps.map eTApiExpr) .no, .lst 7 (a1.gKids.map eTApiStmt) .no, .lst 7 (a1.gElse.map eTApiStmt) .no, .v (.int .i64 a1.gAt)]) 1 htab rfl rfl rfl rfl rfl rfl rfl rfl ?_
      obtain ⟨x9, q9, hm⟩ := yes_bind hm
      refine p_callG (flow_maker_step_ok (⟨m0.gG, m0.gAt, x2⟩ : TFlowMaker) (2 : Int) a1 o0 T0 k0_2 c0_3 (.cur v2) x9 q9) rfl rfl rfl rfl rfl (WkL.cons (Wk.refl _) (WkL.cons (Wk.refl _) (WkL.cons (Wk.trans (Wk.agg (WkR.refl _)) (Wk.of_eq (eTApiStmt_eq a1).symm)) (WkL.refl _)))) (List.Perm.refl _) ((perm_at (j := 1) rfl).trans (List.Perm.cons _ (List.Perm.refl _))) ?_
      rintro _ _ _ ⟨w8, rfl, rfl, rfl⟩
      refine ops_nil ?_
      refine block_normal ?_
      have er10 := yes_eq hm; subst er10
      refine retX.wk (WkS.blk (ds' := [.v (.string x9.gG.gFunc), .v (.int .i64 x9.gG.gNodes), .lst 6 (x9.gG.gEdges.map eTApiEdge) (.cur w8), .lst 2 (x9.gG.gVars.map eTApiVar) .no, .v (.int .i64 x9.gG.gMany), .v (.int .i64 x9.gAt), .lst 1 (x9.gPlaces.map eI64) (.cur v2)]) (h' := [(o0, Blk.cells [.v (.string x9.gG.gFunc), .v (.int .i64 x9.gG.gNodes), .lst 6 (x9.gG.gEdges.map eTApiEdge) (.cur w8), .lst 2 (x9.gG.gVars.map eTApiVar) .no, .v (.int .i64 x9.gG.gMany), .v (.int .i64 x9.gAt), .lst 1 (x9.gPlaces.map eI64) (.cur v2)] T0), (b1, Blk.cells [.v (.int .i64 a1.gOp), .v (.string a1.gName), .v (.string a1.gFunc), .lst 5 (a1.gExps.map eTApiExpr) .no, .lst 7 (a1.gKids.map eTApiStmt) .no, .lst 7 (a1.gElse.map eTApiStmt) .no, .v (.int .i64 a1.gAt)] 49)]) 0 rfl (WkR.cons (WkC.refl _) rfl (WkR.cons (WkC.refl _) rfl (WkR.cons (WkC.refl _) rfl (WkR.cons (WkC.no) rfl (WkR.cons (WkC.refl _) rfl (WkR.cons (WkC.refl _) rfl (WkR.cons (WkC.refl _) rfl (WkR.nil)))))))) rfl) ?_
      refine retX.of (s' := ⟨[], [(o0, Blk.cells [.v (.string x9.gG.gFunc), .v (.int .i64 x9.gG.gNodes), .lst 6 (x9.gG.gEdges.map eTApiEdge) (.cur w8), .lst 2 (x9.gG.gVars.map eTApiVar) .no, .v (.int .i64 x9.gG.gMany), .v (.int .i64 x9.gAt), .lst 1 (x9.gPlaces.map eI64) (.cur v2)] T0)], [(6, w8), (1, v2)]⟩) (WkS.perm (WkS.nil) (List.Perm.refl _) (List.Perm.refl _)) (retD_mk (hh := [(o0, Blk.cells [.v (.string x9.gG.gFunc), .v (.int .i64 x9.gG.gNodes), .lst 6 (x9.gG.gEdges.map eTApiEdge) (.cur w8), .lst 2 (x9.gG.gVars.map eTApiVar) .no, .v (.int .i64 x9.gG.gMany), .v (.int .i64 x9.gAt), .lst 1 (x9.gPlaces.map eI64) (.cur v2)] T0)]) (.inr rfl) (resL_nil) (List.Sublist.refl _) (List.Sublist.refl _) ?_)
      exact ⟨w8, v2, rfl, rfl, rfl⟩
    · replace hm := yes_f hc7 hm
      refine wpD_seq ?_
      refine wpD_region ?_
      refine p_pure htab rfl rfl rfl rfl ?_
      refine p_pure htab rfl rfl rfl rfl ?_
      refine ops_nil ?_
      refine then_normal ?_
      refine wpD_cond rfl (fun hc11 => ?_) (fun hc11 => ?_)
      · replace hm := yes_t hc11 hm
        refine wpD_region ?_
        refine p_pure htab rfl rfl rfl rfl ?_
        refine p_load (d := .agg [.v (.int .i64 a1.gOp), .v (.string a1.gName), .v (.string a1.gFunc), .lst 5 (a1.gExps.map eTApiExpr) .no, .lst 7 (a1.gKids.map eTApiStmt) .no, .lst 7 (a1.gElse.map eTApiStmt) .no, .v (.int .i64 a1.gAt)]) 1 htab rfl rfl rfl rfl rfl rfl rfl rfl ?_
        obtain ⟨x13, q13, hm⟩ := yes_bind hm
        refine p_callG (flow_maker_step_ok (⟨m0.gG, m0.gAt, x2⟩ : TFlowMaker) (3 : Int) a1 o0 T0 k0_2 c0_3 (.cur v2) x13 q13) rfl rfl rfl rfl rfl (WkL.cons (Wk.refl _) (WkL.cons (Wk.refl _) (WkL.cons (Wk.trans (Wk.agg (WkR.refl _)) (Wk.of_eq (eTApiStmt_eq a1).symm)) (WkL.refl _)))) (List.Perm.refl _) ((perm_at (j := 1) rfl).trans (List.Perm.cons _ (List.Perm.refl _))) ?_
        rintro _ _ _ ⟨w12, rfl, rfl, rfl⟩
        refine ops_nil ?_
        refine block_normal ?_
        have er14 := yes_eq hm; subst er14
        refine retX.wk (WkS.blk (ds' := [.v (.string x13.gG.gFunc), .v (.int .i64 x13.gG.gNodes), .lst 6 (x13.gG.gEdges.map eTApiEdge) (.cur w12), .lst 2 (x13.gG.gVars.map eTApiVar) .no, .v (.int .i64 x13.gG.gMany), .v (.int .i64 x13.gAt), .lst 1 (x13.gPlaces.map eI64) (.cur v2)]) (h' := [(o0, Blk.cells [.v (.string x13.gG.gFunc), .v (.int .i64 x13.gG.gNodes), .lst 6 (x13.gG.gEdges.map eTApiEdge) (.cur w12), .lst 2 (x13.gG.gVars.map eTApiVar) .no, .v (.int .i64 x13.gG.gMany), .v (.int .i64 x13.gAt), .lst 1 (x13.gPlaces.map eI64) (.cur v2)] T0), (b1, Blk.cells [.v (.int .i64 a1.gOp), .v (.string a1.gName), .v (.string a1.gFunc), .lst 5 (a1.gExps.map eTApiExpr) .no, .lst 7 (a1.gKids.map eTApiStmt) .no, .lst 7 (a1.gElse.map eTApiStmt) .no, .v (.int .i64 a1.gAt)] 49)]) 0 rfl (WkR.cons (WkC.refl _) rfl (WkR.cons (WkC.refl _) rfl (WkR.cons (WkC.refl _) rfl (WkR.cons (WkC.no) rfl (WkR.cons (WkC.refl _) rfl (WkR.cons (WkC.refl _) rfl (WkR.cons (WkC.refl _) rfl (WkR.nil)))))))) rfl) ?_
        refine retX.of (s' := ⟨[], [(o0, Blk.cells [.v (.string x13.gG.gFunc), .v (.int .i64 x13.gG.gNodes), .lst 6 (x13.gG.gEdges.map eTApiEdge) (.cur w12), .lst 2 (x13.gG.gVars.map eTApiVar) .no, .v (.int .i64 x13.gG.gMany), .v (.int .i64 x13.gAt), .lst 1 (x13.gPlaces.map eI64) (.cur v2)] T0)], [(6, w12), (1, v2)]⟩) (WkS.perm (WkS.nil) (List.Perm.refl _) (List.Perm.refl _)) (retD_mk (hh := [(o0, Blk.cells [.v (.string x13.gG.gFunc), .v (.int .i64 x13.gG.gNodes), .lst 6 (x13.gG.gEdges.map eTApiEdge) (.cur w12), .lst 2 (x13.gG.gVars.map eTApiVar) .no, .v (.int .i64 x13.gG.gMany), .v (.int .i64 x13.gAt), .lst 1 (x13.gPlaces.map eI64) (.cur v2)] T0)]) (.inr rfl) (resL_nil) (List.Sublist.refl _) (List.Sublist.refl _) ?_)
        exact ⟨w12, v2, rfl, rfl, rfl⟩
      · replace hm := yes_f hc11 hm
        refine wpD_seq ?_
        refine wpD_region ?_
        refine p_pure htab rfl rfl rfl rfl ?_
        refine p_pure htab rfl rfl rfl rfl ?_
        refine ops_nil ?_
        refine then_normal ?_
        refine wpD_cond rfl (fun hc15 => ?_) (fun hc15 => ?_)
        · replace hm := yes_t hc15 hm
          refine wpD_region ?_
          refine p_pure htab rfl rfl rfl rfl ?_
          refine p_load (d := .agg [.v (.int .i64 a1.gOp), .v (.string a1.gName), .v (.string a1.gFunc), .lst 5 (a1.gExps.map eTApiExpr) .no, .lst 7 (a1.gKids.map eTApiStmt) .no, .lst 7 (a1.gElse.map eTApiStmt) .no, .v (.int .i64 a1.gAt)]) 1 htab rfl rfl rfl rfl rfl rfl rfl rfl ?_
          obtain ⟨x17, q17, hm⟩ := yes_bind hm
          refine p_callG (flow_maker_step_ok (⟨m0.gG, m0.gAt, x2⟩ : TFlowMaker) (4 : Int) a1 o0 T0 k0_2 c0_3 (.cur v2) x17 q17) rfl rfl rfl rfl rfl (WkL.cons (Wk.refl _) (WkL.cons (Wk.refl _) (WkL.cons (Wk.trans (Wk.agg (WkR.refl _)) (Wk.of_eq (eTApiStmt_eq a1).symm)) (WkL.refl _)))) (List.Perm.refl _) ((perm_at (j := 1) rfl).trans (List.Perm.cons _ (List.Perm.refl _))) ?_
          rintro _ _ _ ⟨w16, rfl, rfl, rfl⟩
          refine ops_nil ?_
          refine block_normal ?_
          have er18 := yes_eq hm; subst er18
          refine retX.wk (WkS.blk (ds' := [.v (.string x17.gG.gFunc), .v (.int .i64 x17.gG.gNodes), .lst 6 (x17.gG.gEdges.map eTApiEdge) (.cur w16), .lst 2 (x17.gG.gVars.map eTApiVar) .no, .v (.int .i64 x17.gG.gMany), .v (.int .i64 x17.gAt), .lst 1 (x17.gPlaces.map eI64) (.cur v2)]) (h' := [(o0, Blk.cells [.v (.string x17.gG.gFunc), .v (.int .i64 x17.gG.gNodes), .lst 6 (x17.gG.gEdges.map eTApiEdge) (.cur w16), .lst 2 (x17.gG.gVars.map eTApiVar) .no, .v (.int .i64 x17.gG.gMany), .v (.int .i64 x17.gAt), .lst 1 (x17.gPlaces.map eI64) (.cur v2)] T0), (b1, Blk.cells [.v (.int .i64 a1.gOp), .v (.string a1.gName), .v (.string a1.gFunc), .lst 5 (a1.gExps.map eTApiExpr) .no, .lst 7 (a1.gKids.map eTApiStmt) .no, .lst 7 (a1.gElse.map eTApiStmt) .no, .v (.int .i64 a1.gAt)] 49)]) 0 rfl (WkR.cons (WkC.refl _) rfl (WkR.cons (WkC.refl _) rfl (WkR.cons (WkC.refl _) rfl (WkR.cons (WkC.no) rfl (WkR.cons (WkC.refl _) rfl (WkR.cons (WkC.refl _) rfl (WkR.cons (WkC.refl _) rfl (WkR.nil)))))))) rfl) ?_
          refine retX.of (s' := ⟨[], [(o0, Blk.cells [.v (.string x17.gG.gFunc), .v (.int .i64 x17.gG.gNodes), .lst 6 (x17.gG.gEdges.map eTApiEdge) (.cur w16), .lst 2 (x17.gG.gVars.map eTApiVar) .no, .v (.int .i64 x17.gG.gMany), .v (.int .i64 x17.gAt), .lst 1 (x17.gPlaces.map eI64) (.cur v2)] T0)], [(6, w16), (1, v2)]⟩) (WkS.perm (WkS.nil) (List.Perm.refl _) (List.Perm.refl _)) (retD_mk (hh := [(o0, Blk.cells [.v (.string x17.gG.gFunc), .v (.int .i64 x17.gG.gNodes), .lst 6 (x17.gG.gEdges.map eTApiEdge) (.cur w16), .lst 2 (x17.gG.gVars.map eTApiVar) .no, .v (.int .i64 x17.gG.gMany), .v (.int .i64 x17.gAt), .lst 1 (x17.gPlaces.map eI64) (.cur v2)] T0)]) (.inr rfl) (resL_nil) (List.Sublist.refl _) (List.Sublist.refl _) ?_)
          exact ⟨w16, v2, rfl, rfl, rfl⟩
        · replace hm := yes_f hc15 hm
          refine wpD_seq ?_
          refine wpD_region ?_
          refine p_pure htab rfl rfl rfl rfl ?_
          refine p_pure htab rfl rfl rfl rfl ?_
          refine ops_nil ?_
          refine then_normal ?_
          refine wpD_cond rfl (fun hc19 => ?_) (fun hc19 => ?_)
          · replace hm := yes_t hc19 hm
            refine wpD_region ?_
            refine p_pure htab rfl rfl rfl rfl ?_
            refine p_load (d := .agg [.v (.int .i64 a1.gOp), .v (.string a1.gName), .v (.string a1.gFunc), .lst 5 (a1.gExps.map eTApiExpr) .no, .lst 7 (a1.gKids.map eTApiStmt) .no, .lst 7 (a1.gElse.map eTApiStmt) .no, .v (.int .i64 a1.gAt)]) 1 htab rfl rfl rfl rfl rfl rfl rfl rfl ?_
            obtain ⟨x21, q21, hm⟩ := yes_bind hm
            refine p_callG (flow_maker_step_ok (⟨m0.gG, m0.gAt, x2⟩ : TFlowMaker) (5 : Int) a1 o0 T0 k0_2 c0_3 (.cur v2) x21 q21) rfl rfl rfl rfl rfl (WkL.cons (Wk.refl _) (WkL.cons (Wk.refl _) (WkL.cons (Wk.trans (Wk.agg (WkR.refl _)) (Wk.of_eq (eTApiStmt_eq a1).symm)) (WkL.refl _)))) (List.Perm.refl _) ((perm_at (j := 1) rfl).trans (List.Perm.cons _ (List.Perm.refl _))) ?_
            rintro _ _ _ ⟨w20, rfl, rfl, rfl⟩
            refine ops_nil ?_
            refine block_normal ?_
            have er22 := yes_eq hm; subst er22
            refine retX.wk (WkS.blk (ds' := [.v (.string x21.gG.gFunc), .v (.int .i64 x21.gG.gNodes), .lst 6 (x21.gG.gEdges.map eTApiEdge) (.cur w20), .lst 2 (x21.gG.gVars.map eTApiVar) .no, .v (.int .i64 x21.gG.gMany), .v (.int .i64 x21.gAt), .lst 1 (x21.gPlaces.map eI64) (.cur v2)]) (h' := [(o0, Blk.cells [.v (.string x21.gG.gFunc), .v (.int .i64 x21.gG.gNodes), .lst 6 (x21.gG.gEdges.map eTApiEdge) (.cur w20), .lst 2 (x21.gG.gVars.map eTApiVar) .no, .v (.int .i64 x21.gG.gMany), .v (.int .i64 x21.gAt), .lst 1 (x21.gPlaces.map eI64) (.cur v2)] T0), (b1, Blk.cells [.v (.int .i64 a1.gOp), .v (.string a1.gName), .v (.string a1.gFunc), .lst 5 (a1.gExps.map eTApiExpr) .no, .lst 7 (a1.gKids.map eTApiStmt) .no, .lst 7 (a1.gElse.map eTApiStmt) .no, .v (.int .i64 a1.gAt)] 49)]) 0 rfl (WkR.cons (WkC.refl _) rfl (WkR.cons (WkC.refl _) rfl (WkR.cons (WkC.refl _) rfl (WkR.cons (WkC.no) rfl (WkR.cons (WkC.refl _) rfl (WkR.cons (WkC.refl _) rfl (WkR.cons (WkC.refl _) rfl (WkR.nil)))))))) rfl) ?_
            refine retX.of (s' := ⟨[], [(o0, Blk.cells [.v (.string x21.gG.gFunc), .v (.int .i64 x21.gG.gNodes), .lst 6 (x21.gG.gEdges.map eTApiEdge) (.cur w20), .lst 2 (x21.gG.gVars.map eTApiVar) .no, .v (.int .i64 x21.gG.gMany), .v (.int .i64 x21.gAt), .lst 1 (x21.gPlaces.map eI64) (.cur v2)] T0)], [(6, w20), (1, v2)]⟩) (WkS.perm (WkS.nil) (List.Perm.refl _) (List.Perm.refl _)) (retD_mk (hh := [(o0, Blk.cells [.v (.string x21.gG.gFunc), .v (.int .i64 x21.gG.gNodes), .lst 6 (x21.gG.gEdges.map eTApiEdge) (.cur w20), .lst 2 (x21.gG.gVars.map eTApiVar) .no, .v (.int .i64 x21.gG.gMany), .v (.int .i64 x21.gAt), .lst 1 (x21.gPlaces.map eI64) (.cur v2)] T0)]) (.inr rfl) (resL_nil) (List.Sublist.refl _) (List.Sublist.refl _) ?_)
            exact ⟨w20, v2, rfl, rfl, rfl⟩
          · replace hm := yes_f hc19 hm
            refine wpD_seq ?_
            refine wpD_region ?_
            refine p_pure htab rfl rfl rfl rfl ?_
            refine p_pure htab rfl rfl rfl rfl ?_
            refine ops_nil ?_
            refine then_normal ?_
            refine wpD_cond rfl (fun hc23 => ?_) (fun hc23 => ?_)
            · replace hm := yes_t hc23 hm
              refine wpD_region ?_
              refine p_pure htab rfl rfl rfl rfl ?_
              refine p_load (d := .agg [.v (.int .i64 a1.gOp), .v (.string a1.gName), .v (.string a1.gFunc), .lst 5 (a1.gExps.map eTApiExpr) .no, .lst 7 (a1.gKids.map eTApiStmt) .no, .lst 7 (a1.gElse.map eTApiStmt) .no, .v (.int .i64 a1.gAt)]) 1 htab rfl rfl rfl rfl rfl rfl rfl rfl ?_
              obtain ⟨x25, q25, hm⟩ := yes_bind hm
              refine p_callG (flow_maker_step_ok (⟨m0.gG, m0.gAt, x2⟩ : TFlowMaker) (9 : Int) a1 o0 T0 k0_2 c0_3 (.cur v2) x25 q25) rfl rfl rfl rfl rfl (WkL.cons (Wk.refl _) (WkL.cons (Wk.refl _) (WkL.cons (Wk.trans (Wk.agg (WkR.refl _)) (Wk.of_eq (eTApiStmt_eq a1).symm)) (WkL.refl _)))) (List.Perm.refl _) ((perm_at (j := 1) rfl).trans (List.Perm.cons _ (List.Perm.refl _))) ?_
              rintro _ _ _ ⟨w24, rfl, rfl, rfl⟩
              refine ops_nil ?_
              refine block_normal ?_
              have er26 := yes_eq hm; subst er26
              refine retX.wk (WkS.blk (ds' := [.v (.string x25.gG.gFunc), .v (.int .i64 x25.gG.gNodes), .lst 6 (x25.gG.gEdges.map eTApiEdge) (.cur w24), .lst 2 (x25.gG.gVars.map eTApiVar) .no, .v (.int .i64 x25.gG.gMany), .v (.int .i64 x25.gAt), .lst 1 (x25.gPlaces.map eI64) (.cur v2)]) (h' := [(o0, Blk.cells [.v (.string x25.gG.gFunc), .v (.int .i64 x25.gG.gNodes), .lst 6 (x25.gG.gEdges.map eTApiEdge) (.cur w24), .lst 2 (x25.gG.gVars.map eTApiVar) .no, .v (.int .i64 x25.gG.gMany), .v (.int .i64 x25.gAt), .lst 1 (x25.gPlaces.map eI64) (.cur v2)] T0), (b1, Blk.cells [.v (.int .i64 a1.gOp), .v (.string a1.gName), .v (.string a1.gFunc), .lst 5 (a1.gExps.map eTApiExpr) .no, .lst 7 (a1.gKids.map eTApiStmt) .no, .lst 7 (a1.gElse.map eTApiStmt) .no, .v (.int .i64 a1.gAt)] 49)]) 0 rfl (WkR.cons (WkC.refl _) rfl (WkR.cons (WkC.refl _) rfl (WkR.cons (WkC.refl _) rfl (WkR.cons (WkC.no) rfl (WkR.cons (WkC.refl _) rfl (WkR.cons (WkC.refl _) rfl (WkR.cons (WkC.refl _) rfl (WkR.nil)))))))) rfl) ?_
              refine retX.of (s' := ⟨[], [(o0, Blk.cells [.v (.string x25.gG.gFunc), .v (.int .i64 x25.gG.gNodes), .lst 6 (x25.gG.gEdges.map eTApiEdge) (.cur w24), .lst 2 (x25.gG.gVars.map eTApiVar) .no, .v (.int .i64 x25.gG.gMany), .v (.int .i64 x25.gAt), .lst 1 (x25.gPlaces.map eI64) (.cur v2)] T0)], [(6, w24), (1, v2)]⟩) (WkS.perm (WkS.nil) (List.Perm.refl _) (List.Perm.refl _)) (retD_mk (hh := [(o0, Blk.cells [.v (.string x25.gG.gFunc), .v (.int .i64 x25.gG.gNodes), .lst 6 (x25.gG.gEdges.map eTApiEdge) (.cur w24), .lst 2 (x25.gG.gVars.map eTApiVar) .no, .v (.int .i64 x25.gG.gMany), .v (.int .i64 x25.gAt), .lst 1 (x25.gPlaces.map eI64) (.cur v2)] T0)]) (.inr rfl) (resL_nil) (List.Sublist.refl _) (List.Sublist.refl _) ?_)
              exact ⟨w24, v2, rfl, rfl, rfl⟩
            · replace hm := yes_f hc23 hm
              refine wpD_seq ?_
              refine wpD_region ?_
              refine p_pure htab rfl rfl rfl rfl ?_
              refine p_pure htab rfl rfl rfl rfl ?_
              refine ops_nil ?_
              refine then_normal ?_
              refine wpD_cond rfl (fun hc27 => ?_) (fun hc27 => ?_)
              · replace hm := yes_t hc27 hm
                refine wpD_region ?_
                refine p_pure htab rfl rfl rfl rfl ?_
                refine p_load (d := .agg [.v (.int .i64 a1.gOp), .v (.string a1.gName), .v (.string a1.gFunc), .lst 5 (a1.gExps.map eTApiExpr) .no, .lst 7 (a1.gKids.map eTApiStmt) .no, .lst 7 (a1.gElse.map eTApiStmt) .no, .v (.int .i64 a1.gAt)]) 1 htab rfl rfl rfl rfl rfl rfl rfl rfl ?_
                obtain ⟨x29, q29, hm⟩ := yes_bind hm
                refine p_callG (flow_maker_leave_ok (⟨m0.gG, m0.gAt, x2⟩ : TFlowMaker) a1 o0 T0 k0_2 c0_3 (.cur v2) x29 q29) rfl rfl rfl rfl rfl (WkL.cons (Wk.refl _) (WkL.cons (Wk.trans (Wk.agg (WkR.refl _)) (Wk.of_eq (eTApiStmt_eq a1).symm)) (WkL.refl _))) (List.Perm.refl _) ((perm_at (j := 1) rfl).trans (List.Perm.cons _ (List.Perm.refl _))) ?_
                rintro _ _ _ ⟨w28, rfl, rfl, rfl⟩
                refine ops_nil ?_
                refine block_normal ?_
                have er30 := yes_eq hm; subst er30
                refine retX.wk (WkS.blk (ds' := [.v (.string x29.gG.gFunc), .v (.int .i64 x29.gG.gNodes), .lst 6 (x29.gG.gEdges.map eTApiEdge) (.cur w28), .lst 2 (x29.gG.gVars.map eTApiVar) .no, .v (.int .i64 x29.gG.gMany), .v (.int .i64 x29.gAt), .lst 1 (x29.gPlaces.map eI64) (.cur v2)]) (h' := [(o0, Blk.cells [.v (.string x29.gG.gFunc), .v (.int .i64 x29.gG.gNodes), .lst 6 (x29.gG.gEdges.map eTApiEdge) (.cur w28), .lst 2 (x29.gG.gVars.map eTApiVar) .no, .v (.int .i64 x29.gG.gMany), .v (.int .i64 x29.gAt), .lst 1 (x29.gPlaces.map eI64) (.cur v2)] T0), (b1, Blk.cells [.v (.int .i64 a1.gOp), .v (.string a1.gName), .v (.string a1.gFunc), .lst 5 (a1.gExps.map eTApiExpr) .no, .lst 7 (a1.gKids.map eTApiStmt) .no, .lst 7 (a1.gElse.map eTApiStmt) .no, .v (.int .i64 a1.gAt)] 49)]) 0 rfl (WkR.cons (WkC.refl _) rfl (WkR.cons (WkC.refl _) rfl (WkR.cons (WkC.refl _) rfl (WkR.cons (WkC.no) rfl (WkR.cons (WkC.refl _) rfl (WkR.cons (WkC.refl _) rfl (WkR.cons (WkC.refl _) rfl (WkR.nil)))))))) rfl) ?_
                refine retX.of (s' := ⟨[], [(o0, Blk.cells [.v (.string x29.gG.gFunc), .v (.int .i64 x29.gG.gNodes), .lst 6 (x29.gG.gEdges.map eTApiEdge) (.cur w28), .lst 2 (x29.gG.gVars.map eTApiVar) .no, .v (.int .i64 x29.gG.gMany), .v (.int .i64 x29.gAt), .lst 1 (x29.gPlaces.map eI64) (.cur v2)] T0)], [(6, w28), (1, v2)]⟩) (WkS.perm (WkS.nil) (List.Perm.refl _) (List.Perm.refl _)) (retD_mk (hh := [(o0, Blk.cells [.v (.string x29.gG.gFunc), .v (.int .i64 x29.gG.gNodes), .lst 6 (x29.gG.gEdges.map eTApiEdge) (.cur w28), .lst 2 (x29.gG.gVars.map eTApiVar) .no, .v (.int .i64 x29.gG.gMany), .v (.int .i64 x29.gAt), .lst 1 (x29.gPlaces.map eI64) (.cur v2)] T0)]) (.inr rfl) (resL_nil) (List.Sublist.refl _) (List.Sublist.refl _) ?_)
                exact ⟨w28, v2, rfl, rfl, rfl⟩
              · replace hm := yes_f hc27 hm
                refine wpD_seq ?_
                refine wpD_region ?_
                refine p_pure htab rfl rfl rfl rfl ?_
                refine p_pure htab rfl rfl rfl rfl ?_
                refine ops_nil ?_
                refine then_normal ?_
                refine wpD_cond rfl (fun hc31 => ?_) (fun hc31 => ?_)
                · replace hm := yes_t hc31 hm
                  refine wpD_region ?_
                  refine p_pure htab rfl rfl rfl rfl ?_
                  refine p_load (d := .agg [.v (.int .i64 a1.gOp), .v (.string a1.gName), .v (.string a1.gFunc), .lst 5 (a1.gExps.map eTApiExpr) .no, .lst 7 (a1.gKids.map eTApiStmt) .no, .lst 7 (a1.gElse.map eTApiStmt) .no, .v (.int .i64 a1.gAt)]) 1 htab rfl rfl rfl rfl rfl rfl rfl rfl ?_
                  obtain ⟨x34, q34, hm⟩ := yes_bind hm
                  refine p_callG (hg2 (⟨m0.gG, m0.gAt, x2⟩ : TFlowMaker) a1 o0 T0 k0_2 c0_3 v2 x34 q34) rfl rfl rfl rfl rfl (WkL.cons (Wk.refl _) (WkL.cons (Wk.trans (Wk.agg (WkR.refl _)) (Wk.of_eq (eTApiStmt_eq a1).symm)) (WkL.refl _))) (List.Perm.refl _) ((perm_at (j := 1) rfl).trans (List.Perm.cons _ ((perm_at (j := 0) rfl).trans (List.Perm.cons _ (List.Perm.refl _))))) ?_
                  rintro _ _ _ ⟨w32, w33, rfl, rfl, rfl⟩
                  refine ops_nil ?_
                  refine block_normal ?_
                  have er35 := yes_eq hm; subst er35
                  refine retX.of (s' := ⟨[], [(o0, Blk.cells [.v (.string x34.gG.gFunc), .v (.int .i64 x34.gG.gNodes), .lst 6 (x34.gG.gEdges.map eTApiEdge) (.cur w32), .lst 2 (x34.gG.gVars.map eTApiVar) .no, .v (.int .i64 x34.gG.gMany), .v (.int .i64 x34.gAt), .lst 1 (x34.gPlaces.map eI64) (.cur w33)] T0)], [(6, w32), (1, w33)]⟩) (WkS.perm (WkS.nil) (List.Perm.refl _) (List.Perm.refl _)) (retD_mk (hh := [(o0, Blk.cells [.v (.string x34.gG.gFunc), .v (.int .i64 x34.gG.gNodes), .lst 6 (x34.gG.gEdges.map eTApiEdge) (.cur w32), .lst 2 (x34.gG.gVars.map eTApiVar) .no, .v (.int .i64 x34.gG.gMany), .v (.int .i64 x34.gAt), .lst 1 (x34.gPlaces.map eI64) (.cur w33)] T0)]) (.inr rfl) (resL_nil) (List.Sublist.refl _) (List.Sublist.refl _) ?_)
                  exact ⟨w32, w33, rfl, rfl, rfl⟩
                · replace hm := yes_f hc31 hm
                  refine wpD_seq ?_
                  refine wpD_region ?_
                  refine p_pure htab rfl rfl rfl rfl ?_
                  refine p_pure htab rfl rfl rfl rfl ?_
                  refine ops_nil ?_
                  refine then_normal ?_
                  refine wpD_cond rfl (fun hc36 => ?_) (fun hc36 => ?_)
                  · replace hm := yes_t hc36 hm
                    refine wpD_region ?_
                    refine p_pure htab rfl rfl rfl rfl ?_
                    refine p_load (d := .agg [.v (.int .i64 a1.gOp), .v (.string a1.gName), .v (.string a1.gFunc), .lst 5 (a1.gExps.map eTApiExpr) .no, .lst 7 (a1.gKids.map eTApiStmt) .no, .lst 7 (a1.gElse.map eTApiStmt) .no, .v (.int .i64 a1.gAt)]) 1 htab rfl rfl rfl rfl rfl rfl rfl rfl ?_
                    obtain ⟨x39, q39, hm⟩ := yes_bind hm
                    refine p_callG (hg3 (⟨m0.gG, m0.gAt, x2⟩ : TFlowMaker) a1 o0 T0 k0_2 c0_3 v2 x39 q39) rfl rfl rfl rfl rfl (WkL.cons (Wk.refl _) (WkL.cons (Wk.trans (Wk.agg (WkR.refl _)) (Wk.of_eq (eTApiStmt_eq a1).symm)) (WkL.refl _))) (List.Perm.refl _) ((perm_at (j := 1) rfl).trans (List.Perm.cons _ ((perm_at (j := 0) rfl).trans (List.Perm.cons _ (List.Perm.refl _))))) ?_
                    rintro _ _ _ ⟨w37, w38, rfl, rfl, rfl⟩
                    refine ops_nil ?_
                    refine block_normal ?_
                    have er40 := yes_eq hm; subst er40
                    refine retX.of (s' := ⟨[], [(o0, Blk.cells [.v (.string x39.gG.gFunc), .v (.int .i64 x39.gG.gNodes), .lst 6 (x39.gG.gEdges.map eTApiEdge) (.cur w37), .lst 2 (x39.gG.gVars.map eTApiVar) .no, .v (.int .i64 x39.gG.gMany), .v (.int .i64 x39.gAt), .lst 1 (x39.gPlaces.map eI64) (.cur w38)] T0)], [(6, w37), (1, w38)]⟩) (WkS.perm (WkS.nil) (List.Perm.refl _) (List.Perm.refl _)) (retD_mk (hh := [(o0, Blk.cells [.v (.string x39.gG.gFunc), .v (.int .i64 x39.gG.gNodes), .lst 6 (x39.gG.gEdges.map eTApiEdge) (.cur w37), .lst 2 (x39.gG.gVars.map eTApiVar) .no, .v (.int .i64 x39.gG.gMany), .v (.int .i64 x39.gAt), .lst 1 (x39.gPlaces.map eI64) (.cur w38)] T0)]) (.inr rfl) (resL_nil) (List.Sublist.refl _) (List.Sublist.refl _) ?_)
                    exact ⟨w37, w38, rfl, rfl, rfl⟩
                  · replace hm := yes_f hc36 hm
                    refine wpD_skip ?_
                    refine block_normal ?_
                    have er41 := yes_eq hm; subst er41
                    refine retX.wk (WkS.blk (ds' := [.v (.string m0.gG.gFunc), .v (.int .i64 m0.gG.gNodes), .lst 6 (m0.gG.gEdges.map eTApiEdge) (.cur k0_2), .lst 2 (m0.gG.gVars.map eTApiVar) .no, .v (.int .i64 m0.gG.gMany), .v (.int .i64 m0.gAt), .lst 1 (x2.map eI64) (.cur v2)]) (h' := [(o0, Blk.cells [.v (.string m0.gG.gFunc), .v (.int .i64 m0.gG.gNodes), .lst 6 (m0.gG.gEdges.map eTApiEdge) (.cur k0_2), .lst 2 (m0.gG.gVars.map eTApiVar) .no, .v (.int .i64 m0.gG.gMany), .v (.int .i64 m0.gAt), .lst 1 (x2.map eI64) (.cur v2)] T0), (b1, Blk.cells [.v (.int .i64 a1.gOp), .v (.string a1.gName), .v (.string a1.gFunc), .lst 5 (a1.gExps.map eTApiExpr) .no, .lst 7 (a1.gKids.map eTApiStmt) .no, .lst 7 (a1.gElse.map eTApiStmt) .no, .v (.int .i64 a1.gAt)] 49)]) 0 rfl (WkR.cons (WkC.refl _) rfl (WkR.cons (WkC.refl _) rfl (WkR.cons (WkC.refl _) rfl (WkR.cons (WkC.no) rfl (WkR.cons (WkC.refl _) rfl (WkR.cons (WkC.refl _) rfl (WkR.cons (WkC.refl _) rfl (WkR.nil)))))))) rfl) ?_
                    refine retX.of (s' := ⟨[], [(o0, Blk.cells [.v (.string m0.gG.gFunc), .v (.int .i64 m0.gG.gNodes), .lst 6 (m0.gG.gEdges.map eTApiEdge) (.cur k0_2), .lst 2 (m0.gG.gVars.map eTApiVar) .no, .v (.int .i64 m0.gG.gMany), .v (.int .i64 m0.gAt), .lst 1 (x2.map eI64) (.cur v2)] T0)], [(6, k0_2), (1, v2)]⟩) (WkS.perm (WkS.nil) (List.Perm.refl _) ((perm_at (j := 1) rfl).trans (List.Perm.cons _ ((perm_at (j := 0) rfl).trans (List.Perm.cons _ (List.Perm.refl _)))))) (retD_mk (hh := [(o0, Blk.cells [.v (.string m0.gG.gFunc), .v (.int .i64 m0.gG.gNodes), .lst 6 (m0.gG.gEdges.map eTApiEdge) (.cur k0_2), .lst 2 (m0.gG.gVars.map eTApiVar) .no, .v (.int .i64 m0.gG.gMany), .v (.int .i64 m0.gAt), .lst 1 (x2.map eI64) (.cur v2)] T0)]) (.inr rfl) (resL_nil) (List.Sublist.refl _) (List.Sublist.refl _) ?_)
                    exact ⟨k0_2, v2, rfl, rfl, rfl⟩
noncomputable def flow_maker_branch_b (g0 : (TFlowMaker) → (List TApiStmt) → Option (TFlowMaker)) (g1 : (TFlowMaker) → (TApiStmt) → Option (TFlowMaker)) (g2 : (TFlowMaker) → (TApiStmt) → Option (TFlowMaker)) (g3 : (TFlowMaker) → (TApiStmt) → Option (TFlowMaker)) (m0 : TFlowMaker) (a1 : TApiStmt) : Option (TFlowMaker) :=
  ((flow_maker_node m0).bind fun x2 => ((flow_maker_node x2.2).bind fun x3 => ((flow_test a1).bind fun x4 => ((flow_maker_edge x3.2 m0.gAt x2.1 (6 : Int) x4).bind fun x6 => ((flow_test a1).bind fun x7 => ((flow_maker_edge x6 m0.gAt x3.1 (7 : Int) x7).bind fun x9 => ((g0 (⟨x9.gG, x2.1, x9.gPlaces⟩ : TFlowMaker) a1.gKids).bind fun x12 => ((flow_maker_node x12).bind fun x13 => ((flow_maker_edge x13.2 x13.2.gAt x13.1 (0 : Int) a1).bind fun x15 => ((g0 (⟨x15.gG, x3.1, x15.gPlaces⟩ : TFlowMaker) a1.gElse).bind fun x18 => ((flow_maker_edge x18 x18.gAt x13.1 (0 : Int) a1).bind fun x20 => some (⟨x20.gG, x13.1, x20.gPlaces⟩ : TFlowMaker))))))))))))
set_option maxRecDepth 100000 in
set_option maxHeartbeats 2000000 in
theorem flow_maker_branch_b_ok (g0 : (TFlowMaker) → (List TApiStmt) → Option (TFlowMaker)) (g1 : (TFlowMaker) → (TApiStmt) → Option (TFlowMaker)) (g2 : (TFlowMaker) → (TApiStmt) → Option (TFlowMaker)) (g3 : (TFlowMaker) → (TApiStmt) → Option (TFlowMaker)) (hg0 : ∀ (m0 : TFlowMaker) (a1 : List TApiStmt) (o0 : Nat) (T0 : TypeId) (k0_2 : Value) (c0_3 : Cap) (k0_6 : Value) (r : TFlowMaker) (h0 : g0 m0 a1 = some r), CallsD Try.prog 19 [.ptr o0 0, .lst 7 (a1.map eTApiStmt) .no] [(o0, Blk.cells [.v (.string m0.gG.gFunc), .v (.int .i64 m0.gG.gNodes), .lst 6 (m0.gG.gEdges.map eTApiEdge) (.cur k0_2), .lst 2 (m0.gG.gVars.map eTApiVar) c0_3, .v (.int .i64 m0.gG.gMany), .v (.int .i64 m0.gAt), .lst 1 (m0.gPlaces.map eI64) (.cur k0_6)] T0)] [(6, k0_2), (1, k0_6)] (fun d h k => ∃ y0 y1, d = .tup [] ∧ h = [(o0, Blk.cells [.v (.string r.gG.gFunc), .v (.int .i64 r.gG.gNodes), .lst 6 (r.gG.gEdges.map eTApiEdge) (.cur y0), .lst 2 (r.gG.gVars.map eTApiVar) .no, .v (.int .i64 r.gG.gMany), .v (.int .i64 r.gAt), .lst 1 (r.gPlaces.map eI64) (.cur y1)] T0)] ∧ k = [(6, y0), (1, y1)])) (hg1 : ∀ (m0 : TFlowMaker) (a1 : TApiStmt) (o0 : Nat) (T0 : TypeId) (k0_2 : Value) (c0_3 : Cap) (k0_6 : Value) (r : TFlowMaker) (h0 : g1 m0 a1 = some r), CallsD Try.prog 23 [.ptr o0 0, eTApiStmt a1] [(o0, Blk.cells [.v (.string m0.gG.gFunc), .v (.int .i64 m0.gG.gNodes), .lst 6 (m0.gG.gEdges.map eTApiEdge) (.cur k0_2), .lst 2 (m0.gG.gVars.map eTApiVar) c0_3, .v (.int .i64 m0.gG.gMany), .v (.int .i64 m0.gAt), .lst 1 (m0.gPlaces.map eI64) (.cur k0_6)] T0)] [(6, k0_2), (1, k0_6)] (fun d h k => ∃ y0 y1, d = .tup [] ∧ h = [(o0, Blk.cells [.v (.string r.gG.gFunc), .v (.int .i64 r.gG.gNodes), .lst 6 (r.gG.gEdges.map eTApiEdge) (.cur y0), .lst 2 (r.gG.gVars.map eTApiVar) .no, .v (.int .i64 r.gG.gMany), .v (.int .i64 r.gAt), .lst 1 (r.gPlaces.map eI64) (.cur y1)] T0)] ∧ k = [(6, y0), (1, y1)])) (hg2 : ∀ (m0 : TFlowMaker) (a1 : TApiStmt) (o0 : Nat) (T0 : TypeId) (k0_2 : Value) (c0_3 : Cap) (k0_6 : Value) (r : TFlowMaker) (h0 : g2 m0 a1 = some r), CallsD Try.prog 27 [.ptr o0 0, eTApiStmt a1] [(o0, Blk.cells [.v (.string m0.gG.gFunc), .v (.int .i64 m0.gG.gNodes), .lst 6 (m0.gG.gEdges.map eTApiEdge) (.cur k0_2), .lst 2 (m0.gG.gVars.map eTApiVar) c0_3, .v (.int .i64 m0.gG.gMany), .v (.int .i64 m0.gAt), .lst 1 (m0.gPlaces.map eI64) (.cur k0_6)] T0)] [(6, k0_2), (1, k0_6)] (fun d h k => ∃ y0 y1, d = .tup [] ∧ h = [(o0, Blk.cells [.v (.string r.gG.gFunc), .v (.int .i64 r.gG.gNodes), .lst 6 (r.gG.gEdges.map eTApiEdge) (.cur y0), .lst 2 (r.gG.gVars.map eTApiVar) .no, .v (.int .i64 r.gG.gMany), .v (.int .i64 r.gAt), .lst 1 (r.gPlaces.map eI64) (.cur y1)] T0)] ∧ k = [(6, y0), (1, y1)])) (hg3 : ∀ (m0 : TFlowMaker) (a1 : TApiStmt) (o0 : Nat) (T0 : TypeId) (k0_2 : Value) (c0_3 : Cap) (k0_6 : Value) (r : TFlowMaker) (h0 : g3 m0 a1 = some r), CallsD Try.prog 28 [.ptr o0 0, eTApiStmt a1] [(o0, Blk.cells [.v (.string m0.gG.gFunc), .v (.int .i64 m0.gG.gNodes), .lst 6 (m0.gG.gEdges.map eTApiEdge) (.cur k0_2), .lst 2 (m0.gG.gVars.map eTApiVar) c0_3, .v (.int .i64 m0.gG.gMany), .v (.int .i64 m0.gAt), .lst 1 (m0.gPlaces.map eI64) (.cur k0_6)] T0)] [(6, k0_2), (1, k0_6)] (fun d h k => ∃ y0 y1, d = .tup [] ∧ h = [(o0, Blk.cells [.v (.string r.gG.gFunc), .v (.int .i64 r.gG.gNodes), .lst 6 (r.gG.gEdges.map eTApiEdge) (.cur y0), .lst 2 (r.gG.gVars.map eTApiVar) .no, .v (.int .i64 r.gG.gMany), .v (.int .i64 r.gAt), .lst 1 (r.gPlaces.map eI64) (.cur y1)] T0)] ∧ k = [(6, y0), (1, y1)])) (m0 : TFlowMaker) (a1 : TApiStmt) (o0 : Nat) (T0 : TypeId) (k0_2 : Value) (c0_3 : Cap) (k0_6 : Value) (r : TFlowMaker) (h0 : flow_maker_branch_b g0 g1 g2 g3 m0 a1 = some r) : CallsD Try.prog 27 [.ptr o0 0, eTApiStmt a1] [(o0, Blk.cells [.v (.string m0.gG.gFunc), .v (.int .i64 m0.gG.gNodes), .lst 6 (m0.gG.gEdges.map eTApiEdge) (.cur k0_2), .lst 2 (m0.gG.gVars.map eTApiVar) c0_3, .v (.int .i64 m0.gG.gMany), .v (.int .i64 m0.gAt), .lst 1 (m0.gPlaces.map eI64) (.cur k0_6)] T0)] [(6, k0_2), (1, k0_6)] (fun d h k => ∃ y0 y1, d = .tup [] ∧ h = [(o0, Blk.cells [.v (.string r.gG.gFunc), .v (.int .i64 r.gG.gNodes), .lst 6 (r.gG.gEdges.map eTApiEdge) (.cur y0), .lst 2 (r.gG.gVars.map eTApiVar) .no, .v (.int .i64 r.gG.gMany), .v (.int .i64 r.gAt), .lst 1 (r.gPlaces.map eI64) (.cur y1)] T0)] ∧ k = [(6, y0), (1, y1)]) := by
  have hm := yes_of h0
  unfold flow_maker_branch_b at hm
  clear h0
  refine enterX htab Try.func27 rfl rfl rfl rfl rfl (fun C => ?_)
  refine w_eq (i := 1) rfl (Wk.of_eq (eTApiStmt_eq a1)) ?_
  refine wpD_seq ?_
  refine wpD_region ?_
  refine p_box rfl rfl rfl rfl rfl rfl rfl (fun b1 => ?_)
  refine ops_nil ?_
  refine then_normal ?_
  refine wpD_seq ?_
  refine wpD_region ?_
  refine p_pure htab rfl rfl rfl rfl ?_
  refine p_pure htab rfl rfl rfl rfl ?_
  refine p_pure htab rfl rfl rfl rfl ?_
  refine p_load 0 htab rfl rfl rfl rfl rfl rfl rfl rfl ?_
  refine p_pure htab rfl rfl rfl rfl ?_
  refine ops_nil ?_
  refine then_normal ?_
  refine wpD_seq ?_
  refine wpD_region ?_
  refine p_pure htab rfl rfl rfl rfl ?_
  obtain ⟨x2, q2, hm⟩ := yes_bind hm
  refine p_callG (flow_maker_node_ok m0 o0 T0 (.cur k0_2) c0_3 (.cur k0_6) x2 q2) rfl rfl rfl rfl rfl (WkL.refl _) (List.Perm.refl _) (List.Perm.refl _) ?_
  rintro _ _ _ ⟨rfl, rfl, rfl⟩
  refine p_pure htab rfl rfl rfl rfl ?_
  refine ops_nil ?_
  refine then_normal ?_
  refine wpD_seq ?_
  refine wpD_region ?_
  refine p_pure htab rfl rfl rfl rfl ?_
  obtain ⟨x3, q3, hm⟩ := yes_bind hm
  refine p_callG (flow_maker_node_ok x2.2 o0 T0 (.cur k0_2) c0_3 (.cur k0_6) x3 q3) rfl rfl rfl rfl rfl (WkL.refl _) (List.Perm.refl _) (List.Perm.refl _) ?_
  rintro _ _ _ ⟨rfl, rfl, rfl⟩
  refine p_pure htab rfl rfl rfl rfl ?_
  refine ops_nil ?_
  refine then_normal ?_
  refine wpD_seq ?_
  refine wpD_region ?_
  refine p_pure htab rfl rfl rfl rfl ?_
  refine p_pure htab rfl rfl rfl rfl ?_
  refine p_pure htab rfl rfl rfl rfl ?_
  refine p_load (d := .agg [.v (.int .i64 a1.gOp), .v (.string a1.gName), .v (.string a1.gFunc), .lst 5 (a1.gExps.map eTApiExpr) .no, .lst 7 (a1.gKids.map eTApiStmt) .no, .lst 7 (a1.gElse.map eTApiStmt) .no, .v (.int .i64 a1.gAt)]) 1 htab rfl rfl rfl rfl rfl rfl rfl rfl ?_
  obtain ⟨x4, q4, hm⟩ := yes_bind hm
  refine p_call0 (flow_test_ok a1 x4 q4) rfl rfl rfl rfl rfl (WkL.cons (Wk.trans (Wk.agg (WkR.refl _)) (Wk.of_eq (eTApiStmt_eq a1).symm)) (WkL.refl _)) ?_
  rintro _ rfl
  refine p_eq (i := 20) rfl (Wk.of_eq (eTApiStmt_eq x4)) ?_
  obtain ⟨x6, q6, hm⟩ := yes_bind hm
  refine p_callG (flow_maker_edge_ok x3.2 m0.gAt x2.1 (6 : Int) x4 o0 T0 k0_2 c0_3 (.cur k0_6) x6 q6) rfl rfl rfl rfl rfl (WkL.cons (Wk.refl _) (WkL.cons (Wk.refl _) (WkL.cons (Wk.refl _) (WkL.cons (Wk.refl _) (WkL.cons (Wk.trans (Wk.agg (WkR.refl _)) (Wk.of_eq (eTApiStmt_eq x4).symm)) (WkL.refl _)))))) (List.Perm.refl _) (List.Perm.refl _) ?_
  rintro _ _ _ ⟨w5, rfl, rfl, rfl⟩
  refine ops_nil ?_
  refine then_normal ?_
  refine wpD_seq ?_
  refine wpD_region ?_
  refine p_pure htab rfl rfl rfl rfl ?_
  refine p_pure htab rfl rfl rfl rfl ?_
  refine p_pure htab rfl rfl rfl rfl ?_
  refine p_load (d := .agg [.v (.int .i64 a1.gOp), .v (.string a1.gName), .v (.string a1.gFunc), .lst 5 (a1.gExps.map eTApiExpr) .no, .lst 7 (a1.gKids.map eTApiStmt) .no, .lst 7 (a1.gElse.map eTApiStmt) .no, .v (.int .i64 a1.gAt)]) 1 htab rfl rfl rfl rfl rfl rfl rfl rfl ?_
  obtain ⟨x7, q7, hm⟩ := yes_bind hm
  refine p_call0 (flow_test_ok a1 x7 q7) rfl rfl rfl rfl rfl (WkL.cons (Wk.trans (Wk.agg (WkR.refl _)) (Wk.of_eq (eTApiStmt_eq a1).symm)) (WkL.refl _)) ?_
  rintro _ rfl
  refine p_eq (i := 26) rfl (Wk.of_eq (eTApiStmt_eq x7)) ?_
  obtain ⟨x9, q9, hm⟩ := yes_bind hm
  refine p_callG (flow_maker_edge_ok x6 m0.gAt x3.1 (7 : Int) x7 o0 T0 w5 c0_3 (.cur k0_6) x9 q9) rfl rfl rfl rfl rfl (WkL.cons (Wk.refl _) (WkL.cons (Wk.refl _) (WkL.cons (Wk.refl _) (WkL.cons (Wk.refl _) (WkL.cons (Wk.trans (Wk.agg (WkR.refl _)) (Wk.of_eq (eTApiStmt_eq x7).symm)) (WkL.refl _)))))) (List.Perm.refl _) (List.Perm.refl _) ?_
  rintro _ _ _ ⟨w8, rfl, rfl, rfl⟩
  refine ops_nil ?_
  refine then_normal ?_
  refine wpD_seq ?_
  refine wpD_region ?_
  refine p_pure htab rfl rfl rfl rfl ?_
  refine p_pure htab rfl rfl rfl rfl ?_
  refine p_pure htab rfl rfl rfl rfl ?_
  refine p_pure htab rfl rfl rfl rfl ?_
  refine p_store (ds' := [.v (.string x9.gG.gFunc), .v (.int .i64 x9.gG.gNodes), .lst 6 (x9.gG.gEdges.map eTApiEdge) (.cur w8), .lst 2 (x9.gG.gVars.map eTApiVar) c0_3, .v (.int .i64 x9.gG.gMany), .v (.int .i64 x2.1), .lst 1 (x9.gPlaces.map eI64) (.cur k0_6)]) (h' := [(o0, Blk.cells [.v (.string x9.gG.gFunc), .v (.int .i64 x9.gG.gNodes), .lst 6 (x9.gG.gEdges.map eTApiEdge) (.cur w8), .lst 2 (x9.gG.gVars.map eTApiVar) c0_3, .v (.int .i64 x9.gG.gMany), .v (.int .i64 x2.1), .lst 1 (x9.gPlaces.map eI64) (.cur k0_6)] T0), (b1, Blk.cells [.v (.int .i64 a1.gOp), .v (.string a1.gName), .v (.string a1.gFunc), .lst 5 (a1.gExps.map eTApiExpr) .no, .lst 7 (a1.gKids.map eTApiStmt) .no, .lst 7 (a1.gElse.map eTApiStmt) .no, .v (.int .i64 a1.gAt)] 49)]) 0 htab rfl rfl rfl rfl rfl rfl rfl rfl rfl rfl rfl rfl ?_
  refine ops_nil ?_
  refine then_normal ?_
  refine wpD_seq ?_
  refine wpD_region ?_
  refine p_pure htab rfl rfl rfl rfl ?_
  refine p_pure htab rfl rfl rfl rfl ?_
  refine p_load 1 htab rfl rfl rfl rfl rfl rfl rfl rfl ?_
  obtain ⟨x12, q12, hm⟩ := yes_bind hm
  refine p_callG (hg0 (⟨x9.gG, x2.1, x9.gPlaces⟩ : TFlowMaker) a1.gKids o0 T0 w8 c0_3 k0_6 x12 q12) rfl rfl rfl rfl rfl (WkL.refl _) (List.Perm.refl _) (List.Perm.refl _) ?_
  rintro _ _ _ ⟨w10, w11, rfl, rfl, rfl⟩
  refine ops_nil ?_
  refine then_normal ?_
  refine wpD_seq ?_
  refine wpD_region ?_
  refine p_pure htab rfl rfl rfl rfl ?_
  obtain ⟨x13, q13, hm⟩ := yes_bind hm
  refine p_callG (flow_maker_node_ok x12 o0 T0 (.cur w10) .no (.cur w11) x13 q13) rfl rfl rfl rfl rfl (WkL.refl _) (List.Perm.refl _) (List.Perm.refl _) ?_
  rintro _ _ _ ⟨rfl, rfl, rfl⟩
  refine p_pure htab rfl rfl rfl rfl ?_
  refine ops_nil ?_
  refine then_normal ?_
  refine wpD_seq ?_
  refine wpD_draws 7 [] [[],[],[1],[1,2],[1,2,3],[],[]] [0,1,2,3,6] [[],[],[1],[1,2],[1,2,3],[],[],[0,1,2,3,4,5,6]] (by kernel_rfl) (by kernel_rfl) (by kernel_rfl) (by rfl) (by rfl) (by kernel_rfl) ?_
  apply Exists.intro
  apply Exists.intro
  apply Exists.intro
  apply Exists.intro
  apply Exists.intro
  intro bs
  refine z_e rfl rfl (ex_pure htab rfl) rfl rfl rfl rfl rfl rfl ?_
  refine z_e rfl rfl (ex_pure htab rfl) rfl rfl rfl rfl rfl rfl ?_
  refine z_e rfl rfl (ex_pure htab rfl) rfl rfl rfl rfl rfl rfl ?_
  refine z_e rfl rfl (ex_pure htab rfl) rfl rfl rfl rfl rfl rfl ?_
  refine z_qM rfl rfl (xm_load 0 htab rfl rfl rfl rfl rfl) rfl rfl rfl rfl rfl rfl ?_
  refine z_q rfl rfl (ex_pure htab rfl) rfl rfl rfl rfl rfl rfl ?_
  refine z_eM rfl rfl (xm_load (d := .agg [.v (.int .i64 a1.gOp), .v (.string a1.gName), .v (.string a1.gFunc), .lst 5 (a1.gExps.map eTApiExpr) .no, .lst 7 (a1.gKids.map eTApiStmt) .no, .lst 7 (a1.gElse.map eTApiStmt) .no, .v (.int .i64 a1.gAt)]) 1 htab rfl rfl rfl rfl rfl) rfl rfl rfl rfl rfl rfl ?_
  refine z_nil rfl rfl (fun e he => by simp [isAl] at he) ?_
  obtain ⟨x15, q15, hm⟩ := yes_bind hm
  refine p_callG (flow_maker_edge_ok x13.2 x13.2.gAt x13.1 (0 : Int) a1 o0 T0 w10 .no (.cur w11) x15 q15) rfl rfl rfl rfl rfl (WkL.cons (Wk.refl _) (WkL.cons (Wk.refl _) (WkL.cons (Wk.refl _) (WkL.cons (Wk.refl _) (WkL.cons (Wk.trans (Wk.agg (WkR.refl _)) (Wk.of_eq (eTApiStmt_eq a1).symm)) (WkL.refl _)))))) (List.Perm.refl _) (List.Perm.refl _) ?_
  rintro _ _ _ ⟨w14, rfl, rfl, rfl⟩
  refine ops_nil ?_
  refine then_normal ?_
  refine wpD_seq ?_
  refine wpD_region ?_
  refine p_pure htab rfl rfl rfl rfl ?_
  refine p_pure htab rfl rfl rfl rfl ?_
  refine p_pure htab rfl rfl rfl rfl ?_
  refine p_pure htab rfl rfl rfl rfl ?_
  refine p_store (ds' := [.v (.string x15.gG.gFunc), .v (.int .i64 x15.gG.gNodes), .lst 6 (x15.gG.gEdges.map eTApiEdge) (.cur w14), .lst 2 (x15.gG.gVars.map eTApiVar) .no, .v (.int .i64 x15.gG.gMany), .v (.int .i64 x3.1), .lst 1 (x15.gPlaces.map eI64) (.cur w11)]) (h' := [(o0, Blk.cells [.v (.string x15.gG.gFunc), .v (.int .i64 x15.gG.gNodes), .lst 6 (x15.gG.gEdges.map eTApiEdge) (.cur w14), .lst 2 (x15.gG.gVars.map eTApiVar) .no, .v (.int .i64 x15.gG.gMany), .v (.int .i64 x3.1), .lst 1 (x15.gPlaces.map eI64) (.cur w11)] T0), (b1, Blk.cells [.v (.int .i64 a1.gOp), .v (.string a1.gName), .v (.string a1.gFunc), .lst 5 (a1.gExps.map eTApiExpr) .no, .lst 7 (a1.gKids.map eTApiStmt) .no, .lst 7 (a1.gElse.map eTApiStmt) .no, .v (.int .i64 a1.gAt)] 49)]) 0 htab rfl rfl rfl rfl rfl rfl rfl rfl rfl rfl rfl rfl ?_
  refine ops_nil ?_
  refine then_normal ?_
  refine wpD_seq ?_
  refine wpD_region ?_
  refine p_pure htab rfl rfl rfl rfl ?_
  refine p_pure htab rfl rfl rfl rfl ?_
  refine p_load 1 htab rfl rfl rfl rfl rfl rfl rfl rfl ?_
  obtain ⟨x18, q18, hm⟩ := yes_bind hm
  refine p_callG (hg0 (⟨x15.gG, x3.1, x15.gPlaces⟩ : TFlowMaker) a1.gElse o0 T0 w14 .no w11 x18 q18) rfl rfl rfl rfl rfl (WkL.refl _) (List.Perm.refl _) (List.Perm.refl _) ?_
  rintro _ _ _ ⟨w16, w17, rfl, rfl, rfl⟩
  refine ops_nil ?_
  refine then_normal ?_
  refine wpD_seq ?_
  refine wpD_draws 7 [] [[],[],[1],[1,2],[1,2,3],[],[]] [0,1,2,3,6] [[],[],[1],[1,2],[1,2,3],[],[],[0,1,2,3,4,5,6]] (by kernel_rfl) (by kernel_rfl) (by kernel_rfl) (by rfl) (by rfl) (by kernel_rfl) ?_
  apply Exists.intro
  apply Exists.intro
  apply Exists.intro
  apply Exists.intro
  apply Exists.intro
  intro bs
  refine z_e rfl rfl (ex_pure htab rfl) rfl rfl rfl rfl rfl rfl ?_
  refine z_e rfl rfl (ex_pure htab rfl) rfl rfl rfl rfl rfl rfl ?_
  refine z_e rfl rfl (ex_pure htab rfl) rfl rfl rfl rfl rfl rfl ?_
  refine z_e rfl rfl (ex_pure htab rfl) rfl rfl rfl rfl rfl rfl ?_
  refine z_qM rfl rfl (xm_load 0 htab rfl rfl rfl rfl rfl) rfl rfl rfl rfl rfl rfl ?_
  refine z_q rfl rfl (ex_pure htab rfl) rfl rfl rfl rfl rfl rfl ?_
  refine z_eM rfl rfl (xm_load (d := .agg [.v (.int .i64 a1.gOp), .v (.string a1.gName), .v (.string a1.gFunc), .lst 5 (a1.gExps.map eTApiExpr) .no, .lst 7 (a1.gKids.map eTApiStmt) .no, .lst 7 (a1.gElse.map eTApiStmt) .no, .v (.int .i64 a1.gAt)]) 1 htab rfl rfl rfl rfl rfl) rfl rfl rfl rfl rfl rfl ?_
  refine z_nil rfl rfl (fun e he => by simp [isAl] at he) ?_
  obtain ⟨x20, q20, hm⟩ := yes_bind hm
  refine p_callG (flow_maker_edge_ok x18 x18.gAt x13.1 (0 : Int) a1 o0 T0 w16 .no (.cur w17) x20 q20) rfl rfl rfl rfl rfl (WkL.cons (Wk.refl _) (WkL.cons (Wk.refl _) (WkL.cons (Wk.refl _) (WkL.cons (Wk.refl _) (WkL.cons (Wk.trans (Wk.agg (WkR.refl _)) (Wk.of_eq (eTApiStmt_eq a1).symm)) (WkL.refl _)))))) (List.Perm.refl _) (List.Perm.refl _) ?_
  rintro _ _ _ ⟨w19, rfl, rfl, rfl⟩
  refine ops_nil ?_
  refine then_normal ?_
  refine wpD_region ?_
  refine p_pure htab rfl rfl rfl rfl ?_
  refine p_pure htab rfl rfl rfl rfl ?_
  refine p_pure htab rfl rfl rfl rfl ?_
  refine p_pure htab rfl rfl rfl rfl ?_
  refine p_store (ds' := [.v (.string x20.gG.gFunc), .v (.int .i64 x20.gG.gNodes), .lst 6 (x20.gG.gEdges.map eTApiEdge) (.cur w19), .lst 2 (x20.gG.gVars.map eTApiVar) .no, .v (.int .i64 x20.gG.gMany), .v (.int .i64 x13.1), .lst 1 (x20.gPlaces.map eI64) (.cur w17)]) (h' := [(o0, Blk.cells [.v (.string x20.gG.gFunc), .v (.int .i64 x20.gG.gNodes), .lst 6 (x20.gG.gEdges.map eTApiEdge) (.cur w19), .lst 2 (x20.gG.gVars.map eTApiVar) .no, .v (.int .i64 x20.gG.gMany), .v (.int .i64 x13.1), .lst 1 (x20.gPlaces.map eI64) (.cur w17)] T0), (b1, Blk.cells [.v (.int .i64 a1.gOp), .v (.string a1.gName), .v (.string a1.gFunc), .lst 5 (a1.gExps.map eTApiExpr) .no, .lst 7 (a1.gKids.map eTApiStmt) .no, .lst 7 (a1.gElse.map eTApiStmt) .no, .v (.int .i64 a1.gAt)] 49)]) 0 htab rfl rfl rfl rfl rfl rfl rfl rfl rfl rfl rfl rfl ?_
  refine ops_nil ?_
  have er21 := yes_eq hm; subst er21
  refine retX.of (s' := ⟨[], [(o0, Blk.cells [.v (.string x20.gG.gFunc), .v (.int .i64 x20.gG.gNodes), .lst 6 (x20.gG.gEdges.map eTApiEdge) (.cur w19), .lst 2 (x20.gG.gVars.map eTApiVar) .no, .v (.int .i64 x20.gG.gMany), .v (.int .i64 x13.1), .lst 1 (x20.gPlaces.map eI64) (.cur w17)] T0)], [(6, w19), (1, w17)]⟩) (WkS.perm (WkS.nil) (List.Perm.refl _) (List.Perm.refl _)) (retD_mk (hh := [(o0, Blk.cells [.v (.string x20.gG.gFunc), .v (.int .i64 x20.gG.gNodes), .lst 6 (x20.gG.gEdges.map eTApiEdge) (.cur w19), .lst 2 (x20.gG.gVars.map eTApiVar) .no, .v (.int .i64 x20.gG.gMany), .v (.int .i64 x13.1), .lst 1 (x20.gPlaces.map eI64) (.cur w17)] T0)]) (.inr rfl) (resL_nil) (List.Sublist.refl _) (List.Sublist.refl _) ?_)
  exact ⟨w19, w17, rfl, rfl, rfl⟩
noncomputable def flow_maker_loop_b (g0 : (TFlowMaker) → (List TApiStmt) → Option (TFlowMaker)) (g1 : (TFlowMaker) → (TApiStmt) → Option (TFlowMaker)) (g2 : (TFlowMaker) → (TApiStmt) → Option (TFlowMaker)) (g3 : (TFlowMaker) → (TApiStmt) → Option (TFlowMaker)) (m0 : TFlowMaker) (a1 : TApiStmt) : Option (TFlowMaker) :=
  ((flow_maker_node m0).bind fun x2 => ((flow_maker_edge x2.2 x2.2.gAt x2.1 (0 : Int) a1).bind fun x4 => ((flow_maker_node x4).bind fun x5 => ((flow_maker_node x5.2).bind fun x6 => ((flow_test a1).bind fun x7 => ((flow_maker_edge x6.2 x2.1 x5.1 (6 : Int) x7).bind fun x9 => ((flow_test a1).bind fun x10 => ((flow_maker_edge x9 x2.1 x6.1 (7 : Int) x10).bind fun x12 => ((g0 (⟨x12.gG, x5.1, x12.gPlaces⟩ : TFlowMaker) a1.gKids).bind fun x15 => ((flow_maker_edge x15 x15.gAt x2.1 (0 : Int) a1).bind fun x17 => some (⟨x17.gG, x6.1, x17.gPlaces⟩ : TFlowMaker)))))))))))
set_option maxRecDepth 100000 in
set_option maxHeartbeats 2000000 in
theorem flow_maker_loop_b_ok (g0 : (TFlowMaker) → (List TApiStmt) → Option (TFlowMaker)) (g1 : (TFlowMaker) → (TApiStmt) → Option (TFlowMaker)) (g2 : (TFlowMaker) → (TApiStmt) → Option (TFlowMaker)) (g3 : (TFlowMaker) → (TApiStmt) → Option (TFlowMaker)) (hg0 : ∀ (m0 : TFlowMaker) (a1 : List TApiStmt) (o0 : Nat) (T0 : TypeId) (k0_2 : Value) (c0_3 : Cap) (k0_6 : Value) (r : TFlowMaker) (h0 : g0 m0 a1 = some r), CallsD Try.prog 19 [.ptr o0 0, .lst 7 (a1.map eTApiStmt) .no] [(o0, Blk.cells [.v (.string m0.gG.gFunc), .v (.int .i64 m0.gG.gNodes), .lst 6 (m0.gG.gEdges.map eTApiEdge) (.cur k0_2), .lst 2 (m0.gG.gVars.map eTApiVar) c0_3, .v (.int .i64 m0.gG.gMany), .v (.int .i64 m0.gAt), .lst 1 (m0.gPlaces.map eI64) (.cur k0_6)] T0)] [(6, k0_2), (1, k0_6)] (fun d h k => ∃ y0 y1, d = .tup [] ∧ h = [(o0, Blk.cells [.v (.string r.gG.gFunc), .v (.int .i64 r.gG.gNodes), .lst 6 (r.gG.gEdges.map eTApiEdge) (.cur y0), .lst 2 (r.gG.gVars.map eTApiVar) .no, .v (.int .i64 r.gG.gMany), .v (.int .i64 r.gAt), .lst 1 (r.gPlaces.map eI64) (.cur y1)] T0)] ∧ k = [(6, y0), (1, y1)])) (hg1 : ∀ (m0 : TFlowMaker) (a1 : TApiStmt) (o0 : Nat) (T0 : TypeId) (k0_2 : Value) (c0_3 : Cap) (k0_6 : Value) (r : TFlowMaker) (h0 : g1 m0 a1 = some r), CallsD Try.prog 23 [.ptr o0 0, eTApiStmt a1] [(o0, Blk.cells [.v (.string m0.gG.gFunc), .v (.int .i64 m0.gG.gNodes), .lst 6 (m0.gG.gEdges.map eTApiEdge) (.cur k0_2), .lst 2 (m0.gG.gVars.map eTApiVar) c0_3, .v (.int .i64 m0.gG.gMany), .v (.int .i64 m0.gAt), .lst 1 (m0.gPlaces.map eI64) (.cur k0_6)] T0)] [(6, k0_2), (1, k0_6)] (fun d h k => ∃ y0 y1, d = .tup [] ∧ h = [(o0, Blk.cells [.v (.string r.gG.gFunc), .v (.int .i64 r.gG.gNodes), .lst 6 (r.gG.gEdges.map eTApiEdge) (.cur y0), .lst 2 (r.gG.gVars.map eTApiVar) .no, .v (.int .i64 r.gG.gMany), .v (.int .i64 r.gAt), .lst 1 (r.gPlaces.map eI64) (.cur y1)] T0)] ∧ k = [(6, y0), (1, y1)])) (hg2 : ∀ (m0 : TFlowMaker) (a1 : TApiStmt) (o0 : Nat) (T0 : TypeId) (k0_2 : Value) (c0_3 : Cap) (k0_6 : Value) (r : TFlowMaker) (h0 : g2 m0 a1 = some r), CallsD Try.prog 27 [.ptr o0 0, eTApiStmt a1] [(o0, Blk.cells [.v (.string m0.gG.gFunc), .v (.int .i64 m0.gG.gNodes), .lst 6 (m0.gG.gEdges.map eTApiEdge) (.cur k0_2), .lst 2 (m0.gG.gVars.map eTApiVar) c0_3, .v (.int .i64 m0.gG.gMany), .v (.int .i64 m0.gAt), .lst 1 (m0.gPlaces.map eI64) (.cur k0_6)] T0)] [(6, k0_2), (1, k0_6)] (fun d h k => ∃ y0 y1, d = .tup [] ∧ h = [(o0, Blk.cells [.v (.string r.gG.gFunc), .v (.int .i64 r.gG.gNodes), .lst 6 (r.gG.gEdges.map eTApiEdge) (.cur y0), .lst 2 (r.gG.gVars.map eTApiVar) .no, .v (.int .i64 r.gG.gMany), .v (.int .i64 r.gAt), .lst 1 (r.gPlaces.map eI64) (.cur y1)] T0)] ∧ k = [(6, y0), (1, y1)])) (hg3 : ∀ (m0 : TFlowMaker) (a1 : TApiStmt) (o0 : Nat) (T0 : TypeId) (k0_2 : Value) (c0_3 : Cap) (k0_6 : Value) (r : TFlowMaker) (h0 : g3 m0 a1 = some r), CallsD Try.prog 28 [.ptr o0 0, eTApiStmt a1] [(o0, Blk.cells [.v (.string m0.gG.gFunc), .v (.int .i64 m0.gG.gNodes), .lst 6 (m0.gG.gEdges.map eTApiEdge) (.cur k0_2), .lst 2 (m0.gG.gVars.map eTApiVar) c0_3, .v (.int .i64 m0.gG.gMany), .v (.int .i64 m0.gAt), .lst 1 (m0.gPlaces.map eI64) (.cur k0_6)] T0)] [(6, k0_2), (1, k0_6)] (fun d h k => ∃ y0 y1, d = .tup [] ∧ h = [(o0, Blk.cells [.v (.string r.gG.gFunc), .v (.int .i64 r.gG.gNodes), .lst 6 (r.gG.gEdges.map eTApiEdge) (.cur y0), .lst 2 (r.gG.gVars.map eTApiVar) .no, .v (.int .i64 r.gG.gMany), .v (.int .i64 r.gAt), .lst 1 (r.gPlaces.map eI64) (.cur y1)] T0)] ∧ k = [(6, y0), (1, y1)])) (m0 : TFlowMaker) (a1 : TApiStmt) (o0 : Nat) (T0 : TypeId) (k0_2 : Value) (c0_3 : Cap) (k0_6 : Value) (r : TFlowMaker) (h0 : flow_maker_loop_b g0 g1 g2 g3 m0 a1 = some r) : CallsD Try.prog 28 [.ptr o0 0, eTApiStmt a1] [(o0, Blk.cells [.v (.string m0.gG.gFunc), .v (.int .i64 m0.gG.gNodes), .lst 6 (m0.gG.gEdges.map eTApiEdge) (.cur k0_2), .lst 2 (m0.gG.gVars.map eTApiVar) c0_3, .v (.int .i64 m0.gG.gMany), .v (.int .i64 m0.gAt), .lst 1 (m0.gPlaces.map eI64) (.cur k0_6)] T0)] [(6, k0_2), (1, k0_6)] (fun d h k => ∃ y0 y1, d = .tup [] ∧ h = [(o0, Blk.cells [.v (.string r.gG.gFunc), .v (.int .i64 r.gG.gNodes), .lst 6 (r.gG.gEdges.map eTApiEdge) (.cur y0), .lst 2 (r.gG.gVars.map eTApiVar) .no, .v (.int .i64 r.gG.gMany), .v (.int .i64 r.gAt), .lst 1 (r.gPlaces.map eI64) (.cur y1)] T0)] ∧ k = [(6, y0), (1, y1)]) := by
  have hm := yes_of h0
  unfold flow_maker_loop_b at hm
  clear h0
  refine enterX htab Try.func28 rfl rfl rfl rfl rfl (fun C => ?_)
  refine w_eq (i := 1) rfl (Wk.of_eq (eTApiStmt_eq a1)) ?_
  refine wpD_seq ?_
  refine wpD_region ?_
  refine p_box rfl rfl rfl rfl rfl rfl rfl (fun b1 => ?_)
  refine ops_nil ?_
  refine then_normal ?_
  refine wpD_seq ?_
  refine wpD_region ?_
  refine p_pure htab rfl rfl rfl rfl ?_
  obtain ⟨x2, q2, hm⟩ := yes_bind hm
  refine p_callG (flow_maker_node_ok m0 o0 T0 (.cur k0_2) c0_3 (.cur k0_6) x2 q2) rfl rfl rfl rfl rfl (WkL.refl _) (List.Perm.refl _) (List.Perm.refl _) ?_
  rintro _ _ _ ⟨rfl, rfl, rfl⟩
  refine p_pure htab rfl rfl rfl rfl ?_
  refine ops_nil ?_
  refine then_normal ?_
  refine wpD_seq ?_
  refine wpD_draws 7 [] [[],[],[1],[1,2],[1,2,3],[],[]] [0,1,2,3,6] [[],[],[1],[1,2],[1,2,3],[],[],[0,1,2,3,4,5,6]] (by kernel_rfl) (by kernel_rfl) (by kernel_rfl) (by rfl) (by rfl) (by kernel_rfl) ?_
  apply Exists.intro
  apply Exists.intro
  apply Exists.intro
  apply Exists.intro
  apply Exists.intro
  intro bs
  refine z_e rfl rfl (ex_pure htab rfl) rfl rfl rfl rfl rfl rfl ?_
  refine z_e rfl rfl (ex_pure htab rfl) rfl rfl rfl rfl rfl rfl ?_
  refine z_e rfl rfl (ex_pure htab rfl) rfl rfl rfl rfl rfl rfl ?_
  refine z_e rfl rfl (ex_pure htab rfl) rfl rfl rfl rfl rfl rfl ?_
  refine z_qM rfl rfl (xm_load 0 htab rfl rfl rfl rfl rfl) rfl rfl rfl rfl rfl rfl ?_
  refine z_q rfl rfl (ex_pure htab rfl) rfl rfl rfl rfl rfl rfl ?_
  refine z_eM rfl rfl (xm_load (d := .agg [.v (.int .i64 a1.gOp), .v (.string a1.gName), .v (.string a1.gFunc), .lst 5 (a1.gExps.map eTApiExpr) .no, .lst 7 (a1.gKids.map eTApiStmt) .no, .lst 7 (a1.gElse.map eTApiStmt) .no, .v (.int .i64 a1.gAt)]) 1 htab rfl rfl rfl rfl rfl) rfl rfl rfl rfl rfl rfl ?_
  refine z_nil rfl rfl (fun e he => by simp [isAl] at he) ?_
  obtain ⟨x4, q4, hm⟩ := yes_bind hm
  refine p_callG (flow_maker_edge_ok x2.2 x2.2.gAt x2.1 (0 : Int) a1 o0 T0 k0_2 c0_3 (.cur k0_6) x4 q4) rfl rfl rfl rfl rfl (WkL.cons (Wk.refl _) (WkL.cons (Wk.refl _) (WkL.cons (Wk.refl _) (WkL.cons (Wk.refl _) (WkL.cons (Wk.trans (Wk.agg (WkR.refl _)) (Wk.of_eq (eTApiStmt_eq a1).symm)) (WkL.refl _)))))) (List.Perm.refl _) (List.Perm.refl _) ?_
  rintro _ _ _ ⟨w3, rfl, rfl, rfl⟩
  refine ops_nil ?_
  refine then_normal ?_
  refine wpD_seq ?_
  refine wpD_region ?_
  refine p_pure htab rfl rfl rfl rfl ?_
  obtain ⟨x5, q5, hm⟩ := yes_bind hm
  refine p_callG (flow_maker_node_ok x4 o0 T0 (.cur w3) c0_3 (.cur k0_6) x5 q5) rfl rfl rfl rfl rfl (WkL.refl _) (List.Perm.refl _) (List.Perm.refl _) ?_
  rintro _ _ _ ⟨rfl, rfl, rfl⟩
  refine p_pure htab rfl rfl rfl rfl ?_
  refine ops_nil ?_
  refine then_normal ?_
  refine wpD_seq ?_
  refine wpD_region ?_
  refine p_pure htab rfl rfl rfl rfl ?_
  obtain ⟨x6, q6, hm⟩ := yes_bind hm
  refine p_callG (flow_maker_node_ok x5.2 o0 T0 (.cur w3) c0_3 (.cur k0_6) x6 q6) rfl rfl rfl rfl rfl (WkL.refl _) (List.Perm.refl _) (List.Perm.refl _) ?_
  rintro _ _ _ ⟨rfl, rfl, rfl⟩
  refine p_pure htab rfl rfl rfl rfl ?_
  refine ops_nil ?_
  refine then_normal ?_
  refine wpD_seq ?_
  refine wpD_region ?_
  refine p_pure htab rfl rfl rfl rfl ?_
  refine p_pure htab rfl rfl rfl rfl ?_
  refine p_pure htab rfl rfl rfl rfl ?_
  refine p_load (d := .agg [.v (.int .i64 a1.gOp), .v (.string a1.gName), .v (.string a1.gFunc), .lst 5 (a1.gExps.map eTApiExpr) .no, .lst 7 (a1.gKids.map eTApiStmt) .no, .lst 7 (a1.gElse.map eTApiStmt) .no, .v (.int .i64 a1.gAt)]) 1 htab rfl rfl rfl rfl rfl rfl rfl rfl ?_
  obtain ⟨x7, q7, hm⟩ := yes_bind hm
  refine p_call0 (flow_test_ok a1 x7 q7) rfl rfl rfl rfl rfl (WkL.cons (Wk.trans (Wk.agg (WkR.refl _)) (Wk.of_eq (eTApiStmt_eq a1).symm)) (WkL.refl _)) ?_
  rintro _ rfl
  refine p_eq (i := 25) rfl (Wk.of_eq (eTApiStmt_eq x7)) ?_
  obtain ⟨x9, q9, hm⟩ := yes_bind hm
  refine p_callG (flow_maker_edge_ok x6.2 x2.1 x5.1 (6 : Int) x7 o0 T0 w3 c0_3 (.cur k0_6) x9 q9) rfl rfl rfl rfl rfl (WkL.cons (Wk.refl _) (WkL.cons (Wk.refl _) (WkL.cons (Wk.refl _) (WkL.cons (Wk.refl _) (WkL.cons (Wk.trans (Wk.agg (WkR.refl _)) (Wk.of_eq (eTApiStmt_eq x7).symm)) (WkL.refl _)))))) (List.Perm.refl _) (List.Perm.refl _) ?_
  rintro _ _ _ ⟨w8, rfl, rfl, rfl⟩
  refine ops_nil ?_
  refine then_normal ?_
  refine wpD_seq ?_
  refine wpD_region ?_
  refine p_pure htab rfl rfl rfl rfl ?_
  refine p_pure htab rfl rfl rfl rfl ?_
  refine p_pure htab rfl rfl rfl rfl ?_
  refine p_load (d := .agg [.v (.int .i64 a1.gOp), .v (.string a1.gName), .v (.string a1.gFunc), .lst 5 (a1.gExps.map eTApiExpr) .no, .lst 7 (a1.gKids.map eTApiStmt) .no, .lst 7 (a1.gElse.map eTApiStmt) .no, .v (.int .i64 a1.gAt)]) 1 htab rfl rfl rfl rfl rfl rfl rfl rfl ?_
  obtain ⟨x10, q10, hm⟩ := yes_bind hm
  refine p_call0 (flow_test_ok a1 x10 q10) rfl rfl rfl rfl rfl (WkL.cons (Wk.trans (Wk.agg (WkR.refl _)) (Wk.of_eq (eTApiStmt_eq a1).symm)) (WkL.refl _)) ?_
  rintro _ rfl
  refine p_eq (i := 31) rfl (Wk.of_eq (eTApiStmt_eq x10)) ?_
  obtain ⟨x12, q12, hm⟩ := yes_bind hm
  refine p_callG (flow_maker_edge_ok x9 x2.1 x6.1 (7 : Int) x10 o0 T0 w8 c0_3 (.cur k0_6) x12 q12) rfl rfl rfl rfl rfl (WkL.cons (Wk.refl _) (WkL.cons (Wk.refl _) (WkL.cons (Wk.refl _) (WkL.cons (Wk.refl _) (WkL.cons (Wk.trans (Wk.agg (WkR.refl _)) (Wk.of_eq (eTApiStmt_eq x10).symm)) (WkL.refl _)))))) (List.Perm.refl _) (List.Perm.refl _) ?_
  rintro _ _ _ ⟨w11, rfl, rfl, rfl⟩
  refine ops_nil ?_
  refine then_normal ?_
  refine wpD_seq ?_
  refine wpD_region ?_
  refine p_pure htab rfl rfl rfl rfl ?_
  refine p_pure htab rfl rfl rfl rfl ?_
  refine p_pure htab rfl rfl rfl rfl ?_
  refine p_pure htab rfl rfl rfl rfl ?_
  refine p_store (ds' := [.v (.string x12.gG.gFunc), .v (.int .i64 x12.gG.gNodes), .lst 6 (x12.gG.gEdges.map eTApiEdge) (.cur w11), .lst 2 (x12.gG.gVars.map eTApiVar) c0_3, .v (.int .i64 x12.gG.gMany), .v (.int .i64 x5.1), .lst 1 (x12.gPlaces.map eI64) (.cur k0_6)]) (h' := [(o0, Blk.cells [.v (.string x12.gG.gFunc), .v (.int .i64 x12.gG.gNodes), .lst 6 (x12.gG.gEdges.map eTApiEdge) (.cur w11), .lst 2 (x12.gG.gVars.map eTApiVar) c0_3, .v (.int .i64 x12.gG.gMany), .v (.int .i64 x5.1), .lst 1 (x12.gPlaces.map eI64) (.cur k0_6)] T0), (b1, Blk.cells [.v (.int .i64 a1.gOp), .v (.string a1.gName), .v (.string a1.gFunc), .lst 5 (a1.gExps.map eTApiExpr) .no, .lst 7 (a1.gKids.map eTApiStmt) .no, .lst 7 (a1.gElse.map eTApiStmt) .no, .v (.int .i64 a1.gAt)] 49)]) 0 htab rfl rfl rfl rfl rfl rfl rfl rfl rfl rfl rfl rfl ?_
  refine ops_nil ?_
  refine then_normal ?_
  refine wpD_seq ?_
  refine wpD_region ?_
  refine p_pure htab rfl rfl rfl rfl ?_
  refine p_pure htab rfl rfl rfl rfl ?_
  refine p_load 1 htab rfl rfl rfl rfl rfl rfl rfl rfl ?_
  obtain ⟨x15, q15, hm⟩ := yes_bind hm
  refine p_callG (hg0 (⟨x12.gG, x5.1, x12.gPlaces⟩ : TFlowMaker) a1.gKids o0 T0 w11 c0_3 k0_6 x15 q15) rfl rfl rfl rfl rfl (WkL.refl _) (List.Perm.refl _) (List.Perm.refl _) ?_
  rintro _ _ _ ⟨w13, w14, rfl, rfl, rfl⟩
  refine ops_nil ?_
  refine then_normal ?_
  refine wpD_seq ?_
  refine wpD_draws 7 [] [[],[],[1],[1,2],[1,2,3],[],[]] [0,1,2,3,6] [[],[],[1],[1,2],[1,2,3],[],[],[0,1,2,3,4,5,6]] (by kernel_rfl) (by kernel_rfl) (by kernel_rfl) (by rfl) (by rfl) (by kernel_rfl) ?_
  apply Exists.intro
  apply Exists.intro
  apply Exists.intro
  apply Exists.intro
  apply Exists.intro
  intro bs
  refine z_e rfl rfl (ex_pure htab rfl) rfl rfl rfl rfl rfl rfl ?_
  refine z_e rfl rfl (ex_pure htab rfl) rfl rfl rfl rfl rfl rfl ?_
  refine z_e rfl rfl (ex_pure htab rfl) rfl rfl rfl rfl rfl rfl ?_
  refine z_e rfl rfl (ex_pure htab rfl) rfl rfl rfl rfl rfl rfl ?_
  refine z_qM rfl rfl (xm_load 0 htab rfl rfl rfl rfl rfl) rfl rfl rfl rfl rfl rfl ?_
  refine z_q rfl rfl (ex_pure htab rfl) rfl rfl rfl rfl rfl rfl ?_
  refine z_eM rfl rfl (xm_load (d := .agg [.v (.int .i64 a1.gOp), .v (.string a1.gName), .v (.string a1.gFunc), .lst 5 (a1.gExps.map eTApiExpr) .no, .lst 7 (a1.gKids.map eTApiStmt) .no, .lst 7 (a1.gElse.map eTApiStmt) .no, .v (.int .i64 a1.gAt)]) 1 htab rfl rfl rfl rfl rfl) rfl rfl rfl rfl rfl rfl ?_
  refine z_nil rfl rfl (fun e he => by simp [isAl] at he) ?_
  obtain ⟨x17, q17, hm⟩ := yes_bind hm
  refine p_callG (flow_maker_edge_ok x15 x15.gAt x2.1 (0 : Int) a1 o0 T0 w13 .no (.cur w14) x17 q17) rfl rfl rfl rfl rfl (WkL.cons (Wk.refl _) (WkL.cons (Wk.refl _) (WkL.cons (Wk.refl _) (WkL.cons (Wk.refl _) (WkL.cons (Wk.trans (Wk.agg (WkR.refl _)) (Wk.of_eq (eTApiStmt_eq a1).symm)) (WkL.refl _)))))) (List.Perm.refl _) (List.Perm.refl _) ?_
  rintro _ _ _ ⟨w16, rfl, rfl, rfl⟩
  refine ops_nil ?_
  refine then_normal ?_
  refine wpD_region ?_
  refine p_pure htab rfl rfl rfl rfl ?_
  refine p_pure htab rfl rfl rfl rfl ?_
  refine p_pure htab rfl rfl rfl rfl ?_
  refine p_pure htab rfl rfl rfl rfl ?_
  refine p_store (ds' := [.v (.string x17.gG.gFunc), .v (.int .i64 x17.gG.gNodes), .lst 6 (x17.gG.gEdges.map eTApiEdge) (.cur w16), .lst 2 (x17.gG.gVars.map eTApiVar) .no, .v (.int .i64 x17.gG.gMany), .v (.int .i64 x6.1), .lst 1 (x17.gPlaces.map eI64) (.cur w14)]) (h' := [(o0, Blk.cells [.v (.string x17.gG.gFunc), .v (.int .i64 x17.gG.gNodes), .lst 6 (x17.gG.gEdges.map eTApiEdge) (.cur w16), .lst 2 (x17.gG.gVars.map eTApiVar) .no, .v (.int .i64 x17.gG.gMany), .v (.int .i64 x6.1), .lst 1 (x17.gPlaces.map eI64) (.cur w14)] T0), (b1, Blk.cells [.v (.int .i64 a1.gOp), .v (.string a1.gName), .v (.string a1.gFunc), .lst 5 (a1.gExps.map eTApiExpr) .no, .lst 7 (a1.gKids.map eTApiStmt) .no, .lst 7 (a1.gElse.map eTApiStmt) .no, .v (.int .i64 a1.gAt)] 49)]) 0 htab rfl rfl rfl rfl rfl rfl rfl rfl rfl rfl rfl rfl ?_
  refine ops_nil ?_
  have er18 := yes_eq hm; subst er18
  refine retX.of (s' := ⟨[], [(o0, Blk.cells [.v (.string x17.gG.gFunc), .v (.int .i64 x17.gG.gNodes), .lst 6 (x17.gG.gEdges.map eTApiEdge) (.cur w16), .lst 2 (x17.gG.gVars.map eTApiVar) .no, .v (.int .i64 x17.gG.gMany), .v (.int .i64 x6.1), .lst 1 (x17.gPlaces.map eI64) (.cur w14)] T0)], [(6, w16), (1, w14)]⟩) (WkS.perm (WkS.nil) (List.Perm.refl _) (List.Perm.refl _)) (retD_mk (hh := [(o0, Blk.cells [.v (.string x17.gG.gFunc), .v (.int .i64 x17.gG.gNodes), .lst 6 (x17.gG.gEdges.map eTApiEdge) (.cur w16), .lst 2 (x17.gG.gVars.map eTApiVar) .no, .v (.int .i64 x17.gG.gMany), .v (.int .i64 x6.1), .lst 1 (x17.gPlaces.map eI64) (.cur w14)] T0)]) (.inr rfl) (resL_nil) (List.Sublist.refl _) (List.Sublist.refl _) ?_)
  exact ⟨w16, w14, rfl, rfl, rfl⟩
noncomputable def flow_maker_all_g : Nat → ((TFlowMaker) → (List TApiStmt) → Option (TFlowMaker)) × ((TFlowMaker) → (TApiStmt) → Option (TFlowMaker)) × ((TFlowMaker) → (TApiStmt) → Option (TFlowMaker)) × ((TFlowMaker) → (TApiStmt) → Option (TFlowMaker))
  | 0 => (fun _ _ => none, fun _ _ => none, fun _ _ => none, fun _ _ => none)
  | n + 1 => (flow_maker_all_b ((flow_maker_all_g n).1) ((flow_maker_all_g n).2.1) ((flow_maker_all_g n).2.2.1) ((flow_maker_all_g n).2.2.2), flow_maker_stmt_b ((flow_maker_all_g n).1) ((flow_maker_all_g n).2.1) ((flow_maker_all_g n).2.2.1) ((flow_maker_all_g n).2.2.2), flow_maker_branch_b ((flow_maker_all_g n).1) ((flow_maker_all_g n).2.1) ((flow_maker_all_g n).2.2.1) ((flow_maker_all_g n).2.2.2), flow_maker_loop_b ((flow_maker_all_g n).1) ((flow_maker_all_g n).2.1) ((flow_maker_all_g n).2.2.1) ((flow_maker_all_g n).2.2.2))
theorem flow_maker_all_g_ok : ∀ n, (∀ (m0 : TFlowMaker) (a1 : List TApiStmt) (o0 : Nat) (T0 : TypeId) (k0_2 : Value) (c0_3 : Cap) (k0_6 : Value) (r : TFlowMaker) (h0 : (flow_maker_all_g n).1 m0 a1 = some r), CallsD Try.prog 19 [.ptr o0 0, .lst 7 (a1.map eTApiStmt) .no] [(o0, Blk.cells [.v (.string m0.gG.gFunc), .v (.int .i64 m0.gG.gNodes), .lst 6 (m0.gG.gEdges.map eTApiEdge) (.cur k0_2), .lst 2 (m0.gG.gVars.map eTApiVar) c0_3, .v (.int .i64 m0.gG.gMany), .v (.int .i64 m0.gAt), .lst 1 (m0.gPlaces.map eI64) (.cur k0_6)] T0)] [(6, k0_2), (1, k0_6)] (fun d h k => ∃ y0 y1, d = .tup [] ∧ h = [(o0, Blk.cells [.v (.string r.gG.gFunc), .v (.int .i64 r.gG.gNodes), .lst 6 (r.gG.gEdges.map eTApiEdge) (.cur y0), .lst 2 (r.gG.gVars.map eTApiVar) .no, .v (.int .i64 r.gG.gMany), .v (.int .i64 r.gAt), .lst 1 (r.gPlaces.map eI64) (.cur y1)] T0)] ∧ k = [(6, y0), (1, y1)])) ∧ (∀ (m0 : TFlowMaker) (a1 : TApiStmt) (o0 : Nat) (T0 : TypeId) (k0_2 : Value) (c0_3 : Cap) (k0_6 : Value) (r : TFlowMaker) (h0 : (flow_maker_all_g n).2.1 m0 a1 = some r), CallsD Try.prog 23 [.ptr o0 0, eTApiStmt a1] [(o0, Blk.cells [.v (.string m0.gG.gFunc), .v (.int .i64 m0.gG.gNodes), .lst 6 (m0.gG.gEdges.map eTApiEdge) (.cur k0_2), .lst 2 (m0.gG.gVars.map eTApiVar) c0_3, .v (.int .i64 m0.gG.gMany), .v (.int .i64 m0.gAt), .lst 1 (m0.gPlaces.map eI64) (.cur k0_6)] T0)] [(6, k0_2), (1, k0_6)] (fun d h k => ∃ y0 y1, d = .tup [] ∧ h = [(o0, Blk.cells [.v (.string r.gG.gFunc), .v (.int .i64 r.gG.gNodes), .lst 6 (r.gG.gEdges.map eTApiEdge) (.cur y0), .lst 2 (r.gG.gVars.map eTApiVar) .no, .v (.int .i64 r.gG.gMany), .v (.int .i64 r.gAt), .lst 1 (r.gPlaces.map eI64) (.cur y1)] T0)] ∧ k = [(6, y0), (1, y1)])) ∧ (∀ (m0 : TFlowMaker) (a1 : TApiStmt) (o0 : Nat) (T0 : TypeId) (k0_2 : Value) (c0_3 : Cap) (k0_6 : Value) (r : TFlowMaker) (h0 : (flow_maker_all_g n).2.2.1 m0 a1 = some r), CallsD Try.prog 27 [.ptr o0 0, eTApiStmt a1] [(o0, Blk.cells [.v (.string m0.gG.gFunc), .v (.int .i64 m0.gG.gNodes), .lst 6 (m0.gG.gEdges.map eTApiEdge) (.cur k0_2), .lst 2 (m0.gG.gVars.map eTApiVar) c0_3, .v (.int .i64 m0.gG.gMany), .v (.int .i64 m0.gAt), .lst 1 (m0.gPlaces.map eI64) (.cur k0_6)] T0)] [(6, k0_2), (1, k0_6)] (fun d h k => ∃ y0 y1, d = .tup [] ∧ h = [(o0, Blk.cells [.v (.string r.gG.gFunc), .v (.int .i64 r.gG.gNodes), .lst 6 (r.gG.gEdges.map eTApiEdge) (.cur y0), .lst 2 (r.gG.gVars.map eTApiVar) .no, .v (.int .i64 r.gG.gMany), .v (.int .i64 r.gAt), .lst 1 (r.gPlaces.map eI64) (.cur y1)] T0)] ∧ k = [(6, y0), (1, y1)])) ∧ (∀ (m0 : TFlowMaker) (a1 : TApiStmt) (o0 : Nat) (T0 : TypeId) (k0_2 : Value) (c0_3 : Cap) (k0_6 : Value) (r : TFlowMaker) (h0 : (flow_maker_all_g n).2.2.2 m0 a1 = some r), CallsD Try.prog 28 [.ptr o0 0, eTApiStmt a1] [(o0, Blk.cells [.v (.string m0.gG.gFunc), .v (.int .i64 m0.gG.gNodes), .lst 6 (m0.gG.gEdges.map eTApiEdge) (.cur k0_2), .lst 2 (m0.gG.gVars.map eTApiVar) c0_3, .v (.int .i64 m0.gG.gMany), .v (.int .i64 m0.gAt), .lst 1 (m0.gPlaces.map eI64) (.cur k0_6)] T0)] [(6, k0_2), (1, k0_6)] (fun d h k => ∃ y0 y1, d = .tup [] ∧ h = [(o0, Blk.cells [.v (.string r.gG.gFunc), .v (.int .i64 r.gG.gNodes), .lst 6 (r.gG.gEdges.map eTApiEdge) (.cur y0), .lst 2 (r.gG.gVars.map eTApiVar) .no, .v (.int .i64 r.gG.gMany), .v (.int .i64 r.gAt), .lst 1 (r.gPlaces.map eI64) (.cur y1)] T0)] ∧ k = [(6, y0), (1, y1)]))
  | 0 => ⟨(fun _ _ _ _ _ _ _ _ h0 => by cases h0), (fun _ _ _ _ _ _ _ _ h0 => by cases h0), (fun _ _ _ _ _ _ _ _ h0 => by cases h0), (fun _ _ _ _ _ _ _ _ h0 => by cases h0)⟩
  | n + 1 => by
    have ih := flow_maker_all_g_ok n
    exact ⟨flow_maker_all_b_ok ((flow_maker_all_g n).1) ((flow_maker_all_g n).2.1) ((flow_maker_all_g n).2.2.1) ((flow_maker_all_g n).2.2.2) (ih.1) (ih.2.1) (ih.2.2.1) (ih.2.2.2), flow_maker_stmt_b_ok ((flow_maker_all_g n).1) ((flow_maker_all_g n).2.1) ((flow_maker_all_g n).2.2.1) ((flow_maker_all_g n).2.2.2) (ih.1) (ih.2.1) (ih.2.2.1) (ih.2.2.2), flow_maker_branch_b_ok ((flow_maker_all_g n).1) ((flow_maker_all_g n).2.1) ((flow_maker_all_g n).2.2.1) ((flow_maker_all_g n).2.2.2) (ih.1) (ih.2.1) (ih.2.2.1) (ih.2.2.2), flow_maker_loop_b_ok ((flow_maker_all_g n).1) ((flow_maker_all_g n).2.1) ((flow_maker_all_g n).2.2.1) ((flow_maker_all_g n).2.2.2) (ih.1) (ih.2.1) (ih.2.2.1) (ih.2.2.2)⟩
theorem flow_maker_all_g_le : ∀ n, (∀ (m0 : TFlowMaker) (a1 : List TApiStmt), Le ((flow_maker_all_g n).1 m0 a1) ((flow_maker_all_g (n + 1)).1 m0 a1)) ∧ (∀ (m0 : TFlowMaker) (a1 : TApiStmt), Le ((flow_maker_all_g n).2.1 m0 a1) ((flow_maker_all_g (n + 1)).2.1 m0 a1)) ∧ (∀ (m0 : TFlowMaker) (a1 : TApiStmt), Le ((flow_maker_all_g n).2.2.1 m0 a1) ((flow_maker_all_g (n + 1)).2.2.1 m0 a1)) ∧ (∀ (m0 : TFlowMaker) (a1 : TApiStmt), Le ((flow_maker_all_g n).2.2.2 m0 a1) ((flow_maker_all_g (n + 1)).2.2.2 m0 a1))
  | 0 => ⟨fun _ _ => Le.none _, fun _ _ => Le.none _, fun _ _ => Le.none _, fun _ _ => Le.none _⟩
  | n + 1 => by
    have ih := flow_maker_all_g_le n
    exact ⟨fun m0 a1 => by show Le (flow_maker_all_b ((flow_maker_all_g n).1) ((flow_maker_all_g n).2.1) ((flow_maker_all_g n).2.2.1) ((flow_maker_all_g n).2.2.2) m0 a1) (flow_maker_all_b ((flow_maker_all_g (n + 1)).1) ((flow_maker_all_g (n + 1)).2.1) ((flow_maker_all_g (n + 1)).2.2.1) ((flow_maker_all_g (n + 1)).2.2.2) m0 a1); unfold flow_maker_all_b; repeat (first | exact Le.refl _ | exact ih.1 _ _ | exact ih.2.1 _ _ | exact ih.2.2.1 _ _ | exact ih.2.2.2 _ _ | assumption | (refine Le.bind ?_ (fun _ => ?_)) | (refine Le.cond ?_ ?_) | (refine Le.loop (fun _ => ?_)) | (refine Le.elim (fun _ => ?_) (fun _ => ?_))), fun m0 a1 => by show Le (flow_maker_stmt_b ((flow_maker_all_g n).1) ((flow_maker_all_g n).2.1) ((flow_maker_all_g n).2.2.1) ((flow_maker_all_g n).2.2.2) m0 a1) (flow_maker_stmt_b ((flow_maker_all_g (n + 1)).1) ((flow_maker_all_g (n + 1)).2.1) ((flow_maker_all_g (n + 1)).2.2.1) ((flow_maker_all_g (n + 1)).2.2.2) m0 a1); unfold flow_maker_stmt_b; repeat (first | exact Le.refl _ | exact ih.1 _ _ | exact ih.2.1 _ _ | exact ih.2.2.1 _ _ | exact ih.2.2.2 _ _ | assumption | (refine Le.bind ?_ (fun _ => ?_)) | (refine Le.cond ?_ ?_) | (refine Le.loop (fun _ => ?_)) | (refine Le.elim (fun _ => ?_) (fun _ => ?_))), fun m0 a1 => by show Le (flow_maker_branch_b ((flow_maker_all_g n).1) ((flow_maker_all_g n).2.1) ((flow_maker_all_g n).2.2.1) ((flow_maker_all_g n).2.2.2) m0 a1) (flow_maker_branch_b ((flow_maker_all_g (n + 1)).1) ((flow_maker_all_g (n + 1)).2.1) ((flow_maker_all_g (n + 1)).2.2.1) ((flow_maker_all_g (n + 1)).2.2.2) m0 a1); unfold flow_maker_branch_b; repeat (first | exact Le.refl _ | exact ih.1 _ _ | exact ih.2.1 _ _ | exact ih.2.2.1 _ _ | exact ih.2.2.2 _ _ | assumption | (refine Le.bind ?_ (fun _ => ?_)) | (refine Le.cond ?_ ?_) | (refine Le.loop (fun _ => ?_)) | (refine Le.elim (fun _ => ?_) (fun _ => ?_))), fun m0 a1 => by show Le (flow_maker_loop_b ((flow_maker_all_g n).1) ((flow_maker_all_g n).2.1) ((flow_maker_all_g n).2.2.1) ((flow_maker_all_g n).2.2.2) m0 a1) (flow_maker_loop_b ((flow_maker_all_g (n + 1)).1) ((flow_maker_all_g (n + 1)).2.1) ((flow_maker_all_g (n + 1)).2.2.1) ((flow_maker_all_g (n + 1)).2.2.2) m0 a1); unfold flow_maker_loop_b; repeat (first | exact Le.refl _ | exact ih.1 _ _ | exact ih.2.1 _ _ | exact ih.2.2.1 _ _ | exact ih.2.2.2 _ _ | assumption | (refine Le.bind ?_ (fun _ => ?_)) | (refine Le.cond ?_ ?_) | (refine Le.loop (fun _ => ?_)) | (refine Le.elim (fun _ => ?_) (fun _ => ?_)))⟩
noncomputable def flow_maker_all (m0 : TFlowMaker) (a1 : List TApiStmt) : Option (TFlowMaker) := anyN fun n => (flow_maker_all_g n).1 m0 a1
theorem flow_maker_all_of (m0 : TFlowMaker) (a1 : List TApiStmt) {r : TFlowMaker} (n : Nat) (h : (flow_maker_all_g n).1 m0 a1 = some r) : flow_maker_all m0 a1 = some r := anyN_of (fun m => (flow_maker_all_g_le m).1 m0 a1) h
theorem flow_maker_all_ok (m0 : TFlowMaker) (a1 : List TApiStmt) (o0 : Nat) (T0 : TypeId) (k0_2 : Value) (c0_3 : Cap) (k0_6 : Value) (r : TFlowMaker) (h0 : flow_maker_all m0 a1 = some r) : CallsD Try.prog 19 [.ptr o0 0, .lst 7 (a1.map eTApiStmt) .no] [(o0, Blk.cells [.v (.string m0.gG.gFunc), .v (.int .i64 m0.gG.gNodes), .lst 6 (m0.gG.gEdges.map eTApiEdge) (.cur k0_2), .lst 2 (m0.gG.gVars.map eTApiVar) c0_3, .v (.int .i64 m0.gG.gMany), .v (.int .i64 m0.gAt), .lst 1 (m0.gPlaces.map eI64) (.cur k0_6)] T0)] [(6, k0_2), (1, k0_6)] (fun d h k => ∃ y0 y1, d = .tup [] ∧ h = [(o0, Blk.cells [.v (.string r.gG.gFunc), .v (.int .i64 r.gG.gNodes), .lst 6 (r.gG.gEdges.map eTApiEdge) (.cur y0), .lst 2 (r.gG.gVars.map eTApiVar) .no, .v (.int .i64 r.gG.gMany), .v (.int .i64 r.gAt), .lst 1 (r.gPlaces.map eI64) (.cur y1)] T0)] ∧ k = [(6, y0), (1, y1)]) :=
  let ⟨n, hn⟩ := anyN_inv h0; (flow_maker_all_g_ok n).1 m0 a1 o0 T0 k0_2 c0_3 k0_6 r hn
noncomputable def flow_maker_stmt (m0 : TFlowMaker) (a1 : TApiStmt) : Option (TFlowMaker) := anyN fun n => (flow_maker_all_g n).2.1 m0 a1
theorem flow_maker_stmt_of (m0 : TFlowMaker) (a1 : TApiStmt) {r : TFlowMaker} (n : Nat) (h : (flow_maker_all_g n).2.1 m0 a1 = some r) : flow_maker_stmt m0 a1 = some r := anyN_of (fun m => (flow_maker_all_g_le m).2.1 m0 a1) h
theorem flow_maker_stmt_ok (m0 : TFlowMaker) (a1 : TApiStmt) (o0 : Nat) (T0 : TypeId) (k0_2 : Value) (c0_3 : Cap) (k0_6 : Value) (r : TFlowMaker) (h0 : flow_maker_stmt m0 a1 = some r) : CallsD Try.prog 23 [.ptr o0 0, eTApiStmt a1] [(o0, Blk.cells [.v (.string m0.gG.gFunc), .v (.int .i64 m0.gG.gNodes), .lst 6 (m0.gG.gEdges.map eTApiEdge) (.cur k0_2), .lst 2 (m0.gG.gVars.map eTApiVar) c0_3, .v (.int .i64 m0.gG.gMany), .v (.int .i64 m0.gAt), .lst 1 (m0.gPlaces.map eI64) (.cur k0_6)] T0)] [(6, k0_2), (1, k0_6)] (fun d h k => ∃ y0 y1, d = .tup [] ∧ h = [(o0, Blk.cells [.v (.string r.gG.gFunc), .v (.int .i64 r.gG.gNodes), .lst 6 (r.gG.gEdges.map eTApiEdge) (.cur y0), .lst 2 (r.gG.gVars.map eTApiVar) .no, .v (.int .i64 r.gG.gMany), .v (.int .i64 r.gAt), .lst 1 (r.gPlaces.map eI64) (.cur y1)] T0)] ∧ k = [(6, y0), (1, y1)]) :=
  let ⟨n, hn⟩ := anyN_inv h0; (flow_maker_all_g_ok n).2.1 m0 a1 o0 T0 k0_2 c0_3 k0_6 r hn
noncomputable def flow_maker_branch (m0 : TFlowMaker) (a1 : TApiStmt) : Option (TFlowMaker) := anyN fun n => (flow_maker_all_g n).2.2.1 m0 a1
theorem flow_maker_branch_of (m0 : TFlowMaker) (a1 : TApiStmt) {r : TFlowMaker} (n : Nat) (h : (flow_maker_all_g n).2.2.1 m0 a1 = some r) : flow_maker_branch m0 a1 = some r := anyN_of (fun m => (flow_maker_all_g_le m).2.2.1 m0 a1) h
theorem flow_maker_branch_ok (m0 : TFlowMaker) (a1 : TApiStmt) (o0 : Nat) (T0 : TypeId) (k0_2 : Value) (c0_3 : Cap) (k0_6 : Value) (r : TFlowMaker) (h0 : flow_maker_branch m0 a1 = some r) : CallsD Try.prog 27 [.ptr o0 0, eTApiStmt a1] [(o0, Blk.cells [.v (.string m0.gG.gFunc), .v (.int .i64 m0.gG.gNodes), .lst 6 (m0.gG.gEdges.map eTApiEdge) (.cur k0_2), .lst 2 (m0.gG.gVars.map eTApiVar) c0_3, .v (.int .i64 m0.gG.gMany), .v (.int .i64 m0.gAt), .lst 1 (m0.gPlaces.map eI64) (.cur k0_6)] T0)] [(6, k0_2), (1, k0_6)] (fun d h k => ∃ y0 y1, d = .tup [] ∧ h = [(o0, Blk.cells [.v (.string r.gG.gFunc), .v (.int .i64 r.gG.gNodes), .lst 6 (r.gG.gEdges.map eTApiEdge) (.cur y0), .lst 2 (r.gG.gVars.map eTApiVar) .no, .v (.int .i64 r.gG.gMany), .v (.int .i64 r.gAt), .lst 1 (r.gPlaces.map eI64) (.cur y1)] T0)] ∧ k = [(6, y0), (1, y1)]) :=
  let ⟨n, hn⟩ := anyN_inv h0; (flow_maker_all_g_ok n).2.2.1 m0 a1 o0 T0 k0_2 c0_3 k0_6 r hn
noncomputable def flow_maker_loop (m0 : TFlowMaker) (a1 : TApiStmt) : Option (TFlowMaker) := anyN fun n => (flow_maker_all_g n).2.2.2 m0 a1
theorem flow_maker_loop_of (m0 : TFlowMaker) (a1 : TApiStmt) {r : TFlowMaker} (n : Nat) (h : (flow_maker_all_g n).2.2.2 m0 a1 = some r) : flow_maker_loop m0 a1 = some r := anyN_of (fun m => (flow_maker_all_g_le m).2.2.2 m0 a1) h
theorem flow_maker_loop_ok (m0 : TFlowMaker) (a1 : TApiStmt) (o0 : Nat) (T0 : TypeId) (k0_2 : Value) (c0_3 : Cap) (k0_6 : Value) (r : TFlowMaker) (h0 : flow_maker_loop m0 a1 = some r) : CallsD Try.prog 28 [.ptr o0 0, eTApiStmt a1] [(o0, Blk.cells [.v (.string m0.gG.gFunc), .v (.int .i64 m0.gG.gNodes), .lst 6 (m0.gG.gEdges.map eTApiEdge) (.cur k0_2), .lst 2 (m0.gG.gVars.map eTApiVar) c0_3, .v (.int .i64 m0.gG.gMany), .v (.int .i64 m0.gAt), .lst 1 (m0.gPlaces.map eI64) (.cur k0_6)] T0)] [(6, k0_2), (1, k0_6)] (fun d h k => ∃ y0 y1, d = .tup [] ∧ h = [(o0, Blk.cells [.v (.string r.gG.gFunc), .v (.int .i64 r.gG.gNodes), .lst 6 (r.gG.gEdges.map eTApiEdge) (.cur y0), .lst 2 (r.gG.gVars.map eTApiVar) .no, .v (.int .i64 r.gG.gMany), .v (.int .i64 r.gAt), .lst 1 (r.gPlaces.map eI64) (.cur y1)] T0)] ∧ k = [(6, y0), (1, y1)]) :=
  let ⟨n, hn⟩ := anyN_inv h0; (flow_maker_all_g_ok n).2.2.2 m0 a1 o0 T0 k0_2 c0_3 k0_6 r hn
abbrev nlFl3_2 : List (List Nat) := [[],[0],[],[2],[],[4],[2,3,4,5],[2,3,4,5,6],[],[8],[8,9],[0,1,2,3,4,5,6,7,8,9,10],[0,1,2,3,4,5,6,7,8,9,10,11],[0,1,2,3,4,5,6,7,8,9,10,11,12],[0,1,2,3,4,5,6,7,8,9,10,11,12,13]]
noncomputable def flow_of (a0 : TApiFunc) : Option (TFlowMaker) :=
  ((slices_Concat_api_Var_api_Var ([a0.gParams, a0.gLocals] : List (List TApiVar))).bind fun x3 => ((flow_maker_all (⟨(⟨a0.gName, (2 : Int), [], x3, (a0.gParams.length : Int)⟩ : TApiGraph), (0 : Int), []⟩ : TFlowMaker) a0.gBody).bind fun x10 => ((flow_maker_edge x10 x10.gAt (1 : Int) (8 : Int) (⟨(0 : Int), ByteArray.empty, ByteArray.empty, ([(⟨(1 : Int), (0 : Int), ByteArray.empty, [], (0 : Int)⟩ : TApiExpr)] : List TApiExpr), [], [], (0 : Int)⟩ : TApiStmt)).bind fun x12 => some x12)))
set_option maxRecDepth 100000 in
set_option maxHeartbeats 2000000 in
theorem flow_of_ok (a0 : TApiFunc) (r : TFlowMaker) (h0 : flow_of a0 = some r) : CallsD Try.prog 15 [eTApiFunc a0] [] [] (fun d h k => ∃ y0 y1 y2, d = .ptr y0 0 ∧ h = [(y0, Blk.cells [.v (.string r.gG.gFunc), .v (.int .i64 r.gG.gNodes), .lst 6 (r.gG.gEdges.map eTApiEdge) (.cur y1), .lst 2 (r.gG.gVars.map eTApiVar) .no, .v (.int .i64 r.gG.gMany), .v (.int .i64 r.gAt), .lst 1 (r.gPlaces.map eI64) (.cur y2)] 54)] ∧ k = [(6, y1), (1, y2)]) := by
  have hm := yes_of h0
  unfold flow_of at hm
  clear h0
  refine enterX htab Try.func15 rfl rfl rfl rfl rfl (fun C => ?_)
  refine wpD_seq ?_
  refine wpD_region ?_
  refine p_box rfl rfl rfl rfl rfl rfl rfl (fun b1 => ?_)
  refine p_pure htab rfl rfl rfl rfl ?_
  refine ops_nil ?_
  refine then_normal ?_
  refine wpD_seq ?_
  obtain ⟨x3, q3, hm⟩ := yes_bind hm
  refine wpD_draws 11 [] [[],[0],[],[2],[],[4],[2,3,4,5],[2,3,4,5,6],[],[8],[8,9]] [0,2,3,4,5,6,7,8,9] nlFl3_2 (by kernel_rfl) (by kernel_rfl) (by kernel_rfl) (by rfl) (by rfl) (by kernel_rfl) ?_
  apply Exists.intro
  apply Exists.intro
  apply Exists.intro
  apply Exists.intro
  apply Exists.intro
  apply Exists.intro
  apply Exists.intro
  apply Exists.intro
  apply Exists.intro
  intro bs
  refine z_e rfl rfl (ex_pure htab rfl) rfl rfl rfl rfl rfl rfl ?_
  refine z_qM rfl rfl (xm_load 0 htab rfl rfl rfl rfl rfl) rfl rfl rfl rfl rfl rfl ?_
  refine z_e rfl rfl (ex_pure htab rfl) rfl rfl rfl rfl rfl rfl ?_
  refine z_eM rfl rfl (xm_load 0 htab rfl rfl rfl rfl rfl) rfl rfl rfl rfl rfl rfl ?_
  refine z_e rfl rfl (ex_pure htab rfl) rfl rfl rfl rfl rfl rfl ?_
  refine z_eM rfl rfl (xm_load 0 htab rfl rfl rfl rfl rfl) rfl rfl rfl rfl rfl rfl ?_
  refine z_E rfl rfl (ExE.wk (x_lit htab rfl rfl rfl rfl rfl rfl rfl rfl rfl rfl rfl) (show Wk _ (.lst 1 (([a0.gParams, a0.gLocals] : List (List TApiVar)).map (eList 2 eTApiVar)) .full) from Wk.lst0 (.cons (WkC.refl _) (.cons (WkC.refl _) (.nil))))) rfl rfl rfl rfl rfl rfl ?_
  refine z_call rfl rfl (slices_Concat_api_Var_api_Var_ok0 ([a0.gParams, a0.gLocals] : List (List TApiVar)) x3 q3) rfl rfl (WkL.cons (Wk.no) (WkL.refl _)) rfl rfl rfl rfl rfl rfl ?_
  refine z_e rfl rfl (ex_pure htab rfl) rfl rfl rfl rfl rfl rfl ?_
  refine z_eM rfl rfl (xm_load 0 htab rfl rfl rfl rfl rfl) rfl rfl rfl rfl rfl rfl ?_
  refine z_q rfl rfl (x_lenL htab rfl rfl rfl rfl (by first | exact map_len | rfl)) rfl rfl rfl rfl rfl rfl ?_
  refine z_nil rfl rfl (fun e he => by simp [isAl] at he) ?_
  refine p_build (r := [.v (.string a0.gName), .v (.int .i64 (2 : Int)), .lst 1 [] .full, .lst 2 (x3.map eTApiVar) .no, .v (.int .i64 (a0.gParams.length : Int))]) htab rfl rfl rfl rfl rfl rfl rfl rfl rfl ?_
  refine p_build (r := [.v (.string a0.gName), .v (.int .i64 (2 : Int)), .lst 1 [] .full, .lst 2 (x3.map eTApiVar) .no, .v (.int .i64 (a0.gParams.length : Int)), .v (.int .i64 (0 : Int)), .lst 1 [] .full]) htab rfl rfl rfl rfl rfl rfl rfl rfl rfl ?_
  refine p_box rfl rfl rfl rfl rfl rfl rfl (fun b5 => ?_)
  refine p_pure htab rfl rfl rfl rfl ?_
  refine ops_nil ?_
  refine then_normal ?_
  refine wpD_seq ?_
  refine wpD_region ?_
  refine p_pure htab rfl rfl rfl rfl ?_
  refine p_pure htab rfl rfl rfl rfl ?_
  refine p_load 0 htab rfl rfl rfl rfl rfl rfl rfl rfl ?_
  refine p_cellF (off := 2) 6 1 rfl rfl (by first | exact Or.inl rfl | exact Or.inr rfl) (fun w6 => ?_)
  refine p_cellF (off := 6) 1 1 rfl rfl (by first | exact Or.inl rfl | exact Or.inr rfl) (fun w7 => ?_)
  obtain ⟨x10, q10, hm⟩ := yes_bind hm
  refine p_callG (flow_maker_all_ok (⟨(⟨a0.gName, (2 : Int), [], x3, (a0.gParams.length : Int)⟩ : TApiGraph), (0 : Int), []⟩ : TFlowMaker) a0.gBody b5 54 w6 .no w7 x10 q10) rfl rfl rfl rfl rfl (WkL.refl _) ((perm_at (j := 1) rfl).trans (List.Perm.cons _ (List.Perm.refl _))) ((perm_at (j := 1) rfl).trans (List.Perm.cons _ ((perm_at (j := 0) rfl).trans (List.Perm.cons _ (List.Perm.refl _))))) ?_
  rintro _ _ _ ⟨w8, w9, rfl, rfl, rfl⟩
  refine ops_nil ?_
  refine then_normal ?_
  refine wpD_seq ?_
  refine wpD_region ?_
  refine p_pure htab rfl rfl rfl rfl ?_
  refine p_pure htab rfl rfl rfl rfl ?_
  refine p_pure htab rfl rfl rfl rfl ?_
  refine p_pure htab rfl rfl rfl rfl ?_
  refine p_load 0 htab rfl rfl rfl rfl rfl rfl rfl rfl ?_
  refine p_build (r := [.v (.int .i64 (1 : Int)), .v (.int .i64 (0 : Int)), .v (.string ByteArray.empty), .lst 1 [] .full, .v (.int .i64 (0 : Int))]) htab rfl rfl rfl rfl rfl rfl rfl rfl rfl ?_
  refine p_lit htab rfl rfl rfl rfl rfl rfl rfl rfl rfl rfl rfl rfl rfl rfl ?_
  refine p_eq (i := 28) (d' := .lst 5 (([(⟨(1 : Int), (0 : Int), ByteArray.empty, [], (0 : Int)⟩ : TApiExpr)] : List TApiExpr).map eTApiExpr) .full) rfl (Wk.lst0 (.cons (WkC.trans (WkC.agg (WkR.cons (WkC.refl _) rfl (WkR.cons (WkC.refl _) rfl (WkR.cons (WkC.refl _) rfl (WkR.cons (WkC.nil) rfl (WkR.cons (WkC.refl _) rfl (WkR.nil))))))) (WkC.of_eq (eTApiExpr_eq (⟨(1 : Int), (0 : Int), ByteArray.empty, [], (0 : Int)⟩ : TApiExpr)).symm)) (.nil))) ?_
  refine p_build (r := [.v (.int .i64 (0 : Int)), .v (.string ByteArray.empty), .v (.string ByteArray.empty), .lst 5 (([(⟨(1 : Int), (0 : Int), ByteArray.empty, [], (0 : Int)⟩ : TApiExpr)] : List TApiExpr).map eTApiExpr) .full, .lst 1 [] .full, .lst 1 [] .full, .v (.int .i64 (0 : Int))]) htab rfl rfl rfl rfl rfl rfl rfl rfl rfl ?_
  obtain ⟨x12, q12, hm⟩ := yes_bind hm
  refine p_callG (flow_maker_edge_ok x10 x10.gAt (1 : Int) (8 : Int) (⟨(0 : Int), ByteArray.empty, ByteArray.empty, ([(⟨(1 : Int), (0 : Int), ByteArray.empty, [], (0 : Int)⟩ : TApiExpr)] : List TApiExpr), [], [], (0 : Int)⟩ : TApiStmt) b5 54 w8 .no (.cur w9) x12 q12) rfl rfl rfl rfl rfl (WkL.cons (Wk.refl _) (WkL.cons (Wk.refl _) (WkL.cons (Wk.refl _) (WkL.cons (Wk.refl _) (WkL.cons (Wk.trans (Wk.agg (WkR.cons (WkC.refl _) rfl (WkR.cons (WkC.refl _) rfl (WkR.cons (WkC.refl _) rfl (WkR.cons (WkC.no) rfl (WkR.cons (WkC.nil) rfl (WkR.cons (WkC.nil) rfl (WkR.cons (WkC.refl _) rfl (WkR.nil))))))))) (Wk.of_eq (eTApiStmt_eq (⟨(0 : Int), ByteArray.empty, ByteArray.empty, ([(⟨(1 : Int), (0 : Int), ByteArray.empty, [], (0 : Int)⟩ : TApiExpr)] : List TApiExpr), [], [], (0 : Int)⟩ : TApiStmt)).symm)) (WkL.refl _)))))) (List.Perm.refl _) (List.Perm.refl _) ?_
  rintro _ _ _ ⟨w11, rfl, rfl, rfl⟩
  refine ops_nil ?_
  refine then_normal ?_
  refine wpD_seq ?_
  refine wpD_region ?_
  refine p_pure htab rfl rfl rfl rfl ?_
  refine p_pure htab rfl rfl rfl rfl ?_
  refine ops_nil ?_
  refine then_normal ?_
  refine wpD_ret ?_
  have er13 := yes_eq hm; subst er13
  refine retX.of (s' := ⟨[(2, .ptr b5 0)], [(b5, Blk.cells [.v (.string x12.gG.gFunc), .v (.int .i64 x12.gG.gNodes), .lst 6 (x12.gG.gEdges.map eTApiEdge) (.cur w11), .lst 2 (x12.gG.gVars.map eTApiVar) .no, .v (.int .i64 x12.gG.gMany), .v (.int .i64 x12.gAt), .lst 1 (x12.gPlaces.map eI64) (.cur w9)] 54)], [(6, w11), (1, w9)]⟩) (WkS.perm (WkS.cons rfl (Wk.refl _) (WkS.nil)) (List.Perm.refl _) (List.Perm.refl _)) (retD_mk (hh := [(b5, Blk.cells [.v (.string x12.gG.gFunc), .v (.int .i64 x12.gG.gNodes), .lst 6 (x12.gG.gEdges.map eTApiEdge) (.cur w11), .lst 2 (x12.gG.gVars.map eTApiVar) .no, .v (.int .i64 x12.gG.gMany), .v (.int .i64 x12.gAt), .lst 1 (x12.gPlaces.map eI64) (.cur w9)] 54)]) (.inl rfl) (resL_cons (resOne_tmp rfl) (resL_nil)) (List.Sublist.refl _) (List.Sublist.refl _) ?_)
  exact ⟨b5, w11, w9, rfl, rfl, rfl⟩
noncomputable def flow_Graph (a0 : TApiFunc) : Option (TApiGraph) :=
  ((flow_of a0).bind fun x6 => some x6.gG)
set_option maxRecDepth 100000 in
set_option maxHeartbeats 2000000 in
theorem flow_Graph_ok (a0 : TApiFunc) (r : TApiGraph) (h0 : flow_Graph a0 = some r) : CallsD Try.prog 7 [eTApiFunc a0] [] [] (fun d h k => ∃ y0, d = .agg [.v (.string r.gFunc), .v (.int .i64 r.gNodes), .lst 6 (r.gEdges.map eTApiEdge) (.cur y0), .lst 2 (r.gVars.map eTApiVar) .no, .v (.int .i64 r.gMany)] ∧ h = [] ∧ k = [(6, y0)]) := by
  have hm := yes_of h0
  unfold flow_Graph at hm
  clear h0
  refine enterX htab Try.func7 rfl rfl rfl rfl rfl (fun C => ?_)
  refine wpD_seq ?_
  refine wpD_region ?_
  refine p_box rfl rfl rfl rfl rfl rfl rfl (fun b1 => ?_)
  refine p_alloc htab rfl rfl rfl rfl rfl rfl rfl (fun b2 => ?_)
  refine ops_nil ?_
  refine then_normal ?_
  refine wpD_seq ?_
  refine wpD_region ?_
  refine p_load (d := eTApiFunc a0) 0 htab rfl rfl rfl rfl rfl rfl rfl rfl ?_
  obtain ⟨x6, q6, hm⟩ := yes_bind hm
  refine p_callG (flow_of_ok a0 x6 q6) rfl rfl rfl rfl rfl (WkL.refl _) (List.Perm.refl _) (List.Perm.refl _) ?_
  rintro _ _ _ ⟨w3, w4, w5, rfl, rfl, rfl⟩
  refine p_pure htab rfl rfl rfl rfl ?_
  refine p_pure htab rfl rfl rfl rfl ?_
  refine p_load (d := .agg [.v (.string x6.gG.gFunc), .v (.int .i64 x6.gG.gNodes), .lst 6 (x6.gG.gEdges.map eTApiEdge) (.cur w4), .lst 2 (x6.gG.gVars.map eTApiVar) .no, .v (.int .i64 x6.gG.gMany)]) 0 htab rfl rfl rfl rfl rfl rfl rfl rfl ?_
  refine p_store (ds' := [.v (.string x6.gG.gFunc), .v (.int .i64 x6.gG.gNodes), .lst 6 (x6.gG.gEdges.map eTApiEdge) (.cur w4), .lst 2 (x6.gG.gVars.map eTApiVar) .no, .v (.int .i64 x6.gG.gMany)]) (h' := [(w3, Blk.cells [.v (.string x6.gG.gFunc), .v (.int .i64 x6.gG.gNodes), .lst 6 (x6.gG.gEdges.map eTApiEdge) (.cur w4), .lst 2 (x6.gG.gVars.map eTApiVar) .no, .v (.int .i64 x6.gG.gMany), .v (.int .i64 x6.gAt), .lst 1 (x6.gPlaces.map eI64) (.cur w5)] 54), (b1, Blk.cells [.v (.string a0.gName), .lst 2 (a0.gParams.map eTApiVar) .no, .lst 2 (a0.gLocals.map eTApiVar) .no, .lst 7 (a0.gBody.map eTApiStmt) .no, .v (.int .i64 a0.gAt)] 25), (b2, Blk.cells [.v (.string x6.gG.gFunc), .v (.int .i64 x6.gG.gNodes), .lst 6 (x6.gG.gEdges.map eTApiEdge) (.cur w4), .lst 2 (x6.gG.gVars.map eTApiVar) .no, .v (.int .i64 x6.gG.gMany)] 28)]) 2 htab rfl rfl rfl rfl rfl rfl rfl rfl rfl rfl rfl rfl ?_
  refine ops_nil ?_
  refine then_normal ?_
  refine wpD_ret ?_
  have er7 := yes_eq hm; subst er7
  refine retX.of (s' := ⟨[(2, .ptr b2 0)], [(b2, Blk.cells [.v (.string x6.gG.gFunc), .v (.int .i64 x6.gG.gNodes), .lst 6 (x6.gG.gEdges.map eTApiEdge) (.cur w4), .lst 2 (x6.gG.gVars.map eTApiVar) .no, .v (.int .i64 x6.gG.gMany)] 28)], [(6, w4)]⟩) (WkS.perm (WkS.cons rfl (Wk.refl _) (WkS.nil)) ((perm_at (j := 2) rfl).trans (List.Perm.cons _ (List.Perm.refl _))) (List.Perm.refl _)) (retD_mk (hh := []) (.inl rfl) (resL_cons (resOne_cell 0 rfl rfl rfl rfl) (resL_nil)) (List.nil_sublist _) (List.Sublist.refl _) ?_)
  exact ⟨w4, rfl, rfl, rfl⟩
theorem flow_Graph_ok0 (a0 : TApiFunc) (r : TApiGraph) (h0 : flow_Graph a0 = some r) : CallsD Try.prog 7 [eTApiFunc a0] [] [] (fun d h k => d = eTApiGraph r ∧ h = [] ∧ k = []) :=
  (flow_Graph_ok a0 r h0).drop fun d h k ⟨y0, e, _, _⟩ => by subst e; exact Wk.agg (WkR.cons (WkC.refl _) rfl (WkR.cons (WkC.refl _) rfl (WkR.cons (WkC.no) rfl (WkR.cons (WkC.refl _) rfl (WkR.cons (WkC.refl _) rfl (WkR.nil))))))
end Go.Proofs.Ytpapooaaccmnpaa.Ab
