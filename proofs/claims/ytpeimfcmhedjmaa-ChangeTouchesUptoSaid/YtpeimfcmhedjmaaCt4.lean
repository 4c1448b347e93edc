/- The texts that changeTouchesUpto_holds leans on, part 4. -/
import Derived.Test.YtpeimfcmhedjmaaCt3
namespace Go.Proofs.Ytpeimfcmhedjmaa.Ab
open Go
set_option linter.all false
noncomputable def tree_walk_r_b (g0 : (List TApiStmt) → (TTreeBagString) → Option (TTreeBagString)) (a0 : List TApiStmt) (m1 : TTreeBagString) : Option (TTreeBagString) :=
  (Option.bind (α := List ByteArray) (loopM (fun (s242 : Int × List ByteArray) => (bif (decide (s242.1 < (a0.length : Int))) then ((idx a0 s242.1).bind fun x421 => ((tree_Names_2_r x421 (⟨s242.2⟩ : TTreeBagString)).bind fun x424 => (Option.bind (α := List ByteArray) (loopM (fun (s450 : Int × List ByteArray) => (bif (decide (s450.1 < (x421.gExps.length : Int))) then ((idx x421.gExps s450.1).bind fun x470 => ((tree_walk_1_r x470 (⟨s450.2⟩ : TTreeBagString)).bind fun x473 => some (.next ((IntKind.i64.wrap (s450.1 + (1 : Int))), x473.gL)))) else some (.done s450.2))) ((0 : Int), x424.gL)) fun y449 => ((g0 x421.gKids (⟨y449⟩ : TTreeBagString)).bind fun x475 => ((g0 x421.gElse x475).bind fun x477 => some (.next ((IntKind.i64.wrap (s242.1 + (1 : Int))), x477.gL))))))) else some (.done s242.2))) ((0 : Int), m1.gL)) fun y241 => some (⟨y241⟩ : TTreeBagString))
set_option maxRecDepth 100000 in
set_option maxHeartbeats 2000000 in
theorem tree_walk_r_b_ok (g0 : (List TApiStmt) → (TTreeBagString) → Option (TTreeBagString)) (hg0 : ∀ (a0 : List TApiStmt) (m1 : TTreeBagString) (o0 : Nat) (T0 : TypeId) (o1 : Nat) (T1 : TypeId) (z1_0 : Z3) (r : TTreeBagString) (h0 : g0 a0 m1 = some r), CallsD Try.prog 41 [.lst 7 (a0.map eTApiStmt) .no, .fn (.func 42) [] [.ptr o0 0], .fn (.func 43) [] [.ptr o0 0]] [(o0, Blk.cells [.fn (.func 39) [] [.ptr o1 0]] T0), (o1, Blk.cells [.v (SL z1_0)] T1), (0, Blk.row 1 (m1.gL.map eStr) (SL z1_0))] [] (fun d h k => ∃ y0, d = .tup [] ∧ h = [(o0, Blk.cells [.fn (.func 39) [] [.ptr o1 0]] T0), (o1, Blk.cells [.v (SL y0)] T1), (0, Blk.row 1 (r.gL.map eStr) (SL y0))] ∧ k = [])) (a0 : List TApiStmt) (m1 : TTreeBagString) (o0 : Nat) (T0 : TypeId) (o1 : Nat) (T1 : TypeId) (z1_0 : Z3) (r : TTreeBagString) (h0 : tree_walk_r_b g0 a0 m1 = some r) : CallsD Try.prog 41 [.lst 7 (a0.map eTApiStmt) .no, .fn (.func 42) [] [.ptr o0 0], .fn (.func 43) [] [.ptr o0 0]] [(o0, Blk.cells [.fn (.func 39) [] [.ptr o1 0]] T0), (o1, Blk.cells [.v (SL z1_0)] T1), (0, Blk.row 1 (m1.gL.map eStr) (SL z1_0))] [] (fun d h k => ∃ y0, d = .tup [] ∧ h = [(o0, Blk.cells [.fn (.func 39) [] [.ptr o1 0]] T0), (o1, Blk.cells [.v (SL y0)] T1), (0, Blk.row 1 (r.gL.map eStr) (SL y0))] ∧ k = []) := by
  have hm := yes_of h0
  unfold tree_walk_r_b at hm
  clear h0
  refine enterX htab Try.func41 rfl rfl rfl rfl rfl (fun C => ?_)
  refine wpD_sr ?_
  refine p_box rfl rfl rfl rfl rfl rfl rfl (fun b1 => ?_)
  refine ops_n2 ?_
  refine p_alloc htab rfl rfl rfl rfl rfl rfl rfl (fun b2 => ?_)
  refine ops_n2 ?_
  refine pu ?_
  refine pS4 (ds' := [.fn (.func 63) [] [.ptr b1 0, .ptr b2 0]]) ?_
  refine ops_n2 ?_
  refine pu ?_
  refine p_lenL htab rfl rfl rfl rfl rfl rfl rfl (by first | exact map_len | rfl) ?_
  refine pu ?_
  refine ops_nt ?_
  obtain ⟨y241, q241, ho241⟩ := yes_bind hm
  refine wpD_mid (Y := Z3) (fun z241 => (⟨[], [(0, Blk.row 1 (y241.map eStr) (SL z241)), (o0, Blk.cells [.fn (.func 39) [] [.ptr o1 0]] T0), (o1, Blk.cells [.v (SL z241)] T1)], []⟩ : S)) ?_ ?_
  ·clear hm; have hm := yes_of q241
   refine wpD_block ?_
   obtain ⟨u242, hl242, hq242⟩ := yes_m hm
   refine loop_M (Y := Z3) hl242 (fun s242 z242 => (⟨[(1, .fn (.func 42) [] [.ptr o0 0]), (5, .ptr b1 0), (6, .ptr b2 0), (12, .lst 7 (a0.map eTApiStmt) .no), (13, .v (.int .i64 (a0.length : Int))), (14, .v (.int .i64 s242.1))], [(0, Blk.row 1 (s242.2.map eStr) (SL z242)), (o0, Blk.cells [.fn (.func 39) [] [.ptr o1 0]] T0), (o1, Blk.cells [.v (SL z242)] T1), (b1, Blk.cells [.fn (.func 43) [] [.ptr o0 0]] 77), (b2, Blk.cells [.fn (.func 63) [] [.ptr b1 0, .ptr b2 0]] 77)], []⟩ : S)) ?_ ?_
   ·skip
    exact WkX.of z1_0 (WkS.perm (WkS.cons rfl (Wk.refl _) (WkS.cons rfl (Wk.refl _) (WkS.cons rfl (Wk.refl _) (WkS.cons rfl (Wk.refl _) (WkS.cons rfl (Wk.refl _) (WkS.cons rfl (Wk.refl _) (WkS.nil))))))) ((perm_at (j := 2) rfl).trans (List.Perm.cons _ ((perm_at (j := 0) rfl).trans (List.Perm.cons _ ((perm_at (j := 0) rfl).trans (List.Perm.cons _ ((perm_at (j := 0) rfl).trans (List.Perm.cons _ ((perm_at (j := 0) rfl).trans (List.Perm.cons _ Pf)))))))))) Pf)
   ·intro G242 s242 z242 hm
    refine wpD_sr ?_
    refine pu ?_
    refine ops_nt ?_
    refine wpD_seq ?_
    refine wpD_cond rfl (fun hc420 => ?_) (fun hc420 => ?_)
    ·replace hm := yes_t hc420 hm
     refine wpD_skip ?_
     refine then_normal ?_
     refine wpD_seq ?_
     refine wpD_block ?_
     refine wpD_sr ?_
     obtain ⟨x421, q421, hm⟩ := yes_bind hm
     refine p_elem htab rfl rfl rfl rfl rfl rfl rfl rfl rfl rfl (idx_nonneg q421) (idx_map q421) ?_
     refine p_eq (i := 16) rfl (Wk.of_eq (congrArg D.el (eTApiStmt_eq x421))) ?_
     refine p_loadEl (d := .agg [.v (.int .i64 x421.gOp), .v (.string x421.gName), .v (.string x421.gFunc), .lst 5 (x421.gExps.map eTApiExpr) .no, .lst 7 (x421.gKids.map eTApiStmt) .no, .lst 7 (x421.gElse.map eTApiStmt) .no, .v (.int .i64 x421.gAt)]) htab rfl rfl rfl rfl rfl rfl rfl rfl ?_
     refine p_alloc htab rfl rfl rfl rfl rfl rfl rfl (fun b422 => ?_)
     refine pS5 (ds' := [.v (.int .i64 x421.gOp), .v (.string x421.gName), .v (.string x421.gFunc), .lst 5 (x421.gExps.map eTApiExpr) .no, .lst 7 (x421.gKids.map eTApiStmt) .no, .lst 7 (x421.gElse.map eTApiStmt) .no, .v (.int .i64 x421.gAt)]) ?_
     refine ops_n2 ?_
     refine pu ?_
     refine p_load (d := .agg [.v (.int .i64 x421.gOp), .v (.string x421.gName), .v (.string x421.gFunc), .lst 5 (x421.gExps.map eTApiExpr) .no, .lst 7 (x421.gKids.map eTApiStmt) .no, .lst 7 (x421.gElse.map eTApiStmt) .no, .v (.int .i64 x421.gAt)]) 5 htab rfl rfl rfl rfl rfl rfl rfl rfl ?_
     obtain ⟨x424, q424, hm⟩ := yes_bind hm
     refine p_callV (tree_Names_2_r_ok x421 (⟨s242.2⟩ : TTreeBagString) o0 T0 o1 T1 z242 x424 q424) rfl rfl rfl rfl rfl rfl rfl (WkL.cons (Wk.trans (Wk.agg (WkR.refl _)) (Wk.of_eq (eTApiStmt_eq x421).symm)) (WkL.cons (Wk.refl _) Wl)) ((perm_at (j := 1) rfl).trans (List.Perm.cons _ ((perm_at (j := 1) rfl).trans (List.Perm.cons _ ((perm_at (j := 0) rfl).trans (List.Perm.cons _ Pf)))))) Pf ?_
     rintro _ _ _ ⟨w423, rfl, rfl, rfl⟩
     refine ops_nt ?_
     refine wpD_seq ?_
     refine wpD_sr ?_
     refine pu ?_
     refine pL 5 ?_
     refine p_lenL htab rfl rfl rfl rfl rfl rfl rfl (by first | exact map_len | rfl) ?_
     refine pu ?_
     refine ops_nt ?_
     obtain ⟨y449, q449, ho449⟩ := yes_bind hm
     refine wpD_mid (Y := Z3) (fun z449 => (⟨[(1, .fn (.func 42) [] [.ptr o0 0]), (5, .ptr b1 0), (6, .ptr b2 0), (8, .ptr b422 0), (12, .lst 7 (a0.map eTApiStmt) .no), (13, .v (.int .i64 (a0.length : Int))), (14, .v (.int .i64 s242.1))], [(0, Blk.row 1 (y449.map eStr) (SL z449)), (o0, Blk.cells [.fn (.func 39) [] [.ptr o1 0]] T0), (o1, Blk.cells [.v (SL z449)] T1), (b1, Blk.cells [.fn (.func 43) [] [.ptr o0 0]] 77), (b2, Blk.cells [.fn (.func 63) [] [.ptr b1 0, .ptr b2 0]] 77), (b422, Blk.cells [.v (.int .i64 x421.gOp), .v (.string x421.gName), .v (.string x421.gFunc), .lst 5 (x421.gExps.map eTApiExpr) .no, .lst 7 (x421.gKids.map eTApiStmt) .no, .lst 7 (x421.gElse.map eTApiStmt) .no, .v (.int .i64 x421.gAt)] 73)], []⟩ : S)) ?_ ?_
     ·clear hm; have hm := yes_of q449
      refine wpD_block ?_
      obtain ⟨u450, hl450, hq450⟩ := yes_m hm
      refine loop_M (Y := Z3) hl450 (fun s450 z450 => (⟨[(1, .fn (.func 42) [] [.ptr o0 0]), (5, .ptr b1 0), (6, .ptr b2 0), (8, .ptr b422 0), (12, .lst 7 (a0.map eTApiStmt) .no), (13, .v (.int .i64 (a0.length : Int))), (14, .v (.int .i64 s242.1)), (22, .lst 5 (x421.gExps.map eTApiExpr) .no), (23, .v (.int .i64 (x421.gExps.length : Int))), (24, .v (.int .i64 s450.1))], [(0, Blk.row 1 (s450.2.map eStr) (SL z450)), (o0, Blk.cells [.fn (.func 39) [] [.ptr o1 0]] T0), (o1, Blk.cells [.v (SL z450)] T1), (b1, Blk.cells [.fn (.func 43) [] [.ptr o0 0]] 77), (b2, Blk.cells [.fn (.func 63) [] [.ptr b1 0, .ptr b2 0]] 77), (b422, Blk.cells [.v (.int .i64 x421.gOp), .v (.string x421.gName), .v (.string x421.gFunc), .lst 5 (x421.gExps.map eTApiExpr) .no, .lst 7 (x421.gKids.map eTApiStmt) .no, .lst 7 (x421.gElse.map eTApiStmt) .no, .v (.int .i64 x421.gAt)] 73)], []⟩ : S)) ?_ ?_
      ·skip
       exact WkX.of w423 (WkS.perm (WkS.cons rfl (Wk.refl _) (WkS.cons rfl (Wk.refl _) (WkS.cons rfl (Wk.refl _) (WkS.cons rfl (Wk.refl _) (WkS.cons rfl (Wk.refl _) (WkS.cons rfl (Wk.refl _) (WkS.cons rfl (Wk.refl _) (WkS.cons rfl (Wk.refl _) (WkS.cons rfl (Wk.refl _) (WkS.cons rfl (Wk.refl _) (WkS.nil))))))))))) ((perm_at (j := 2) rfl).trans (List.Perm.cons _ ((perm_at (j := 0) rfl).trans (List.Perm.cons _ ((perm_at (j := 0) rfl).trans (List.Perm.cons _ ((perm_at (j := 0) rfl).trans (List.Perm.cons _ ((perm_at (j := 0) rfl).trans (List.Perm.cons _ ((perm_at (j := 0) rfl).trans (List.Perm.cons _ Pf)))))))))))) Pf)
      ·intro G450 s450 z450 hm
       refine wpD_sr ?_
       refine pu ?_
       refine ops_nt ?_
       refine wpD_seq ?_
       refine wpD_cond rfl (fun hc469 => ?_) (fun hc469 => ?_)
       ·replace hm := yes_t hc469 hm
        refine wpD_skip ?_
        refine then_normal ?_
        refine wpD_seq ?_
        refine wpD_block ?_
        refine wpD_sr ?_
        obtain ⟨x470, q470, hm⟩ := yes_bind hm
        refine p_elem htab rfl rfl rfl rfl rfl rfl rfl rfl rfl rfl (idx_nonneg q470) (idx_map q470) ?_
        refine p_eq (i := 26) rfl (Wk.of_eq (congrArg D.el (eTApiExpr_eq x470))) ?_
        refine p_loadEl (d := .agg [.v (.int .i64 x470.gOp), .v (.int .i64 x470.gN), .v (.string x470.gName), .lst 5 (x470.gKids.map eTApiExpr) .no, .v (.int .i64 x470.gAt)]) htab rfl rfl rfl rfl rfl rfl rfl rfl ?_
        refine p_alloc htab rfl rfl rfl rfl rfl rfl rfl (fun b471 => ?_)
        refine pS6 (ds' := [.v (.int .i64 x470.gOp), .v (.int .i64 x470.gN), .v (.string x470.gName), .lst 5 (x470.gKids.map eTApiExpr) .no, .v (.int .i64 x470.gAt)]) ?_
        refine ops_nt ?_
        refine wpD_region ?_
        refine pL 4 ?_
        refine p_load (d := .agg [.v (.int .i64 x470.gOp), .v (.int .i64 x470.gN), .v (.string x470.gName), .lst 5 (x470.gKids.map eTApiExpr) .no, .v (.int .i64 x470.gAt)]) 6 htab rfl rfl rfl rfl rfl rfl rfl rfl ?_
        obtain ⟨x473, q473, hm⟩ := yes_bind hm
        refine p_callV (tree_walk_1_r_ok x470 (⟨s450.2⟩ : TTreeBagString) b1 77 o0 T0 o1 T1 z450 b2 77 x473 q473) rfl rfl rfl rfl rfl rfl rfl (WkL.cons (Wk.trans (Wk.agg (WkR.refl _)) (Wk.of_eq (eTApiExpr_eq x470).symm)) (WkL.cons (Wk.refl _) (WkL.cons (Wk.refl _) Wl))) ((perm_at (j := 3) rfl).trans (List.Perm.cons _ ((perm_at (j := 1) rfl).trans (List.Perm.cons _ ((perm_at (j := 1) rfl).trans (List.Perm.cons _ ((perm_at (j := 1) rfl).trans (List.Perm.cons _ ((perm_at (j := 0) rfl).trans (List.Perm.cons _ Pf)))))))))) Pf ?_
        rintro _ _ _ ⟨w472, rfl, rfl, rfl⟩
        refine ops_nil ?_
        refine block_normal ?_
        refine then_normal ?_
        refine wpD_region ?_
        refine pu ?_
        refine pu ?_
        refine ops_nil ?_
        refine then_normal ⟨_, lp_next hm, ?_⟩
        exact WkX.of w472 (WkS.perm (WkS.cons rfl (Wk.refl _) (WkS.cons rfl (Wk.refl _) (WkS.cons rfl (Wk.refl _) (WkS.cons rfl (Wk.refl _) (WkS.cons rfl (Wk.refl _) (WkS.cons rfl (Wk.refl _) (WkS.cons rfl (Wk.refl _) (WkS.cons rfl (Wk.refl _) (WkS.cons rfl (Wk.refl _) (WkS.cons rfl (Wk.refl _) (WkS.nil))))))))))) ((perm_at (j := 4) rfl).trans (List.Perm.cons _ ((perm_at (j := 1) rfl).trans (List.Perm.cons _ ((perm_at (j := 1) rfl).trans (List.Perm.cons _ ((perm_at (j := 0) rfl).trans (List.Perm.cons _ ((perm_at (j := 0) rfl).trans (List.Perm.cons _ ((perm_at (j := 0) rfl).trans (List.Perm.cons _ Pf)))))))))))) Pf)
       ·replace hm := yes_f hc469 hm
        refine wpD_exit ?_
        refine then_exit ?_
        have e450 := lp_done hm; subst e450; clear hm; have hm := hq450
        refine then_exit ?_
        refine block_hit ?_
        have e449 := yes_eq hm; subst e449
        refine ⟨rfl, ?_⟩
        exact WkX.of z450 (WkS.perm (WkS.cons rfl (Wk.refl _) (WkS.cons rfl (Wk.refl _) (WkS.cons rfl (Wk.refl _) (WkS.cons rfl (Wk.refl _) (WkS.cons rfl (Wk.refl _) (WkS.cons rfl (Wk.refl _) (WkS.cons rfl (Wk.refl _) (WkS.nil)))))))) Pf Pf)
     ·intro s449 hw449; clear hm; have hm := ho449; clear q449 ho449
      refine then_normal ?_
      refine wpD_wkX hw449 (fun z449 => ?_)
      refine wpD_sr ?_
      refine pu ?_
      refine pL 5 ?_
      refine pu ?_
      refine pL 3 ?_
      obtain ⟨x475, q475, hm⟩ := yes_bind hm
      refine pG (hg0 x421.gKids (⟨y449⟩ : TTreeBagString) o0 T0 o1 T1 z449 x475 q475) Wl ((perm_at (j := 1) rfl).trans (List.Perm.cons _ ((perm_at (j := 1) rfl).trans (List.Perm.cons _ ((perm_at (j := 0) rfl).trans (List.Perm.cons _ Pf)))))) Pf ?_
      rintro _ _ _ ⟨w474, rfl, rfl, rfl⟩
      refine ops_nt ?_
      refine wpD_region ?_
      refine pu ?_
      refine pL 5 ?_
      refine pu ?_
      refine pL 3 ?_
      obtain ⟨x477, q477, hm⟩ := yes_bind hm
      refine pG (hg0 x421.gElse x475 o0 T0 o1 T1 w474 x477 q477) Wl Pf Pf ?_
      rintro _ _ _ ⟨w476, rfl, rfl, rfl⟩
      refine ops_nil ?_
      refine block_normal ?_
      refine then_normal ?_
      refine wpD_region ?_
      refine pu ?_
      refine pu ?_
      refine ops_nil ?_
      refine then_normal ⟨_, lp_next hm, ?_⟩
      exact WkX.of w476 (WkS.perm (WkS.cons rfl (Wk.refl _) (WkS.cons rfl (Wk.refl _) (WkS.cons rfl (Wk.refl _) (WkS.cons rfl (Wk.refl _) (WkS.cons rfl (Wk.refl _) (WkS.cons rfl (Wk.refl _) (WkS.nil))))))) ((perm_at (j := 2) rfl).trans (List.Perm.cons _ ((perm_at (j := 0) rfl).trans (List.Perm.cons _ ((perm_at (j := 0) rfl).trans (List.Perm.cons _ ((perm_at (j := 0) rfl).trans (List.Perm.cons _ ((perm_at (j := 0) rfl).trans (List.Perm.cons _ Pf)))))))))) Pf)
    ·replace hm := yes_f hc420 hm
     refine wpD_exit ?_
     refine then_exit ?_
     have e242 := lp_done hm; subst e242; clear hm; have hm := hq242
     refine then_exit ?_
     refine block_hit ?_
     have e241 := yes_eq hm; subst e241
     refine ⟨rfl, ?_⟩
     exact WkX.of z242 (WkS.perm (WkS.nil) Pf Pf)
  ·intro s241 hw241; clear hm; have hm := ho241; clear q241 ho241
   refine retX.wkX hw241 (fun z241 => ?_)
   have er478 := yes_eq hm; subst er478
   refine rP (t' := []) [1,1,0] [] 3 wN lN ?_
   exact ⟨z241, rfl, rfl, rfl⟩
noncomputable def tree_walk_r_g : Nat → ((List TApiStmt) → (TTreeBagString) → Option (TTreeBagString))
  | 0 => (fun _ _ => none)
  | n + 1 => (tree_walk_r_b ((tree_walk_r_g n)))
theorem tree_walk_r_g_ok : ∀ n, (∀ (a0 : List TApiStmt) (m1 : TTreeBagString) (o0 : Nat) (T0 : TypeId) (o1 : Nat) (T1 : TypeId) (z1_0 : Z3) (r : TTreeBagString) (h0 : (tree_walk_r_g n) a0 m1 = some r), CallsD Try.prog 41 [.lst 7 (a0.map eTApiStmt) .no, .fn (.func 42) [] [.ptr o0 0], .fn (.func 43) [] [.ptr o0 0]] [(o0, Blk.cells [.fn (.func 39) [] [.ptr o1 0]] T0), (o1, Blk.cells [.v (SL z1_0)] T1), (0, Blk.row 1 (m1.gL.map eStr) (SL z1_0))] [] (fun d h k => ∃ y0, d = .tup [] ∧ h = [(o0, Blk.cells [.fn (.func 39) [] [.ptr o1 0]] T0), (o1, Blk.cells [.v (SL y0)] T1), (0, Blk.row 1 (r.gL.map eStr) (SL y0))] ∧ k = []))
  | 0 => fun _ _ _ _ _ _ _ _ h0 => by cases h0
  | n + 1 => by
    have ih := tree_walk_r_g_ok n
    exact tree_walk_r_b_ok (tree_walk_r_g n) ih
theorem tree_walk_r_g_le : ∀ n, (∀ (a0 : List TApiStmt) (m1 : TTreeBagString), Le ((tree_walk_r_g n) a0 m1) ((tree_walk_r_g (n + 1)) a0 m1))
  | 0 => fun _ _ => Le.none _
  | n + 1 => by
    have ih := tree_walk_r_g_le n
    exact fun a0 m1 => by show Le (tree_walk_r_b ((tree_walk_r_g n)) a0 m1) (tree_walk_r_b ((tree_walk_r_g (n + 1))) a0 m1); unfold tree_walk_r_b; repeat (first | exact Le.refl _ | exact ih _ _ | assumption | (refine Le.bind ?_ (fun _ => ?_)) | (refine Le.cond ?_ ?_) | (refine Le.loop (fun _ => ?_)) | (refine Le.elim (fun _ => ?_) (fun _ => ?_)))
noncomputable def tree_walk_r (a0 : List TApiStmt) (m1 : TTreeBagString) : Option (TTreeBagString) := anyN fun n => (tree_walk_r_g n) a0 m1
theorem tree_walk_r_of (a0 : List TApiStmt) (m1 : TTreeBagString) {r : TTreeBagString} (n : Nat) (h : (tree_walk_r_g n) a0 m1 = some r) : tree_walk_r a0 m1 = some r := anyN_of (fun m => (tree_walk_r_g_le m) a0 m1) h
theorem tree_walk_r_ok (a0 : List TApiStmt) (m1 : TTreeBagString) (o0 : Nat) (T0 : TypeId) (o1 : Nat) (T1 : TypeId) (z1_0 : Z3) (r : TTreeBagString) (h0 : tree_walk_r a0 m1 = some r) : CallsD Try.prog 41 [.lst 7 (a0.map eTApiStmt) .no, .fn (.func 42) [] [.ptr o0 0], .fn (.func 43) [] [.ptr o0 0]] [(o0, Blk.cells [.fn (.func 39) [] [.ptr o1 0]] T0), (o1, Blk.cells [.v (SL z1_0)] T1), (0, Blk.row 1 (m1.gL.map eStr) (SL z1_0))] [] (fun d h k => ∃ y0, d = .tup [] ∧ h = [(o0, Blk.cells [.fn (.func 39) [] [.ptr o1 0]] T0), (o1, Blk.cells [.v (SL y0)] T1), (0, Blk.row 1 (r.gL.map eStr) (SL y0))] ∧ k = []) :=
  let ⟨n, hn⟩ := anyN_inv h0; (tree_walk_r_g_ok n) a0 m1 o0 T0 o1 T1 z1_0 r hn
noncomputable def tree_bag_string_all_r (m0 : TTreeBagString) : Option (List ByteArray × TTreeBagString) :=
  ((need (len62B m0.gL)).bind fun x1 => ((need (len62B (sortB m0.gL))).bind fun x3 => some ((compactB (sortB m0.gL)), (⟨[]⟩ : TTreeBagString))))
set_option maxRecDepth 100000 in
set_option maxHeartbeats 2000000 in
theorem tree_bag_string_all_r_ok (m0 : TTreeBagString) (o0 : Nat) (T0 : TypeId) (z0_0 : Z3) (r : List ByteArray × TTreeBagString) (h0 : tree_bag_string_all_r m0 = some r) : CallsD Try.prog 44 [.ptr o0 0] [(o0, Blk.cells [.v (SL z0_0)] T0), (0, Blk.row 1 (m0.gL.map eStr) (SL z0_0))] [] (fun d h k => ∃ y0, d = .v (SL y0) ∧ h = [(o0, Blk.cells [.any] T0), (0, Blk.row 1 (r.1.map eStr) (SL y0))] ∧ k = []) := by
  have hm := yes_of h0
  unfold tree_bag_string_all_r at hm
  clear h0
  refine enterX htab Try.func44 rfl rfl rfl rfl rfl (fun C => ?_)
  refine wpD_sr ?_
  refine pu ?_
  refine ops_n2 ?_
  iterate 3 refine pu ?_
  refine pL 0 ?_
  obtain ⟨x1, q1, hm⟩ := yes_bind hm
  refine pG (sortB_ok m0.gL z0_0 (need_ok q1)) Wl ((perm_at (j := 1) rfl).trans (List.Perm.cons _ Pf)) Pf ?_
  rintro _ _ _ ⟨rfl, rfl, rfl⟩
  refine ops_n2 ?_
  iterate 3 refine pu ?_
  refine pL 1 ?_
  obtain ⟨x3, q3, hm⟩ := yes_bind hm
  refine pG (compactB_ok (sortB m0.gL) z0_0 (need_ok q3)) Wl Pf Pf ?_
  rintro _ _ _ ⟨w2, rfl, rfl, rfl⟩
  refine pu ?_
  refine ops_nt ?_
  refine wpD_ret ?_
  have er4 := yes_eq hm; subst er4
  refine retX.wk (WkS.bl1 (ds' := [.any]) (WkR.cons (WkC.any) rfl WkR.nil)) ?_
  refine rP (t' := [(2, .v (SL w2))]) [1,0] [] 2 (wC wN) (lT lN) ?_
  exact ⟨w2, rfl, rfl, rfl⟩
noncomputable def slices_Index_string_string (a0 : List ByteArray) (a1 : ByteArray) : Option (Int) :=
  (Option.bind (α := (Unit) ⊕ (Int)) (loopM (fun (s15 : Int) => (bif (decide (s15 < (a0.length : Int))) then ((idx a0 s15).bind fun x25 => (bif (decide (a1 = x25)) then some (.done (.inr s15)) else some (.next (IntKind.i64.wrap (s15 + (1 : Int)))))) else some (.done (.inl ())))) (0 : Int)) (Sum.elim (fun y14 => some (-1 : Int)) (fun r => some r)))
set_option maxRecDepth 100000 in
set_option maxHeartbeats 2000000 in
theorem slices_Index_string_string_ok (a0 : List ByteArray) (a1 : ByteArray) (r : Int) (h0 : slices_Index_string_string a0 a1 = some r) : CallsD Try.prog 46 [.lst 1 (a0.map eStr) .no, .v (.string a1)] [] [] (fun d h k => d = .v (.int .i64 r) ∧ h = [] ∧ k = []) := by
  have hm := yes_of h0
  unfold slices_Index_string_string at hm
  clear h0
  refine enterX htab Try.func46 rfl rfl rfl rfl rfl (fun C => ?_)
  refine wpD_sr ?_
  refine pu ?_
  refine ops_nt ?_
  refine wpD_seq ?_
  refine wpD_sr ?_
  refine pu ?_
  refine p_lenL htab rfl rfl rfl rfl rfl rfl rfl (by first | exact map_len | rfl) ?_
  refine pu ?_
  refine ops_nt ?_
  obtain ⟨x14, q14, ho14⟩ := yes_bind hm
  refine wpD_midX (τ := Unit) (Y := Unit) (fun y14 z14 => (⟨[], [], []⟩ : S)) x14 ?_ ?_
  ·clear hm; have hm := yes_of q14
   refine wpD_block ?_
   obtain ⟨u15, hl15, hq15⟩ := yes_m hm
   refine loop_M (Y := Unit) hl15 (fun s15 z15 => (⟨[(0, .lst 1 (a0.map eStr) .no), (1, .v (.string a1)), (7, .v (.int .i64 (a0.length : Int))), (8, .v (.int .i64 s15))], [], []⟩ : S)) ?_ ?_
   ·skip
    exact WkX.of () (WkS.perm (WkS.cons rfl (Wk.refl _) (WkS.cons rfl (Wk.refl _) (WkS.cons rfl (Wk.refl _) (WkS.cons rfl (Wk.refl _) (WkS.nil))))) Pf Pf)
   ·intro G15 s15 z15 hm
    refine wpD_sr ?_
    refine pu ?_
    refine ops_nt ?_
    refine wpD_seq ?_
    refine wpD_cond rfl (fun hc24 => ?_) (fun hc24 => ?_)
    ·replace hm := yes_t hc24 hm
     refine wpD_skip ?_
     refine then_normal ?_
     refine wpD_seq ?_
     refine wpD_block ?_
     refine wpD_sr ?_
     refine pu ?_
     refine pu ?_
     refine ops_n2 ?_
     iterate 3 refine pu ?_
     obtain ⟨x25, q25, hm⟩ := yes_bind hm
     refine p_elem htab rfl rfl rfl rfl rfl rfl rfl rfl rfl rfl (idx_nonneg q25) (idx_map q25) ?_
     refine p_loadEl htab rfl rfl rfl rfl rfl rfl rfl rfl ?_
     refine pu ?_
     refine ops_nt ?_
     refine wpD_cond rfl (fun hc26 => ?_) (fun hc26 => ?_)
     ·replace hm := yes_t hc26 hm
      refine wpD_sr ?_
      refine pu ?_
      refine pu ?_
      refine ops_nt ?_
      refine wpD_ret ?_
      refine block_ret ?_
      refine then_ret ?_
      have e15 := lp_done hm; subst e15; clear hm; have hm := hq15
      refine then_ret ?_
      refine block_ret ?_
      have e14 := yes_eq hm; subst e14; refine midX_inr ?_; clear hm; have hm := ho14; simp only [Sum.elim_inr] at hm
      refine then_ret ?_
      have er27 := yes_eq hm; subst er27
      refine rP (t' := [(4, .v (.int .i64 s15))]) [] [] 0 (wC wN) (lT lN) ?_
      exact ⟨rfl, rfl, rfl⟩
     ·replace hm := yes_f hc26 hm
      refine wpD_skip ?_
      refine block_normal ?_
      refine then_normal ?_
      refine wpD_region ?_
      refine pu ?_
      refine pu ?_
      refine ops_nil ?_
      refine then_normal ⟨_, lp_next hm, ?_⟩
      exact WkX.of () (WkS.perm (WkS.cons rfl (Wk.refl _) (WkS.cons rfl (Wk.refl _) (WkS.cons rfl (Wk.refl _) (WkS.cons rfl (Wk.refl _) (WkS.nil))))) Pf Pf)
    ·replace hm := yes_f hc24 hm
     refine wpD_exit ?_
     refine then_exit ?_
     have e15 := lp_done hm; subst e15; clear hm; have hm := hq15
     refine then_exit ?_
     refine block_hit ?_
     have e14 := yes_eq hm; subst e14
     refine midX_inl ?_
     exact WkX.of () (WkS.perm (WkS.nil) Pf Pf)
  ·intro y14 s14 hx14 hw14; subst hx14; clear hm; have hm := ho14; simp only [Sum.elim_inl] at hm; clear q14 ho14
   refine then_normal ?_
   refine wpD_wkX hw14 (fun z14 => ?_)
   refine wpD_sr ?_
   refine pu ?_
   refine ops_nt ?_
   refine wpD_ret ?_
   have er28 := yes_eq hm; subst er28
   refine rP (t' := [(4, .v (.int .i64 (-1 : Int)))]) [] [] 0 (wC wN) (lT lN) ?_
   exact ⟨rfl, rfl, rfl⟩
noncomputable def slices_Contains_string_string (a0 : List ByteArray) (a1 : ByteArray) : Option (Bool) :=
  ((slices_Index_string_string a0 a1).bind fun x1 => some (decide ((0 : Int) ≤ x1)))
set_option maxRecDepth 100000 in
set_option maxHeartbeats 2000000 in
theorem slices_Contains_string_string_ok (a0 : List ByteArray) (a1 : ByteArray) (r : Bool) (h0 : slices_Contains_string_string a0 a1 = some r) : CallsD Try.prog 26 [.lst 1 (a0.map eStr) .no, .v (.string a1)] [] [] (fun d h k => d = .v (.bool r) ∧ h = [] ∧ k = []) := by
  have hm := yes_of h0
  unfold slices_Contains_string_string at hm
  clear h0
  refine enterX htab Try.func26 rfl rfl rfl rfl rfl (fun C => ?_)
  refine wpD_sr ?_
  refine pu ?_
  refine ops_n2 ?_
  refine pu ?_
  refine pu ?_
  obtain ⟨x1, q1, hm⟩ := yes_bind hm
  refine p_call0 (slices_Index_string_string_ok a0 a1 x1 q1) rfl rfl rfl rfl rfl Wl ?_
  rintro _ rfl
  refine pu ?_
  refine pu ?_
  refine ops_nt ?_
  refine wpD_ret ?_
  have er2 := yes_eq hm; subst er2
  refine rP (t' := [(4, .v (.bool (decide ((0 : Int) ≤ x1))))]) [] [] 0 (wC wN) (lT lN) ?_
  exact ⟨rfl, rfl, rfl⟩
noncomputable def change_Touched_1 (a0 : ByteArray) (m0 : List ByteArray) : Option (Bool) :=
  ((slices_Contains_string_string m0 a0).bind fun x1 => some x1)
set_option maxRecDepth 100000 in
set_option maxHeartbeats 2000000 in
theorem change_Touched_1_ok (a0 : ByteArray) (m0 : List ByteArray) (o0 : Nat) (T0 : TypeId) (c0_0 : Cap) (r : Bool) (h0 : change_Touched_1 a0 m0 = some r) : CallsD Try.prog 25 [.v (.string a0), .ptr o0 0] [(o0, Blk.cells [.lst 1 (m0.map eStr) c0_0] T0)] [] (fun d h k => d = .v (.bool r) ∧ h = [(o0, Blk.cells [.lst 1 (m0.map eStr) c0_0] T0)] ∧ k = []) := by
  have hm := yes_of h0
  unfold change_Touched_1 at hm
  clear h0
  refine enterX htab Try.func25 rfl rfl rfl rfl rfl (fun C => ?_)
  refine wpD_sr ?_
  refine pu ?_
  refine ops_n2 ?_
  refine pL 0 ?_
  refine pu ?_
  obtain ⟨x1, q1, hm⟩ := yes_bind hm
  refine p_call0 (slices_Contains_string_string_ok m0 a0 x1 q1) rfl rfl rfl rfl rfl (WkL.cons (Wk.no) (WkL.cons (Wk.refl _) Wl)) ?_
  rintro _ rfl
  refine pu ?_
  refine ops_nt ?_
  refine wpD_ret ?_
  have er2 := yes_eq hm; subst er2
  refine rP (t' := [(3, .v (.bool x1))]) [0] [] 1 (wC wN) (lT lN) ?_
  exact ⟨rfl, rfl, rfl⟩
noncomputable def slices_IndexFunc_string_string (a0 : List ByteArray) (m0 : List ByteArray) : Option (Int) :=
  (Option.bind (α := (Unit) ⊕ (Int)) (loopM (fun (s18 : Int) => (bif (decide (s18 < (a0.length : Int))) then ((idx a0 s18).bind fun x30 => ((change_Touched_1 x30 m0).bind fun x31 => (bif x31 then some (.done (.inr s18)) else some (.next (IntKind.i64.wrap (s18 + (1 : Int))))))) else some (.done (.inl ())))) (0 : Int)) (Sum.elim (fun y17 => some (-1 : Int)) (fun r => some r)))
set_option maxRecDepth 100000 in
set_option maxHeartbeats 2000000 in
theorem slices_IndexFunc_string_string_ok (a0 : List ByteArray) (m0 : List ByteArray) (o0 : Nat) (T0 : TypeId) (c0_0 : Cap) (r : Int) (h0 : slices_IndexFunc_string_string a0 m0 = some r) : CallsD Try.prog 45 [.lst 1 (a0.map eStr) .no, .fn (.func 25) [] [.ptr o0 0]] [(o0, Blk.cells [.lst 1 (m0.map eStr) c0_0] T0)] [] (fun d h k => d = .v (.int .i64 r) ∧ h = [(o0, Blk.cells [.lst 1 (m0.map eStr) c0_0] T0)] ∧ k = []) := by
  have hm := yes_of h0
  unfold slices_IndexFunc_string_string at hm
  clear h0
  refine enterX htab Try.func45 rfl rfl rfl rfl rfl (fun C => ?_)
  refine wpD_sr ?_
  refine pu ?_
  refine ops_nt ?_
  refine wpD_seq ?_
  refine wpD_sr ?_
  refine pu ?_
  refine p_lenL htab rfl rfl rfl rfl rfl rfl rfl (by first | exact map_len | rfl) ?_
  refine pu ?_
  refine ops_nt ?_
  obtain ⟨x17, q17, ho17⟩ := yes_bind hm
  refine wpD_midX (τ := Unit) (Y := Unit) (fun y17 z17 => (⟨[], [(o0, Blk.cells [.lst 1 (m0.map eStr) c0_0] T0)], []⟩ : S)) x17 ?_ ?_
  ·clear hm; have hm := yes_of q17
   refine wpD_block ?_
   obtain ⟨u18, hl18, hq18⟩ := yes_m hm
   refine loop_M (Y := Unit) hl18 (fun s18 z18 => (⟨[(0, .lst 1 (a0.map eStr) .no), (1, .fn (.func 25) [] [.ptr o0 0]), (7, .v (.int .i64 (a0.length : Int))), (8, .v (.int .i64 s18))], [(o0, Blk.cells [.lst 1 (m0.map eStr) c0_0] T0)], []⟩ : S)) ?_ ?_
   ·skip
    exact WkX.of () (WkS.perm (WkS.cons rfl (Wk.refl _) (WkS.cons rfl (Wk.refl _) (WkS.cons rfl (Wk.refl _) (WkS.cons rfl (Wk.refl _) (WkS.nil))))) Pf Pf)
   ·intro G18 s18 z18 hm
    refine wpD_sr ?_
    refine pu ?_
    refine ops_nt ?_
    refine wpD_seq ?_
    refine wpD_cond rfl (fun hc29 => ?_) (fun hc29 => ?_)
    ·replace hm := yes_t hc29 hm
     refine wpD_skip ?_
     refine then_normal ?_
     refine wpD_seq ?_
     refine wpD_block ?_
     refine wpD_sr ?_
     refine pu ?_
     refine pu ?_
     refine ops_n2 ?_
     iterate 3 refine pu ?_
     obtain ⟨x30, q30, hm⟩ := yes_bind hm
     refine p_elem htab rfl rfl rfl rfl rfl rfl rfl rfl rfl rfl (idx_nonneg q30) (idx_map q30) ?_
     refine p_loadEl htab rfl rfl rfl rfl rfl rfl rfl rfl ?_
     obtain ⟨x31, q31, hm⟩ := yes_bind hm
     refine p_callV (change_Touched_1_ok x30 m0 o0 T0 c0_0 x31 q31) rfl rfl rfl rfl rfl rfl rfl Wl Pf Pf ?_
     rintro _ _ _ ⟨rfl, rfl, rfl⟩
     refine ops_nt ?_
     refine wpD_cond rfl (fun hc32 => ?_) (fun hc32 => ?_)
     ·replace hm := yes_t hc32 hm
      refine wpD_sr ?_
      refine pu ?_
      refine pu ?_
      refine ops_nt ?_
      refine wpD_ret ?_
      refine block_ret ?_
      refine then_ret ?_
      have e18 := lp_done hm; subst e18; clear hm; have hm := hq18
      refine then_ret ?_
      refine block_ret ?_
      have e17 := yes_eq hm; subst e17; refine midX_inr ?_; clear hm; have hm := ho17; simp only [Sum.elim_inr] at hm
      refine then_ret ?_
      have er33 := yes_eq hm; subst er33
      refine rP (t' := [(4, .v (.int .i64 s18))]) [0] [] 1 (wC wN) (lT lN) ?_
      exact ⟨rfl, rfl, rfl⟩
     ·replace hm := yes_f hc32 hm
      refine wpD_skip ?_
      refine block_normal ?_
      refine then_normal ?_
      refine wpD_region ?_
      refine pu ?_
      refine pu ?_
      refine ops_nil ?_
      refine then_normal ⟨_, lp_next hm, ?_⟩
      exact WkX.of () (WkS.perm (WkS.cons rfl (Wk.refl _) (WkS.cons rfl (Wk.refl _) (WkS.cons rfl (Wk.refl _) (WkS.cons rfl (Wk.refl _) (WkS.nil))))) Pf Pf)
    ·replace hm := yes_f hc29 hm
     refine wpD_exit ?_
     refine then_exit ?_
     have e18 := lp_done hm; subst e18; clear hm; have hm := hq18
     refine then_exit ?_
     refine block_hit ?_
     have e17 := yes_eq hm; subst e17
     refine midX_inl ?_
     exact WkX.of () (WkS.perm (WkS.nil) Pf Pf)
  ·intro y17 s17 hx17 hw17; subst hx17; clear hm; have hm := ho17; simp only [Sum.elim_inl] at hm; clear q17 ho17
   refine then_normal ?_
   refine wpD_wkX hw17 (fun z17 => ?_)
   refine wpD_sr ?_
   refine pu ?_
   refine ops_nt ?_
   refine wpD_ret ?_
   have er34 := yes_eq hm; subst er34
   refine rP (t' := [(4, .v (.int .i64 (-1 : Int)))]) [0] [] 1 (wC wN) (lT lN) ?_
   exact ⟨rfl, rfl, rfl⟩
noncomputable def slices_ContainsFunc_string_string (a0 : List ByteArray) (m0 : List ByteArray) : Option (Bool) :=
  ((slices_IndexFunc_string_string a0 m0).bind fun x1 => some (decide ((0 : Int) ≤ x1)))
set_option maxRecDepth 100000 in
set_option maxHeartbeats 2000000 in
theorem slices_ContainsFunc_string_string_ok (a0 : List ByteArray) (m0 : List ByteArray) (o0 : Nat) (T0 : TypeId) (c0_0 : Cap) (r : Bool) (h0 : slices_ContainsFunc_string_string a0 m0 = some r) : CallsD Try.prog 24 [.lst 1 (a0.map eStr) .no, .fn (.func 25) [] [.ptr o0 0]] [(o0, Blk.cells [.lst 1 (m0.map eStr) c0_0] T0)] [] (fun d h k => d = .v (.bool r) ∧ h = [(o0, Blk.cells [.lst 1 (m0.map eStr) c0_0] T0)] ∧ k = []) := by
  have hm := yes_of h0
  unfold slices_ContainsFunc_string_string at hm
  clear h0
  refine enterX htab Try.func24 rfl rfl rfl rfl rfl (fun C => ?_)
  refine wpD_sr ?_
  refine pu ?_
  refine ops_n2 ?_
  refine pu ?_
  refine pu ?_
  obtain ⟨x1, q1, hm⟩ := yes_bind hm
  refine pG (slices_IndexFunc_string_string_ok a0 m0 o0 T0 c0_0 x1 q1) Wl Pf Pf ?_
  rintro _ _ _ ⟨rfl, rfl, rfl⟩
  refine pu ?_
  refine pu ?_
  refine ops_nt ?_
  refine wpD_ret ?_
  have er2 := yes_eq hm; subst er2
  refine rP (t' := [(4, .v (.bool (decide ((0 : Int) ≤ x1))))]) [0] [] 1 (wC wN) (lT lN) ?_
  exact ⟨rfl, rfl, rfl⟩
noncomputable def change_funcs_r (a0 : TApiProgram) (a1 : TApiProgram) : Option (List ByteArray) :=
  ((slices_Concat_api_Func_api_Func_r ([a0.gFuncs, a1.gFuncs] : List (List TApiFunc))).bind fun x4 => (Option.bind (α := List ByteArray) (loopM (fun (s85 : List ByteArray × Int) => (bif (decide (s85.2 < (x4.length : Int))) then ((idx x4 s85.2).bind fun x118 => ((change_funcOf a0 x118.gName).bind fun x120 => ((change_funcOf a1 x118.gName).bind fun x122 => (Option.bind (α := Bool) (bif (!(x120.2 == x122.2)) then some true else ((tree_SameFunc x120.1 x122.1).bind fun x128 => some (!x128))) fun y126 => (bif y126 then ((app 16 s85.1 ([x118.gName] : List ByteArray)).bind fun x130 => some (.next (x130, (IntKind.i64.wrap (s85.2 + (1 : Int)))))) else some (.next (s85.1, (IntKind.i64.wrap (s85.2 + (1 : Int)))))))))) else some (.done s85.1))) (([] : List ByteArray), (0 : Int))) fun y68 => ((change_row_r y68).bind fun x132 => some x132)))
set_option maxRecDepth 100000 in
set_option maxHeartbeats 2000000 in
theorem change_funcs_r_ok (a0 : TApiProgram) (a1 : TApiProgram) (r : List ByteArray) (h0 : change_funcs_r a0 a1 = some r) : CallsD Try.prog 17 [eTApiProgram a0, eTApiProgram a1] [] [] (fun d h k => ∃ y0, d = .v (SL y0) ∧ h = [(0, Blk.row 1 (r.map eStr) (SL y0))] ∧ k = []) := by
  have hm := yes_of h0
  unfold change_funcs_r at hm
  clear h0
  refine enterX htab Try.func17 rfl rfl rfl rfl rfl (fun C => ?_)
  refine wpD_sr ?_
  refine p_box rfl rfl rfl rfl rfl rfl rfl (fun b1 => ?_)
  refine p_box rfl rfl rfl rfl rfl rfl rfl (fun b2 => ?_)
  refine pu ?_
  refine ops_n2 ?_
  refine pu ?_
  refine ops_nt ?_
  refine wpD_seq ?_
  refine wpD_sr ?_
  refine pu ?_
  refine pL 0 ?_
  refine pu ?_
  refine pL 1 ?_
  refine p_lit htab rfl rfl rfl rfl rfl rfl rfl rfl rfl rfl rfl rfl rfl rfl ?_
  refine p_eq (i := 16) (d' := .lst 1 (([a0.gFuncs, a1.gFuncs] : List (List TApiFunc)).map (eList 5 eTApiFunc)) .full) rfl (Wk.lst0 (.cons (WkC.refl _) (.cons (WkC.refl _) (.nil)))) ?_
  obtain ⟨x4, q4, hm⟩ := yes_bind hm
  refine p_callG (slices_Concat_api_Func_api_Func_r_ok ([a0.gFuncs, a1.gFuncs] : List (List TApiFunc)) x4 q4) rfl rfl rfl rfl rfl (WkL.cons (Wk.no) Wl) Pf Pf ?_
  rintro _ _ _ ⟨w3, rfl, rfl, rfl⟩
  refine p_lenR 0 htab rfl rfl rfl rfl rfl rfl rfl rfl (by first | exact map_len | rfl) ?_
  refine pu ?_
  refine ops_nt ?_
  obtain ⟨y68, q68, ho68⟩ := yes_bind hm
  refine wpD_mid (Y := Z3) (fun z68 => (⟨[(5, .v (SL z68))], [(0, Blk.row 1 (y68.map eStr) (SL z68))], []⟩ : S)) ?_ ?_
  ·clear hm; have hm := yes_of q68
   refine wpD_block ?_
   refine wpD_wkX (Y := Unit) (S1 := fun _ => (⟨[(2, .ptr b1 0), (3, .ptr b2 0), (5, .lst 1 [] .full), (17, .lst 5 (x4.map eTApiFunc) (.cur (SL w3))), (18, .v (.int .i64 (x4.length : Int))), (19, .v (.int .i64 (0 : Int)))], [(b1, Blk.cells [.lst 4 (a0.gGlobals.map eTApiGlobal) .no, .lst 5 (a0.gFuncs.map eTApiFunc) .no] 25), (b2, Blk.cells [.lst 4 (a1.gGlobals.map eTApiGlobal) .no, .lst 5 (a1.gFuncs.map eTApiFunc) .no] 25)], [(5, (SL w3))]⟩ : S)) ?_ (fun _ => ?_)
   ·skip
    refine WkX.wk (WkS.frz 0 rfl rfl) ?_
    refine WkX.wk (WkS.tld 17 0 rfl rfl) ?_
    refine WkX.wk (WkS.drop 0 rfl) ?_
    exact WkX.of () (WkS.perm (WkS.cons rfl (Wk.refl _) (WkS.cons rfl (Wk.refl _) (WkS.cons rfl (Wk.refl _) (WkS.cons rfl (Wk.refl _) (WkS.cons rfl (Wk.refl _) (WkS.cons rfl (Wk.refl _) (WkS.nil))))))) Pf Pf)
   ·skip
    obtain ⟨u85, hl85, hq85⟩ := yes_m hm
    refine loop_M (Y := Z3) hl85 (fun s85 z85 => (⟨[(2, .ptr b1 0), (3, .ptr b2 0), (5, .v (SL z85)), (17, .lst 5 (x4.map eTApiFunc) (.cur (SL w3))), (18, .v (.int .i64 (x4.length : Int))), (19, .v (.int .i64 s85.2))], [(0, Blk.row 1 (s85.1.map eStr) (SL z85)), (b1, Blk.cells [.lst 4 (a0.gGlobals.map eTApiGlobal) .no, .lst 5 (a0.gFuncs.map eTApiFunc) .no] 25), (b2, Blk.cells [.lst 4 (a1.gGlobals.map eTApiGlobal) .no, .lst 5 (a1.gFuncs.map eTApiFunc) .no] 25)], [(5, (SL w3))]⟩ : S)) ?_ ?_
    ·skip
     refine WkX.rowN (i := 5) 1 rfl (fun w116 => ?_)
     exact WkX.of w116 (WkS.perm (WkS.cons rfl (Wk.refl _) (WkS.cons rfl (Wk.refl _) (WkS.cons rfl (Wk.refl _) (WkS.cons rfl (Wk.refl _) (WkS.cons rfl (Wk.refl _) (WkS.cons rfl (Wk.refl _) (WkS.nil))))))) Pf Pf)
    ·intro G85 s85 z85 hm
     refine wpD_sr ?_
     refine pu ?_
     refine ops_nt ?_
     refine wpD_seq ?_
     refine wpD_cond rfl (fun hc117 => ?_) (fun hc117 => ?_)
     ·replace hm := yes_t hc117 hm
      refine wpD_skip ?_
      refine then_normal ?_
      refine wpD_seq ?_
      refine wpD_block ?_
      refine wpD_sr ?_
      obtain ⟨x118, q118, hm⟩ := yes_bind hm
      refine p_elem htab rfl rfl rfl rfl rfl rfl rfl rfl rfl rfl (idx_nonneg q118) (idx_map q118) ?_
      refine p_loadEl (d := eTApiFunc x118) htab rfl rfl rfl rfl rfl rfl rfl rfl ?_
      refine p_alloc htab rfl rfl rfl rfl rfl rfl rfl (fun b119 => ?_)
      refine pS3 (ds' := [.v (.string x118.gName), .lst 2 (x118.gParams.map eTApiVar) .no, .lst 2 (x118.gLocals.map eTApiVar) .no, .lst 7 (x118.gBody.map eTApiStmt) .no, .v (.int .i64 x118.gAt)]) ?_
      refine ops_n2 ?_
      refine p_load (d := eTApiProgram a0) 1 htab rfl rfl rfl rfl rfl rfl rfl rfl ?_
      refine pu ?_
      refine pL 3 ?_
      obtain ⟨x120, q120, hm⟩ := yes_bind hm
      refine p_call0 (change_funcOf_ok a0 x118.gName x120 q120) rfl rfl rfl rfl rfl Wl ?_
      rintro _ rfl
      iterate 3 refine pu ?_
      refine p_alloc htab rfl rfl rfl rfl rfl rfl rfl (fun b121 => ?_)
      refine pS4 (ds' := [.v (.string x120.1.gName), .lst 2 (x120.1.gParams.map eTApiVar) .no, .lst 2 (x120.1.gLocals.map eTApiVar) .no, .lst 7 (x120.1.gBody.map eTApiStmt) .no, .v (.int .i64 x120.1.gAt)]) ?_
      refine pu ?_
      refine ops_n2 ?_
      refine p_load (d := eTApiProgram a1) 2 htab rfl rfl rfl rfl rfl rfl rfl rfl ?_
      refine pu ?_
      refine pL 3 ?_
      obtain ⟨x122, q122, hm⟩ := yes_bind hm
      refine p_call0 (change_funcOf_ok a1 x118.gName x122 q122) rfl rfl rfl rfl rfl Wl ?_
      rintro _ rfl
      iterate 3 refine pu ?_
      refine p_alloc htab rfl rfl rfl rfl rfl rfl rfl (fun b123 => ?_)
      refine pS5 (ds' := [.v (.string x122.1.gName), .lst 2 (x122.1.gParams.map eTApiVar) .no, .lst 2 (x122.1.gLocals.map eTApiVar) .no, .lst 7 (x122.1.gBody.map eTApiStmt) .no, .v (.int .i64 x122.1.gAt)]) ?_
      refine pu ?_
      refine ops_nt ?_
      refine wpD_seq ?_
      obtain ⟨y126, q126, ho126⟩ := yes_bind hm
      refine wpD_mid (Y := Unit) (fun z126 => (⟨[(2, .ptr b1 0), (3, .ptr b2 0), (5, .v (SL z85)), (7, .ptr b119 0), (17, .lst 5 (x4.map eTApiFunc) (.cur (SL w3))), (18, .v (.int .i64 (x4.length : Int))), (19, .v (.int .i64 s85.2)), (45, .v (.bool y126))], [(0, Blk.row 1 (s85.1.map eStr) (SL z85)), (b1, Blk.cells [.lst 4 (a0.gGlobals.map eTApiGlobal) .no, .lst 5 (a0.gFuncs.map eTApiFunc) .no] 25), (b2, Blk.cells [.lst 4 (a1.gGlobals.map eTApiGlobal) .no, .lst 5 (a1.gFuncs.map eTApiFunc) .no] 25), (b119, Blk.cells [.v (.string x118.gName), .lst 2 (x118.gParams.map eTApiVar) .no, .lst 2 (x118.gLocals.map eTApiVar) .no, .lst 7 (x118.gBody.map eTApiStmt) .no, .v (.int .i64 x118.gAt)] 41)], [(5, (SL w3))]⟩ : S)) ?_ ?_
      ·clear hm; have hm := yes_of q126
       refine wpD_region ?_
       iterate 4 refine pu ?_
       refine p_split (i := 40) rfl (fun hg127 => ?_) (fun hg127 => ?_)
       ·replace hm := yes_t hg127 hm
        iterate 4 refine pK ?_
        refine p_pickT rfl rfl rfl rfl rfl rfl ?_
        refine ops_nil ?_
        have e126 := yes_eq hm; subst e126
        refine ⟨rfl, ?_⟩
        exact WkX.of () (WkS.perm (WkS.cons rfl (Wk.refl _) (WkS.cons rfl (Wk.refl _) (WkS.cons rfl (Wk.refl _) (WkS.cons rfl (Wk.refl _) (WkS.cons rfl (Wk.refl _) (WkS.cons rfl (Wk.refl _) (WkS.cons rfl (Wk.refl _) (WkS.cons rfl (Wk.refl _) (WkS.nil))))))))) Pf Pf)
       ·replace hm := yes_f hg127 hm
        refine p_load (d := eTApiFunc x120.1) 4 htab rfl rfl rfl rfl rfl rfl rfl rfl ?_
        refine p_load (d := eTApiFunc x122.1) 5 htab rfl rfl rfl rfl rfl rfl rfl rfl ?_
        obtain ⟨x128, q128, hm⟩ := yes_bind hm
        refine p_call0 (tree_SameFunc_ok x120.1 x122.1 x128 q128) rfl rfl rfl rfl rfl Wl ?_
        rintro _ rfl
        refine pu ?_
        refine p_pickF rfl rfl rfl rfl rfl rfl ?_
        refine ops_nil ?_
        have e126 := yes_eq hm; subst e126
        refine ⟨rfl, ?_⟩
        exact WkX.of () (WkS.perm (WkS.cons rfl (Wk.refl _) (WkS.cons rfl (Wk.refl _) (WkS.cons rfl (Wk.refl _) (WkS.cons rfl (Wk.refl _) (WkS.cons rfl (Wk.refl _) (WkS.cons rfl (Wk.refl _) (WkS.cons rfl (Wk.refl _) (WkS.cons rfl (Wk.refl _) (WkS.nil))))))))) Pf Pf)
      ·intro s126 hw126; clear hm; have hm := ho126; clear q126 ho126
       refine then_normal ?_
       refine wpD_wkX hw126 (fun z126 => ?_)
       refine wpD_cond rfl (fun hc129 => ?_) (fun hc129 => ?_)
       ·replace hm := yes_t hc129 hm
        refine wpD_region ?_
        refine pu ?_
        refine pu ?_
        refine pL 3 ?_
        refine p_lit htab rfl rfl rfl rfl rfl rfl rfl rfl rfl rfl rfl rfl rfl rfl ?_
        refine p_eq (i := 49) (d' := .lst 1 (([x118.gName] : List ByteArray).map eStr) .full) rfl (Wk.lst0 (.cons (WkC.refl _) (.nil))) ?_
        obtain ⟨x130, q130, hm⟩ := yes_bind hm
        refine p_appR2 0 htab rfl rfl rfl rfl rfl rfl rfl rfl rfl rfl rfl rfl rfl rfl rfl rfl (app_bound q130) (app_map q130) (fun v130 => ?_)
        refine pu ?_
        refine ops_nil ?_
        refine block_normal ?_
        refine then_normal ?_
        refine wpD_region ?_
        refine pu ?_
        refine pu ?_
        refine ops_nil ?_
        refine then_normal ⟨_, lp_next hm, ?_⟩
        exact WkX.of v130 (WkS.perm (WkS.cons rfl (Wk.refl _) (WkS.cons rfl (Wk.refl _) (WkS.cons rfl (Wk.refl _) (WkS.cons rfl (Wk.refl _) (WkS.cons rfl (Wk.refl _) (WkS.cons rfl (Wk.refl _) (WkS.nil))))))) Pf Pf)
       ·replace hm := yes_f hc129 hm
        refine wpD_skip ?_
        refine block_normal ?_
        refine then_normal ?_
        refine wpD_region ?_
        refine pu ?_
        refine pu ?_
        refine ops_nil ?_
        refine then_normal ⟨_, lp_next hm, ?_⟩
        exact WkX.of z85 (WkS.perm (WkS.cons rfl (Wk.refl _) (WkS.cons rfl (Wk.refl _) (WkS.cons rfl (Wk.refl _) (WkS.cons rfl (Wk.refl _) (WkS.cons rfl (Wk.refl _) (WkS.cons rfl (Wk.refl _) (WkS.nil))))))) Pf Pf)
     ·replace hm := yes_f hc117 hm
      refine wpD_exit ?_
      refine then_exit ?_
      have e85 := lp_done hm; subst e85; clear hm; have hm := hq85
      refine then_exit ?_
      refine block_hit ?_
      have e68 := yes_eq hm; subst e68
      refine ⟨rfl, ?_⟩
      exact WkX.of z85 (WkS.perm (WkS.cons rfl (Wk.refl _) (WkS.nil)) Pf Pf)
  ·intro s68 hw68; clear hm; have hm := ho68; clear q68 ho68
   refine then_normal ?_
   refine wpD_wkX hw68 (fun z68 => ?_)
   refine wpD_sr ?_
   refine pu ?_
   obtain ⟨x132, q132, hm⟩ := yes_bind hm
   refine pG (change_row_r_ok y68 z68 x132 q132) Wl Pf Pf ?_
   rintro _ _ _ ⟨w131, rfl, rfl, rfl⟩
   refine pu ?_
   refine ops_nt ?_
   refine wpD_ret ?_
   have er133 := yes_eq hm; subst er133
   refine rP (t' := [(4, .v (SL w131))]) [0] [] 1 (wC wN) (lT lN) ?_
   exact ⟨w131, rfl, rfl, rfl⟩
noncomputable def change_globals_r (a0 : TApiProgram) (a1 : TApiProgram) : Option (List ByteArray) :=
  ((slices_Concat_api_Global_api_Global_r ([a0.gGlobals, a1.gGlobals] : List (List TApiGlobal))).bind fun x4 => (Option.bind (α := List ByteArray) (loopM (fun (s85 : List ByteArray × Int) => (bif (decide (s85.2 < (x4.length : Int))) then ((idx x4 s85.2).bind fun x118 => ((change_globalOf a0 x118.gName).bind fun x120 => ((change_globalOf a1 x118.gName).bind fun x122 => (Option.bind (α := Bool) (bif (!(x120.2 == x122.2)) then some true else (bif (!(x120.1.gPtr == x122.1.gPtr)) then some true else some (x120.1.gSize != x122.1.gSize))) fun y126 => (bif y126 then ((app 16 s85.1 ([x118.gName] : List ByteArray)).bind fun x130 => some (.next (x130, (IntKind.i64.wrap (s85.2 + (1 : Int)))))) else some (.next (s85.1, (IntKind.i64.wrap (s85.2 + (1 : Int)))))))))) else some (.done s85.1))) (([] : List ByteArray), (0 : Int))) fun y68 => ((change_row_r y68).bind fun x132 => some x132)))
set_option maxRecDepth 100000 in
set_option maxHeartbeats 2000000 in
theorem change_globals_r_ok (a0 : TApiProgram) (a1 : TApiProgram) (r : List ByteArray) (h0 : change_globals_r a0 a1 = some r) : CallsD Try.prog 18 [eTApiProgram a0, eTApiProgram a1] [] [] (fun d h k => ∃ y0, d = .v (SL y0) ∧ h = [(0, Blk.row 1 (r.map eStr) (SL y0))] ∧ k = []) := by
  have hm := yes_of h0
  unfold change_globals_r at hm
  clear h0
  refine enterX htab Try.func18 rfl rfl rfl rfl rfl (fun C => ?_)
  refine wpD_sr ?_
  refine p_box rfl rfl rfl rfl rfl rfl rfl (fun b1 => ?_)
  refine p_box rfl rfl rfl rfl rfl rfl rfl (fun b2 => ?_)
  refine pu ?_
  refine ops_n2 ?_
  refine pu ?_
  refine ops_nt ?_
  refine wpD_seq ?_
  refine wpD_sr ?_
  refine pu ?_
  refine pL 0 ?_
  refine pu ?_
  refine pL 1 ?_
  refine p_lit htab rfl rfl rfl rfl rfl rfl rfl rfl rfl rfl rfl rfl rfl rfl ?_
  refine p_eq (i := 16) (d' := .lst 1 (([a0.gGlobals, a1.gGlobals] : List (List TApiGlobal)).map (eList 4 eTApiGlobal)) .full) rfl (Wk.lst0 (.cons (WkC.refl _) (.cons (WkC.refl _) (.nil)))) ?_
  obtain ⟨x4, q4, hm⟩ := yes_bind hm
  refine p_callG (slices_Concat_api_Global_api_Global_r_ok ([a0.gGlobals, a1.gGlobals] : List (List TApiGlobal)) x4 q4) rfl rfl rfl rfl rfl (WkL.cons (Wk.no) Wl) Pf Pf ?_
  rintro _ _ _ ⟨w3, rfl, rfl, rfl⟩
  refine p_lenR 0 htab rfl rfl rfl rfl rfl rfl rfl rfl (by first | exact map_len | rfl) ?_
  refine pu ?_
  refine ops_nt ?_
  obtain ⟨y68, q68, ho68⟩ := yes_bind hm
  refine wpD_mid (Y := Z3) (fun z68 => (⟨[(5, .v (SL z68))], [(0, Blk.row 1 (y68.map eStr) (SL z68))], []⟩ : S)) ?_ ?_
  ·clear hm; have hm := yes_of q68
   refine wpD_block ?_
   refine wpD_wkX (Y := Unit) (S1 := fun _ => (⟨[(2, .ptr b1 0), (3, .ptr b2 0), (5, .lst 1 [] .full), (17, .lst 4 (x4.map eTApiGlobal) (.cur (SL w3))), (18, .v (.int .i64 (x4.length : Int))), (19, .v (.int .i64 (0 : Int)))], [(b1, Blk.cells [.lst 4 (a0.gGlobals.map eTApiGlobal) .no, .lst 5 (a0.gFuncs.map eTApiFunc) .no] 25), (b2, Blk.cells [.lst 4 (a1.gGlobals.map eTApiGlobal) .no, .lst 5 (a1.gFuncs.map eTApiFunc) .no] 25)], [(4, (SL w3))]⟩ : S)) ?_ (fun _ => ?_)
   ·skip
    refine WkX.wk (WkS.frz 0 rfl rfl) ?_
    refine WkX.wk (WkS.tld 17 0 rfl rfl) ?_
    refine WkX.wk (WkS.drop 0 rfl) ?_
    exact WkX.of () (WkS.perm (WkS.cons rfl (Wk.refl _) (WkS.cons rfl (Wk.refl _) (WkS.cons rfl (Wk.refl _) (WkS.cons rfl (Wk.refl _) (WkS.cons rfl (Wk.refl _) (WkS.cons rfl (Wk.refl _) (WkS.nil))))))) Pf Pf)
   ·skip
    obtain ⟨u85, hl85, hq85⟩ := yes_m hm
    refine loop_M (Y := Z3) hl85 (fun s85 z85 => (⟨[(2, .ptr b1 0), (3, .ptr b2 0), (5, .v (SL z85)), (17, .lst 4 (x4.map eTApiGlobal) (.cur (SL w3))), (18, .v (.int .i64 (x4.length : Int))), (19, .v (.int .i64 s85.2))], [(0, Blk.row 1 (s85.1.map eStr) (SL z85)), (b1, Blk.cells [.lst 4 (a0.gGlobals.map eTApiGlobal) .no, .lst 5 (a0.gFuncs.map eTApiFunc) .no] 25), (b2, Blk.cells [.lst 4 (a1.gGlobals.map eTApiGlobal) .no, .lst 5 (a1.gFuncs.map eTApiFunc) .no] 25)], [(4, (SL w3))]⟩ : S)) ?_ ?_
    ·skip
     refine WkX.rowN (i := 5) 1 rfl (fun w116 => ?_)
     exact WkX.of w116 (WkS.perm (WkS.cons rfl (Wk.refl _) (WkS.cons rfl (Wk.refl _) (WkS.cons rfl (Wk.refl _) (WkS.cons rfl (Wk.refl _) (WkS.cons rfl (Wk.refl _) (WkS.cons rfl (Wk.refl _) (WkS.nil))))))) Pf Pf)
    ·intro G85 s85 z85 hm
     refine wpD_sr ?_
     refine pu ?_
     refine ops_nt ?_
     refine wpD_seq ?_
     refine wpD_cond rfl (fun hc117 => ?_) (fun hc117 => ?_)
     ·replace hm := yes_t hc117 hm
      refine wpD_skip ?_
      refine then_normal ?_
      refine wpD_seq ?_
      refine wpD_block ?_
      refine wpD_sr ?_
      obtain ⟨x118, q118, hm⟩ := yes_bind hm
      refine p_elem htab rfl rfl rfl rfl rfl rfl rfl rfl rfl rfl (idx_nonneg q118) (idx_map q118) ?_
      refine p_loadEl (d := eTApiGlobal x118) htab rfl rfl rfl rfl rfl rfl rfl rfl ?_
      refine p_alloc htab rfl rfl rfl rfl rfl rfl rfl (fun b119 => ?_)
      refine pS3 (ds' := [.v (.string x118.gName), .v (.bool x118.gPtr), .v (.int .i64 x118.gSize), .v (.int .i64 x118.gAt)]) ?_
      refine ops_n2 ?_
      refine p_load (d := eTApiProgram a0) 1 htab rfl rfl rfl rfl rfl rfl rfl rfl ?_
      refine pu ?_
      refine pL 3 ?_
      obtain ⟨x120, q120, hm⟩ := yes_bind hm
      refine p_call0 (change_globalOf_ok a0 x118.gName x120 q120) rfl rfl rfl rfl rfl Wl ?_
      rintro _ rfl
      iterate 3 refine pu ?_
      refine p_alloc htab rfl rfl rfl rfl rfl rfl rfl (fun b121 => ?_)
      refine pS4 (ds' := [.v (.string x120.1.gName), .v (.bool x120.1.gPtr), .v (.int .i64 x120.1.gSize), .v (.int .i64 x120.1.gAt)]) ?_
      refine pu ?_
      refine ops_n2 ?_
      refine p_load (d := eTApiProgram a1) 2 htab rfl rfl rfl rfl rfl rfl rfl rfl ?_
      refine pu ?_
      refine pL 3 ?_
      obtain ⟨x122, q122, hm⟩ := yes_bind hm
      refine p_call0 (change_globalOf_ok a1 x118.gName x122 q122) rfl rfl rfl rfl rfl Wl ?_
      rintro _ rfl
      iterate 3 refine pu ?_
      refine p_alloc htab rfl rfl rfl rfl rfl rfl rfl (fun b123 => ?_)
      refine pS5 (ds' := [.v (.string x122.1.gName), .v (.bool x122.1.gPtr), .v (.int .i64 x122.1.gSize), .v (.int .i64 x122.1.gAt)]) ?_
      refine pu ?_
      refine ops_nt ?_
      refine wpD_seq ?_
      obtain ⟨y126, q126, ho126⟩ := yes_bind hm
      refine wpD_mid (Y := Unit) (fun z126 => (⟨[(2, .ptr b1 0), (3, .ptr b2 0), (5, .v (SL z85)), (7, .ptr b119 0), (17, .lst 4 (x4.map eTApiGlobal) (.cur (SL w3))), (18, .v (.int .i64 (x4.length : Int))), (19, .v (.int .i64 s85.2)), (53, .v (.bool y126))], [(0, Blk.row 1 (s85.1.map eStr) (SL z85)), (b1, Blk.cells [.lst 4 (a0.gGlobals.map eTApiGlobal) .no, .lst 5 (a0.gFuncs.map eTApiFunc) .no] 25), (b2, Blk.cells [.lst 4 (a1.gGlobals.map eTApiGlobal) .no, .lst 5 (a1.gFuncs.map eTApiFunc) .no] 25), (b119, Blk.cells [.v (.string x118.gName), .v (.bool x118.gPtr), .v (.int .i64 x118.gSize), .v (.int .i64 x118.gAt)] 61)], [(4, (SL w3))]⟩ : S)) ?_ ?_
      ·clear hm; have hm := yes_of q126
       refine wpD_region ?_
       iterate 4 refine pu ?_
       refine p_split (i := 40) rfl (fun hg127 => ?_) (fun hg127 => ?_)
       ·replace hm := yes_t hg127 hm
        iterate 5 refine pK ?_
        refine p_pickT rfl rfl rfl rfl rfl rfl ?_
        refine pu ?_
        iterate 5 refine pK ?_
        refine p_pickT rfl rfl rfl rfl rfl rfl ?_
        refine ops_nil ?_
        have e126 := yes_eq hm; subst e126
        refine ⟨rfl, ?_⟩
        exact WkX.of () (WkS.perm (WkS.cons rfl (Wk.refl _) (WkS.cons rfl (Wk.refl _) (WkS.cons rfl (Wk.refl _) (WkS.cons rfl (Wk.refl _) (WkS.cons rfl (Wk.refl _) (WkS.cons rfl (Wk.refl _) (WkS.cons rfl (Wk.refl _) (WkS.cons rfl (Wk.refl _) (WkS.nil))))))))) Pf Pf)
       ·replace hm := yes_f hg127 hm
        refine pu ?_
        refine pL 4 ?_
        refine pu ?_
        refine pL 5 ?_
        refine pu ?_
        refine p_pickF rfl rfl rfl rfl rfl rfl ?_
        refine pu ?_
        refine p_split (i := 47) rfl (fun hg128 => ?_) (fun hg128 => ?_)
        ·replace hm := yes_t hg128 hm
         iterate 5 refine pK ?_
         refine p_pickT rfl rfl rfl rfl rfl rfl ?_
         refine ops_nil ?_
         have e126 := yes_eq hm; subst e126
         refine ⟨rfl, ?_⟩
         exact WkX.of () (WkS.perm (WkS.cons rfl (Wk.refl _) (WkS.cons rfl (Wk.refl _) (WkS.cons rfl (Wk.refl _) (WkS.cons rfl (Wk.refl _) (WkS.cons rfl (Wk.refl _) (WkS.cons rfl (Wk.refl _) (WkS.cons rfl (Wk.refl _) (WkS.cons rfl (Wk.refl _) (WkS.nil))))))))) Pf Pf)
        ·replace hm := yes_f hg128 hm
         refine pu ?_
         refine pL 4 ?_
         refine pu ?_
         refine pL 5 ?_
         refine pu ?_
         refine p_pickF rfl rfl rfl rfl rfl rfl ?_
         refine ops_nil ?_
         have e126 := yes_eq hm; subst e126
         refine ⟨rfl, ?_⟩
         exact WkX.of () (WkS.perm (WkS.cons rfl (Wk.refl _) (WkS.cons rfl (Wk.refl _) (WkS.cons rfl (Wk.refl _) (WkS.cons rfl (Wk.refl _) (WkS.cons rfl (Wk.refl _) (WkS.cons rfl (Wk.refl _) (WkS.cons rfl (Wk.refl _) (WkS.cons rfl (Wk.refl _) (WkS.nil))))))))) Pf Pf)
      ·intro s126 hw126; clear hm; have hm := ho126; clear q126 ho126
       refine then_normal ?_
       refine wpD_wkX hw126 (fun z126 => ?_)
       refine wpD_cond rfl (fun hc129 => ?_) (fun hc129 => ?_)
       ·replace hm := yes_t hc129 hm
        refine wpD_region ?_
        refine pu ?_
        refine pu ?_
        refine pL 3 ?_
        refine p_lit htab rfl rfl rfl rfl rfl rfl rfl rfl rfl rfl rfl rfl rfl rfl ?_
        refine p_eq (i := 57) (d' := .lst 1 (([x118.gName] : List ByteArray).map eStr) .full) rfl (Wk.lst0 (.cons (WkC.refl _) (.nil))) ?_
        obtain ⟨x130, q130, hm⟩ := yes_bind hm
        refine p_appR2 0 htab rfl rfl rfl rfl rfl rfl rfl rfl rfl rfl rfl rfl rfl rfl rfl rfl (app_bound q130) (app_map q130) (fun v130 => ?_)
        refine pu ?_
        refine ops_nil ?_
        refine block_normal ?_
        refine then_normal ?_
        refine wpD_region ?_
        refine pu ?_
        refine pu ?_
        refine ops_nil ?_
        refine then_normal ⟨_, lp_next hm, ?_⟩
        exact WkX.of v130 (WkS.perm (WkS.cons rfl (Wk.refl _) (WkS.cons rfl (Wk.refl _) (WkS.cons rfl (Wk.refl _) (WkS.cons rfl (Wk.refl _) (WkS.cons rfl (Wk.refl _) (WkS.cons rfl (Wk.refl _) (WkS.nil))))))) Pf Pf)
       ·replace hm := yes_f hc129 hm
        refine wpD_skip ?_
        refine block_normal ?_
        refine then_normal ?_
        refine wpD_region ?_
        refine pu ?_
        refine pu ?_
        refine ops_nil ?_
        refine then_normal ⟨_, lp_next hm, ?_⟩
        exact WkX.of z85 (WkS.perm (WkS.cons rfl (Wk.refl _) (WkS.cons rfl (Wk.refl _) (WkS.cons rfl (Wk.refl _) (WkS.cons rfl (Wk.refl _) (WkS.cons rfl (Wk.refl _) (WkS.cons rfl (Wk.refl _) (WkS.nil))))))) Pf Pf)
     ·replace hm := yes_f hc117 hm
      refine wpD_exit ?_
      refine then_exit ?_
      have e85 := lp_done hm; subst e85; clear hm; have hm := hq85
      refine then_exit ?_
      refine block_hit ?_
      have e68 := yes_eq hm; subst e68
      refine ⟨rfl, ?_⟩
      exact WkX.of z85 (WkS.perm (WkS.cons rfl (Wk.refl _) (WkS.nil)) Pf Pf)
  ·intro s68 hw68; clear hm; have hm := ho68; clear q68 ho68
   refine then_normal ?_
   refine wpD_wkX hw68 (fun z68 => ?_)
   refine wpD_sr ?_
   refine pu ?_
   obtain ⟨x132, q132, hm⟩ := yes_bind hm
   refine pG (change_row_r_ok y68 z68 x132 q132) Wl Pf Pf ?_
   rintro _ _ _ ⟨w131, rfl, rfl, rfl⟩
   refine pu ?_
   refine ops_nt ?_
   refine wpD_ret ?_
   have er133 := yes_eq hm; subst er133
   refine rP (t' := [(4, .v (SL w131))]) [0] [] 1 (wC wN) (lT lN) ?_
   exact ⟨w131, rfl, rfl, rfl⟩
noncomputable def change_Of_r (a0 : TApiProgram) (a1 : TApiProgram) : Option (TChangeDiff) :=
  ((change_funcs_r a0 a1).bind fun x5 => ((change_globals_r a0 a1).bind fun x11 => some (⟨x5, x11⟩ : TChangeDiff)))
set_option maxRecDepth 100000 in
set_option maxHeartbeats 2000000 in
theorem change_Of_r_ok (a0 : TApiProgram) (a1 : TApiProgram) (r : TChangeDiff) (h0 : change_Of_r a0 a1 = some r) : CallsD Try.prog 8 [eTApiProgram a0, eTApiProgram a1] [] [] (fun d h k => ∃ y0 y1, d = .agg [.v (SL y0), .v (SL y1)] ∧ h = [(0, Blk.row 1 (r.gFuncs.map eStr) (SL y0)), (0, Blk.row 1 (r.gGlobals.map eStr) (SL y1))] ∧ k = []) := by
  have hm := yes_of h0
  unfold change_Of_r at hm
  clear h0
  refine enterX htab Try.func8 rfl rfl rfl rfl rfl (fun C => ?_)
  refine wpD_sr ?_
  refine p_box rfl rfl rfl rfl rfl rfl rfl (fun b1 => ?_)
  refine p_box rfl rfl rfl rfl rfl rfl rfl (fun b2 => ?_)
  refine p_alloc htab rfl rfl rfl rfl rfl rfl rfl (fun b3 => ?_)
  refine ops_nt ?_
  refine wpD_seq ?_
  obtain ⟨x5, q5, hm⟩ := yes_bind hm
  refine wpD_drawsR 5 [] [(2, 1, x5.map eStr)] [[],[],[0,1],[],[]] [0,1,2,3,4] [[],[],[0,1],[],[],[0,1,2,3,4],[0,1,2,3,4,5],[0,1,2,3,4,5,6]] (by kernel_rfl) (by kernel_rfl) (by kernel_rfl) (by rfl) (by rfl) (by kernel_rfl) ?_
  apply Exists.intro
  apply Exists.intro
  refine ⟨.any, ?_⟩
  apply Exists.intro
  apply Exists.intro
  intro bs
  refine zr_eM rfl rfl (xm_load (d := eTApiProgram a0) 0 htab rfl rfl rfl rfl rfl) rfl rfl rfl rfl rfl rfl rfl ?_
  refine zr_eM rfl rfl (xm_load (d := eTApiProgram a1) 1 htab rfl rfl rfl rfl rfl) rfl rfl rfl rfl rfl rfl rfl ?_
  refine zr_callR rfl rfl (change_funcs_r_ok a0 a1 x5 q5) rfl rfl Wl rfl rfl rfl rfl rfl (by simp) (by simp) ?_
  refine zr_eM rfl rfl (xm_load (d := eTApiProgram a0) 0 htab rfl rfl rfl rfl rfl) rfl rfl rfl rfl rfl rfl rfl ?_
  refine zr_eM rfl rfl (xm_load (d := eTApiProgram a1) 1 htab rfl rfl rfl rfl rfl) rfl rfl rfl rfl rfl rfl rfl ?_
  refine zr_nil (fun e he => by simp [isR] at he; subst he; rfl) rfl (by simp only [List.map_cons, List.map_nil, List.nil_append, List.append_nil, List.cons_append]; exact rfl) (fun e he => by simp [isAl] at he) (fun hz => ?_)
  obtain ⟨w9, hw9⟩ := hz 2 rfl
  simp only [hw9]
  clear hz hw9
  obtain ⟨x11, q11, hm⟩ := yes_bind hm
  refine pG (change_globals_r_ok a0 a1 x11 q11) Wl Pf Pf ?_
  rintro _ _ _ ⟨w10, rfl, rfl, rfl⟩
  refine p_build (r := [.v (SL w9), .v (SL w10)]) htab rfl rfl rfl rfl rfl rfl rfl rfl rfl ?_
  refine pS3 (ds' := [.v (SL w9), .v (SL w10)]) ?_
  refine ops_nt ?_
  refine wpD_ret ?_
  have er12 := yes_eq hm; subst er12
  refine rP (t' := [(4, .ptr b3 0)]) [4,0,2] [] 2 (wC wN) (lC 2 lN) ?_
  exact ⟨w9, w10, rfl, rfl, rfl⟩
noncomputable def tree_Names_r (a0 : List TApiStmt) : Option (List ByteArray) :=
  ((tree_walk_r a0 (⟨[]⟩ : TTreeBagString)).bind fun x5 => ((tree_bag_string_all_r x5).bind fun x7 => some x7.1))
set_option maxRecDepth 100000 in
set_option maxHeartbeats 2000000 in
theorem tree_Names_r_ok (a0 : List TApiStmt) (r : List ByteArray) (h0 : tree_Names_r a0 = some r) : CallsD Try.prog 23 [.lst 7 (a0.map eTApiStmt) .no] [] [] (fun d h k => ∃ y0, d = .v (SL y0) ∧ h = [(0, Blk.row 1 (r.map eStr) (SL y0))] ∧ k = []) := by
  have hm := yes_of h0
  unfold tree_Names_r at hm
  clear h0
  refine enterX htab Try.func23 rfl rfl rfl rfl rfl (fun C => ?_)
  refine wpD_sr ?_
  refine pu ?_
  refine ops_n2 ?_
  refine p_alloc htab rfl rfl rfl rfl rfl rfl rfl (fun b1 => ?_)
  refine ops_n2 ?_
  refine pu ?_
  refine p_alloc htab rfl rfl rfl rfl rfl rfl rfl (fun b2 => ?_)
  refine pS1 (ds' := [.fn (.func 39) [] [.ptr b1 0]]) ?_
  refine ops_n2 ?_
  iterate 3 refine pu ?_
  refine o_rowC (off := 0) 1 0 rfl rfl (fun w3 => ?_)
  obtain ⟨x5, q5, hm⟩ := yes_bind hm
  refine pG (tree_walk_r_ok a0 (⟨[]⟩ : TTreeBagString) b2 69 b1 68 w3 x5 q5) Wl ((perm_at (j := 2) rfl).trans (List.Perm.cons _ ((perm_at (j := 1) rfl).trans (List.Perm.cons _ ((perm_at (j := 0) rfl).trans (List.Perm.cons _ Pf)))))) Pf ?_
  rintro _ _ _ ⟨w4, rfl, rfl, rfl⟩
  refine ops_n2 ?_
  obtain ⟨x7, q7, hm⟩ := yes_bind hm
  refine pG (tree_bag_string_all_r_ok x5 b1 68 w4 x7 q7) Wl ((perm_at (j := 1) rfl).trans (List.Perm.cons _ ((perm_at (j := 1) rfl).trans (List.Perm.cons _ Pf)))) Pf ?_
  rintro _ _ _ ⟨w6, rfl, rfl, rfl⟩
  refine pu ?_
  refine ops_nt ?_
  refine wpD_ret ?_
  have er8 := yes_eq hm; subst er8
  refine rP (t' := [(2, .v (SL w6))]) [1] [] 1 (wC wN) (lT lN) ?_
  exact ⟨w6, rfl, rfl, rfl⟩
noncomputable def change_Touched (a0 : TApiProgram) (a1 : TApiProgram) : Option (List ByteArray) :=
  ((change_Of_r a0 a1).bind fun x5 => ((slices_Concat_api_Func_api_Func_r ([a0.gFuncs, a1.gFuncs] : List (List TApiFunc))).bind fun x8 => (Option.bind (α := List ByteArray) (loopM (fun (s73 : Int × List ByteArray) => (bif (decide (s73.1 < (x8.length : Int))) then ((idx x8 s73.1).bind fun x105 => ((tree_Names_r x105.gBody).bind fun x108 => ((slices_ContainsFunc_string_string x5.gGlobals x108).bind fun x110 => (bif x110 then ((app 16 s73.2 ([x105.gName] : List ByteArray)).bind fun x112 => some (.next ((IntKind.i64.wrap (s73.1 + (1 : Int))), x112))) else some (.next ((IntKind.i64.wrap (s73.1 + (1 : Int))), s73.2)))))) else some (.done s73.2))) ((0 : Int), x5.gFuncs)) fun y61 => ((change_row_r y61).bind fun x114 => some x114))))
set_option maxRecDepth 100000 in
set_option maxHeartbeats 2000000 in
theorem change_Touched_ok (a0 : TApiProgram) (a1 : TApiProgram) (r : List ByteArray) (h0 : change_Touched a0 a1 = some r) : CallsD Try.prog 11 [eTApiProgram a0, eTApiProgram a1] [] [] (fun d h k => ∃ y0, d = .lst 1 (r.map eStr) (.cur y0) ∧ h = [] ∧ k = [(1, y0)]) := by
  have hm := yes_of h0
  unfold change_Touched at hm
  clear h0
  refine enterX htab Try.func11 rfl rfl rfl rfl rfl (fun C => ?_)
  refine wpD_sr ?_
  refine p_box rfl rfl rfl rfl rfl rfl rfl (fun b1 => ?_)
  refine p_box rfl rfl rfl rfl rfl rfl rfl (fun b2 => ?_)
  refine pu ?_
  refine ops_n2 ?_
  refine p_load (d := eTApiProgram a0) 0 htab rfl rfl rfl rfl rfl rfl rfl rfl ?_
  refine p_load (d := eTApiProgram a1) 1 htab rfl rfl rfl rfl rfl rfl rfl rfl ?_
  obtain ⟨x5, q5, hm⟩ := yes_bind hm
  refine pG (change_Of_r_ok a0 a1 x5 q5) Wl Pf Pf ?_
  rintro _ _ _ ⟨w3, w4, rfl, rfl, rfl⟩
  refine p_alloc htab rfl rfl rfl rfl rfl rfl rfl (fun b6 => ?_)
  refine pS4 (ds' := [.v (SL w3), .v (SL w4)]) ?_
  refine ops_n2 ?_
  refine pu ?_
  refine pL 4 ?_
  refine pu ?_
  refine ops_nt ?_
  refine wpD_seq ?_
  refine wpD_sr ?_
  refine pu ?_
  refine pL 2 ?_
  refine pu ?_
  refine pL 3 ?_
  refine p_lit htab rfl rfl rfl rfl rfl rfl rfl rfl rfl rfl rfl rfl rfl rfl ?_
  refine p_eq (i := 19) (d' := .lst 1 (([a0.gFuncs, a1.gFuncs] : List (List TApiFunc)).map (eList 5 eTApiFunc)) .full) rfl (Wk.lst0 (.cons (WkC.refl _) (.cons (WkC.refl _) (.nil)))) ?_
  obtain ⟨x8, q8, hm⟩ := yes_bind hm
  refine p_callG (slices_Concat_api_Func_api_Func_r_ok ([a0.gFuncs, a1.gFuncs] : List (List TApiFunc)) x8 q8) rfl rfl rfl rfl rfl (WkL.cons (Wk.no) Wl) Pf Pf ?_
  rintro _ _ _ ⟨w7, rfl, rfl, rfl⟩
  refine p_lenR 0 htab rfl rfl rfl rfl rfl rfl rfl rfl (by first | exact map_len | rfl) ?_
  refine pu ?_
  refine ops_nt ?_
  obtain ⟨y61, q61, ho61⟩ := yes_bind hm
  refine wpD_mid (Y := Z3) (fun z61 => (⟨[(6, .v (SL z61))], [(0, Blk.row 1 (y61.map eStr) (SL z61))], []⟩ : S)) ?_ ?_
  ·clear hm; have hm := yes_of q61
   refine wpD_block ?_
   refine wpD_wkX (Y := Unit) (S1 := fun _ => (⟨[(5, .ptr b6 0), (6, .v (SL w3)), (20, .lst 5 (x8.map eTApiFunc) (.cur (SL w7))), (21, .v (.int .i64 (x8.length : Int))), (22, .v (.int .i64 (0 : Int)))], [(0, Blk.row 1 (x5.gFuncs.map eStr) (SL w3)), (b1, Blk.cells [.lst 4 (a0.gGlobals.map eTApiGlobal) .no, .lst 5 (a0.gFuncs.map eTApiFunc) .no] 25), (b2, Blk.cells [.lst 4 (a1.gGlobals.map eTApiGlobal) .no, .lst 5 (a1.gFuncs.map eTApiFunc) .no] 25), (b6, Blk.cells [.v (SL w3), .lst 1 (x5.gGlobals.map eStr) (.cur (SL w4))] 30)], [(5, (SL w7)), (1, (SL w4))]⟩ : S)) ?_ (fun _ => ?_)
   ·skip
    refine WkX.wk (WkS.frz 0 rfl rfl) ?_
    refine WkX.wk (WkS.tld 20 0 rfl rfl) ?_
    refine WkX.wk (WkS.drop 0 rfl) ?_
    refine WkX.wk (WkS.frz 1 rfl rfl) ?_
    refine WkX.wk (WkS.tldC (off := 1) 4 1 rfl rfl rfl rfl) ?_
    refine WkX.wk (WkS.drop 1 rfl) ?_
    exact WkX.of () (WkS.perm (WkS.cons rfl (Wk.refl _) (WkS.cons rfl (Wk.refl _) (WkS.cons rfl (Wk.refl _) (WkS.cons rfl (Wk.refl _) (WkS.cons rfl (Wk.refl _) (WkS.nil)))))) Pf ((perm_at (j := 1) rfl).trans (List.Perm.cons _ ((perm_at (j := 0) rfl).trans (List.Perm.cons _ Pf)))))
   ·skip
    obtain ⟨u73, hl73, hq73⟩ := yes_m hm
    refine loop_M (Y := Z3) hl73 (fun s73 z73 => (⟨[(5, .ptr b6 0), (6, .v (SL z73)), (20, .lst 5 (x8.map eTApiFunc) (.cur (SL w7))), (21, .v (.int .i64 (x8.length : Int))), (22, .v (.int .i64 s73.1))], [(0, Blk.row 1 (s73.2.map eStr) (SL z73)), (b6, Blk.cells [.any, .lst 1 (x5.gGlobals.map eStr) (.cur (SL w4))] 30)], [(5, (SL w7)), (1, (SL w4))]⟩ : S)) ?_ ?_
    ·skip
     refine WkX.wk (WkS.bl3 (ds' := [.any, .lst 1 (x5.gGlobals.map eStr) (.cur (SL w4))]) (WkR.cons (WkC.any) rfl (rC WkR.nil))) ?_
     exact WkX.of w3 (WkS.perm (WkS.cons rfl (Wk.refl _) (WkS.cons rfl (Wk.refl _) (WkS.cons rfl (Wk.refl _) (WkS.cons rfl (Wk.refl _) (WkS.cons rfl (Wk.refl _) (WkS.nil)))))) ((perm_at (j := 0) rfl).trans (List.Perm.cons _ ((perm_at (j := 2) rfl).trans (List.Perm.cons _ Pf)))) Pf)
    ·intro G73 s73 z73 hm
     refine wpD_sr ?_
     refine pu ?_
     refine ops_nt ?_
     refine wpD_seq ?_
     refine wpD_cond rfl (fun hc104 => ?_) (fun hc104 => ?_)
     ·replace hm := yes_t hc104 hm
      refine wpD_skip ?_
      refine then_normal ?_
      refine wpD_seq ?_
      refine wpD_block ?_
      refine wpD_sr ?_
      obtain ⟨x105, q105, hm⟩ := yes_bind hm
      refine p_elem htab rfl rfl rfl rfl rfl rfl rfl rfl rfl rfl (idx_nonneg q105) (idx_map q105) ?_
      refine p_loadEl (d := eTApiFunc x105) htab rfl rfl rfl rfl rfl rfl rfl rfl ?_
      refine p_alloc htab rfl rfl rfl rfl rfl rfl rfl (fun b106 => ?_)
      refine pS2 (ds' := [.v (.string x105.gName), .lst 2 (x105.gParams.map eTApiVar) .no, .lst 2 (x105.gLocals.map eTApiVar) .no, .lst 7 (x105.gBody.map eTApiStmt) .no, .v (.int .i64 x105.gAt)]) ?_
      refine ops_n2 ?_
      refine pu ?_
      refine pL 2 ?_
      obtain ⟨x108, q108, hm⟩ := yes_bind hm
      refine pG (tree_Names_r_ok x105.gBody x108 q108) Wl Pf Pf ?_
      rintro _ _ _ ⟨w107, rfl, rfl, rfl⟩
      refine p_alloc htab rfl rfl rfl rfl rfl rfl rfl (fun b109 => ?_)
      refine pS4 (ds' := [.v (SL w107)]) ?_
      refine ops_n2 ?_
      refine pu ?_
      refine pL 2 ?_
      refine pu ?_
      refine o_norm (WkS.frz 0 rfl rfl) ?_
      refine o_norm (WkS.tld 28 0 rfl rfl) ?_
      refine o_norm (WkS.tldC (off := 0) 4 0 rfl rfl rfl rfl) ?_
      refine o_norm (WkS.drop 0 rfl) ?_
      obtain ⟨x110, q110, hm⟩ := yes_bind hm
      refine p_callG (slices_ContainsFunc_string_string_ok x5.gGlobals x108 b109 28 (.cur (SL w107)) x110 q110) rfl rfl rfl rfl rfl (WkL.cons (Wk.no) (WkL.cons (Wk.refl _) Wl)) ((perm_at (j := 3) rfl).trans (List.Perm.cons _ Pf)) Pf ?_
      rintro _ _ _ ⟨rfl, rfl, rfl⟩
      refine ops_nt ?_
      refine wpD_cond rfl (fun hc111 => ?_) (fun hc111 => ?_)
      ·replace hm := yes_t hc111 hm
       refine wpD_region ?_
       refine pu ?_
       refine pu ?_
       refine pL 3 ?_
       refine p_lit htab rfl rfl rfl rfl rfl rfl rfl rfl rfl rfl rfl rfl rfl rfl ?_
       refine p_eq (i := 36) (d' := .lst 1 (([x105.gName] : List ByteArray).map eStr) .full) rfl (Wk.lst0 (.cons (WkC.refl _) (.nil))) ?_
       obtain ⟨x112, q112, hm⟩ := yes_bind hm
       refine p_appR2 1 htab rfl rfl rfl rfl rfl rfl rfl rfl rfl rfl rfl rfl rfl rfl rfl rfl (app_bound q112) (app_map q112) (fun v112 => ?_)
       refine pu ?_
       refine ops_nil ?_
       refine block_normal ?_
       refine then_normal ?_
       refine wpD_region ?_
       refine pu ?_
       refine pu ?_
       refine ops_nil ?_
       refine then_normal ⟨_, lp_next hm, ?_⟩
       exact WkX.of v112 (WkS.perm (WkS.cons rfl (Wk.refl _) (WkS.cons rfl (Wk.refl _) (WkS.cons rfl (Wk.refl _) (WkS.cons rfl (Wk.refl _) (WkS.cons rfl (Wk.refl _) (WkS.nil)))))) ((perm_at (j := 1) rfl).trans (List.Perm.cons _ ((perm_at (j := 1) rfl).trans (List.Perm.cons _ Pf)))) ((perm_at (j := 1) rfl).trans (List.Perm.cons _ ((perm_at (j := 1) rfl).trans (List.Perm.cons _ Pf)))))
      ·replace hm := yes_f hc111 hm
       refine wpD_skip ?_
       refine block_normal ?_
       refine then_normal ?_
       refine wpD_region ?_
       refine pu ?_
       refine pu ?_
       refine ops_nil ?_
       refine then_normal ⟨_, lp_next hm, ?_⟩
       exact WkX.of z73 (WkS.perm (WkS.cons rfl (Wk.refl _) (WkS.cons rfl (Wk.refl _) (WkS.cons rfl (Wk.refl _) (WkS.cons rfl (Wk.refl _) (WkS.cons rfl (Wk.refl _) (WkS.nil)))))) ((perm_at (j := 1) rfl).trans (List.Perm.cons _ ((perm_at (j := 1) rfl).trans (List.Perm.cons _ Pf)))) ((perm_at (j := 1) rfl).trans (List.Perm.cons _ ((perm_at (j := 1) rfl).trans (List.Perm.cons _ Pf)))))
     ·replace hm := yes_f hc104 hm
      refine wpD_exit ?_
      refine then_exit ?_
      have e73 := lp_done hm; subst e73; clear hm; have hm := hq73
      refine then_exit ?_
      refine block_hit ?_
      have e61 := yes_eq hm; subst e61
      refine ⟨rfl, ?_⟩
      exact WkX.of z73 (WkS.perm (WkS.cons rfl (Wk.refl _) (WkS.nil)) Pf Pf)
  ·intro s61 hw61; clear hm; have hm := ho61; clear q61 ho61
   refine then_normal ?_
   refine wpD_wkX hw61 (fun z61 => ?_)
   refine wpD_sr ?_
   refine pu ?_
   obtain ⟨x114, q114, hm⟩ := yes_bind hm
   refine pG (change_row_r_ok y61 z61 x114 q114) Wl Pf Pf ?_
   rintro _ _ _ ⟨w113, rfl, rfl, rfl⟩
   refine pu ?_
   refine ops_nt ?_
   refine wpD_ret ?_
   have er115 := yes_eq hm; subst er115
   refine retX.wk (WkS.frz 0 rfl rfl) ?_
   refine retX.wk (WkS.tld 4 0 rfl rfl) ?_
   refine retX.wk (WkS.tld 40 0 rfl rfl) ?_
   refine retX.wk (WkS.drop 0 rfl) ?_
   refine rP (t' := [(4, .lst 1 (x114.map eStr) (.cur (SL w113)))]) [] [0] 0 (wC wN) (lT lN) ?_
   exact ⟨(SL w113), rfl, rfl, rfl⟩
noncomputable def r18_all (a0 : TApiProgram) (a1 : Bool) : Option (List ByteArray) :=
  (bif a1 then (Option.bind (α := List ByteArray) (loopM (fun (s46 : List ByteArray × Int) => (bif (decide (s46.2 < (a0.gFuncs.length : Int))) then ((idx a0.gFuncs s46.2).bind fun x57 => ((app 16 s46.1 ([x57.gName] : List ByteArray)).bind fun x58 => some (.next (x58, (IntKind.i64.wrap (s46.2 + (1 : Int))))))) else some (.done s46.1))) (([] : List ByteArray), (0 : Int))) fun y45 => some y45) else (Option.bind (α := List ByteArray) (loopM (fun (s75 : List ByteArray × Int) => (bif (decide (s75.2 < (a0.gGlobals.length : Int))) then ((idx a0.gGlobals s75.2).bind fun x86 => ((app 16 s75.1 ([x86.gName] : List ByteArray)).bind fun x87 => some (.next (x87, (IntKind.i64.wrap (s75.2 + (1 : Int))))))) else some (.done s75.1))) (([] : List ByteArray), (0 : Int))) fun y74 => some y74))
set_option maxRecDepth 100000 in
set_option maxHeartbeats 2000000 in
theorem r18_all_ok (a0 : TApiProgram) (a1 : Bool) (r : List ByteArray) (h0 : r18_all a0 a1 = some r) : CallsD Try.prog 19 [eTApiProgram a0, .v (.bool a1)] [] [] (fun d h k => ∃ y0, d = .lst 1 (r.map eStr) (.cur y0) ∧ h = [] ∧ k = [(1, y0)]) := by
  have hm := yes_of h0
  unfold r18_all at hm
  clear h0
  refine enterX htab Try.func19 rfl rfl rfl rfl rfl (fun C => ?_)
  refine wpD_sr ?_
  refine p_box rfl rfl rfl rfl rfl rfl rfl (fun b1 => ?_)
  refine pu ?_
  refine ops_n2 ?_
  refine pu ?_
  refine ops_nt ?_
  refine wpD_seq ?_
  refine wpD_sr ?_
  refine pu ?_
  refine ops_nt ?_
  refine wpD_cond rfl (fun hc31 => ?_) (fun hc31 => ?_)
  ·replace hm := yes_t hc31 hm
   refine wpD_seq ?_
   refine wpD_sr ?_
   refine pu ?_
   refine ops_nt ?_
   obtain ⟨y45, q45, ho45⟩ := yes_bind hm
   refine wpD_mid (Y := Value) (fun z45 => (⟨[(5, .lst 1 (y45.map eStr) (.cur z45))], [], [(1, z45)]⟩ : S)) ?_ ?_
   ·clear hm; have hm := yes_of q45
    refine wpD_block ?_
    obtain ⟨u46, hl46, hq46⟩ := yes_m hm
    refine loop_M (Y := Value) hl46 (fun s46 z46 => (⟨[(2, .ptr b1 0), (5, .lst 1 (s46.1.map eStr) (.cur z46)), (6, .v (.int .i64 s46.2))], [(b1, Blk.cells [.lst 4 (a0.gGlobals.map eTApiGlobal) .no, .lst 5 (a0.gFuncs.map eTApiFunc) .no] 25)], [(1, z46)]⟩ : S)) ?_ ?_
    ·skip
     refine WkX.tokN (i := 5) 1 rfl (fun w55 => ?_)
     exact WkX.of w55 (WkS.perm (WkS.cons rfl (Wk.refl _) (WkS.cons rfl (Wk.refl _) (WkS.cons rfl (Wk.refl _) (WkS.nil)))) Pf Pf)
    ·intro G46 s46 z46 hm
     refine wpD_seq ?_
     refine wpD_sr ?_
     refine pu ?_
     refine pu ?_
     refine pL 0 ?_
     refine p_lenL htab rfl rfl rfl rfl rfl rfl rfl (by first | exact map_len | rfl) ?_
     refine pu ?_
     refine ops_nt ?_
     refine wpD_cond rfl (fun hc56 => ?_) (fun hc56 => ?_)
     ·replace hm := yes_t hc56 hm
      refine wpD_skip ?_
      refine then_normal ?_
      refine wpD_seq ?_
      refine wpD_block ?_
      refine wpD_region ?_
      refine pu ?_
      refine pu ?_
      refine pL 0 ?_
      refine pu ?_
      obtain ⟨x57, q57, hm⟩ := yes_bind hm
      refine p_elem htab rfl rfl rfl rfl rfl rfl rfl rfl rfl rfl (idx_nonneg q57) (idx_map q57) ?_
      refine pu ?_
      refine p_loadEl htab rfl rfl rfl rfl rfl rfl rfl rfl ?_
      refine p_lit htab rfl rfl rfl rfl rfl rfl rfl rfl rfl rfl rfl rfl rfl rfl ?_
      refine p_eq (i := 23) (d' := .lst 1 (([x57.gName] : List ByteArray).map eStr) .full) rfl (Wk.lst0 (.cons (WkC.refl _) (.nil))) ?_
      obtain ⟨x58, q58, hm⟩ := yes_bind hm
      refine p_appC 0 htab rfl rfl rfl rfl rfl rfl rfl rfl rfl rfl rfl rfl rfl rfl rfl rfl rfl (app_bound q58) (fun v58 => ?_)
      refine p_mapD (i := 24) q58 rfl ?_
      refine pu ?_
      refine ops_nil ?_
      refine block_normal ?_
      refine then_normal ?_
      refine wpD_region ?_
      iterate 3 refine pu ?_
      refine ops_nil ?_
      refine then_normal ⟨_, lp_next hm, ?_⟩
      exact WkX.of v58 (WkS.perm (WkS.cons rfl (Wk.refl _) (WkS.cons rfl (Wk.refl _) (WkS.cons rfl (Wk.refl _) (WkS.nil)))) Pf Pf)
     ·replace hm := yes_f hc56 hm
      refine wpD_exit ?_
      refine then_exit ?_
      have e46 := lp_done hm; subst e46; clear hm; have hm := hq46
      refine then_exit ?_
      refine block_hit ?_
      have e45 := yes_eq hm; subst e45
      refine ⟨rfl, ?_⟩
      exact WkX.of z46 (WkS.perm (WkS.cons rfl (Wk.refl _) (WkS.nil)) Pf Pf)
   ·intro s45 hw45; clear hm; have hm := ho45; clear q45 ho45
    refine then_normal ?_
    refine wpD_wkX hw45 (fun z45 => ?_)
    refine wpD_sr ?_
    refine pu ?_
    refine pu ?_
    refine ops_nt ?_
    refine wpD_ret ?_
    refine then_ret ?_
    have er59 := yes_eq hm; subst er59
    refine rP (t' := [(4, .lst 1 (y45.map eStr) (.cur z45))]) [] [0] 0 (wC wN) (lT lN) ?_
    exact ⟨z45, rfl, rfl, rfl⟩
  ·replace hm := yes_f hc31 hm
   refine wpD_skip ?_
   refine then_normal ?_
   refine wpD_seq ?_
   refine wpD_sr ?_
   refine pu ?_
   refine ops_nt ?_
   obtain ⟨y74, q74, ho74⟩ := yes_bind hm
   refine wpD_mid (Y := Value) (fun z74 => (⟨[(5, .lst 1 (y74.map eStr) (.cur z74))], [], [(1, z74)]⟩ : S)) ?_ ?_
   ·clear hm; have hm := yes_of q74
    refine wpD_block ?_
    obtain ⟨u75, hl75, hq75⟩ := yes_m hm
    refine loop_M (Y := Value) hl75 (fun s75 z75 => (⟨[(2, .ptr b1 0), (5, .lst 1 (s75.1.map eStr) (.cur z75)), (7, .v (.int .i64 s75.2))], [(b1, Blk.cells [.lst 4 (a0.gGlobals.map eTApiGlobal) .no, .lst 5 (a0.gFuncs.map eTApiFunc) .no] 25)], [(1, z75)]⟩ : S)) ?_ ?_
    ·skip
     refine WkX.tokN (i := 5) 1 rfl (fun w84 => ?_)
     exact WkX.of w84 (WkS.perm (WkS.cons rfl (Wk.refl _) (WkS.cons rfl (Wk.refl _) (WkS.cons rfl (Wk.refl _) (WkS.nil)))) Pf Pf)
    ·intro G75 s75 z75 hm
     refine wpD_seq ?_
     refine wpD_sr ?_
     refine pu ?_
     refine pu ?_
     refine pL 0 ?_
     refine p_lenL htab rfl rfl rfl rfl rfl rfl rfl (by first | exact map_len | rfl) ?_
     refine pu ?_
     refine ops_nt ?_
     refine wpD_cond rfl (fun hc85 => ?_) (fun hc85 => ?_)
     ·replace hm := yes_t hc85 hm
      refine wpD_skip ?_
      refine then_normal ?_
      refine wpD_seq ?_
      refine wpD_block ?_
      refine wpD_region ?_
      refine pu ?_
      refine pu ?_
      refine pL 0 ?_
      refine pu ?_
      obtain ⟨x86, q86, hm⟩ := yes_bind hm
      refine p_elem htab rfl rfl rfl rfl rfl rfl rfl rfl rfl rfl (idx_nonneg q86) (idx_map q86) ?_
      refine pu ?_
      refine p_loadEl htab rfl rfl rfl rfl rfl rfl rfl rfl ?_
      refine p_lit htab rfl rfl rfl rfl rfl rfl rfl rfl rfl rfl rfl rfl rfl rfl ?_
      refine p_eq (i := 40) (d' := .lst 1 (([x86.gName] : List ByteArray).map eStr) .full) rfl (Wk.lst0 (.cons (WkC.refl _) (.nil))) ?_
      obtain ⟨x87, q87, hm⟩ := yes_bind hm
      refine p_appC 0 htab rfl rfl rfl rfl rfl rfl rfl rfl rfl rfl rfl rfl rfl rfl rfl rfl rfl (app_bound q87) (fun v87 => ?_)
      refine p_mapD (i := 41) q87 rfl ?_
      refine pu ?_
      refine ops_nil ?_
      refine block_normal ?_
      refine then_normal ?_
      refine wpD_region ?_
      iterate 3 refine pu ?_
      refine ops_nil ?_
      refine then_normal ⟨_, lp_next hm, ?_⟩
      exact WkX.of v87 (WkS.perm (WkS.cons rfl (Wk.refl _) (WkS.cons rfl (Wk.refl _) (WkS.cons rfl (Wk.refl _) (WkS.nil)))) Pf Pf)
     ·replace hm := yes_f hc85 hm
      refine wpD_exit ?_
      refine then_exit ?_
      have e75 := lp_done hm; subst e75; clear hm; have hm := hq75
      refine then_exit ?_
      refine block_hit ?_
      have e74 := yes_eq hm; subst e74
      refine ⟨rfl, ?_⟩
      exact WkX.of z75 (WkS.perm (WkS.cons rfl (Wk.refl _) (WkS.nil)) Pf Pf)
   ·intro s74 hw74; clear hm; have hm := ho74; clear q74 ho74
    refine then_normal ?_
    refine wpD_wkX hw74 (fun z74 => ?_)
    refine wpD_sr ?_
    refine pu ?_
    refine pu ?_
    refine ops_nt ?_
    refine wpD_ret ?_
    have er88 := yes_eq hm; subst er88
    refine rP (t' := [(4, .lst 1 (y74.map eStr) (.cur z74))]) [] [0] 0 (wC wN) (lT lN) ?_
    exact ⟨z74, rfl, rfl, rfl⟩
noncomputable def r18_Func (a0 : TApiProgram) (a1 : ByteArray) : Option (Int) :=
  (Option.bind (α := (Unit) ⊕ (Int)) (loopM (fun (s16 : Int) => (bif (decide (s16 < (a0.gFuncs.length : Int))) then ((idx a0.gFuncs s16).bind fun x26 => (bif (decide (x26.gName = a1)) then some (.done (.inr s16)) else some (.next (IntKind.i64.wrap (s16 + (1 : Int)))))) else some (.done (.inl ())))) (0 : Int)) (Sum.elim (fun y15 => some (-1 : Int)) (fun r => some r)))
set_option maxRecDepth 100000 in
set_option maxHeartbeats 2000000 in
theorem r18_Func_ok (a0 : TApiProgram) (a1 : ByteArray) (r : Int) (h0 : r18_Func a0 a1 = some r) : CallsD Try.prog 32 [eTApiProgram a0, .v (.string a1)] [] [] (fun d h k => d = .v (.int .i64 r) ∧ h = [] ∧ k = []) := by
  have hm := yes_of h0
  unfold r18_Func at hm
  clear h0
  refine enterX htab Try.func32 rfl rfl rfl rfl rfl (fun C => ?_)
  refine wpD_sr ?_
  refine p_box rfl rfl rfl rfl rfl rfl rfl (fun b1 => ?_)
  refine pu ?_
  refine ops_nt ?_
  refine wpD_seq ?_
  refine wpD_sr ?_
  refine pu ?_
  refine ops_nt ?_
  obtain ⟨x15, q15, ho15⟩ := yes_bind hm
  refine wpD_midX (τ := Unit) (Y := Unit) (fun y15 z15 => (⟨[], [], []⟩ : S)) x15 ?_ ?_
  ·clear hm; have hm := yes_of q15
   refine wpD_block ?_
   obtain ⟨u16, hl16, hq16⟩ := yes_m hm
   refine loop_M (Y := Unit) hl16 (fun s16 z16 => (⟨[(1, .v (.string a1)), (2, .ptr b1 0), (5, .v (.int .i64 s16))], [(b1, Blk.cells [.lst 4 (a0.gGlobals.map eTApiGlobal) .no, .lst 5 (a0.gFuncs.map eTApiFunc) .no] 25)], []⟩ : S)) ?_ ?_
   ·skip
    exact WkX.of () (WkS.perm (WkS.cons rfl (Wk.refl _) (WkS.cons rfl (Wk.refl _) (WkS.cons rfl (Wk.refl _) (WkS.nil)))) Pf Pf)
   ·intro G16 s16 z16 hm
    refine wpD_seq ?_
    refine wpD_sr ?_
    refine pu ?_
    refine pu ?_
    refine pL 0 ?_
    refine p_lenL htab rfl rfl rfl rfl rfl rfl rfl (by first | exact map_len | rfl) ?_
    refine pu ?_
    refine ops_nt ?_
    refine wpD_cond rfl (fun hc25 => ?_) (fun hc25 => ?_)
    ·replace hm := yes_t hc25 hm
     refine wpD_skip ?_
     refine then_normal ?_
     refine wpD_seq ?_
     refine wpD_block ?_
     refine wpD_sr ?_
     refine pu ?_
     refine pL 0 ?_
     refine pu ?_
     obtain ⟨x26, q26, hm⟩ := yes_bind hm
     refine p_elem htab rfl rfl rfl rfl rfl rfl rfl rfl rfl rfl (idx_nonneg q26) (idx_map q26) ?_
     refine pu ?_
     refine p_loadEl htab rfl rfl rfl rfl rfl rfl rfl rfl ?_
     refine pu ?_
     refine pu ?_
     refine ops_nt ?_
     refine wpD_cond rfl (fun hc27 => ?_) (fun hc27 => ?_)
     ·replace hm := yes_t hc27 hm
      refine wpD_sr ?_
      refine pu ?_
      refine pu ?_
      refine ops_nt ?_
      refine wpD_ret ?_
      refine block_ret ?_
      refine then_ret ?_
      have e16 := lp_done hm; subst e16; clear hm; have hm := hq16
      refine then_ret ?_
      refine block_ret ?_
      have e15 := yes_eq hm; subst e15; refine midX_inr ?_; clear hm; have hm := ho15; simp only [Sum.elim_inr] at hm
      refine then_ret ?_
      have er28 := yes_eq hm; subst er28
      refine rP (t' := [(4, .v (.int .i64 s16))]) [] [] 0 (wC wN) (lT lN) ?_
      exact ⟨rfl, rfl, rfl⟩
     ·replace hm := yes_f hc27 hm
      refine wpD_skip ?_
      refine block_normal ?_
      refine then_normal ?_
      refine wpD_region ?_
      iterate 3 refine pu ?_
      refine ops_nil ?_
      refine then_normal ⟨_, lp_next hm, ?_⟩
      exact WkX.of () (WkS.perm (WkS.cons rfl (Wk.refl _) (WkS.cons rfl (Wk.refl _) (WkS.cons rfl (Wk.refl _) (WkS.nil)))) Pf Pf)
    ·replace hm := yes_f hc25 hm
     refine wpD_exit ?_
     refine then_exit ?_
     have e16 := lp_done hm; subst e16; clear hm; have hm := hq16
     refine then_exit ?_
     refine block_hit ?_
     have e15 := yes_eq hm; subst e15
     refine midX_inl ?_
     exact WkX.of () (WkS.perm (WkS.nil) Pf Pf)
  ·intro y15 s15 hx15 hw15; subst hx15; clear hm; have hm := ho15; simp only [Sum.elim_inl] at hm; clear q15 ho15
   refine then_normal ?_
   refine wpD_wkX hw15 (fun z15 => ?_)
   refine wpD_sr ?_
   refine pu ?_
   refine ops_nt ?_
   refine wpD_ret ?_
   have er29 := yes_eq hm; subst er29
   refine rP (t' := [(4, .v (.int .i64 (-1 : Int)))]) [] [] 0 (wC wN) (lT lN) ?_
   exact ⟨rfl, rfl, rfl⟩
noncomputable def r11_vars (a0 : List TApiVar) (a1 : List TApiVar) : Option (Bool) :=
  (bif ((a0.length : Int) != (a1.length : Int)) then some false else (Option.bind (α := (Unit) ⊕ (Bool)) (loopM (fun (s21 : Int) => (bif (decide (s21 < (a0.length : Int))) then ((idx a0 s21).bind fun x33 => ((idx a1 s21).bind fun x34 => (bif (!(decide (x33.gName = x34.gName) && (x33.gPtr == x34.gPtr && true))) then some (.done (.inr false)) else some (.next (IntKind.i64.wrap (s21 + (1 : Int))))))) else some (.done (.inl ())))) (0 : Int)) (Sum.elim (fun y20 => some true) (fun r => some r))))
set_option maxRecDepth 100000 in
set_option maxHeartbeats 2000000 in
theorem r11_vars_ok (a0 : List TApiVar) (a1 : List TApiVar) (r : Bool) (h0 : r11_vars a0 a1 = some r) : CallsD Try.prog 61 [.lst 2 (a0.map eTApiVar) .no, .lst 2 (a1.map eTApiVar) .no] [] [] (fun d h k => d = .v (.bool r) ∧ h = [] ∧ k = []) := by
  have hm := yes_of h0
  unfold r11_vars at hm
  clear h0
  refine enterX htab Try.func61 rfl rfl rfl rfl rfl (fun C => ?_)
  refine wpD_sr ?_
  refine pu ?_
  refine ops_nt ?_
  refine wpD_seq ?_
  refine wpD_sr ?_
  refine pu ?_
  refine p_lenL htab rfl rfl rfl rfl rfl rfl rfl (by first | exact map_len | rfl) ?_
  refine pu ?_
  refine p_lenL htab rfl rfl rfl rfl rfl rfl rfl (by first | exact map_len | rfl) ?_
  refine pu ?_
  refine ops_nt ?_
  refine wpD_cond rfl (fun hc2 => ?_) (fun hc2 => ?_)
  ·replace hm := yes_t hc2 hm
   refine wpD_sr ?_
   refine pu ?_
   refine ops_nt ?_
   refine wpD_ret ?_
   refine then_ret ?_
   have er3 := yes_eq hm; subst er3
   refine rP (t' := [(4, .v (.bool false))]) [] [] 0 (wC wN) (lT lN) ?_
   exact ⟨rfl, rfl, rfl⟩
  ·replace hm := yes_f hc2 hm
   refine wpD_skip ?_
   refine then_normal ?_
   refine wpD_seq ?_
   refine wpD_sr ?_
   refine pu ?_
   refine ops_nt ?_
   obtain ⟨x20, q20, ho20⟩ := yes_bind hm
   refine wpD_midX (τ := Unit) (Y := Unit) (fun y20 z20 => (⟨[], [], []⟩ : S)) x20 ?_ ?_
   ·clear hm; have hm := yes_of q20
    refine wpD_block ?_
    obtain ⟨u21, hl21, hq21⟩ := yes_m hm
    refine loop_M (Y := Unit) hl21 (fun s21 z21 => (⟨[(0, .lst 2 (a0.map eTApiVar) .no), (1, .lst 2 (a1.map eTApiVar) .no), (5, .v (.int .i64 s21))], [], []⟩ : S)) ?_ ?_
    ·skip
     exact WkX.of () (WkS.perm (WkS.cons rfl (Wk.refl _) (WkS.cons rfl (Wk.refl _) (WkS.cons rfl (Wk.refl _) (WkS.nil)))) Pf Pf)
    ·intro G21 s21 z21 hm
     refine wpD_seq ?_
     refine wpD_sr ?_
     refine pu ?_
     refine pu ?_
     refine p_lenL htab rfl rfl rfl rfl rfl rfl rfl (by first | exact map_len | rfl) ?_
     refine pu ?_
     refine ops_nt ?_
     refine wpD_cond rfl (fun hc32 => ?_) (fun hc32 => ?_)
     ·replace hm := yes_t hc32 hm
      refine wpD_skip ?_
      refine then_normal ?_
      refine wpD_seq ?_
      refine wpD_block ?_
      refine wpD_seq ?_
      obtain ⟨x33, q33, hm⟩ := yes_bind hm
      obtain ⟨x34, q34, hm⟩ := yes_bind hm
      refine wpD_draws 8 [] [[],[],[0],[0,2],[],[],[4],[4,6]] [0,2,3,4,6,7] [[],[],[0,1],[0,1,2],[],[],[4,5],[4,5,6],[0,1,2,3,4,5,6,7]] (by kernel_rfl) (by kernel_rfl) (by kernel_rfl) (by rfl) (by rfl) (by kernel_rfl) ?_
      iterate 6 apply Exists.intro
      intro bs
      refine zep ?_
      refine zqp ?_
      refine z_e rfl rfl (x_elem htab rfl rfl rfl rfl rfl rfl rfl (idx_nonneg q33) (idx_map q33)) rfl rfl rfl rfl rfl rfl ?_
      refine z_eM rfl rfl (xm_loadEl (d := eTApiVar x33) htab rfl rfl rfl rfl rfl) rfl rfl rfl rfl rfl rfl ?_
      refine zep ?_
      refine zqp ?_
      refine z_e rfl rfl (x_elem htab rfl rfl rfl rfl rfl rfl rfl (idx_nonneg q34) (idx_map q34)) rfl rfl rfl rfl rfl rfl ?_
      refine z_eM rfl rfl (xm_loadEl (d := eTApiVar x34) htab rfl rfl rfl rfl rfl) rfl rfl rfl rfl rfl rfl ?_
      refine z_nil rfl rfl (fun e he => by simp [isAl] at he) ?_
      refine p_eqS htab rfl rfl rfl rfl rfl eqt43 rfl rfl rfl rfl rfl ?_
      refine ops_nt ?_
      refine wpD_cond rfl (fun hc35 => ?_) (fun hc35 => ?_)
      ·replace hm := yes_t hc35 hm
       refine wpD_sr ?_
       refine pu ?_
       refine ops_nt ?_
       refine wpD_ret ?_
       refine block_ret ?_
       refine then_ret ?_
       have e21 := lp_done hm; subst e21; clear hm; have hm := hq21
       refine then_ret ?_
       refine block_ret ?_
       have e20 := yes_eq hm; subst e20; refine midX_inr ?_; clear hm; have hm := ho20; simp only [Sum.elim_inr] at hm
       refine then_ret ?_
       have er36 := yes_eq hm; subst er36
       refine rP (t' := [(4, .v (.bool false))]) [] [] 0 (wC wN) (lT lN) ?_
       exact ⟨rfl, rfl, rfl⟩
      ·replace hm := yes_f hc35 hm
       refine wpD_skip ?_
       refine block_normal ?_
       refine then_normal ?_
       refine wpD_region ?_
       iterate 3 refine pu ?_
       refine ops_nil ?_
       refine then_normal ⟨_, lp_next hm, ?_⟩
       exact WkX.of () (WkS.perm (WkS.cons rfl (Wk.refl _) (WkS.cons rfl (Wk.refl _) (WkS.cons rfl (Wk.refl _) (WkS.nil)))) Pf Pf)
     ·replace hm := yes_f hc32 hm
      refine wpD_exit ?_
      refine then_exit ?_
      have e21 := lp_done hm; subst e21; clear hm; have hm := hq21
      refine then_exit ?_
      refine block_hit ?_
      have e20 := yes_eq hm; subst e20
      refine midX_inl ?_
      exact WkX.of () (WkS.perm (WkS.nil) Pf Pf)
   ·intro y20 s20 hx20 hw20; subst hx20; clear hm; have hm := ho20; simp only [Sum.elim_inl] at hm; clear q20 ho20
    refine then_normal ?_
    refine wpD_wkX hw20 (fun z20 => ?_)
    refine wpD_sr ?_
    refine pu ?_
    refine ops_nt ?_
    refine wpD_ret ?_
    have er37 := yes_eq hm; subst er37
    refine rP (t' := [(4, .v (.bool true))]) [] [] 0 (wC wN) (lT lN) ?_
    exact ⟨rfl, rfl, rfl⟩
abbrev nlCh2_1 : List (List Nat) := [[],[],[0],[0,2],[0,2,3],[],[],[5],[5,7],[5,7,8],[0,2,3,5,7,8],[0,2,3,5,7,8],[0,2,3,5,7,8],[0,2,3,5,7,8],[0,2,3,5,7,8],[0,2,3,5,7,8],[0,2,3,5,7,8],[0,2,3,5,7,8],[0,2,3,5,7,8],[0,2,3,5,7,8],[0,2,3,5,7,8],[0,2,3,5,7,8],[0,2,3,5,7,8],[0,2,3,5,7,8],[0,2,3,5,7,8],[0,2,3,5,7,8],[0,2,3,5,7,8],[0,2,3,5,7,8],[0,2,3,5,7,8],[0,2,3,5,7,8],[0,2,3,5,7,8],[0,2,3,5,7,8],[0,2,3,5,7,8],[0,2,3,5,7,8],[0,2,3,5,7,8],[0,2,3,5,7,8],[0,2,3,5,7,8],[0,2,3,5,7,8],[0,2,3,5,7,8],[0,2,3,5,7,8],[0,2,3,5,7,8],[0,2,3,5,7,8],[0,2,3,5,7,8],[0,2,3,5,7,8],[0,2,3,5,7,8],[0,2,3,5,7,8],[0,2,3,5,7,8],[0,2,3,5,7,8],[0,2,3,5,7,8],[0,2,3,5,7,8],[0,2,3,5,7,8],[0,2,3,5,7,8],[0,2,3,5,7,8],[0,2,3,5,7,8],[0,2,3,5,7,8],[0,2,3,5,7,8],[0,2,3,5,7,8],[0,2,3,5,7,8],[0,2,3,5,7,8],[0,2,3,5,7,8],[0,2,3,5,7,8],[0,2,3,5,7,8],[0,2,3,5,7,8],[0,2,3,5,7,8],[0,2,3,5,7,8]]
abbrev nlCh2_2 : List (List Nat) := [[],[],[0,1],[0,1,2],[0,1,2,3],[],[],[5,6],[5,6,7],[5,6,7,8],[0,1,2,3,4,5,6,7,8,9],[0,1,2,3,4,5,6,7,8,9,10],[0,1,2,3,4,5,6,7,8,9,10,11],[0,1,2,3,4,5,6,7,8,9,10,11],[0,1,2,3,4,5,6,7,8,9,10,11,12,13],[0,1,2,3,4,5,6,7,8,9,10,11,12,13,14],[0,1,2,3,4,5,6,7,8,9,10,11,12,13,14,15],[0,1,2,3,4,5,6,7,8,9,10,11],[0,1,2,3,4,5,6,7,8,9,10,11],[0,1,2,3,4,5,6,7,8,9,10,11,17,18],[0,1,2,3,4,5,6,7,8,9,10,11,17,18,19],[0,1,2,3,4,5,6,7,8,9,10,11,17,18,19,20],[0,1,2,3,4,5,6,7,8,9,10,11,12,13,14,15,16,17,18,19,20,21],[0,1,2,3,4,5,6,7,8,9,10,11,12,13,14,15,16,17,18,19,20,21,22],[0,1,2,3,4,5,6,7,8,9,10,11,12,13,14,15,16,17,18,19,20,21,22,23],[0,1,2,3,4,5,6,7,8,9,10,11,12,13,14,15,16,17,18,19,20,21,22,23,24],[0,1,2,3,4,5,6,7,8,9,10,11,12,13,14,15,16,17,18,19,20,21,22,23,24],[0,1,2,3,4,5,6,7,8,9,10,11,12,13,14,15,16,17,18,19,20,21,22,23,24,25,26],[0,1,2,3,4,5,6,7,8,9,10,11,12,13,14,15,16,17,18,19,20,21,22,23,24,25,26,27],[0,1,2,3,4,5,6,7,8,9,10,11,12,13,14,15,16,17,18,19,20,21,22,23,24,25,26,27,28],[0,1,2,3,4,5,6,7,8,9,10,11,12,13,14,15,16,17,18,19,20,21,22,23,24],[0,1,2,3,4,5,6,7,8,9,10,11,12,13,14,15,16,17,18,19,20,21,22,23,24],[0,1,2,3,4,5,6,7,8,9,10,11,12,13,14,15,16,17,18,19,20,21,22,23,24,30,31],[0,1,2,3,4,5,6,7,8,9,10,11,12,13,14,15,16,17,18,19,20,21,22,23,24,30,31,32],[0,1,2,3,4,5,6,7,8,9,10,11,12,13,14,15,16,17,18,19,20,21,22,23,24,30,31,32,33],[0,1,2,3,4,5,6,7,8,9,10,11,12,13,14,15,16,17,18,19,20,21,22,23,24,25,26,27,28,29,30,31,32,33,34],[0,1,2,3,4,5,6,7,8,9,10,11,12,13,14,15,16,17,18,19,20,21,22,23,24,25,26,27,28,29,30,31,32,33,34,35],[0,1,2,3,4,5,6,7,8,9,10,11,12,13,14,15,16,17,18,19,20,21,22,23,24,25,26,27,28,29,30,31,32,33,34,35,36],[0,1,2,3,4,5,6,7,8,9,10,11,12,13,14,15,16,17,18,19,20,21,22,23,24,25,26,27,28,29,30,31,32,33,34,35,36,37],[0,1,2,3,4,5,6,7,8,9,10,11,12,13,14,15,16,17,18,19,20,21,22,23,24,25,26,27,28,29,30,31,32,33,34,35,36,37,38],[0,1,2,3,4,5,6,7,8,9,10,11,12,13,14,15,16,17,18,19,20,21,22,23,24,25,26,27,28,29,30,31,32,33,34,35,36,37,38,39],[0,1,2,3,4,5,6,7,8,9,10,11,12,13,14,15,16,17,18,19,20,21,22,23,24,25,26,27,28,29,30,31,32,33,34,35,36,37,38,39],[0,1,2,3,4,5,6,7,8,9,10,11,12,13,14,15,16,17,18,19,20,21,22,23,24,25,26,27,28,29,30,31,32,33,34,35,36,37,38,39,40,41],[0,1,2,3,4,5,6,7,8,9,10,11,12,13,14,15,16,17,18,19,20,21,22,23,24,25,26,27,28,29,30,31,32,33,34,35,36,37,38,39,40,41,42],[0,1,2,3,4,5,6,7,8,9,10,11,12,13,14,15,16,17,18,19,20,21,22,23,24,25,26,27,28,29,30,31,32,33,34,35,36,37,38,39,40,41,42,43],[0,1,2,3,4,5,6,7,8,9,10,11,12,13,14,15,16,17,18,19,20,21,22,23,24,25,26,27,28,29,30,31,32,33,34,35,36,37,38,39],[0,1,2,3,4,5,6,7,8,9,10,11,12,13,14,15,16,17,18,19,20,21,22,23,24,25,26,27,28,29,30,31,32,33,34,35,36,37,38,39],[0,1,2,3,4,5,6,7,8,9,10,11,12,13,14,15,16,17,18,19,20,21,22,23,24,25,26,27,28,29,30,31,32,33,34,35,36,37,38,39,45,46],[0,1,2,3,4,5,6,7,8,9,10,11,12,13,14,15,16,17,18,19,20,21,22,23,24,25,26,27,28,29,30,31,32,33,34,35,36,37,38,39,45,46,47],[0,1,2,3,4,5,6,7,8,9,10,11,12,13,14,15,16,17,18,19,20,21,22,23,24,25,26,27,28,29,30,31,32,33,34,35,36,37,38,39,45,46,47,48],[0,1,2,3,4,5,6,7,8,9,10,11,12,13,14,15,16,17,18,19,20,21,22,23,24,25,26,27,28,29,30,31,32,33,34,35,36,37,38,39,40,41,42,43,44,45,46,47,48,49],[0,1,2,3,4,5,6,7,8,9,10,11,12,13,14,15,16,17,18,19,20,21,22,23,24,25,26,27,28,29,30,31,32,33,34,35,36,37,38,39,40,41,42,43,44,45,46,47,48,49,50],[0,1,2,3,4,5,6,7,8,9,10,11,12,13,14,15,16,17,18,19,20,21,22,23,24,25,26,27,28,29,30,31,32,33,34,35,36,37,38,39,40,41,42,43,44,45,46,47,48,49,50,51],[0,1,2,3,4,5,6,7,8,9,10,11,12,13,14,15,16,17,18,19,20,21,22,23,24,25,26,27,28,29,30,31,32,33,34,35,36,37,38,39,40,41,42,43,44,45,46,47,48,49,50,51,52],[0,1,2,3,4,5,6,7,8,9,10,11,12,13,14,15,16,17,18,19,20,21,22,23,24,25,26,27,28,29,30,31,32,33,34,35,36,37,38,39,40,41,42,43,44,45,46,47,48,49,50,51,52,53],[0,1,2,3,4,5,6,7,8,9,10,11,12,13,14,15,16,17,18,19,20,21,22,23,24,25,26,27,28,29,30,31,32,33,34,35,36,37,38,39,40,41,42,43,44,45,46,47,48,49,50,51,52,53],[0,1,2,3,4,5,6,7,8,9,10,11,12,13,14,15,16,17,18,19,20,21,22,23,24,25,26,27,28,29,30,31,32,33,34,35,36,37,38,39,40,41,42,43,44,45,46,47,48,49,50,51,52,53,54,55],[0,1,2,3,4,5,6,7,8,9,10,11,12,13,14,15,16,17,18,19,20,21,22,23,24,25,26,27,28,29,30,31,32,33,34,35,36,37,38,39,40,41,42,43,44,45,46,47,48,49,50,51,52,53,54,55,56],[0,1,2,3,4,5,6,7,8,9,10,11,12,13,14,15,16,17,18,19,20,21,22,23,24,25,26,27,28,29,30,31,32,33,34,35,36,37,38,39,40,41,42,43,44,45,46,47,48,49,50,51,52,53,54,55,56,57],[0,1,2,3,4,5,6,7,8,9,10,11,12,13,14,15,16,17,18,19,20,21,22,23,24,25,26,27,28,29,30,31,32,33,34,35,36,37,38,39,40,41,42,43,44,45,46,47,48,49,50,51,52,53],[0,1,2,3,4,5,6,7,8,9,10,11,12,13,14,15,16,17,18,19,20,21,22,23,24,25,26,27,28,29,30,31,32,33,34,35,36,37,38,39,40,41,42,43,44,45,46,47,48,49,50,51,52,53],[0,1,2,3,4,5,6,7,8,9,10,11,12,13,14,15,16,17,18,19,20,21,22,23,24,25,26,27,28,29,30,31,32,33,34,35,36,37,38,39,40,41,42,43,44,45,46,47,48,49,50,51,52,53,59,60],[0,1,2,3,4,5,6,7,8,9,10,11,12,13,14,15,16,17,18,19,20,21,22,23,24,25,26,27,28,29,30,31,32,33,34,35,36,37,38,39,40,41,42,43,44,45,46,47,48,49,50,51,52,53,59,60,61],[0,1,2,3,4,5,6,7,8,9,10,11,12,13,14,15,16,17,18,19,20,21,22,23,24,25,26,27,28,29,30,31,32,33,34,35,36,37,38,39,40,41,42,43,44,45,46,47,48,49,50,51,52,53,59,60,61,62],[0,1,2,3,4,5,6,7,8,9,10,11,12,13,14,15,16,17,18,19,20,21,22,23,24,25,26,27,28,29,30,31,32,33,34,35,36,37,38,39,40,41,42,43,44,45,46,47,48,49,50,51,52,53],[0,1,2,3,4,5,6,7,8,9,10,11,12,13,14,15,16,17,18,19,20,21,22,23,24,25,26,27,28,29,30,31,32,33,34,35,36,37,38,39,40,41,42,43,44,45,46,47,48,49,50,51,52,53,54,55,56,57,58,59,60,61,62,63,64],[0,1,2,3,4,5,6,7,8,9,10,11,12,13,14,15,16,17,18,19,20,21,22,23,24,25,26,27,28,29,30,31,32,33,34,35,36,37,38,39,40,41,42,43,44,45,46,47,48,49,50,51,52,53,54,55,56,57,58,59,60,61,62,63,64,65],[0,1,2,3,4,5,6,7,8,9,10,11,12,13,14,15,16,17,18,19,20,21,22,23,24,25,26,27,28,29,30,31,32,33,34,35,36,37,38,39,40,41,42,43,44,45,46,47,48,49,50,51,52,53,54,55,56,57,58,59,60,61,62,63,64,65,66]]
abbrev nlCh2_3 : List (List Nat) := [[],[],[0],[0,2],[0,2,3],[],[],[5],[5,7],[5,7,8],[0,2,3,5,7,8],[0,2,3,5,7,8],[0,2,3,5,7,8],[0,2,3,5,7,8],[0,2,3,5,7,8,12],[0,2,3,5,7,8,12,14],[0,2,3,5,7,8,12,14,15],[0,2,3,5,7,8],[0,2,3,5,7,8],[0,2,3,5,7,8,17],[0,2,3,5,7,8,17,19],[0,2,3,5,7,8,17,19,20],[0,2,3,5,7,8,12,14,15,17,19,20],[0,2,3,5,7,8,12,14,15,17,19,20],[0,2,3,5,7,8,12,14,15,17,19,20],[0,2,3,5,7,8,12,14,15,17,19,20],[0,2,3,5,7,8,12,14,15,17,19,20],[0,2,3,5,7,8,12,14,15,17,19,20],[0,2,3,5,7,8,12,14,15,17,19,20],[0,2,3,5,7,8,12,14,15,17,19,20],[0,2,3,5,7,8,12,14,15,17,19,20],[0,2,3,5,7,8,12,14,15,17,19,20],[0,2,3,5,7,8,12,14,15,17,19,20],[0,2,3,5,7,8,12,14,15,17,19,20],[0,2,3,5,7,8,12,14,15,17,19,20],[0,2,3,5,7,8,12,14,15,17,19,20],[0,2,3,5,7,8,12,14,15,17,19,20],[0,2,3,5,7,8,12,14,15,17,19,20],[0,2,3,5,7,8,12,14,15,17,19,20],[0,2,3,5,7,8,12,14,15,17,19,20],[0,2,3,5,7,8,12,14,15,17,19,20],[0,2,3,5,7,8,12,14,15,17,19,20],[0,2,3,5,7,8,12,14,15,17,19,20],[0,2,3,5,7,8,12,14,15,17,19,20],[0,2,3,5,7,8,12,14,15,17,19,20],[0,2,3,5,7,8,12,14,15,17,19,20],[0,2,3,5,7,8,12,14,15,17,19,20],[0,2,3,5,7,8,12,14,15,17,19,20],[0,2,3,5,7,8,12,14,15,17,19,20],[0,2,3,5,7,8,12,14,15,17,19,20],[0,2,3,5,7,8,12,14,15,17,19,20],[0,2,3,5,7,8,12,14,15,17,19,20],[0,2,3,5,7,8,12,14,15,17,19,20],[0,2,3,5,7,8,12,14,15,17,19,20],[0,2,3,5,7,8,12,14,15,17,19,20],[0,2,3,5,7,8,12,14,15,17,19,20],[0,2,3,5,7,8,12,14,15,17,19,20],[0,2,3,5,7,8,12,14,15,17,19,20],[0,2,3,5,7,8,12,14,15,17,19,20],[0,2,3,5,7,8,12,14,15,17,19,20],[0,2,3,5,7,8,12,14,15,17,19,20],[0,2,3,5,7,8,12,14,15,17,19,20],[0,2,3,5,7,8,12,14,15,17,19,20],[0,2,3,5,7,8,12,14,15,17,19,20],[0,2,3,5,7,8,12,14,15,17,19,20]]
abbrev nlCh2_4 : List (List Nat) := [[],[],[0],[0,2],[0,2,3],[],[],[5],[5,7],[5,7,8],[0,2,3,5,7,8],[0,2,3,5,7,8],[0,2,3,5,7,8],[0,2,3,5,7,8],[0,2,3,5,7,8,12],[0,2,3,5,7,8,12,14],[0,2,3,5,7,8,12,14,15],[0,2,3,5,7,8],[0,2,3,5,7,8],[0,2,3,5,7,8,17],[0,2,3,5,7,8,17,19],[0,2,3,5,7,8,17,19,20],[0,2,3,5,7,8,12,14,15,17,19,20],[0,2,3,5,7,8,12,14,15,17,19,20],[0,2,3,5,7,8,12,14,15,17,19,20],[0,2,3,5,7,8,12,14,15,17,19,20],[0,2,3,5,7,8,12,14,15,17,19,20],[0,2,3,5,7,8,12,14,15,17,19,20,25],[0,2,3,5,7,8,12,14,15,17,19,20,25,27],[0,2,3,5,7,8,12,14,15,17,19,20,25,27,28],[0,2,3,5,7,8,12,14,15,17,19,20],[0,2,3,5,7,8,12,14,15,17,19,20],[0,2,3,5,7,8,12,14,15,17,19,20,30],[0,2,3,5,7,8,12,14,15,17,19,20,30,32],[0,2,3,5,7,8,12,14,15,17,19,20,30,32,33],[0,2,3,5,7,8,12,14,15,17,19,20,25,27,28,30,32,33],[0,2,3,5,7,8,12,14,15,17,19,20,25,27,28,30,32,33],[0,2,3,5,7,8,12,14,15,17,19,20,25,27,28,30,32,33],[0,2,3,5,7,8,12,14,15,17,19,20,25,27,28,30,32,33],[0,2,3,5,7,8,12,14,15,17,19,20,25,27,28,30,32,33],[0,2,3,5,7,8,12,14,15,17,19,20,25,27,28,30,32,33],[0,2,3,5,7,8,12,14,15,17,19,20,25,27,28,30,32,33],[0,2,3,5,7,8,12,14,15,17,19,20,25,27,28,30,32,33],[0,2,3,5,7,8,12,14,15,17,19,20,25,27,28,30,32,33],[0,2,3,5,7,8,12,14,15,17,19,20,25,27,28,30,32,33],[0,2,3,5,7,8,12,14,15,17,19,20,25,27,28,30,32,33],[0,2,3,5,7,8,12,14,15,17,19,20,25,27,28,30,32,33],[0,2,3,5,7,8,12,14,15,17,19,20,25,27,28,30,32,33],[0,2,3,5,7,8,12,14,15,17,19,20,25,27,28,30,32,33],[0,2,3,5,7,8,12,14,15,17,19,20,25,27,28,30,32,33],[0,2,3,5,7,8,12,14,15,17,19,20,25,27,28,30,32,33],[0,2,3,5,7,8,12,14,15,17,19,20,25,27,28,30,32,33],[0,2,3,5,7,8,12,14,15,17,19,20,25,27,28,30,32,33],[0,2,3,5,7,8,12,14,15,17,19,20,25,27,28,30,32,33],[0,2,3,5,7,8,12,14,15,17,19,20,25,27,28,30,32,33],[0,2,3,5,7,8,12,14,15,17,19,20,25,27,28,30,32,33],[0,2,3,5,7,8,12,14,15,17,19,20,25,27,28,30,32,33],[0,2,3,5,7,8,12,14,15,17,19,20,25,27,28,30,32,33],[0,2,3,5,7,8,12,14,15,17,19,20,25,27,28,30,32,33],[0,2,3,5,7,8,12,14,15,17,19,20,25,27,28,30,32,33],[0,2,3,5,7,8,12,14,15,17,19,20,25,27,28,30,32,33],[0,2,3,5,7,8,12,14,15,17,19,20,25,27,28,30,32,33],[0,2,3,5,7,8,12,14,15,17,19,20,25,27,28,30,32,33],[0,2,3,5,7,8,12,14,15,17,19,20,25,27,28,30,32,33],[0,2,3,5,7,8,12,14,15,17,19,20,25,27,28,30,32,33]]
abbrev nlCh2_5 : List (List Nat) := [[],[],[0],[0,2],[0,2,3],[],[],[5],[5,7],[5,7,8],[0,2,3,5,7,8],[0,2,3,5,7,8],[0,2,3,5,7,8],[0,2,3,5,7,8],[0,2,3,5,7,8,12],[0,2,3,5,7,8,12,14],[0,2,3,5,7,8,12,14,15],[0,2,3,5,7,8],[0,2,3,5,7,8],[0,2,3,5,7,8,17],[0,2,3,5,7,8,17,19],[0,2,3,5,7,8,17,19,20],[0,2,3,5,7,8,12,14,15,17,19,20],[0,2,3,5,7,8,12,14,15,17,19,20],[0,2,3,5,7,8,12,14,15,17,19,20],[0,2,3,5,7,8,12,14,15,17,19,20],[0,2,3,5,7,8,12,14,15,17,19,20],[0,2,3,5,7,8,12,14,15,17,19,20,25],[0,2,3,5,7,8,12,14,15,17,19,20,25,27],[0,2,3,5,7,8,12,14,15,17,19,20,25,27,28],[0,2,3,5,7,8,12,14,15,17,19,20],[0,2,3,5,7,8,12,14,15,17,19,20],[0,2,3,5,7,8,12,14,15,17,19,20,30],[0,2,3,5,7,8,12,14,15,17,19,20,30,32],[0,2,3,5,7,8,12,14,15,17,19,20,30,32,33],[0,2,3,5,7,8,12,14,15,17,19,20,25,27,28,30,32,33],[0,2,3,5,7,8,12,14,15,17,19,20,25,27,28,30,32,33],[0,2,3,5,7,8,12,14,15,17,19,20,25,27,28,30,32,33],[0,2,3,5,7,8,12,14,15,17,19,20,25,27,28,30,32,33],[0,2,3,5,7,8,12,14,15,17,19,20,25,27,28,30,32,33],[0,2,3,5,7,8,12,14,15,17,19,20,25,27,28,30,32,33],[0,2,3,5,7,8,12,14,15,17,19,20,25,27,28,30,32,33],[0,2,3,5,7,8,12,14,15,17,19,20,25,27,28,30,32,33,40],[0,2,3,5,7,8,12,14,15,17,19,20,25,27,28,30,32,33,40,42],[0,2,3,5,7,8,12,14,15,17,19,20,25,27,28,30,32,33,40,42,43],[0,2,3,5,7,8,12,14,15,17,19,20,25,27,28,30,32,33],[0,2,3,5,7,8,12,14,15,17,19,20,25,27,28,30,32,33],[0,2,3,5,7,8,12,14,15,17,19,20,25,27,28,30,32,33,45],[0,2,3,5,7,8,12,14,15,17,19,20,25,27,28,30,32,33,45,47],[0,2,3,5,7,8,12,14,15,17,19,20,25,27,28,30,32,33,45,47,48],[0,2,3,5,7,8,12,14,15,17,19,20,25,27,28,30,32,33,40,42,43,45,47,48],[0,2,3,5,7,8,12,14,15,17,19,20,25,27,28,30,32,33,40,42,43,45,47,48],[0,2,3,5,7,8,12,14,15,17,19,20,25,27,28,30,32,33,40,42,43,45,47,48],[0,2,3,5,7,8,12,14,15,17,19,20,25,27,28,30,32,33,40,42,43,45,47,48],[0,2,3,5,7,8,12,14,15,17,19,20,25,27,28,30,32,33,40,42,43,45,47,48],[0,2,3,5,7,8,12,14,15,17,19,20,25,27,28,30,32,33,40,42,43,45,47,48],[0,2,3,5,7,8,12,14,15,17,19,20,25,27,28,30,32,33,40,42,43,45,47,48],[0,2,3,5,7,8,12,14,15,17,19,20,25,27,28,30,32,33,40,42,43,45,47,48],[0,2,3,5,7,8,12,14,15,17,19,20,25,27,28,30,32,33,40,42,43,45,47,48],[0,2,3,5,7,8,12,14,15,17,19,20,25,27,28,30,32,33,40,42,43,45,47,48],[0,2,3,5,7,8,12,14,15,17,19,20,25,27,28,30,32,33,40,42,43,45,47,48],[0,2,3,5,7,8,12,14,15,17,19,20,25,27,28,30,32,33,40,42,43,45,47,48],[0,2,3,5,7,8,12,14,15,17,19,20,25,27,28,30,32,33,40,42,43,45,47,48],[0,2,3,5,7,8,12,14,15,17,19,20,25,27,28,30,32,33,40,42,43,45,47,48],[0,2,3,5,7,8,12,14,15,17,19,20,25,27,28,30,32,33,40,42,43,45,47,48]]
abbrev nlCh2_6 : List (List Nat) := [[],[],[0],[0,2],[0,2,3],[],[],[5],[5,7],[5,7,8],[0,2,3,5,7,8],[0,2,3,5,7,8],[0,2,3,5,7,8],[0,2,3,5,7,8],[0,2,3,5,7,8,12],[0,2,3,5,7,8,12,14],[0,2,3,5,7,8,12,14,15],[0,2,3,5,7,8],[0,2,3,5,7,8],[0,2,3,5,7,8,17],[0,2,3,5,7,8,17,19],[0,2,3,5,7,8,17,19,20],[0,2,3,5,7,8,12,14,15,17,19,20],[0,2,3,5,7,8,12,14,15,17,19,20],[0,2,3,5,7,8,12,14,15,17,19,20],[0,2,3,5,7,8,12,14,15,17,19,20],[0,2,3,5,7,8,12,14,15,17,19,20],[0,2,3,5,7,8,12,14,15,17,19,20,25],[0,2,3,5,7,8,12,14,15,17,19,20,25,27],[0,2,3,5,7,8,12,14,15,17,19,20,25,27,28],[0,2,3,5,7,8,12,14,15,17,19,20],[0,2,3,5,7,8,12,14,15,17,19,20],[0,2,3,5,7,8,12,14,15,17,19,20,30],[0,2,3,5,7,8,12,14,15,17,19,20,30,32],[0,2,3,5,7,8,12,14,15,17,19,20,30,32,33],[0,2,3,5,7,8,12,14,15,17,19,20,25,27,28,30,32,33],[0,2,3,5,7,8,12,14,15,17,19,20,25,27,28,30,32,33],[0,2,3,5,7,8,12,14,15,17,19,20,25,27,28,30,32,33],[0,2,3,5,7,8,12,14,15,17,19,20,25,27,28,30,32,33],[0,2,3,5,7,8,12,14,15,17,19,20,25,27,28,30,32,33],[0,2,3,5,7,8,12,14,15,17,19,20,25,27,28,30,32,33],[0,2,3,5,7,8,12,14,15,17,19,20,25,27,28,30,32,33],[0,2,3,5,7,8,12,14,15,17,19,20,25,27,28,30,32,33,40],[0,2,3,5,7,8,12,14,15,17,19,20,25,27,28,30,32,33,40,42],[0,2,3,5,7,8,12,14,15,17,19,20,25,27,28,30,32,33,40,42,43],[0,2,3,5,7,8,12,14,15,17,19,20,25,27,28,30,32,33],[0,2,3,5,7,8,12,14,15,17,19,20,25,27,28,30,32,33],[0,2,3,5,7,8,12,14,15,17,19,20,25,27,28,30,32,33,45],[0,2,3,5,7,8,12,14,15,17,19,20,25,27,28,30,32,33,45,47],[0,2,3,5,7,8,12,14,15,17,19,20,25,27,28,30,32,33,45,47,48],[0,2,3,5,7,8,12,14,15,17,19,20,25,27,28,30,32,33,40,42,43,45,47,48],[0,2,3,5,7,8,12,14,15,17,19,20,25,27,28,30,32,33,40,42,43,45,47,48],[0,2,3,5,7,8,12,14,15,17,19,20,25,27,28,30,32,33,40,42,43,45,47,48],[0,2,3,5,7,8,12,14,15,17,19,20,25,27,28,30,32,33,40,42,43,45,47,48],[0,2,3,5,7,8,12,14,15,17,19,20,25,27,28,30,32,33,40,42,43,45,47,48],[0,2,3,5,7,8,12,14,15,17,19,20,25,27,28,30,32,33,40,42,43,45,47,48],[0,2,3,5,7,8,12,14,15,17,19,20,25,27,28,30,32,33,40,42,43,45,47,48,54],[0,2,3,5,7,8,12,14,15,17,19,20,25,27,28,30,32,33,40,42,43,45,47,48,54,56],[0,2,3,5,7,8,12,14,15,17,19,20,25,27,28,30,32,33,40,42,43,45,47,48,54,56,57],[0,2,3,5,7,8,12,14,15,17,19,20,25,27,28,30,32,33,40,42,43,45,47,48],[0,2,3,5,7,8,12,14,15,17,19,20,25,27,28,30,32,33,40,42,43,45,47,48],[0,2,3,5,7,8,12,14,15,17,19,20,25,27,28,30,32,33,40,42,43,45,47,48,59],[0,2,3,5,7,8,12,14,15,17,19,20,25,27,28,30,32,33,40,42,43,45,47,48,59,61],[0,2,3,5,7,8,12,14,15,17,19,20,25,27,28,30,32,33,40,42,43,45,47,48,59,61,62],[0,2,3,5,7,8,12,14,15,17,19,20,25,27,28,30,32,33,40,42,43,45,47,48]]
abbrev nlCh2_7 : List (List Nat) := [[],[],[0],[0,2],[0,2,3],[],[],[5],[5,7],[5,7,8],[0,2,3,5,7,8],[0,2,3,5,7,8],[0,2,3,5,7,8],[0,2,3,5,7,8],[0,2,3,5,7,8,12],[0,2,3,5,7,8,12,14],[0,2,3,5,7,8,12,14,15],[0,2,3,5,7,8],[0,2,3,5,7,8],[0,2,3,5,7,8,17],[0,2,3,5,7,8,17,19],[0,2,3,5,7,8,17,19,20],[0,2,3,5,7,8,12,14,15,17,19,20],[0,2,3,5,7,8,12,14,15,17,19,20],[0,2,3,5,7,8,12,14,15,17,19,20],[0,2,3,5,7,8,12,14,15,17,19,20],[0,2,3,5,7,8,12,14,15,17,19,20],[0,2,3,5,7,8,12,14,15,17,19,20,25],[0,2,3,5,7,8,12,14,15,17,19,20,25,27],[0,2,3,5,7,8,12,14,15,17,19,20,25,27,28],[0,2,3,5,7,8,12,14,15,17,19,20],[0,2,3,5,7,8,12,14,15,17,19,20],[0,2,3,5,7,8,12,14,15,17,19,20,30],[0,2,3,5,7,8,12,14,15,17,19,20,30,32],[0,2,3,5,7,8,12,14,15,17,19,20,30,32,33],[0,2,3,5,7,8,12,14,15,17,19,20,25,27,28,30,32,33],[0,2,3,5,7,8,12,14,15,17,19,20,25,27,28,30,32,33],[0,2,3,5,7,8,12,14,15,17,19,20,25,27,28,30,32,33],[0,2,3,5,7,8,12,14,15,17,19,20,25,27,28,30,32,33],[0,2,3,5,7,8,12,14,15,17,19,20,25,27,28,30,32,33],[0,2,3,5,7,8,12,14,15,17,19,20,25,27,28,30,32,33],[0,2,3,5,7,8,12,14,15,17,19,20,25,27,28,30,32,33],[0,2,3,5,7,8,12,14,15,17,19,20,25,27,28,30,32,33],[0,2,3,5,7,8,12,14,15,17,19,20,25,27,28,30,32,33],[0,2,3,5,7,8,12,14,15,17,19,20,25,27,28,30,32,33],[0,2,3,5,7,8,12,14,15,17,19,20,25,27,28,30,32,33],[0,2,3,5,7,8,12,14,15,17,19,20,25,27,28,30,32,33],[0,2,3,5,7,8,12,14,15,17,19,20,25,27,28,30,32,33],[0,2,3,5,7,8,12,14,15,17,19,20,25,27,28,30,32,33],[0,2,3,5,7,8,12,14,15,17,19,20,25,27,28,30,32,33],[0,2,3,5,7,8,12,14,15,17,19,20,25,27,28,30,32,33],[0,2,3,5,7,8,12,14,15,17,19,20,25,27,28,30,32,33],[0,2,3,5,7,8,12,14,15,17,19,20,25,27,28,30,32,33],[0,2,3,5,7,8,12,14,15,17,19,20,25,27,28,30,32,33],[0,2,3,5,7,8,12,14,15,17,19,20,25,27,28,30,32,33],[0,2,3,5,7,8,12,14,15,17,19,20,25,27,28,30,32,33],[0,2,3,5,7,8,12,14,15,17,19,20,25,27,28,30,32,33,54],[0,2,3,5,7,8,12,14,15,17,19,20,25,27,28,30,32,33,54,56],[0,2,3,5,7,8,12,14,15,17,19,20,25,27,28,30,32,33,54,56,57],[0,2,3,5,7,8,12,14,15,17,19,20,25,27,28,30,32,33],[0,2,3,5,7,8,12,14,15,17,19,20,25,27,28,30,32,33],[0,2,3,5,7,8,12,14,15,17,19,20,25,27,28,30,32,33,59],[0,2,3,5,7,8,12,14,15,17,19,20,25,27,28,30,32,33,59,61],[0,2,3,5,7,8,12,14,15,17,19,20,25,27,28,30,32,33,59,61,62],[0,2,3,5,7,8,12,14,15,17,19,20,25,27,28,30,32,33]]
noncomputable def r11_Exps_b (g0 : (List TApiExpr) → (List TApiExpr) → (Bool) → Option (Bool)) (a0 : List TApiExpr) (a1 : List TApiExpr) (a2 : Bool) : Option (Bool) :=
  (bif ((a0.length : Int) != (a1.length : Int)) then some false else (Option.bind (α := (Unit) ⊕ (Bool)) (loopM (fun (s132 : Int) => (bif (decide (s132 < (a0.length : Int))) then (Option.bind (α := Bool) ((idx a0 s132).bind fun x238 => ((idx a1 s132).bind fun x239 => (bif (x238.gOp != x239.gOp) then some true else ((idx a0 s132).bind fun x241 => ((idx a1 s132).bind fun x242 => (bif (x241.gN != x242.gN) then some true else ((idx a0 s132).bind fun x244 => ((idx a1 s132).bind fun x245 => (bif (!decide (x244.gName = x245.gName)) then some true else (bif a2 then ((idx a0 s132).bind fun x248 => ((idx a1 s132).bind fun x249 => (bif (x248.gAt != x249.gAt) then some true else ((idx a0 s132).bind fun x251 => ((idx a1 s132).bind fun x252 => ((g0 x251.gKids x252.gKids a2).bind fun x253 => some (!x253))))))) else ((idx a0 s132).bind fun x254 => ((idx a1 s132).bind fun x255 => ((g0 x254.gKids x255.gKids a2).bind fun x256 => some (!x256)))))))))))))) fun y237 => (bif y237 then some (.done (.inr false)) else some (.next (IntKind.i64.wrap (s132 + (1 : Int)))))) else some (.done (.inl ())))) (0 : Int)) (Sum.elim (fun y131 => some true) (fun r => some r))))
set_option maxRecDepth 100000 in
set_option maxHeartbeats 2000000 in
theorem r11_Exps_b_ok (g0 : (List TApiExpr) → (List TApiExpr) → (Bool) → Option (Bool)) (hg0 : ∀ (a0 : List TApiExpr) (a1 : List TApiExpr) (a2 : Bool) (r : Bool) (h0 : g0 a0 a1 a2 = some r), CallsD Try.prog 69 [.lst 5 (a0.map eTApiExpr) .no, .lst 5 (a1.map eTApiExpr) .no, .v (.bool a2)] [] [] (fun d h k => d = .v (.bool r) ∧ h = [] ∧ k = [])) (a0 : List TApiExpr) (a1 : List TApiExpr) (a2 : Bool) (r : Bool) (h0 : r11_Exps_b g0 a0 a1 a2 = some r) : CallsD Try.prog 69 [.lst 5 (a0.map eTApiExpr) .no, .lst 5 (a1.map eTApiExpr) .no, .v (.bool a2)] [] [] (fun d h k => d = .v (.bool r) ∧ h = [] ∧ k = []) := by
  have hm := yes_of h0
  unfold r11_Exps_b at hm
  clear h0
  refine enterX htab Try.func69 rfl rfl rfl rfl rfl (fun C => ?_)
  refine wpD_sr ?_
  refine pu ?_
  refine ops_nt ?_
  refine wpD_seq ?_
  refine wpD_sr ?_
  refine pu ?_
  refine p_lenL htab rfl rfl rfl rfl rfl rfl rfl (by first | exact map_len | rfl) ?_
  refine pu ?_
  refine p_lenL htab rfl rfl rfl rfl rfl rfl rfl (by first | exact map_len | rfl) ?_
  refine pu ?_
  refine ops_nt ?_
  refine wpD_cond rfl (fun hc2 => ?_) (fun hc2 => ?_)
  ·replace hm := yes_t hc2 hm
   refine wpD_sr ?_
   refine pu ?_
   refine ops_nt ?_
   refine wpD_ret ?_
   refine then_ret ?_
   have er3 := yes_eq hm; subst er3
   refine rP (t' := [(6, .v (.bool false))]) [] [] 0 (wC wN) (lT lN) ?_
   exact ⟨rfl, rfl, rfl⟩
  ·replace hm := yes_f hc2 hm
   refine wpD_skip ?_
   refine then_normal ?_
   refine wpD_seq ?_
   refine wpD_sr ?_
   refine pu ?_
   refine ops_nt ?_
   obtain ⟨x131, q131, ho131⟩ := yes_bind hm
   refine wpD_midX (τ := Unit) (Y := Unit) (fun y131 z131 => (⟨[], [], []⟩ : S)) x131 ?_ ?_
   ·clear hm; have hm := yes_of q131
    refine wpD_block ?_
    obtain ⟨u132, hl132, hq132⟩ := yes_m hm
    refine loop_M (Y := Unit) hl132 (fun s132 z132 => (⟨[(0, .lst 5 (a0.map eTApiExpr) .no), (1, .lst 5 (a1.map eTApiExpr) .no), (2, .v (.bool a2)), (7, .v (.int .i64 s132))], [], []⟩ : S)) ?_ ?_
    ·skip
     exact WkX.of () (WkS.perm (WkS.cons rfl (Wk.refl _) (WkS.cons rfl (Wk.refl _) (WkS.cons rfl (Wk.refl _) (WkS.cons rfl (Wk.refl _) (WkS.nil))))) Pf Pf)
    ·intro G132 s132 z132 hm
     refine wpD_seq ?_
     refine wpD_sr ?_
     refine pu ?_
     refine pu ?_
     refine p_lenL htab rfl rfl rfl rfl rfl rfl rfl (by first | exact map_len | rfl) ?_
     refine pu ?_
     refine ops_nt ?_
     refine wpD_cond rfl (fun hc217 => ?_) (fun hc217 => ?_)
     ·replace hm := yes_t hc217 hm
      refine wpD_skip ?_
      refine then_normal ?_
      refine wpD_seq ?_
      refine wpD_block ?_
      refine wpD_seq ?_
      obtain ⟨y237, q237, ho237⟩ := yes_bind hm
      refine wpD_mid (Y := Unit) (fun z237 => (⟨[(0, .lst 5 (a0.map eTApiExpr) .no), (1, .lst 5 (a1.map eTApiExpr) .no), (2, .v (.bool a2)), (7, .v (.int .i64 s132)), (86, .v (.bool y237))], [], []⟩ : S)) ?_ ?_
      ·clear hm; have hm := yes_of q237
       obtain ⟨x238, q238, hm⟩ := yes_bind hm
       obtain ⟨x239, q239, hm⟩ := yes_bind hm
       refine bycB (x238.gOp != x239.gOp) (fun hs240 => ?_) (fun hs240 => ?_)
       ·replace hm := yes_t hs240 hm
        refine wpD_draws 65 [] nlCh2_1 [0,2,3,5,7,8] nlCh2_2 (by kernel_rfl) (by kernel_rfl) (by kernel_rfl) (by rfl) (by rfl) (by kernel_rfl) ?_
        iterate 6 apply Exists.intro
        intro bs
        refine zep ?_
        refine zqp ?_
        refine z_e rfl rfl (Ex.wk (x_elem htab rfl rfl rfl rfl rfl rfl rfl (idx_nonneg q238) (idx_map q238)) (Wk.of_eq (congrArg D.el (eTApiExpr_eq x238)))) rfl rfl rfl rfl rfl rfl ?_
        refine zep ?_
        refine z_qM rfl rfl (xm_loadEl htab rfl rfl rfl rfl rfl) rfl rfl rfl rfl rfl rfl ?_
        refine zep ?_
        refine zqp ?_
        refine z_e rfl rfl (Ex.wk (x_elem htab rfl rfl rfl rfl rfl rfl rfl (idx_nonneg q239) (idx_map q239)) (Wk.of_eq (congrArg D.el (eTApiExpr_eq x239)))) rfl rfl rfl rfl rfl rfl ?_
        refine zep ?_
        refine z_qM rfl rfl (xm_loadEl htab rfl rfl rfl rfl rfl) rfl rfl rfl rfl rfl rfl ?_
        refine zqp ?_
        refine zqp ?_
        refine z_known (j := 30) (b' := true) rfl hs240 ?_
        iterate 11 refine zK ?_
        refine z_q rfl rfl (x_pickT rfl rfl rfl) rfl rfl rfl rfl rfl rfl ?_
        refine zqp ?_
        iterate 11 refine zK ?_
        refine z_q rfl rfl (x_pickT rfl rfl rfl) rfl rfl rfl rfl rfl rfl ?_
        refine zqp ?_
        iterate 14 refine zK ?_
        refine z_q rfl rfl (x_pickT rfl rfl rfl) rfl rfl rfl rfl rfl rfl ?_
        refine zqp ?_
        iterate 11 refine zK ?_
        refine z_nil rfl rfl (fun e he => by simp [isAl] at he) ?_
        refine pK ?_
        refine pK ?_
        refine p_pickT rfl rfl rfl rfl rfl rfl ?_
        refine ops_nil ?_
        have e237 := yes_eq hm; subst e237
        refine ⟨rfl, ?_⟩
        exact WkX.of () (WkS.perm (WkS.cons rfl (Wk.refl _) (WkS.cons rfl (Wk.refl _) (WkS.cons rfl (Wk.refl _) (WkS.cons rfl (Wk.refl _) (WkS.cons rfl (Wk.refl _) (WkS.nil)))))) Pf Pf)
       ·replace hm := yes_f hs240 hm
        obtain ⟨x241, q241, hm⟩ := yes_bind hm
        obtain ⟨x242, q242, hm⟩ := yes_bind hm
        refine bycB (x241.gN != x242.gN) (fun hs243 => ?_) (fun hs243 => ?_)
        ·replace hm := yes_t hs243 hm
         refine wpD_draws 65 [] nlCh2_3 [0,2,3,5,7,8,12,14,15,17,19,20] nlCh2_2 (by kernel_rfl) (by kernel_rfl) (by kernel_rfl) (by rfl) (by rfl) (by kernel_rfl) ?_
         iterate 12 apply Exists.intro
         intro bs
         refine zep ?_
         refine zqp ?_
         refine z_e rfl rfl (Ex.wk (x_elem htab rfl rfl rfl rfl rfl rfl rfl (idx_nonneg q238) (idx_map q238)) (Wk.of_eq (congrArg D.el (eTApiExpr_eq x238)))) rfl rfl rfl rfl rfl rfl ?_
         refine zep ?_
         refine z_qM rfl rfl (xm_loadEl htab rfl rfl rfl rfl rfl) rfl rfl rfl rfl rfl rfl ?_
         refine zep ?_
         refine zqp ?_
         refine z_e rfl rfl (Ex.wk (x_elem htab rfl rfl rfl rfl rfl rfl rfl (idx_nonneg q239) (idx_map q239)) (Wk.of_eq (congrArg D.el (eTApiExpr_eq x239)))) rfl rfl rfl rfl rfl rfl ?_
         refine zep ?_
         refine z_qM rfl rfl (xm_loadEl htab rfl rfl rfl rfl rfl) rfl rfl rfl rfl rfl rfl ?_
         refine zqp ?_
         refine zqp ?_
         refine z_known (j := 30) (b' := false) rfl hs240 ?_
         refine zep ?_
         refine zqp ?_
         refine z_e rfl rfl (Ex.wk (x_elem htab rfl rfl rfl rfl rfl rfl rfl (idx_nonneg q241) (idx_map q241)) (Wk.of_eq (congrArg D.el (eTApiExpr_eq x241)))) rfl rfl rfl rfl rfl rfl ?_
         refine zep ?_
         refine z_qM rfl rfl (xm_loadEl htab rfl rfl rfl rfl rfl) rfl rfl rfl rfl rfl rfl ?_
         refine zep ?_
         refine zqp ?_
         refine z_e rfl rfl (Ex.wk (x_elem htab rfl rfl rfl rfl rfl rfl rfl (idx_nonneg q242) (idx_map q242)) (Wk.of_eq (congrArg D.el (eTApiExpr_eq x242)))) rfl rfl rfl rfl rfl rfl ?_
         refine zep ?_
         refine z_qM rfl rfl (xm_loadEl htab rfl rfl rfl rfl rfl) rfl rfl rfl rfl rfl rfl ?_
         refine zqp ?_
         refine z_q rfl rfl (x_pickF rfl rfl rfl) rfl rfl rfl rfl rfl rfl ?_
         refine zqp ?_
         refine z_known (j := 43) (b' := true) rfl hs243 ?_
         iterate 11 refine zK ?_
         refine z_q rfl rfl (x_pickT rfl rfl rfl) rfl rfl rfl rfl rfl rfl ?_
         refine zqp ?_
         iterate 14 refine zK ?_
         refine z_q rfl rfl (x_pickT rfl rfl rfl) rfl rfl rfl rfl rfl rfl ?_
         refine zqp ?_
         iterate 11 refine zK ?_
         refine z_nil rfl rfl (fun e he => by simp [isAl] at he) ?_
         refine pK ?_
         refine pK ?_
         refine p_pickT rfl rfl rfl rfl rfl rfl ?_
         refine ops_nil ?_
         have e237 := yes_eq hm; subst e237
         refine ⟨rfl, ?_⟩
         exact WkX.of () (WkS.perm (WkS.cons rfl (Wk.refl _) (WkS.cons rfl (Wk.refl _) (WkS.cons rfl (Wk.refl _) (WkS.cons rfl (Wk.refl _) (WkS.cons rfl (Wk.refl _) (WkS.nil)))))) Pf Pf)
        ·replace hm := yes_f hs243 hm
         obtain ⟨x244, q244, hm⟩ := yes_bind hm
         obtain ⟨x245, q245, hm⟩ := yes_bind hm
         refine bycB (!decide (x244.gName = x245.gName)) (fun hs246 => ?_) (fun hs246 => ?_)
         ·replace hm := yes_t hs246 hm
          refine wpD_draws 65 [] nlCh2_4 [0,2,3,5,7,8,12,14,15,17,19,20,25,27,28,30,32,33] nlCh2_2 (by kernel_rfl) (by kernel_rfl) (by kernel_rfl) (by rfl) (by rfl) (by kernel_rfl) ?_
          iterate 18 apply Exists.intro
          intro bs
          refine zep ?_
          refine zqp ?_
          refine z_e rfl rfl (Ex.wk (x_elem htab rfl rfl rfl rfl rfl rfl rfl (idx_nonneg q238) (idx_map q238)) (Wk.of_eq (congrArg D.el (eTApiExpr_eq x238)))) rfl rfl rfl rfl rfl rfl ?_
          refine zep ?_
          refine z_qM rfl rfl (xm_loadEl htab rfl rfl rfl rfl rfl) rfl rfl rfl rfl rfl rfl ?_
          refine zep ?_
          refine zqp ?_
          refine z_e rfl rfl (Ex.wk (x_elem htab rfl rfl rfl rfl rfl rfl rfl (idx_nonneg q239) (idx_map q239)) (Wk.of_eq (congrArg D.el (eTApiExpr_eq x239)))) rfl rfl rfl rfl rfl rfl ?_
          refine zep ?_
          refine z_qM rfl rfl (xm_loadEl htab rfl rfl rfl rfl rfl) rfl rfl rfl rfl rfl rfl ?_
          refine zqp ?_
          refine zqp ?_
          refine z_known (j := 30) (b' := false) rfl hs240 ?_
          refine zep ?_
          refine zqp ?_
          refine z_e rfl rfl (Ex.wk (x_elem htab rfl rfl rfl rfl rfl rfl rfl (idx_nonneg q241) (idx_map q241)) (Wk.of_eq (congrArg D.el (eTApiExpr_eq x241)))) rfl rfl rfl rfl rfl rfl ?_
          refine zep ?_
          refine z_qM rfl rfl (xm_loadEl htab rfl rfl rfl rfl rfl) rfl rfl rfl rfl rfl rfl ?_
          refine zep ?_
          refine zqp ?_
          refine z_e rfl rfl (Ex.wk (x_elem htab rfl rfl rfl rfl rfl rfl rfl (idx_nonneg q242) (idx_map q242)) (Wk.of_eq (congrArg D.el (eTApiExpr_eq x242)))) rfl rfl rfl rfl rfl rfl ?_
          refine zep ?_
          refine z_qM rfl rfl (xm_loadEl htab rfl rfl rfl rfl rfl) rfl rfl rfl rfl rfl rfl ?_
          refine zqp ?_
          refine z_q rfl rfl (x_pickF rfl rfl rfl) rfl rfl rfl rfl rfl rfl ?_
          refine zqp ?_
          refine z_known (j := 43) (b' := false) rfl hs243 ?_
          refine zep ?_
          refine zqp ?_
          refine z_e rfl rfl (Ex.wk (x_elem htab rfl rfl rfl rfl rfl rfl rfl (idx_nonneg q244) (idx_map q244)) (Wk.of_eq (congrArg D.el (eTApiExpr_eq x244)))) rfl rfl rfl rfl rfl rfl ?_
          refine zep ?_
          refine z_qM rfl rfl (xm_loadEl htab rfl rfl rfl rfl rfl) rfl rfl rfl rfl rfl rfl ?_
          refine zep ?_
          refine zqp ?_
          refine z_e rfl rfl (Ex.wk (x_elem htab rfl rfl rfl rfl rfl rfl rfl (idx_nonneg q245) (idx_map q245)) (Wk.of_eq (congrArg D.el (eTApiExpr_eq x245)))) rfl rfl rfl rfl rfl rfl ?_
          refine zep ?_
          refine z_qM rfl rfl (xm_loadEl htab rfl rfl rfl rfl rfl) rfl rfl rfl rfl rfl rfl ?_
          refine zqp ?_
          refine z_q rfl rfl (x_pickF rfl rfl rfl) rfl rfl rfl rfl rfl rfl ?_
          refine zqp ?_
          refine z_known (j := 56) (b' := true) rfl hs246 ?_
          iterate 14 refine zK ?_
          refine z_q rfl rfl (x_pickT rfl rfl rfl) rfl rfl rfl rfl rfl rfl ?_
          refine zqp ?_
          iterate 11 refine zK ?_
          refine z_nil rfl rfl (fun e he => by simp [isAl] at he) ?_
          refine pK ?_
          refine pK ?_
          refine p_pickT rfl rfl rfl rfl rfl rfl ?_
          refine ops_nil ?_
          have e237 := yes_eq hm; subst e237
          refine ⟨rfl, ?_⟩
          exact WkX.of () (WkS.perm (WkS.cons rfl (Wk.refl _) (WkS.cons rfl (Wk.refl _) (WkS.cons rfl (Wk.refl _) (WkS.cons rfl (Wk.refl _) (WkS.cons rfl (Wk.refl _) (WkS.nil)))))) Pf Pf)
         ·replace hm := yes_f hs246 hm
          refine bycB a2 (fun hs247 => ?_) (fun hs247 => ?_)
          ·replace hm := yes_t hs247 hm
           obtain ⟨x248, q248, hm⟩ := yes_bind hm
           obtain ⟨x249, q249, hm⟩ := yes_bind hm
           refine bycB (x248.gAt != x249.gAt) (fun hs250 => ?_) (fun hs250 => ?_)
           ·replace hm := yes_t hs250 hm
            refine wpD_draws 65 [] nlCh2_5 [0,2,3,5,7,8,12,14,15,17,19,20,25,27,28,30,32,33,40,42,43,45,47,48] nlCh2_2 (by kernel_rfl) (by kernel_rfl) (by kernel_rfl) (by rfl) (by rfl) (by kernel_rfl) ?_
            iterate 24 apply Exists.intro
            intro bs
            refine zep ?_
            refine zqp ?_
            refine z_e rfl rfl (Ex.wk (x_elem htab rfl rfl rfl rfl rfl rfl rfl (idx_nonneg q238) (idx_map q238)) (Wk.of_eq (congrArg D.el (eTApiExpr_eq x238)))) rfl rfl rfl rfl rfl rfl ?_
            refine zep ?_
            refine z_qM rfl rfl (xm_loadEl htab rfl rfl rfl rfl rfl) rfl rfl rfl rfl rfl rfl ?_
            refine zep ?_
            refine zqp ?_
            refine z_e rfl rfl (Ex.wk (x_elem htab rfl rfl rfl rfl rfl rfl rfl (idx_nonneg q239) (idx_map q239)) (Wk.of_eq (congrArg D.el (eTApiExpr_eq x239)))) rfl rfl rfl rfl rfl rfl ?_
            refine zep ?_
            refine z_qM rfl rfl (xm_loadEl htab rfl rfl rfl rfl rfl) rfl rfl rfl rfl rfl rfl ?_
            refine zqp ?_
            refine zqp ?_
            refine z_known (j := 30) (b' := false) rfl hs240 ?_
            refine zep ?_
            refine zqp ?_
            refine z_e rfl rfl (Ex.wk (x_elem htab rfl rfl rfl rfl rfl rfl rfl (idx_nonneg q241) (idx_map q241)) (Wk.of_eq (congrArg D.el (eTApiExpr_eq x241)))) rfl rfl rfl rfl rfl rfl ?_
            refine zep ?_
            refine z_qM rfl rfl (xm_loadEl htab rfl rfl rfl rfl rfl) rfl rfl rfl rfl rfl rfl ?_
            refine zep ?_
            refine zqp ?_
            refine z_e rfl rfl (Ex.wk (x_elem htab rfl rfl rfl rfl rfl rfl rfl (idx_nonneg q242) (idx_map q242)) (Wk.of_eq (congrArg D.el (eTApiExpr_eq x242)))) rfl rfl rfl rfl rfl rfl ?_
            refine zep ?_
            refine z_qM rfl rfl (xm_loadEl htab rfl rfl rfl rfl rfl) rfl rfl rfl rfl rfl rfl ?_
            refine zqp ?_
            refine z_q rfl rfl (x_pickF rfl rfl rfl) rfl rfl rfl rfl rfl rfl ?_
            refine zqp ?_
            refine z_known (j := 43) (b' := false) rfl hs243 ?_
            refine zep ?_
            refine zqp ?_
            refine z_e rfl rfl (Ex.wk (x_elem htab rfl rfl rfl rfl rfl rfl rfl (idx_nonneg q244) (idx_map q244)) (Wk.of_eq (congrArg D.el (eTApiExpr_eq x244)))) rfl rfl rfl rfl rfl rfl ?_
            refine zep ?_
            refine z_qM rfl rfl (xm_loadEl htab rfl rfl rfl rfl rfl) rfl rfl rfl rfl rfl rfl ?_
            refine zep ?_
            refine zqp ?_
            refine z_e rfl rfl (Ex.wk (x_elem htab rfl rfl rfl rfl rfl rfl rfl (idx_nonneg q245) (idx_map q245)) (Wk.of_eq (congrArg D.el (eTApiExpr_eq x245)))) rfl rfl rfl rfl rfl rfl ?_
            refine zep ?_
            refine z_qM rfl rfl (xm_loadEl htab rfl rfl rfl rfl rfl) rfl rfl rfl rfl rfl rfl ?_
            refine zqp ?_
            refine z_q rfl rfl (x_pickF rfl rfl rfl) rfl rfl rfl rfl rfl rfl ?_
            refine zqp ?_
            refine z_known (j := 56) (b' := false) rfl hs246 ?_
            refine zqp ?_
            refine zqp ?_
            refine z_known (j := 58) (b' := true) rfl hs247 ?_
            refine zep ?_
            refine zqp ?_
            refine z_e rfl rfl (Ex.wk (x_elem htab rfl rfl rfl rfl rfl rfl rfl (idx_nonneg q248) (idx_map q248)) (Wk.of_eq (congrArg D.el (eTApiExpr_eq x248)))) rfl rfl rfl rfl rfl rfl ?_
            refine zep ?_
            refine z_qM rfl rfl (xm_loadEl htab rfl rfl rfl rfl rfl) rfl rfl rfl rfl rfl rfl ?_
            refine zep ?_
            refine zqp ?_
            refine z_e rfl rfl (Ex.wk (x_elem htab rfl rfl rfl rfl rfl rfl rfl (idx_nonneg q249) (idx_map q249)) (Wk.of_eq (congrArg D.el (eTApiExpr_eq x249)))) rfl rfl rfl rfl rfl rfl ?_
            refine zep ?_
            refine z_qM rfl rfl (xm_loadEl htab rfl rfl rfl rfl rfl) rfl rfl rfl rfl rfl rfl ?_
            refine zqp ?_
            refine z_q rfl rfl (x_pickT rfl rfl rfl) rfl rfl rfl rfl rfl rfl ?_
            refine z_q rfl rfl (x_pickF rfl rfl rfl) rfl rfl rfl rfl rfl rfl ?_
            refine zqp ?_
            refine z_known (j := 72) (b' := true) rfl hs250 ?_
            iterate 11 refine zK ?_
            refine z_nil rfl rfl (fun e he => by simp [isAl] at he) ?_
            refine pK ?_
            refine pK ?_
            refine p_pickT rfl rfl rfl rfl rfl rfl ?_
            refine ops_nil ?_
            have e237 := yes_eq hm; subst e237
            refine ⟨rfl, ?_⟩
            exact WkX.of () (WkS.perm (WkS.cons rfl (Wk.refl _) (WkS.cons rfl (Wk.refl _) (WkS.cons rfl (Wk.refl _) (WkS.cons rfl (Wk.refl _) (WkS.cons rfl (Wk.refl _) (WkS.nil)))))) Pf Pf)
           ·replace hm := yes_f hs250 hm
            obtain ⟨x251, q251, hm⟩ := yes_bind hm
            obtain ⟨x252, q252, hm⟩ := yes_bind hm
            refine wpD_draws 65 [] nlCh2_6 [0,2,3,5,7,8,12,14,15,17,19,20,25,27,28,30,32,33,40,42,43,45,47,48,54,56,57,58,59,61,62,63] nlCh2_2 (by kernel_rfl) (by kernel_rfl) (by kernel_rfl) (by rfl) (by rfl) (by kernel_rfl) ?_
            iterate 32 apply Exists.intro
            intro bs
            refine zep ?_
            refine zqp ?_
            refine z_e rfl rfl (Ex.wk (x_elem htab rfl rfl rfl rfl rfl rfl rfl (idx_nonneg q238) (idx_map q238)) (Wk.of_eq (congrArg D.el (eTApiExpr_eq x238)))) rfl rfl rfl rfl rfl rfl ?_
            refine zep ?_
            refine z_qM rfl rfl (xm_loadEl htab rfl rfl rfl rfl rfl) rfl rfl rfl rfl rfl rfl ?_
            refine zep ?_
            refine zqp ?_
            refine z_e rfl rfl (Ex.wk (x_elem htab rfl rfl rfl rfl rfl rfl rfl (idx_nonneg q239) (idx_map q239)) (Wk.of_eq (congrArg D.el (eTApiExpr_eq x239)))) rfl rfl rfl rfl rfl rfl ?_
            refine zep ?_
            refine z_qM rfl rfl (xm_loadEl htab rfl rfl rfl rfl rfl) rfl rfl rfl rfl rfl rfl ?_
            refine zqp ?_
            refine zqp ?_
            refine z_known (j := 30) (b' := false) rfl hs240 ?_
            refine zep ?_
            refine zqp ?_
            refine z_e rfl rfl (Ex.wk (x_elem htab rfl rfl rfl rfl rfl rfl rfl (idx_nonneg q241) (idx_map q241)) (Wk.of_eq (congrArg D.el (eTApiExpr_eq x241)))) rfl rfl rfl rfl rfl rfl ?_
            refine zep ?_
            refine z_qM rfl rfl (xm_loadEl htab rfl rfl rfl rfl rfl) rfl rfl rfl rfl rfl rfl ?_
            refine zep ?_
            refine zqp ?_
            refine z_e rfl rfl (Ex.wk (x_elem htab rfl rfl rfl rfl rfl rfl rfl (idx_nonneg q242) (idx_map q242)) (Wk.of_eq (congrArg D.el (eTApiExpr_eq x242)))) rfl rfl rfl rfl rfl rfl ?_
            refine zep ?_
            refine z_qM rfl rfl (xm_loadEl htab rfl rfl rfl rfl rfl) rfl rfl rfl rfl rfl rfl ?_
            refine zqp ?_
            refine z_q rfl rfl (x_pickF rfl rfl rfl) rfl rfl rfl rfl rfl rfl ?_
            refine zqp ?_
            refine z_known (j := 43) (b' := false) rfl hs243 ?_
            refine zep ?_
            refine zqp ?_
            refine z_e rfl rfl (Ex.wk (x_elem htab rfl rfl rfl rfl rfl rfl rfl (idx_nonneg q244) (idx_map q244)) (Wk.of_eq (congrArg D.el (eTApiExpr_eq x244)))) rfl rfl rfl rfl rfl rfl ?_
            refine zep ?_
            refine z_qM rfl rfl (xm_loadEl htab rfl rfl rfl rfl rfl) rfl rfl rfl rfl rfl rfl ?_
            refine zep ?_
            refine zqp ?_
            refine z_e rfl rfl (Ex.wk (x_elem htab rfl rfl rfl rfl rfl rfl rfl (idx_nonneg q245) (idx_map q245)) (Wk.of_eq (congrArg D.el (eTApiExpr_eq x245)))) rfl rfl rfl rfl rfl rfl ?_
            refine zep ?_
            refine z_qM rfl rfl (xm_loadEl htab rfl rfl rfl rfl rfl) rfl rfl rfl rfl rfl rfl ?_
            refine zqp ?_
            refine z_q rfl rfl (x_pickF rfl rfl rfl) rfl rfl rfl rfl rfl rfl ?_
            refine zqp ?_
            refine z_known (j := 56) (b' := false) rfl hs246 ?_
            refine zqp ?_
            refine zqp ?_
            refine z_known (j := 58) (b' := true) rfl hs247 ?_
            refine zep ?_
            refine zqp ?_
            refine z_e rfl rfl (Ex.wk (x_elem htab rfl rfl rfl rfl rfl rfl rfl (idx_nonneg q248) (idx_map q248)) (Wk.of_eq (congrArg D.el (eTApiExpr_eq x248)))) rfl rfl rfl rfl rfl rfl ?_
            refine zep ?_
            refine z_qM rfl rfl (xm_loadEl htab rfl rfl rfl rfl rfl) rfl rfl rfl rfl rfl rfl ?_
            refine zep ?_
            refine zqp ?_
            refine z_e rfl rfl (Ex.wk (x_elem htab rfl rfl rfl rfl rfl rfl rfl (idx_nonneg q249) (idx_map q249)) (Wk.of_eq (congrArg D.el (eTApiExpr_eq x249)))) rfl rfl rfl rfl rfl rfl ?_
            refine zep ?_
            refine z_qM rfl rfl (xm_loadEl htab rfl rfl rfl rfl rfl) rfl rfl rfl rfl rfl rfl ?_
            refine zqp ?_
            refine z_q rfl rfl (x_pickT rfl rfl rfl) rfl rfl rfl rfl rfl rfl ?_
            refine z_q rfl rfl (x_pickF rfl rfl rfl) rfl rfl rfl rfl rfl rfl ?_
            refine zqp ?_
            refine z_known (j := 72) (b' := false) rfl hs250 ?_
            refine zep ?_
            refine zqp ?_
            refine z_e rfl rfl (Ex.wk (x_elem htab rfl rfl rfl rfl rfl rfl rfl (idx_nonneg q251) (idx_map q251)) (Wk.of_eq (congrArg D.el (eTApiExpr_eq x251)))) rfl rfl rfl rfl rfl rfl ?_
            refine zep ?_
            refine z_eM rfl rfl (xm_loadEl htab rfl rfl rfl rfl rfl) rfl rfl rfl rfl rfl rfl ?_
            refine zep ?_
            refine zqp ?_
            refine z_e rfl rfl (Ex.wk (x_elem htab rfl rfl rfl rfl rfl rfl rfl (idx_nonneg q252) (idx_map q252)) (Wk.of_eq (congrArg D.el (eTApiExpr_eq x252)))) rfl rfl rfl rfl rfl rfl ?_
            refine zep ?_
            refine z_eM rfl rfl (xm_loadEl htab rfl rfl rfl rfl rfl) rfl rfl rfl rfl rfl rfl ?_
            refine zqp ?_
            refine z_nil rfl rfl (fun e he => by simp [isAl] at he) ?_
            obtain ⟨x253, q253, hm⟩ := yes_bind hm
            refine p_call0 (hg0 x251.gKids x252.gKids a2 x253 q253) rfl rfl rfl rfl rfl Wl ?_
            rintro _ rfl
            refine pu ?_
            refine p_pickF rfl rfl rfl rfl rfl rfl ?_
            refine ops_nil ?_
            have e237 := yes_eq hm; subst e237
            refine ⟨rfl, ?_⟩
            exact WkX.of () (WkS.perm (WkS.cons rfl (Wk.refl _) (WkS.cons rfl (Wk.refl _) (WkS.cons rfl (Wk.refl _) (WkS.cons rfl (Wk.refl _) (WkS.cons rfl (Wk.refl _) (WkS.nil)))))) Pf Pf)
          ·replace hm := yes_f hs247 hm
           obtain ⟨x254, q254, hm⟩ := yes_bind hm
           obtain ⟨x255, q255, hm⟩ := yes_bind hm
           refine wpD_draws 65 [] nlCh2_7 [0,2,3,5,7,8,12,14,15,17,19,20,25,27,28,30,32,33,54,56,57,58,59,61,62,63] nlCh2_2 (by kernel_rfl) (by kernel_rfl) (by kernel_rfl) (by rfl) (by rfl) (by kernel_rfl) ?_
           iterate 26 apply Exists.intro
           intro bs
           refine zep ?_
           refine zqp ?_
           refine z_e rfl rfl (Ex.wk (x_elem htab rfl rfl rfl rfl rfl rfl rfl (idx_nonneg q238) (idx_map q238)) (Wk.of_eq (congrArg D.el (eTApiExpr_eq x238)))) rfl rfl rfl rfl rfl rfl ?_
           refine zep ?_
           refine z_qM rfl rfl (xm_loadEl htab rfl rfl rfl rfl rfl) rfl rfl rfl rfl rfl rfl ?_
           refine zep ?_
           refine zqp ?_
           refine z_e rfl rfl (Ex.wk (x_elem htab rfl rfl rfl rfl rfl rfl rfl (idx_nonneg q239) (idx_map q239)) (Wk.of_eq (congrArg D.el (eTApiExpr_eq x239)))) rfl rfl rfl rfl rfl rfl ?_
           refine zep ?_
           refine z_qM rfl rfl (xm_loadEl htab rfl rfl rfl rfl rfl) rfl rfl rfl rfl rfl rfl ?_
           refine zqp ?_
           refine zqp ?_
           refine z_known (j := 30) (b' := false) rfl hs240 ?_
           refine zep ?_
           refine zqp ?_
           refine z_e rfl rfl (Ex.wk (x_elem htab rfl rfl rfl rfl rfl rfl rfl (idx_nonneg q241) (idx_map q241)) (Wk.of_eq (congrArg D.el (eTApiExpr_eq x241)))) rfl rfl rfl rfl rfl rfl ?_
           refine zep ?_
           refine z_qM rfl rfl (xm_loadEl htab rfl rfl rfl rfl rfl) rfl rfl rfl rfl rfl rfl ?_
           refine zep ?_
           refine zqp ?_
           refine z_e rfl rfl (Ex.wk (x_elem htab rfl rfl rfl rfl rfl rfl rfl (idx_nonneg q242) (idx_map q242)) (Wk.of_eq (congrArg D.el (eTApiExpr_eq x242)))) rfl rfl rfl rfl rfl rfl ?_
           refine zep ?_
           refine z_qM rfl rfl (xm_loadEl htab rfl rfl rfl rfl rfl) rfl rfl rfl rfl rfl rfl ?_
           refine zqp ?_
           refine z_q rfl rfl (x_pickF rfl rfl rfl) rfl rfl rfl rfl rfl rfl ?_
           refine zqp ?_
           refine z_known (j := 43) (b' := false) rfl hs243 ?_
           refine zep ?_
           refine zqp ?_
           refine z_e rfl rfl (Ex.wk (x_elem htab rfl rfl rfl rfl rfl rfl rfl (idx_nonneg q244) (idx_map q244)) (Wk.of_eq (congrArg D.el (eTApiExpr_eq x244)))) rfl rfl rfl rfl rfl rfl ?_
           refine zep ?_
           refine z_qM rfl rfl (xm_loadEl htab rfl rfl rfl rfl rfl) rfl rfl rfl rfl rfl rfl ?_
           refine zep ?_
           refine zqp ?_
           refine z_e rfl rfl (Ex.wk (x_elem htab rfl rfl rfl rfl rfl rfl rfl (idx_nonneg q245) (idx_map q245)) (Wk.of_eq (congrArg D.el (eTApiExpr_eq x245)))) rfl rfl rfl rfl rfl rfl ?_
           refine zep ?_
           refine z_qM rfl rfl (xm_loadEl htab rfl rfl rfl rfl rfl) rfl rfl rfl rfl rfl rfl ?_
           refine zqp ?_
           refine z_q rfl rfl (x_pickF rfl rfl rfl) rfl rfl rfl rfl rfl rfl ?_
           refine zqp ?_
           refine z_known (j := 56) (b' := false) rfl hs246 ?_
           refine zqp ?_
           refine zqp ?_
           refine z_known (j := 58) (b' := false) rfl hs247 ?_
           iterate 11 refine zK ?_
           refine z_q rfl rfl (x_pickF rfl rfl rfl) rfl rfl rfl rfl rfl rfl ?_
           refine z_q rfl rfl (x_pickF rfl rfl rfl) rfl rfl rfl rfl rfl rfl ?_
           refine zqp ?_
           refine zep ?_
           refine zqp ?_
           refine z_e rfl rfl (Ex.wk (x_elem htab rfl rfl rfl rfl rfl rfl rfl (idx_nonneg q254) (idx_map q254)) (Wk.of_eq (congrArg D.el (eTApiExpr_eq x254)))) rfl rfl rfl rfl rfl rfl ?_
           refine zep ?_
           refine z_eM rfl rfl (xm_loadEl htab rfl rfl rfl rfl rfl) rfl rfl rfl rfl rfl rfl ?_
           refine zep ?_
           refine zqp ?_
           refine z_e rfl rfl (Ex.wk (x_elem htab rfl rfl rfl rfl rfl rfl rfl (idx_nonneg q255) (idx_map q255)) (Wk.of_eq (congrArg D.el (eTApiExpr_eq x255)))) rfl rfl rfl rfl rfl rfl ?_
           refine zep ?_
           refine z_eM rfl rfl (xm_loadEl htab rfl rfl rfl rfl rfl) rfl rfl rfl rfl rfl rfl ?_
           refine zqp ?_
           refine z_nil rfl rfl (fun e he => by simp [isAl] at he) ?_
           obtain ⟨x256, q256, hm⟩ := yes_bind hm
           refine p_call0 (hg0 x254.gKids x255.gKids a2 x256 q256) rfl rfl rfl rfl rfl Wl ?_
           rintro _ rfl
           refine pu ?_
           refine p_pickF rfl rfl rfl rfl rfl rfl ?_
           refine ops_nil ?_
           have e237 := yes_eq hm; subst e237
           refine ⟨rfl, ?_⟩
           exact WkX.of () (WkS.perm (WkS.cons rfl (Wk.refl _) (WkS.cons rfl (Wk.refl _) (WkS.cons rfl (Wk.refl _) (WkS.cons rfl (Wk.refl _) (WkS.cons rfl (Wk.refl _) (WkS.nil)))))) Pf Pf)
      ·intro s237 hw237; clear hm; have hm := ho237; clear q237 ho237
       refine then_normal ?_
       refine wpD_wkX hw237 (fun z237 => ?_)
       refine wpD_cond rfl (fun hc257 => ?_) (fun hc257 => ?_)
       ·replace hm := yes_t hc257 hm
        refine wpD_sr ?_
        refine pu ?_
        refine ops_nt ?_
        refine wpD_ret ?_
        refine block_ret ?_
        refine then_ret ?_
        have e132 := lp_done hm; subst e132; clear hm; have hm := hq132
        refine then_ret ?_
        refine block_ret ?_
        have e131 := yes_eq hm; subst e131; refine midX_inr ?_; clear hm; have hm := ho131; simp only [Sum.elim_inr] at hm
        refine then_ret ?_
        have er258 := yes_eq hm; subst er258
        refine rP (t' := [(6, .v (.bool false))]) [] [] 0 (wC wN) (lT lN) ?_
        exact ⟨rfl, rfl, rfl⟩
       ·replace hm := yes_f hc257 hm
        refine wpD_skip ?_
        refine block_normal ?_
        refine then_normal ?_
        refine wpD_region ?_
        iterate 3 refine pu ?_
        refine ops_nil ?_
        refine then_normal ⟨_, lp_next hm, ?_⟩
        exact WkX.of () (WkS.perm (WkS.cons rfl (Wk.refl _) (WkS.cons rfl (Wk.refl _) (WkS.cons rfl (Wk.refl _) (WkS.cons rfl (Wk.refl _) (WkS.nil))))) Pf Pf)
     ·replace hm := yes_f hc217 hm
      refine wpD_exit ?_
      refine then_exit ?_
      have e132 := lp_done hm; subst e132; clear hm; have hm := hq132
      refine then_exit ?_
      refine block_hit ?_
      have e131 := yes_eq hm; subst e131
      refine midX_inl ?_
      exact WkX.of () (WkS.perm (WkS.nil) Pf Pf)
   ·intro y131 s131 hx131 hw131; subst hx131; clear hm; have hm := ho131; simp only [Sum.elim_inl] at hm; clear q131 ho131
    refine then_normal ?_
    refine wpD_wkX hw131 (fun z131 => ?_)
    refine wpD_sr ?_
    refine pu ?_
    refine ops_nt ?_
    refine wpD_ret ?_
    have er259 := yes_eq hm; subst er259
    refine rP (t' := [(6, .v (.bool true))]) [] [] 0 (wC wN) (lT lN) ?_
    exact ⟨rfl, rfl, rfl⟩
noncomputable def r11_Exps_g : Nat → ((List TApiExpr) → (List TApiExpr) → (Bool) → Option (Bool))
  | 0 => (fun _ _ _ => none)
  | n + 1 => (r11_Exps_b ((r11_Exps_g n)))
theorem r11_Exps_g_ok : ∀ n, (∀ (a0 : List TApiExpr) (a1 : List TApiExpr) (a2 : Bool) (r : Bool) (h0 : (r11_Exps_g n) a0 a1 a2 = some r), CallsD Try.prog 69 [.lst 5 (a0.map eTApiExpr) .no, .lst 5 (a1.map eTApiExpr) .no, .v (.bool a2)] [] [] (fun d h k => d = .v (.bool r) ∧ h = [] ∧ k = []))
  | 0 => fun _ _ _ _ h0 => by cases h0
  | n + 1 => by
    have ih := r11_Exps_g_ok n
    exact r11_Exps_b_ok (r11_Exps_g n) ih
theorem r11_Exps_g_le : ∀ n, (∀ (a0 : List TApiExpr) (a1 : List TApiExpr) (a2 : Bool), Le ((r11_Exps_g n) a0 a1 a2) ((r11_Exps_g (n + 1)) a0 a1 a2))
  | 0 => fun _ _ _ => Le.none _
  | n + 1 => by
    have ih := r11_Exps_g_le n
    exact fun a0 a1 a2 => by show Le (r11_Exps_b ((r11_Exps_g n)) a0 a1 a2) (r11_Exps_b ((r11_Exps_g (n + 1))) a0 a1 a2); unfold r11_Exps_b; repeat (first | exact Le.refl _ | exact ih _ _ _ | assumption | (refine Le.bind ?_ (fun _ => ?_)) | (refine Le.cond ?_ ?_) | (refine Le.loop (fun _ => ?_)) | (refine Le.elim (fun _ => ?_) (fun _ => ?_)))
noncomputable def r11_Exps (a0 : List TApiExpr) (a1 : List TApiExpr) (a2 : Bool) : Option (Bool) := anyN fun n => (r11_Exps_g n) a0 a1 a2
theorem r11_Exps_of (a0 : List TApiExpr) (a1 : List TApiExpr) (a2 : Bool) {r : Bool} (n : Nat) (h : (r11_Exps_g n) a0 a1 a2 = some r) : r11_Exps a0 a1 a2 = some r := anyN_of (fun m => (r11_Exps_g_le m) a0 a1 a2) h
theorem r11_Exps_ok (a0 : List TApiExpr) (a1 : List TApiExpr) (a2 : Bool) (r : Bool) (h0 : r11_Exps a0 a1 a2 = some r) : CallsD Try.prog 69 [.lst 5 (a0.map eTApiExpr) .no, .lst 5 (a1.map eTApiExpr) .no, .v (.bool a2)] [] [] (fun d h k => d = .v (.bool r) ∧ h = [] ∧ k = []) :=
  let ⟨n, hn⟩ := anyN_inv h0; (r11_Exps_g_ok n) a0 a1 a2  r hn
end Go.Proofs.Ytpeimfcmhedjmaa.Ab
