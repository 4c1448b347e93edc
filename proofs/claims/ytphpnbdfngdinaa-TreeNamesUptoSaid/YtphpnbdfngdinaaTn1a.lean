/- Layer 11: what the functions compute. -/
import Derived.Test.YtphpnbdfngdinaaTn1
namespace Go.Proofs.Ytphpnbdfngdinaa.Ab
open Go
set_option linter.all false
noncomputable def tree_walk_r2_b (g0 : (List TApiStmt) → (TTreeBagString) → Option (TTreeBagString)) (a0 : List TApiStmt) (m0 : TTreeBagString) : Option (TTreeBagString) :=
  (Option.bind (α := List ByteArray) (loopM (fun (s129 : Int × List ByteArray) => (bif (decide (s129.1 < (a0.length : Int))) then ((idx a0 s129.1).bind fun x213 => ((tree_Calls_1_r x213 (⟨s129.2⟩ : TTreeBagString)).bind fun x216 => (Option.bind (α := Unit) (loopM (fun (s233 : Int) => (bif (decide (s233 < (x213.gExps.length : Int))) then ((idx x213.gExps s233).bind fun x245 => ((tree_walk_12 x245).bind fun x247 => some (.next (IntKind.i64.wrap (s233 + (1 : Int)))))) else some (.done ()))) (0 : Int)) fun y232 => ((g0 x213.gKids x216).bind fun x249 => ((g0 x213.gElse x249).bind fun x251 => some (.next ((IntKind.i64.wrap (s129.1 + (1 : Int))), x251.gL))))))) else some (.done s129.2))) ((0 : Int), m0.gL)) fun y128 => some (⟨y128⟩ : TTreeBagString))
set_option maxRecDepth 100000 in
set_option maxHeartbeats 2000000 in
theorem tree_walk_r2_b_ok (g0 : (List TApiStmt) → (TTreeBagString) → Option (TTreeBagString)) (hg0 : ∀ (a0 : List TApiStmt) (m0 : TTreeBagString) (o0 : Nat) (T0 : TypeId) (z0_0 : Z3) (r : TTreeBagString) (h0 : g0 a0 m0 = some r), CallsD Try.prog 34 [.lst 7 (a0.map eTApiStmt) .no, .fn (.func 39) [] [.ptr o0 0], .fn (.func 40) [] []] [(o0, Blk.cells [.v (SL z0_0)] T0), (0, Blk.row 1 (m0.gL.map eStr) (SL z0_0))] [] (fun d h k => ∃ y0, d = .tup [] ∧ h = [(o0, Blk.cells [.v (SL y0)] T0), (0, Blk.row 1 (r.gL.map eStr) (SL y0))] ∧ k = [])) (a0 : List TApiStmt) (m0 : TTreeBagString) (o0 : Nat) (T0 : TypeId) (z0_0 : Z3) (r : TTreeBagString) (h0 : tree_walk_r2_b g0 a0 m0 = some r) : CallsD Try.prog 34 [.lst 7 (a0.map eTApiStmt) .no, .fn (.func 39) [] [.ptr o0 0], .fn (.func 40) [] []] [(o0, Blk.cells [.v (SL z0_0)] T0), (0, Blk.row 1 (m0.gL.map eStr) (SL z0_0))] [] (fun d h k => ∃ y0, d = .tup [] ∧ h = [(o0, Blk.cells [.v (SL y0)] T0), (0, Blk.row 1 (r.gL.map eStr) (SL y0))] ∧ k = []) := by
  have hm := yes_of h0
  unfold tree_walk_r2_b at hm
  clear h0
  refine enterX htab Try.func34 rfl rfl rfl rfl rfl (fun C => ?_)
  refine wpD_seq ?_
  refine wpD_region ?_
  refine p_box rfl rfl rfl rfl rfl rfl rfl (fun b1 => ?_)
  refine ops_nil ?_
  refine then_normal ?_
  refine wpD_seq ?_
  refine wpD_region ?_
  refine p_alloc htab rfl rfl rfl rfl rfl rfl rfl (fun b2 => ?_)
  refine ops_nil ?_
  refine then_normal ?_
  refine wpD_seq ?_
  refine wpD_region ?_
  refine p_pure htab rfl rfl rfl rfl ?_
  refine p_store (ds' := [.fn (.func 52) [] [.ptr b1 0, .ptr b2 0]]) (h' := [(o0, Blk.cells [.v (SL z0_0)] T0), (0, Blk.row 1 (m0.gL.map eStr) (SL z0_0)), (b1, Blk.cells [.fn (.func 40) [] []] 58), (b2, Blk.cells [.fn (.func 52) [] [.ptr b1 0, .ptr b2 0]] 58)]) 3 htab rfl rfl rfl rfl rfl rfl rfl rfl rfl rfl rfl rfl ?_
  refine ops_nil ?_
  refine then_normal ?_
  refine wpD_seq ?_
  refine wpD_region ?_
  refine p_pure htab rfl rfl rfl rfl ?_
  refine p_lenL htab rfl rfl rfl rfl rfl rfl rfl (by first | exact map_len | rfl) ?_
  refine p_pure htab rfl rfl rfl rfl ?_
  refine ops_nil ?_
  refine then_normal ?_
  obtain ⟨y128, q128, ho128⟩ := yes_bind hm
  refine wpD_mid (Y := Z3) (fun z128 => (⟨[], [(0, Blk.row 1 (y128.map eStr) (SL z128)), (o0, Blk.cells [.v (SL z128)] T0), (b1, Blk.cells [.fn (.func 40) [] []] 58), (b2, Blk.cells [.fn (.func 52) [] [.ptr b1 0, .ptr b2 0]] 58)], []⟩ : S)) ?_ ?_
  · clear hm; have hm := yes_of q128
    refine wpD_block ?_
    obtain ⟨u129, hl129, hq129⟩ := yes_m hm
    refine loop_M (Y := Z3) hl129 (fun s129 z129 => (⟨[(1, .fn (.func 39) [] [.ptr o0 0]), (5, .ptr b1 0), (6, .ptr b2 0), (12, .lst 7 (a0.map eTApiStmt) .no), (13, .v (.int .i64 (a0.length : Int))), (14, .v (.int .i64 s129.1))], [(0, Blk.row 1 (s129.2.map eStr) (SL z129)), (o0, Blk.cells [.v (SL z129)] T0), (b1, Blk.cells [.fn (.func 40) [] []] 58), (b2, Blk.cells [.fn (.func 52) [] [.ptr b1 0, .ptr b2 0]] 58)], []⟩ : S)) ?_ ?_
    · skip
      exact WkX.of z0_0 (WkS.perm (WkS.cons rfl (Wk.refl _) (WkS.cons rfl (Wk.refl _) (WkS.cons rfl (Wk.refl _) (WkS.cons rfl (Wk.refl _) (WkS.cons rfl (Wk.refl _) (WkS.cons rfl (Wk.refl _) (WkS.nil))))))) ((perm_at (j := 1) rfl).trans (List.Perm.cons _ ((perm_at (j := 0) rfl).trans (List.Perm.cons _ ((perm_at (j := 0) rfl).trans (List.Perm.cons _ ((perm_at (j := 0) rfl).trans (List.Perm.cons _ (List.Perm.refl _))))))))) (List.Perm.refl _))
    · intro G129 s129 z129 hm
      refine wpD_seq ?_
      refine wpD_region ?_
      refine p_pure htab rfl rfl rfl rfl ?_
      refine ops_nil ?_
      refine then_normal ?_
      refine wpD_seq ?_
      refine wpD_cond rfl (fun hc212 => ?_) (fun hc212 => ?_)
      · replace hm := yes_t hc212 hm
        refine wpD_skip ?_
        refine then_normal ?_
        refine wpD_seq ?_
        refine wpD_block ?_
        refine wpD_seq ?_
        refine wpD_region ?_
        obtain ⟨x213, q213, hm⟩ := yes_bind hm
        refine p_elem htab rfl rfl rfl rfl rfl rfl rfl rfl rfl rfl (idx_nonneg q213) (idx_map q213) ?_
        refine p_eq (i := 16) rfl (Wk.of_eq (congrArg D.el (eTApiStmt_eq x213))) ?_
        refine p_loadEl (d := .agg [.v (.int .i64 x213.gOp), .v (.string x213.gName), .v (.string x213.gFunc), .lst 5 (x213.gExps.map eTApiExpr) .no, .lst 7 (x213.gKids.map eTApiStmt) .no, .lst 7 (x213.gElse.map eTApiStmt) .no, .v (.int .i64 x213.gAt)]) htab rfl rfl rfl rfl rfl rfl rfl rfl ?_
        refine p_alloc htab rfl rfl rfl rfl rfl rfl rfl (fun b214 => ?_)
        refine p_store (ds' := [.v (.int .i64 x213.gOp), .v (.string x213.gName), .v (.string x213.gFunc), .lst 5 (x213.gExps.map eTApiExpr) .no, .lst 7 (x213.gKids.map eTApiStmt) .no, .lst 7 (x213.gElse.map eTApiStmt) .no, .v (.int .i64 x213.gAt)]) (h' := [(0, Blk.row 1 (s129.2.map eStr) (SL z129)), (o0, Blk.cells [.v (SL z129)] T0), (b1, Blk.cells [.fn (.func 40) [] []] 58), (b2, Blk.cells [.fn (.func 52) [] [.ptr b1 0, .ptr b2 0]] 58), (b214, Blk.cells [.v (.int .i64 x213.gOp), .v (.string x213.gName), .v (.string x213.gFunc), .lst 5 (x213.gExps.map eTApiExpr) .no, .lst 7 (x213.gKids.map eTApiStmt) .no, .lst 7 (x213.gElse.map eTApiStmt) .no, .v (.int .i64 x213.gAt)] 56)]) 4 htab rfl rfl rfl rfl rfl rfl rfl rfl rfl rfl rfl rfl ?_
        refine ops_nil ?_
        refine then_normal ?_
        refine wpD_seq ?_
        refine wpD_region ?_
        refine p_pure htab rfl rfl rfl rfl ?_
        refine p_load (d := .agg [.v (.int .i64 x213.gOp), .v (.string x213.gName), .v (.string x213.gFunc), .lst 5 (x213.gExps.map eTApiExpr) .no, .lst 7 (x213.gKids.map eTApiStmt) .no, .lst 7 (x213.gElse.map eTApiStmt) .no, .v (.int .i64 x213.gAt)]) 4 htab rfl rfl rfl rfl rfl rfl rfl rfl ?_
        obtain ⟨x216, q216, hm⟩ := yes_bind hm
        refine p_callV (tree_Calls_1_r_ok x213 (⟨s129.2⟩ : TTreeBagString) o0 T0 z129 x216 q216) rfl rfl rfl rfl rfl rfl rfl (WkL.cons (Wk.trans (Wk.agg (WkR.refl _)) (Wk.of_eq (eTApiStmt_eq x213).symm)) (WkL.cons (Wk.refl _) (WkL.refl _))) ((perm_at (j := 1) rfl).trans (List.Perm.cons _ ((perm_at (j := 0) rfl).trans (List.Perm.cons _ (List.Perm.refl _))))) (List.Perm.refl _) ?_
        rintro _ _ _ ⟨w215, rfl, rfl, rfl⟩
        refine ops_nil ?_
        refine then_normal ?_
        refine wpD_seq ?_
        refine wpD_seq ?_
        refine wpD_region ?_
        refine p_pure htab rfl rfl rfl rfl ?_
        refine p_load 4 htab rfl rfl rfl rfl rfl rfl rfl rfl ?_
        refine p_lenL htab rfl rfl rfl rfl rfl rfl rfl (by first | exact map_len | rfl) ?_
        refine p_pure htab rfl rfl rfl rfl ?_
        refine ops_nil ?_
        refine then_normal ?_
        obtain ⟨y232, q232, ho232⟩ := yes_bind hm
        refine wpD_mid (Y := Unit) (fun z232 => (⟨[(1, .fn (.func 39) [] [.ptr o0 0]), (5, .ptr b1 0), (6, .ptr b2 0), (8, .ptr b214 0), (12, .lst 7 (a0.map eTApiStmt) .no), (13, .v (.int .i64 (a0.length : Int))), (14, .v (.int .i64 s129.1))], [(o0, Blk.cells [.v (SL w215)] T0), (0, Blk.row 1 (x216.gL.map eStr) (SL w215)), (b1, Blk.cells [.fn (.func 40) [] []] 58), (b2, Blk.cells [.fn (.func 52) [] [.ptr b1 0, .ptr b2 0]] 58), (b214, Blk.cells [.v (.int .i64 x213.gOp), .v (.string x213.gName), .v (.string x213.gFunc), .lst 5 (x213.gExps.map eTApiExpr) .no, .lst 7 (x213.gKids.map eTApiStmt) .no, .lst 7 (x213.gElse.map eTApiStmt) .no, .v (.int .i64 x213.gAt)] 56)], []⟩ : S)) ?_ ?_
        · clear hm; have hm := yes_of q232
          refine wpD_block ?_
          obtain ⟨u233, hl233, hq233⟩ := yes_m hm
          refine loop_M (Y := Unit) hl233 (fun s233 z233 => (⟨[(1, .fn (.func 39) [] [.ptr o0 0]), (5, .ptr b1 0), (6, .ptr b2 0), (8, .ptr b214 0), (12, .lst 7 (a0.map eTApiStmt) .no), (13, .v (.int .i64 (a0.length : Int))), (14, .v (.int .i64 s129.1)), (22, .lst 5 (x213.gExps.map eTApiExpr) .no), (23, .v (.int .i64 (x213.gExps.length : Int))), (24, .v (.int .i64 s233))], [(o0, Blk.cells [.v (SL w215)] T0), (0, Blk.row 1 (x216.gL.map eStr) (SL w215)), (b1, Blk.cells [.fn (.func 40) [] []] 58), (b2, Blk.cells [.fn (.func 52) [] [.ptr b1 0, .ptr b2 0]] 58), (b214, Blk.cells [.v (.int .i64 x213.gOp), .v (.string x213.gName), .v (.string x213.gFunc), .lst 5 (x213.gExps.map eTApiExpr) .no, .lst 7 (x213.gKids.map eTApiStmt) .no, .lst 7 (x213.gElse.map eTApiStmt) .no, .v (.int .i64 x213.gAt)] 56)], []⟩ : S)) ?_ ?_
          · skip
            exact WkX.of () (WkS.perm (WkS.cons rfl (Wk.refl _) (WkS.cons rfl (Wk.refl _) (WkS.cons rfl (Wk.refl _) (WkS.cons rfl (Wk.refl _) (WkS.cons rfl (Wk.refl _) (WkS.cons rfl (Wk.refl _) (WkS.cons rfl (Wk.refl _) (WkS.cons rfl (Wk.refl _) (WkS.cons rfl (Wk.refl _) (WkS.cons rfl (Wk.refl _) (WkS.nil))))))))))) (List.Perm.refl _) (List.Perm.refl _))
          · intro G233 s233 z233 hm
            refine wpD_seq ?_
            refine wpD_region ?_
            refine p_pure htab rfl rfl rfl rfl ?_
            refine ops_nil ?_
            refine then_normal ?_
            refine wpD_seq ?_
            refine wpD_cond rfl (fun hc244 => ?_) (fun hc244 => ?_)
            · replace hm := yes_t hc244 hm
              refine wpD_skip ?_
              refine then_normal ?_
              refine wpD_seq ?_
              refine wpD_block ?_
              refine wpD_seq ?_
              refine wpD_region ?_
              obtain ⟨x245, q245, hm⟩ := yes_bind hm
              refine p_elem htab rfl rfl rfl rfl rfl rfl rfl rfl rfl rfl (idx_nonneg q245) (idx_map q245) ?_
              refine p_eq (i := 26) rfl (Wk.of_eq (congrArg D.el (eTApiExpr_eq x245))) ?_
              refine p_loadEl (d := .agg [.v (.int .i64 x245.gOp), .v (.int .i64 x245.gN), .v (.string x245.gName), .lst 5 (x245.gKids.map eTApiExpr) .no, .v (.int .i64 x245.gAt)]) htab rfl rfl rfl rfl rfl rfl rfl rfl ?_
              refine p_alloc htab rfl rfl rfl rfl rfl rfl rfl (fun b246 => ?_)
              refine p_store (ds' := [.v (.int .i64 x245.gOp), .v (.int .i64 x245.gN), .v (.string x245.gName), .lst 5 (x245.gKids.map eTApiExpr) .no, .v (.int .i64 x245.gAt)]) (h' := [(o0, Blk.cells [.v (SL w215)] T0), (0, Blk.row 1 (x216.gL.map eStr) (SL w215)), (b1, Blk.cells [.fn (.func 40) [] []] 58), (b2, Blk.cells [.fn (.func 52) [] [.ptr b1 0, .ptr b2 0]] 58), (b214, Blk.cells [.v (.int .i64 x213.gOp), .v (.string x213.gName), .v (.string x213.gFunc), .lst 5 (x213.gExps.map eTApiExpr) .no, .lst 7 (x213.gKids.map eTApiStmt) .no, .lst 7 (x213.gElse.map eTApiStmt) .no, .v (.int .i64 x213.gAt)] 56), (b246, Blk.cells [.v (.int .i64 x245.gOp), .v (.int .i64 x245.gN), .v (.string x245.gName), .lst 5 (x245.gKids.map eTApiExpr) .no, .v (.int .i64 x245.gAt)] 34)]) 5 htab rfl rfl rfl rfl rfl rfl rfl rfl rfl rfl rfl rfl ?_
              refine ops_nil ?_
              refine then_normal ?_
              refine wpD_region ?_
              refine p_load 3 htab rfl rfl rfl rfl rfl rfl rfl rfl ?_
              refine p_load (d := .agg [.v (.int .i64 x245.gOp), .v (.int .i64 x245.gN), .v (.string x245.gName), .lst 5 (x245.gKids.map eTApiExpr) .no, .v (.int .i64 x245.gAt)]) 5 htab rfl rfl rfl rfl rfl rfl rfl rfl ?_
              obtain ⟨x247, q247, hm⟩ := yes_bind hm
              refine p_callV (tree_walk_12_ok x245 b1 58 b2 58 x247 q247) rfl rfl rfl rfl rfl rfl rfl (WkL.cons (Wk.trans (Wk.agg (WkR.refl _)) (Wk.of_eq (eTApiExpr_eq x245).symm)) (WkL.cons (Wk.refl _) (WkL.cons (Wk.refl _) (WkL.refl _)))) ((perm_at (j := 2) rfl).trans (List.Perm.cons _ ((perm_at (j := 2) rfl).trans (List.Perm.cons _ (List.Perm.refl _))))) (List.Perm.refl _) ?_
              rintro _ _ _ ⟨rfl, rfl, rfl⟩
              refine ops_nil ?_
              refine block_normal ?_
              refine then_normal ?_
              refine wpD_region ?_
              refine p_pure htab rfl rfl rfl rfl ?_
              refine p_pure htab rfl rfl rfl rfl ?_
              refine ops_nil ?_
              refine then_normal ⟨_, lp_next hm, ?_⟩
              exact WkX.of () (WkS.perm (WkS.cons rfl (Wk.refl _) (WkS.cons rfl (Wk.refl _) (WkS.cons rfl (Wk.refl _) (WkS.cons rfl (Wk.refl _) (WkS.cons rfl (Wk.refl _) (WkS.cons rfl (Wk.refl _) (WkS.cons rfl (Wk.refl _) (WkS.cons rfl (Wk.refl _) (WkS.cons rfl (Wk.refl _) (WkS.cons rfl (Wk.refl _) (WkS.nil))))))))))) ((perm_at (j := 2) rfl).trans (List.Perm.cons _ ((perm_at (j := 2) rfl).trans (List.Perm.cons _ ((perm_at (j := 0) rfl).trans (List.Perm.cons _ ((perm_at (j := 0) rfl).trans (List.Perm.cons _ ((perm_at (j := 0) rfl).trans (List.Perm.cons _ (List.Perm.refl _))))))))))) (List.Perm.refl _))
            · replace hm := yes_f hc244 hm
              refine wpD_exit ?_
              refine then_exit ?_
              have e233 := lp_done hm; subst e233; clear hm; have hm := hq233
              refine then_exit ?_
              refine block_hit ?_
              have e232 := yes_eq hm; subst e232
              refine ⟨rfl, ?_⟩
              exact WkX.of () (WkS.perm (WkS.cons rfl (Wk.refl _) (WkS.cons rfl (Wk.refl _) (WkS.cons rfl (Wk.refl _) (WkS.cons rfl (Wk.refl _) (WkS.cons rfl (Wk.refl _) (WkS.cons rfl (Wk.refl _) (WkS.cons rfl (Wk.refl _) (WkS.nil)))))))) (List.Perm.refl _) (List.Perm.refl _))
        · intro s232 hw232; clear hm; have hm := ho232; clear q232 ho232
          refine then_normal ?_
          refine wpD_wkX hw232 (fun z232 => ?_)
          refine wpD_seq ?_
          refine wpD_region ?_
          refine p_pure htab rfl rfl rfl rfl ?_
          refine p_load 4 htab rfl rfl rfl rfl rfl rfl rfl rfl ?_
          refine p_pure htab rfl rfl rfl rfl ?_
          refine p_load 2 htab rfl rfl rfl rfl rfl rfl rfl rfl ?_
          obtain ⟨x249, q249, hm⟩ := yes_bind hm
          refine p_callG (hg0 x213.gKids x216 o0 T0 w215 x249 q249) rfl rfl rfl rfl rfl (WkL.refl _) (List.Perm.refl _) (List.Perm.refl _) ?_
          rintro _ _ _ ⟨w248, rfl, rfl, rfl⟩
          refine ops_nil ?_
          refine then_normal ?_
          refine wpD_region ?_
          refine p_pure htab rfl rfl rfl rfl ?_
          refine p_load 4 htab rfl rfl rfl rfl rfl rfl rfl rfl ?_
          refine p_pure htab rfl rfl rfl rfl ?_
          refine p_load 2 htab rfl rfl rfl rfl rfl rfl rfl rfl ?_
          obtain ⟨x251, q251, hm⟩ := yes_bind hm
          refine p_callG (hg0 x213.gElse x249 o0 T0 w248 x251 q251) rfl rfl rfl rfl rfl (WkL.refl _) (List.Perm.refl _) (List.Perm.refl _) ?_
          rintro _ _ _ ⟨w250, rfl, rfl, rfl⟩
          refine ops_nil ?_
          refine block_normal ?_
          refine then_normal ?_
          refine wpD_region ?_
          refine p_pure htab rfl rfl rfl rfl ?_
          refine p_pure htab rfl rfl rfl rfl ?_
          refine ops_nil ?_
          refine then_normal ⟨_, lp_next hm, ?_⟩
          exact WkX.of w250 (WkS.perm (WkS.cons rfl (Wk.refl _) (WkS.cons rfl (Wk.refl _) (WkS.cons rfl (Wk.refl _) (WkS.cons rfl (Wk.refl _) (WkS.cons rfl (Wk.refl _) (WkS.cons rfl (Wk.refl _) (WkS.nil))))))) ((perm_at (j := 1) rfl).trans (List.Perm.cons _ ((perm_at (j := 0) rfl).trans (List.Perm.cons _ ((perm_at (j := 0) rfl).trans (List.Perm.cons _ ((perm_at (j := 0) rfl).trans (List.Perm.cons _ (List.Perm.refl _))))))))) (List.Perm.refl _))
      · replace hm := yes_f hc212 hm
        refine wpD_exit ?_
        refine then_exit ?_
        have e129 := lp_done hm; subst e129; clear hm; have hm := hq129
        refine then_exit ?_
        refine block_hit ?_
        have e128 := yes_eq hm; subst e128
        refine ⟨rfl, ?_⟩
        exact WkX.of z129 (WkS.perm (WkS.nil) (List.Perm.refl _) (List.Perm.refl _))
  · intro s128 hw128; clear hm; have hm := ho128; clear q128 ho128
    refine retX.wkX hw128 (fun z128 => ?_)
    have er252 := yes_eq hm; subst er252
    refine retX.of (s' := ⟨[], [(o0, Blk.cells [.v (SL z128)] T0), (0, Blk.row 1 (y128.map eStr) (SL z128))], []⟩) (WkS.perm (WkS.nil) ((perm_at (j := 1) rfl).trans (List.Perm.cons _ ((perm_at (j := 0) rfl).trans (List.Perm.cons _ (List.Perm.refl _))))) (List.Perm.refl _)) (retD_mk (hh := [(o0, Blk.cells [.v (SL z128)] T0), (0, Blk.row 1 (y128.map eStr) (SL z128))]) (.inr rfl) (resL_nil) (List.Sublist.refl _) (List.Sublist.refl _) ?_)
    exact ⟨z128, rfl, rfl, rfl⟩
noncomputable def tree_walk_r2_g : Nat → ((List TApiStmt) → (TTreeBagString) → Option (TTreeBagString))
  | 0 => (fun _ _ => none)
  | n + 1 => (tree_walk_r2_b ((tree_walk_r2_g n)))
theorem tree_walk_r2_g_ok : ∀ n, (∀ (a0 : List TApiStmt) (m0 : TTreeBagString) (o0 : Nat) (T0 : TypeId) (z0_0 : Z3) (r : TTreeBagString) (h0 : (tree_walk_r2_g n) a0 m0 = some r), CallsD Try.prog 34 [.lst 7 (a0.map eTApiStmt) .no, .fn (.func 39) [] [.ptr o0 0], .fn (.func 40) [] []] [(o0, Blk.cells [.v (SL z0_0)] T0), (0, Blk.row 1 (m0.gL.map eStr) (SL z0_0))] [] (fun d h k => ∃ y0, d = .tup [] ∧ h = [(o0, Blk.cells [.v (SL y0)] T0), (0, Blk.row 1 (r.gL.map eStr) (SL y0))] ∧ k = []))
  | 0 => fun _ _ _ _ _ _ h0 => by cases h0
  | n + 1 => by
    have ih := tree_walk_r2_g_ok n
    exact tree_walk_r2_b_ok (tree_walk_r2_g n) ih
theorem tree_walk_r2_g_le : ∀ n, (∀ (a0 : List TApiStmt) (m0 : TTreeBagString), Le ((tree_walk_r2_g n) a0 m0) ((tree_walk_r2_g (n + 1)) a0 m0))
  | 0 => fun _ _ => Le.none _
  | n + 1 => by
    have ih := tree_walk_r2_g_le n
    exact fun a0 m0 => by show Le (tree_walk_r2_b ((tree_walk_r2_g n)) a0 m0) (tree_walk_r2_b ((tree_walk_r2_g (n + 1))) a0 m0); unfold tree_walk_r2_b; repeat (first | exact Le.refl _ | exact ih _ _ | assumption | (refine Le.bind ?_ (fun _ => ?_)) | (refine Le.cond ?_ ?_) | (refine Le.loop (fun _ => ?_)) | (refine Le.elim (fun _ => ?_) (fun _ => ?_)))
noncomputable def tree_walk_r2 (a0 : List TApiStmt) (m0 : TTreeBagString) : Option (TTreeBagString) := anyN fun n => (tree_walk_r2_g n) a0 m0
theorem tree_walk_r2_of (a0 : List TApiStmt) (m0 : TTreeBagString) {r : TTreeBagString} (n : Nat) (h : (tree_walk_r2_g n) a0 m0 = some r) : tree_walk_r2 a0 m0 = some r := anyN_of (fun m => (tree_walk_r2_g_le m) a0 m0) h
theorem tree_walk_r2_ok (a0 : List TApiStmt) (m0 : TTreeBagString) (o0 : Nat) (T0 : TypeId) (z0_0 : Z3) (r : TTreeBagString) (h0 : tree_walk_r2 a0 m0 = some r) : CallsD Try.prog 34 [.lst 7 (a0.map eTApiStmt) .no, .fn (.func 39) [] [.ptr o0 0], .fn (.func 40) [] []] [(o0, Blk.cells [.v (SL z0_0)] T0), (0, Blk.row 1 (m0.gL.map eStr) (SL z0_0))] [] (fun d h k => ∃ y0, d = .tup [] ∧ h = [(o0, Blk.cells [.v (SL y0)] T0), (0, Blk.row 1 (r.gL.map eStr) (SL y0))] ∧ k = []) :=
  let ⟨n, hn⟩ := anyN_inv h0; (tree_walk_r2_g_ok n) a0 m0 o0 T0 z0_0 r hn
noncomputable def tree_Calls (a0 : List TApiStmt) : Option (List ByteArray) :=
  ((tree_walk_r2 a0 (⟨[]⟩ : TTreeBagString)).bind fun x4 => ((tree_bag_string_all x4).bind fun x6 => some x6.1))
set_option maxRecDepth 100000 in
set_option maxHeartbeats 2000000 in
theorem tree_Calls_ok (a0 : List TApiStmt) (r : List ByteArray) (h0 : tree_Calls a0 = some r) : CallsD Try.prog 10 [.lst 7 (a0.map eTApiStmt) .no] [] [] (fun d h k => ∃ y0, d = .v (SL y0) ∧ h = [(0, Blk.row 1 (r.map eStr) (SL y0))] ∧ k = []) := by
  have hm := yes_of h0
  unfold tree_Calls at hm
  clear h0
  refine enterX htab Try.func10 rfl rfl rfl rfl rfl (fun C => ?_)
  refine wpD_seq ?_
  refine wpD_region ?_
  refine p_pure htab rfl rfl rfl rfl ?_
  refine ops_nil ?_
  refine then_normal ?_
  refine wpD_seq ?_
  refine wpD_region ?_
  refine p_alloc htab rfl rfl rfl rfl rfl rfl rfl (fun b1 => ?_)
  refine ops_nil ?_
  refine then_normal ?_
  refine wpD_seq ?_
  refine wpD_region ?_
  refine p_pure htab rfl rfl rfl rfl ?_
  refine p_pure htab rfl rfl rfl rfl ?_
  refine o_rowC (off := 0) 1 0 rfl rfl (fun w2 => ?_)
  obtain ⟨x4, q4, hm⟩ := yes_bind hm
  refine p_callG (tree_walk_r2_ok a0 (⟨[]⟩ : TTreeBagString) b1 52 w2 x4 q4) rfl rfl rfl rfl rfl (WkL.refl _) ((perm_at (j := 1) rfl).trans (List.Perm.cons _ ((perm_at (j := 0) rfl).trans (List.Perm.cons _ (List.Perm.refl _))))) (List.Perm.refl _) ?_
  rintro _ _ _ ⟨w3, rfl, rfl, rfl⟩
  refine ops_nil ?_
  refine then_normal ?_
  refine wpD_seq ?_
  refine wpD_region ?_
  obtain ⟨x6, q6, hm⟩ := yes_bind hm
  refine p_callG (tree_bag_string_all_ok x4 b1 52 w3 x6 q6) rfl rfl rfl rfl rfl (WkL.refl _) (List.Perm.refl _) (List.Perm.refl _) ?_
  rintro _ _ _ ⟨w5, rfl, rfl, rfl⟩
  refine p_pure htab rfl rfl rfl rfl ?_
  refine ops_nil ?_
  refine then_normal ?_
  refine wpD_ret ?_
  have er7 := yes_eq hm; subst er7
  refine retX.of (s' := ⟨[(2, .v (SL w5))], [(0, Blk.row 1 (x6.1.map eStr) (SL w5))], []⟩) (WkS.perm (WkS.cons rfl (Wk.refl _) (WkS.nil)) ((perm_at (j := 1) rfl).trans (List.Perm.cons _ (List.Perm.refl _))) (List.Perm.refl _)) (retD_mk (hh := [(0, Blk.row 1 (x6.1.map eStr) (SL w5))]) (.inl rfl) (resL_cons (resOne_tmp rfl) (resL_nil)) (List.Sublist.refl _) (List.Sublist.refl _) ?_)
  exact ⟨w5, rfl, rfl, rfl⟩
noncomputable def tree_Nums_1 (a0 : TApiStmt) : Option (Unit) :=
  some ()
set_option maxRecDepth 100000 in
set_option maxHeartbeats 2000000 in
theorem tree_Nums_1_ok (a0 : TApiStmt) (r : Unit) (h0 : tree_Nums_1 a0 = some r) : CallsD Try.prog 41 [eTApiStmt a0] [] [] (fun d h k => d = .tup [] ∧ h = [] ∧ k = []) := by
  have hm := yes_of h0
  unfold tree_Nums_1 at hm
  clear h0
  refine enterX htab Try.func41 rfl rfl rfl rfl rfl (fun C => ?_)
  refine w_eq (i := 0) rfl (Wk.of_eq (eTApiStmt_eq a0)) ?_
  refine wpD_region ?_
  refine p_box rfl rfl rfl rfl rfl rfl rfl (fun b1 => ?_)
  refine ops_nil ?_
  have er2 := yes_eq hm; subst er2
  refine retX.of (s' := ⟨[], [], []⟩) (WkS.perm (WkS.nil) (List.Perm.refl _) (List.Perm.refl _)) (retD_mk (hh := []) (.inr rfl) (resL_nil) (List.nil_sublist _) (List.Sublist.refl _) ?_)
  exact ⟨rfl, rfl, rfl⟩
structure TTreeBagInt where
  gL : List Int
def eTTreeBagInt (x : TTreeBagInt) : D := .agg [.lst 1 (x.gL.map eI64) .no]
noncomputable def tree_bag_int_all (m0 : TTreeBagInt) : Option (List Int × TTreeBagInt) :=
  ((need (len62I m0.gL)).bind fun x1 => ((need (len62I (sortI m0.gL))).bind fun x3 => some ((compactI (sortI m0.gL)), (⟨[]⟩ : TTreeBagInt))))
set_option maxRecDepth 100000 in
set_option maxHeartbeats 2000000 in
theorem tree_bag_int_all_ok (m0 : TTreeBagInt) (o0 : Nat) (T0 : TypeId) (z0_0 : Z3) (r : List Int × TTreeBagInt) (h0 : tree_bag_int_all m0 = some r) : CallsD Try.prog 44 [.ptr o0 0] [(o0, Blk.cells [.v (SL z0_0)] T0), (0, Blk.row 1 (m0.gL.map eI64) (SL z0_0))] [] (fun d h k => ∃ y0, d = .v (SL y0) ∧ h = [(o0, Blk.cells [.any] T0), (0, Blk.row 1 (r.1.map eI64) (SL y0))] ∧ k = []) := by
  have hm := yes_of h0
  unfold tree_bag_int_all at hm
  clear h0
  refine enterX htab Try.func44 rfl rfl rfl rfl rfl (fun C => ?_)
  refine wpD_seq ?_
  refine wpD_region ?_
  refine p_pure htab rfl rfl rfl rfl ?_
  refine ops_nil ?_
  refine then_normal ?_
  refine wpD_seq ?_
  refine wpD_region ?_
  refine p_pure htab rfl rfl rfl rfl ?_
  refine p_pure htab rfl rfl rfl rfl ?_
  refine p_pure htab rfl rfl rfl rfl ?_
  refine p_load 0 htab rfl rfl rfl rfl rfl rfl rfl rfl ?_
  obtain ⟨x1, q1, hm⟩ := yes_bind hm
  refine p_callG (sortI_ok m0.gL z0_0 (need_ok q1)) rfl rfl rfl rfl rfl (WkL.refl _) ((perm_at (j := 1) rfl).trans (List.Perm.cons _ (List.Perm.refl _))) (List.Perm.refl _) ?_
  rintro _ _ _ ⟨rfl, rfl, rfl⟩
  refine ops_nil ?_
  refine then_normal ?_
  refine wpD_seq ?_
  refine wpD_region ?_
  refine p_pure htab rfl rfl rfl rfl ?_
  refine p_pure htab rfl rfl rfl rfl ?_
  refine p_pure htab rfl rfl rfl rfl ?_
  refine p_load 1 htab rfl rfl rfl rfl rfl rfl rfl rfl ?_
  obtain ⟨x3, q3, hm⟩ := yes_bind hm
  refine p_callG (compactI_ok (sortI m0.gL) z0_0 (need_ok q3)) rfl rfl rfl rfl rfl (WkL.refl _) (List.Perm.refl _) (List.Perm.refl _) ?_
  rintro _ _ _ ⟨w2, rfl, rfl, rfl⟩
  refine p_pure htab rfl rfl rfl rfl ?_
  refine ops_nil ?_
  refine then_normal ?_
  refine wpD_ret ?_
  have er4 := yes_eq hm; subst er4
  refine retX.wk (WkS.blk (ds' := [.any]) (h' := [(0, Blk.row 1 ((compactI (sortI m0.gL)).map eI64) (SL w2)), (o0, Blk.cells [.any] T0)]) 1 rfl (WkR.cons (WkC.any) rfl (WkR.nil)) rfl) ?_
  refine retX.of (s' := ⟨[(2, .v (SL w2))], [(o0, Blk.cells [.any] T0), (0, Blk.row 1 ((compactI (sortI m0.gL)).map eI64) (SL w2))], []⟩) (WkS.perm (WkS.cons rfl (Wk.refl _) (WkS.nil)) ((perm_at (j := 1) rfl).trans (List.Perm.cons _ ((perm_at (j := 0) rfl).trans (List.Perm.cons _ (List.Perm.refl _))))) (List.Perm.refl _)) (retD_mk (hh := [(o0, Blk.cells [.any] T0), (0, Blk.row 1 ((compactI (sortI m0.gL)).map eI64) (SL w2))]) (.inl rfl) (resL_cons (resOne_tmp rfl) (resL_nil)) (List.Sublist.refl _) (List.Sublist.refl _) ?_)
  exact ⟨w2, rfl, rfl, rfl⟩
noncomputable def tree_bag_int_add_r (m0 : TTreeBagInt) (a1 : Int) : Option (TTreeBagInt) :=
  ((app 8 m0.gL ([a1] : List Int)).bind fun x1 => some (⟨x1⟩ : TTreeBagInt))
set_option maxRecDepth 100000 in
set_option maxHeartbeats 2000000 in
theorem tree_bag_int_add_r_ok (m0 : TTreeBagInt) (a1 : Int) (o0 : Nat) (T0 : TypeId) (z0_0 : Z3) (r : TTreeBagInt) (h0 : tree_bag_int_add_r m0 a1 = some r) : CallsD Try.prog 43 [.ptr o0 0, .v (.int .i64 a1)] [(o0, Blk.cells [.v (SL z0_0)] T0), (0, Blk.row 1 (m0.gL.map eI64) (SL z0_0))] [] (fun d h k => ∃ y0, d = .tup [] ∧ h = [(o0, Blk.cells [.v (SL y0)] T0), (0, Blk.row 1 (r.gL.map eI64) (SL y0))] ∧ k = []) := by
  have hm := yes_of h0
  unfold tree_bag_int_add_r at hm
  clear h0
  refine enterX htab Try.func43 rfl rfl rfl rfl rfl (fun C => ?_)
  refine wpD_region ?_
  refine p_pure htab rfl rfl rfl rfl ?_
  refine p_pure htab rfl rfl rfl rfl ?_
  refine p_pure htab rfl rfl rfl rfl ?_
  refine p_pure htab rfl rfl rfl rfl ?_
  refine p_load 0 htab rfl rfl rfl rfl rfl rfl rfl rfl ?_
  refine p_pure htab rfl rfl rfl rfl ?_
  refine p_lit htab rfl rfl rfl rfl rfl rfl rfl rfl rfl rfl rfl rfl rfl rfl ?_
  refine p_eq (i := 10) (d' := .lst 1 (([a1] : List Int).map eI64) .full) rfl (Wk.lst0 (.cons (WkC.refl _) (.nil))) ?_
  obtain ⟨x1, q1, hm⟩ := yes_bind hm
  refine p_appR2 1 htab rfl rfl rfl rfl rfl rfl rfl rfl rfl rfl rfl rfl rfl rfl rfl rfl (app_bound q1) (app_map q1) (fun v1 => ?_)
  refine p_pure htab rfl rfl rfl rfl ?_
  refine p_pure htab rfl rfl rfl rfl ?_
  refine p_store (ds' := [.v (SL v1)]) (h' := [(o0, Blk.cells [.v (SL v1)] T0), (0, Blk.row 1 (x1.map eI64) (SL v1))]) 0 htab rfl rfl rfl rfl rfl rfl rfl rfl rfl rfl rfl rfl ?_
  refine ops_nil ?_
  have er2 := yes_eq hm; subst er2
  refine retX.of (s' := ⟨[], [(o0, Blk.cells [.v (SL v1)] T0), (0, Blk.row 1 (x1.map eI64) (SL v1))], []⟩) (WkS.perm (WkS.nil) (List.Perm.refl _) (List.Perm.refl _)) (retD_mk (hh := [(o0, Blk.cells [.v (SL v1)] T0), (0, Blk.row 1 (x1.map eI64) (SL v1))]) (.inr rfl) (resL_nil) (List.Sublist.refl _) (List.Sublist.refl _) ?_)
  exact ⟨v1, rfl, rfl, rfl⟩
noncomputable def tree_Nums_2_r (a0 : TApiExpr) (m0 : TTreeBagInt) : Option (TTreeBagInt) :=
  (bif (a0.gOp == (1 : Int)) then ((tree_bag_int_add_r m0 a0.gN).bind fun x4 => some x4) else some m0)
set_option maxRecDepth 100000 in
set_option maxHeartbeats 2000000 in
theorem tree_Nums_2_r_ok (a0 : TApiExpr) (m0 : TTreeBagInt) (o0 : Nat) (T0 : TypeId) (z0_0 : Z3) (r : TTreeBagInt) (h0 : tree_Nums_2_r a0 m0 = some r) : CallsD Try.prog 42 [eTApiExpr a0, .ptr o0 0] [(o0, Blk.cells [.v (SL z0_0)] T0), (0, Blk.row 1 (m0.gL.map eI64) (SL z0_0))] [] (fun d h k => ∃ y0, d = .tup [] ∧ h = [(o0, Blk.cells [.v (SL y0)] T0), (0, Blk.row 1 (r.gL.map eI64) (SL y0))] ∧ k = []) := by
  have hm := yes_of h0
  unfold tree_Nums_2_r at hm
  clear h0
  refine enterX htab Try.func42 rfl rfl rfl rfl rfl (fun C => ?_)
  refine w_eq (i := 0) rfl (Wk.of_eq (eTApiExpr_eq a0)) ?_
  refine wpD_seq ?_
  refine wpD_region ?_
  refine p_box rfl rfl rfl rfl rfl rfl rfl (fun b1 => ?_)
  refine ops_nil ?_
  refine then_normal ?_
  refine wpD_seq ?_
  refine wpD_region ?_
  refine p_pure htab rfl rfl rfl rfl ?_
  refine p_load 2 htab rfl rfl rfl rfl rfl rfl rfl rfl ?_
  refine p_pure htab rfl rfl rfl rfl ?_
  refine ops_nil ?_
  refine then_normal ?_
  refine wpD_cond rfl (fun hc2 => ?_) (fun hc2 => ?_)
  · replace hm := yes_t hc2 hm
    refine wpD_region ?_
    refine p_pure htab rfl rfl rfl rfl ?_
    refine p_load 2 htab rfl rfl rfl rfl rfl rfl rfl rfl ?_
    obtain ⟨x4, q4, hm⟩ := yes_bind hm
    refine p_callG (tree_bag_int_add_r_ok m0 a0.gN o0 T0 z0_0 x4 q4) rfl rfl rfl rfl rfl (WkL.refl _) (List.Perm.refl _) (List.Perm.refl _) ?_
    rintro _ _ _ ⟨w3, rfl, rfl, rfl⟩
    refine ops_nil ?_
    have er5 := yes_eq hm; subst er5
    refine retX.of (s' := ⟨[], [(o0, Blk.cells [.v (SL w3)] T0), (0, Blk.row 1 (x4.gL.map eI64) (SL w3))], []⟩) (WkS.perm (WkS.nil) (List.Perm.refl _) (List.Perm.refl _)) (retD_mk (hh := [(o0, Blk.cells [.v (SL w3)] T0), (0, Blk.row 1 (x4.gL.map eI64) (SL w3))]) (.inr rfl) (resL_nil) (List.Sublist.refl _) (List.Sublist.refl _) ?_)
    exact ⟨w3, rfl, rfl, rfl⟩
  · replace hm := yes_f hc2 hm
    refine wpD_skip ?_
    have er6 := yes_eq hm; subst er6
    refine retX.of (s' := ⟨[], [(o0, Blk.cells [.v (SL z0_0)] T0), (0, Blk.row 1 (m0.gL.map eI64) (SL z0_0))], []⟩) (WkS.perm (WkS.nil) (List.Perm.refl _) (List.Perm.refl _)) (retD_mk (hh := [(o0, Blk.cells [.v (SL z0_0)] T0), (0, Blk.row 1 (m0.gL.map eI64) (SL z0_0))]) (.inr rfl) (resL_nil) (List.Sublist.refl _) (List.Sublist.refl _) ?_)
    exact ⟨z0_0, rfl, rfl, rfl⟩
noncomputable def tree_walk_1_r2_b (g0 : (TApiExpr) → (TTreeBagInt) → Option (TTreeBagInt)) (a0 : TApiExpr) (m1 : TTreeBagInt) : Option (TTreeBagInt) :=
  ((tree_Nums_2_r a0 m1).bind fun x3 => (Option.bind (α := List Int) (loopM (fun (s24 : Int × List Int) => (bif (decide (s24.1 < (a0.gKids.length : Int))) then ((idx a0.gKids s24.1).bind fun x38 => ((g0 x38 (⟨s24.2⟩ : TTreeBagInt)).bind fun x41 => some (.next ((IntKind.i64.wrap (s24.1 + (1 : Int))), x41.gL)))) else some (.done s24.2))) ((0 : Int), x3.gL)) fun y23 => some (⟨y23⟩ : TTreeBagInt)))
set_option maxRecDepth 100000 in
set_option maxHeartbeats 2000000 in
theorem tree_walk_1_r2_b_ok (g0 : (TApiExpr) → (TTreeBagInt) → Option (TTreeBagInt)) (hg0 : ∀ (a0 : TApiExpr) (m1 : TTreeBagInt) (o0 : Nat) (T0 : TypeId) (o1 : Nat) (T1 : TypeId) (z1_0 : Z3) (o2 : Nat) (T2 : TypeId) (r : TTreeBagInt) (h0 : g0 a0 m1 = some r), CallsD Try.prog 52 [eTApiExpr a0, .ptr o0 0, .ptr o2 0] [(o0, Blk.cells [.fn (.func 42) [] [.ptr o1 0]] T0), (o1, Blk.cells [.v (SL z1_0)] T1), (o2, Blk.cells [.fn (.func 52) [] [.ptr o0 0, .ptr o2 0]] T2), (0, Blk.row 1 (m1.gL.map eI64) (SL z1_0))] [] (fun d h k => ∃ y0, d = .tup [] ∧ h = [(o0, Blk.cells [.fn (.func 42) [] [.ptr o1 0]] T0), (o1, Blk.cells [.v (SL y0)] T1), (o2, Blk.cells [.fn (.func 52) [] [.ptr o0 0, .ptr o2 0]] T2), (0, Blk.row 1 (r.gL.map eI64) (SL y0))] ∧ k = [])) (a0 : TApiExpr) (m1 : TTreeBagInt) (o0 : Nat) (T0 : TypeId) (o1 : Nat) (T1 : TypeId) (z1_0 : Z3) (o2 : Nat) (T2 : TypeId) (r : TTreeBagInt) (h0 : tree_walk_1_r2_b g0 a0 m1 = some r) : CallsD Try.prog 52 [eTApiExpr a0, .ptr o0 0, .ptr o2 0] [(o0, Blk.cells [.fn (.func 42) [] [.ptr o1 0]] T0), (o1, Blk.cells [.v (SL z1_0)] T1), (o2, Blk.cells [.fn (.func 52) [] [.ptr o0 0, .ptr o2 0]] T2), (0, Blk.row 1 (m1.gL.map eI64) (SL z1_0))] [] (fun d h k => ∃ y0, d = .tup [] ∧ h = [(o0, Blk.cells [.fn (.func 42) [] [.ptr o1 0]] T0), (o1, Blk.cells [.v (SL y0)] T1), (o2, Blk.cells [.fn (.func 52) [] [.ptr o0 0, .ptr o2 0]] T2), (0, Blk.row 1 (r.gL.map eI64) (SL y0))] ∧ k = []) := by
  have hm := yes_of h0
  unfold tree_walk_1_r2_b at hm
  clear h0
  refine enterX htab Try.func52 rfl rfl rfl rfl rfl (fun C => ?_)
  refine w_eq (i := 0) rfl (Wk.of_eq (eTApiExpr_eq a0)) ?_
  refine wpD_seq ?_
  refine wpD_region ?_
  refine p_box rfl rfl rfl rfl rfl rfl rfl (fun b1 => ?_)
  refine ops_nil ?_
  refine then_normal ?_
  refine wpD_seq ?_
  refine wpD_region ?_
  refine p_load 0 htab rfl rfl rfl rfl rfl rfl rfl rfl ?_
  refine p_load (d := .agg [.v (.int .i64 a0.gOp), .v (.int .i64 a0.gN), .v (.string a0.gName), .lst 5 (a0.gKids.map eTApiExpr) .no, .v (.int .i64 a0.gAt)]) 4 htab rfl rfl rfl rfl rfl rfl rfl rfl ?_
  obtain ⟨x3, q3, hm⟩ := yes_bind hm
  refine p_callV (tree_Nums_2_r_ok a0 m1 o1 T1 z1_0 x3 q3) rfl rfl rfl rfl rfl rfl rfl (WkL.cons (Wk.trans (Wk.agg (WkR.refl _)) (Wk.of_eq (eTApiExpr_eq a0).symm)) (WkL.cons (Wk.refl _) (WkL.refl _))) ((perm_at (j := 1) rfl).trans (List.Perm.cons _ ((perm_at (j := 2) rfl).trans (List.Perm.cons _ (List.Perm.refl _))))) (List.Perm.refl _) ?_
  rintro _ _ _ ⟨w2, rfl, rfl, rfl⟩
  refine ops_nil ?_
  refine then_normal ?_
  refine wpD_seq ?_
  refine wpD_region ?_
  refine p_pure htab rfl rfl rfl rfl ?_
  refine p_load 4 htab rfl rfl rfl rfl rfl rfl rfl rfl ?_
  refine p_lenL htab rfl rfl rfl rfl rfl rfl rfl (by first | exact map_len | rfl) ?_
  refine p_pure htab rfl rfl rfl rfl ?_
  refine ops_nil ?_
  refine then_normal ?_
  obtain ⟨y23, q23, ho23⟩ := yes_bind hm
  refine wpD_mid (Y := Z3) (fun z23 => (⟨[], [(0, Blk.row 1 (y23.map eI64) (SL z23)), (o1, Blk.cells [.v (SL z23)] T1), (o0, Blk.cells [.fn (.func 42) [] [.ptr o1 0]] T0), (o2, Blk.cells [.fn (.func 52) [] [.ptr o0 0, .ptr o2 0]] T2), (b1, Blk.cells [.v (.int .i64 a0.gOp), .v (.int .i64 a0.gN), .v (.string a0.gName), .lst 5 (a0.gKids.map eTApiExpr) .no, .v (.int .i64 a0.gAt)] 34)], []⟩ : S)) ?_ ?_
  · clear hm; have hm := yes_of q23
    refine wpD_block ?_
    obtain ⟨u24, hl24, hq24⟩ := yes_m hm
    refine loop_M (Y := Z3) hl24 (fun s24 z24 => (⟨[(2, .ptr o2 0), (10, .lst 5 (a0.gKids.map eTApiExpr) .no), (11, .v (.int .i64 (a0.gKids.length : Int))), (12, .v (.int .i64 s24.1))], [(0, Blk.row 1 (s24.2.map eI64) (SL z24)), (o1, Blk.cells [.v (SL z24)] T1), (o0, Blk.cells [.fn (.func 42) [] [.ptr o1 0]] T0), (o2, Blk.cells [.fn (.func 52) [] [.ptr o0 0, .ptr o2 0]] T2), (b1, Blk.cells [.v (.int .i64 a0.gOp), .v (.int .i64 a0.gN), .v (.string a0.gName), .lst 5 (a0.gKids.map eTApiExpr) .no, .v (.int .i64 a0.gAt)] 34)], []⟩ : S)) ?_ ?_
    · skip
      exact WkX.of w2 (WkS.perm (WkS.cons rfl (Wk.refl _) (WkS.cons rfl (Wk.refl _) (WkS.cons rfl (Wk.refl _) (WkS.cons rfl (Wk.refl _) (WkS.nil))))) ((perm_at (j := 1) rfl).trans (List.Perm.cons _ ((perm_at (j := 0) rfl).trans (List.Perm.cons _ ((perm_at (j := 0) rfl).trans (List.Perm.cons _ ((perm_at (j := 0) rfl).trans (List.Perm.cons _ ((perm_at (j := 0) rfl).trans (List.Perm.cons _ (List.Perm.refl _))))))))))) (List.Perm.refl _))
    · intro G24 s24 z24 hm
      refine wpD_seq ?_
      refine wpD_region ?_
      refine p_pure htab rfl rfl rfl rfl ?_
      refine ops_nil ?_
      refine then_normal ?_
      refine wpD_seq ?_
      refine wpD_cond rfl (fun hc37 => ?_) (fun hc37 => ?_)
      · replace hm := yes_t hc37 hm
        refine wpD_skip ?_
        refine then_normal ?_
        refine wpD_seq ?_
        refine wpD_block ?_
        refine wpD_seq ?_
        refine wpD_region ?_
        obtain ⟨x38, q38, hm⟩ := yes_bind hm
        refine p_elem htab rfl rfl rfl rfl rfl rfl rfl rfl rfl rfl (idx_nonneg q38) (idx_map q38) ?_
        refine p_eq (i := 14) rfl (Wk.of_eq (congrArg D.el (eTApiExpr_eq x38))) ?_
        refine p_loadEl (d := .agg [.v (.int .i64 x38.gOp), .v (.int .i64 x38.gN), .v (.string x38.gName), .lst 5 (x38.gKids.map eTApiExpr) .no, .v (.int .i64 x38.gAt)]) htab rfl rfl rfl rfl rfl rfl rfl rfl ?_
        refine p_alloc htab rfl rfl rfl rfl rfl rfl rfl (fun b39 => ?_)
        refine p_store (ds' := [.v (.int .i64 x38.gOp), .v (.int .i64 x38.gN), .v (.string x38.gName), .lst 5 (x38.gKids.map eTApiExpr) .no, .v (.int .i64 x38.gAt)]) (h' := [(0, Blk.row 1 (s24.2.map eI64) (SL z24)), (o1, Blk.cells [.v (SL z24)] T1), (o0, Blk.cells [.fn (.func 42) [] [.ptr o1 0]] T0), (o2, Blk.cells [.fn (.func 52) [] [.ptr o0 0, .ptr o2 0]] T2), (b1, Blk.cells [.v (.int .i64 a0.gOp), .v (.int .i64 a0.gN), .v (.string a0.gName), .lst 5 (a0.gKids.map eTApiExpr) .no, .v (.int .i64 a0.gAt)] 34), (b39, Blk.cells [.v (.int .i64 x38.gOp), .v (.int .i64 x38.gN), .v (.string x38.gName), .lst 5 (x38.gKids.map eTApiExpr) .no, .v (.int .i64 x38.gAt)] 34)]) 5 htab rfl rfl rfl rfl rfl rfl rfl rfl rfl rfl rfl rfl ?_
        refine ops_nil ?_
        refine then_normal ?_
        refine wpD_region ?_
        refine p_load 3 htab rfl rfl rfl rfl rfl rfl rfl rfl ?_
        refine p_load (d := .agg [.v (.int .i64 x38.gOp), .v (.int .i64 x38.gN), .v (.string x38.gName), .lst 5 (x38.gKids.map eTApiExpr) .no, .v (.int .i64 x38.gAt)]) 5 htab rfl rfl rfl rfl rfl rfl rfl rfl ?_
        obtain ⟨x41, q41, hm⟩ := yes_bind hm
        refine p_callV (hg0 x38 (⟨s24.2⟩ : TTreeBagInt) o0 T0 o1 T1 z24 o2 T2 x41 q41) rfl rfl rfl rfl rfl rfl rfl (WkL.cons (Wk.trans (Wk.agg (WkR.refl _)) (Wk.of_eq (eTApiExpr_eq x38).symm)) (WkL.cons (Wk.refl _) (WkL.cons (Wk.refl _) (WkL.refl _)))) ((perm_at (j := 2) rfl).trans (List.Perm.cons _ ((perm_at (j := 1) rfl).trans (List.Perm.cons _ ((perm_at (j := 1) rfl).trans (List.Perm.cons _ ((perm_at (j := 0) rfl).trans (List.Perm.cons _ (List.Perm.refl _))))))))) (List.Perm.refl _) ?_
        rintro _ _ _ ⟨w40, rfl, rfl, rfl⟩
        refine ops_nil ?_
        refine block_normal ?_
        refine then_normal ?_
        refine wpD_region ?_
        refine p_pure htab rfl rfl rfl rfl ?_
        refine p_pure htab rfl rfl rfl rfl ?_
        refine ops_nil ?_
        refine then_normal ⟨_, lp_next hm, ?_⟩
        exact WkX.of w40 (WkS.perm (WkS.cons rfl (Wk.refl _) (WkS.cons rfl (Wk.refl _) (WkS.cons rfl (Wk.refl _) (WkS.cons rfl (Wk.refl _) (WkS.nil))))) ((perm_at (j := 3) rfl).trans (List.Perm.cons _ ((perm_at (j := 1) rfl).trans (List.Perm.cons _ ((perm_at (j := 0) rfl).trans (List.Perm.cons _ ((perm_at (j := 0) rfl).trans (List.Perm.cons _ ((perm_at (j := 0) rfl).trans (List.Perm.cons _ (List.Perm.refl _))))))))))) (List.Perm.refl _))
      · replace hm := yes_f hc37 hm
        refine wpD_exit ?_
        refine then_exit ?_
        have e24 := lp_done hm; subst e24; clear hm; have hm := hq24
        refine then_exit ?_
        refine block_hit ?_
        have e23 := yes_eq hm; subst e23
        refine ⟨rfl, ?_⟩
        exact WkX.of z24 (WkS.perm (WkS.nil) (List.Perm.refl _) (List.Perm.refl _))
  · intro s23 hw23; clear hm; have hm := ho23; clear q23 ho23
    refine retX.wkX hw23 (fun z23 => ?_)
    have er42 := yes_eq hm; subst er42
    refine retX.of (s' := ⟨[], [(o0, Blk.cells [.fn (.func 42) [] [.ptr o1 0]] T0), (o1, Blk.cells [.v (SL z23)] T1), (o2, Blk.cells [.fn (.func 52) [] [.ptr o0 0, .ptr o2 0]] T2), (0, Blk.row 1 (y23.map eI64) (SL z23))], []⟩) (WkS.perm (WkS.nil) ((perm_at (j := 2) rfl).trans (List.Perm.cons _ ((perm_at (j := 1) rfl).trans (List.Perm.cons _ ((perm_at (j := 1) rfl).trans (List.Perm.cons _ ((perm_at (j := 0) rfl).trans (List.Perm.cons _ (List.Perm.refl _))))))))) (List.Perm.refl _)) (retD_mk (hh := [(o0, Blk.cells [.fn (.func 42) [] [.ptr o1 0]] T0), (o1, Blk.cells [.v (SL z23)] T1), (o2, Blk.cells [.fn (.func 52) [] [.ptr o0 0, .ptr o2 0]] T2), (0, Blk.row 1 (y23.map eI64) (SL z23))]) (.inr rfl) (resL_nil) (List.Sublist.refl _) (List.Sublist.refl _) ?_)
    exact ⟨z23, rfl, rfl, rfl⟩
noncomputable def tree_walk_1_r2_g : Nat → ((TApiExpr) → (TTreeBagInt) → Option (TTreeBagInt))
  | 0 => (fun _ _ => none)
  | n + 1 => (tree_walk_1_r2_b ((tree_walk_1_r2_g n)))
theorem tree_walk_1_r2_g_ok : ∀ n, (∀ (a0 : TApiExpr) (m1 : TTreeBagInt) (o0 : Nat) (T0 : TypeId) (o1 : Nat) (T1 : TypeId) (z1_0 : Z3) (o2 : Nat) (T2 : TypeId) (r : TTreeBagInt) (h0 : (tree_walk_1_r2_g n) a0 m1 = some r), CallsD Try.prog 52 [eTApiExpr a0, .ptr o0 0, .ptr o2 0] [(o0, Blk.cells [.fn (.func 42) [] [.ptr o1 0]] T0), (o1, Blk.cells [.v (SL z1_0)] T1), (o2, Blk.cells [.fn (.func 52) [] [.ptr o0 0, .ptr o2 0]] T2), (0, Blk.row 1 (m1.gL.map eI64) (SL z1_0))] [] (fun d h k => ∃ y0, d = .tup [] ∧ h = [(o0, Blk.cells [.fn (.func 42) [] [.ptr o1 0]] T0), (o1, Blk.cells [.v (SL y0)] T1), (o2, Blk.cells [.fn (.func 52) [] [.ptr o0 0, .ptr o2 0]] T2), (0, Blk.row 1 (r.gL.map eI64) (SL y0))] ∧ k = []))
  | 0 => fun _ _ _ _ _ _ _ _ _ _ h0 => by cases h0
  | n + 1 => by
    have ih := tree_walk_1_r2_g_ok n
    exact tree_walk_1_r2_b_ok (tree_walk_1_r2_g n) ih
theorem tree_walk_1_r2_g_le : ∀ n, (∀ (a0 : TApiExpr) (m1 : TTreeBagInt), Le ((tree_walk_1_r2_g n) a0 m1) ((tree_walk_1_r2_g (n + 1)) a0 m1))
  | 0 => fun _ _ => Le.none _
  | n + 1 => by
    have ih := tree_walk_1_r2_g_le n
    exact fun a0 m1 => by show Le (tree_walk_1_r2_b ((tree_walk_1_r2_g n)) a0 m1) (tree_walk_1_r2_b ((tree_walk_1_r2_g (n + 1))) a0 m1); unfold tree_walk_1_r2_b; repeat (first | exact Le.refl _ | exact ih _ _ | assumption | (refine Le.bind ?_ (fun _ => ?_)) | (refine Le.cond ?_ ?_) | (refine Le.loop (fun _ => ?_)) | (refine Le.elim (fun _ => ?_) (fun _ => ?_)))
noncomputable def tree_walk_1_r2 (a0 : TApiExpr) (m1 : TTreeBagInt) : Option (TTreeBagInt) := anyN fun n => (tree_walk_1_r2_g n) a0 m1
theorem tree_walk_1_r2_of (a0 : TApiExpr) (m1 : TTreeBagInt) {r : TTreeBagInt} (n : Nat) (h : (tree_walk_1_r2_g n) a0 m1 = some r) : tree_walk_1_r2 a0 m1 = some r := anyN_of (fun m => (tree_walk_1_r2_g_le m) a0 m1) h
theorem tree_walk_1_r2_ok (a0 : TApiExpr) (m1 : TTreeBagInt) (o0 : Nat) (T0 : TypeId) (o1 : Nat) (T1 : TypeId) (z1_0 : Z3) (o2 : Nat) (T2 : TypeId) (r : TTreeBagInt) (h0 : tree_walk_1_r2 a0 m1 = some r) : CallsD Try.prog 52 [eTApiExpr a0, .ptr o0 0, .ptr o2 0] [(o0, Blk.cells [.fn (.func 42) [] [.ptr o1 0]] T0), (o1, Blk.cells [.v (SL z1_0)] T1), (o2, Blk.cells [.fn (.func 52) [] [.ptr o0 0, .ptr o2 0]] T2), (0, Blk.row 1 (m1.gL.map eI64) (SL z1_0))] [] (fun d h k => ∃ y0, d = .tup [] ∧ h = [(o0, Blk.cells [.fn (.func 42) [] [.ptr o1 0]] T0), (o1, Blk.cells [.v (SL y0)] T1), (o2, Blk.cells [.fn (.func 52) [] [.ptr o0 0, .ptr o2 0]] T2), (0, Blk.row 1 (r.gL.map eI64) (SL y0))] ∧ k = []) :=
  let ⟨n, hn⟩ := anyN_inv h0; (tree_walk_1_r2_g_ok n) a0 m1 o0 T0 o1 T1 z1_0 o2 T2 r hn
noncomputable def tree_walk_r3_b (g0 : (List TApiStmt) → (TTreeBagInt) → Option (TTreeBagInt)) (a0 : List TApiStmt) (m0 : TTreeBagInt) : Option (TTreeBagInt) :=
  (Option.bind (α := List Int) (loopM (fun (s144 : Int × List Int) => (bif (decide (s144.1 < (a0.length : Int))) then ((idx a0 s144.1).bind fun x238 => ((tree_Nums_1 x238).bind fun x240 => (Option.bind (α := List Int) (loopM (fun (s260 : Int × List Int) => (bif (decide (s260.1 < (x238.gExps.length : Int))) then ((idx x238.gExps s260.1).bind fun x274 => ((tree_walk_1_r2 x274 (⟨s260.2⟩ : TTreeBagInt)).bind fun x277 => some (.next ((IntKind.i64.wrap (s260.1 + (1 : Int))), x277.gL)))) else some (.done s260.2))) ((0 : Int), s144.2)) fun y259 => ((g0 x238.gKids (⟨y259⟩ : TTreeBagInt)).bind fun x279 => ((g0 x238.gElse x279).bind fun x281 => some (.next ((IntKind.i64.wrap (s144.1 + (1 : Int))), x281.gL))))))) else some (.done s144.2))) ((0 : Int), m0.gL)) fun y143 => some (⟨y143⟩ : TTreeBagInt))
set_option maxRecDepth 100000 in
set_option maxHeartbeats 2000000 in
theorem tree_walk_r3_b_ok (g0 : (List TApiStmt) → (TTreeBagInt) → Option (TTreeBagInt)) (hg0 : ∀ (a0 : List TApiStmt) (m0 : TTreeBagInt) (o0 : Nat) (T0 : TypeId) (z0_0 : Z3) (r : TTreeBagInt) (h0 : g0 a0 m0 = some r), CallsD Try.prog 34 [.lst 7 (a0.map eTApiStmt) .no, .fn (.func 41) [] [], .fn (.func 42) [] [.ptr o0 0]] [(o0, Blk.cells [.v (SL z0_0)] T0), (0, Blk.row 1 (m0.gL.map eI64) (SL z0_0))] [] (fun d h k => ∃ y0, d = .tup [] ∧ h = [(o0, Blk.cells [.v (SL y0)] T0), (0, Blk.row 1 (r.gL.map eI64) (SL y0))] ∧ k = [])) (a0 : List TApiStmt) (m0 : TTreeBagInt) (o0 : Nat) (T0 : TypeId) (z0_0 : Z3) (r : TTreeBagInt) (h0 : tree_walk_r3_b g0 a0 m0 = some r) : CallsD Try.prog 34 [.lst 7 (a0.map eTApiStmt) .no, .fn (.func 41) [] [], .fn (.func 42) [] [.ptr o0 0]] [(o0, Blk.cells [.v (SL z0_0)] T0), (0, Blk.row 1 (m0.gL.map eI64) (SL z0_0))] [] (fun d h k => ∃ y0, d = .tup [] ∧ h = [(o0, Blk.cells [.v (SL y0)] T0), (0, Blk.row 1 (r.gL.map eI64) (SL y0))] ∧ k = []) := by
  have hm := yes_of h0
  unfold tree_walk_r3_b at hm
  clear h0
  refine enterX htab Try.func34 rfl rfl rfl rfl rfl (fun C => ?_)
  refine wpD_seq ?_
  refine wpD_region ?_
  refine p_box rfl rfl rfl rfl rfl rfl rfl (fun b1 => ?_)
  refine ops_nil ?_
  refine then_normal ?_
  refine wpD_seq ?_
  refine wpD_region ?_
  refine p_alloc htab rfl rfl rfl rfl rfl rfl rfl (fun b2 => ?_)
  refine ops_nil ?_
  refine then_normal ?_
  refine wpD_seq ?_
  refine wpD_region ?_
  refine p_pure htab rfl rfl rfl rfl ?_
  refine p_store (ds' := [.fn (.func 52) [] [.ptr b1 0, .ptr b2 0]]) (h' := [(o0, Blk.cells [.v (SL z0_0)] T0), (0, Blk.row 1 (m0.gL.map eI64) (SL z0_0)), (b1, Blk.cells [.fn (.func 42) [] [.ptr o0 0]] 58), (b2, Blk.cells [.fn (.func 52) [] [.ptr b1 0, .ptr b2 0]] 58)]) 3 htab rfl rfl rfl rfl rfl rfl rfl rfl rfl rfl rfl rfl ?_
  refine ops_nil ?_
  refine then_normal ?_
  refine wpD_seq ?_
  refine wpD_region ?_
  refine p_pure htab rfl rfl rfl rfl ?_
  refine p_lenL htab rfl rfl rfl rfl rfl rfl rfl (by first | exact map_len | rfl) ?_
  refine p_pure htab rfl rfl rfl rfl ?_
  refine ops_nil ?_
  refine then_normal ?_
  obtain ⟨y143, q143, ho143⟩ := yes_bind hm
  refine wpD_mid (Y := Z3) (fun z143 => (⟨[], [(0, Blk.row 1 (y143.map eI64) (SL z143)), (o0, Blk.cells [.v (SL z143)] T0), (b1, Blk.cells [.fn (.func 42) [] [.ptr o0 0]] 58), (b2, Blk.cells [.fn (.func 52) [] [.ptr b1 0, .ptr b2 0]] 58)], []⟩ : S)) ?_ ?_
  · clear hm; have hm := yes_of q143
    refine wpD_block ?_
    obtain ⟨u144, hl144, hq144⟩ := yes_m hm
    refine loop_M (Y := Z3) hl144 (fun s144 z144 => (⟨[(1, .fn (.func 41) [] []), (5, .ptr b1 0), (6, .ptr b2 0), (12, .lst 7 (a0.map eTApiStmt) .no), (13, .v (.int .i64 (a0.length : Int))), (14, .v (.int .i64 s144.1))], [(0, Blk.row 1 (s144.2.map eI64) (SL z144)), (o0, Blk.cells [.v (SL z144)] T0), (b1, Blk.cells [.fn (.func 42) [] [.ptr o0 0]] 58), (b2, Blk.cells [.fn (.func 52) [] [.ptr b1 0, .ptr b2 0]] 58)], []⟩ : S)) ?_ ?_
    · skip
      exact WkX.of z0_0 (WkS.perm (WkS.cons rfl (Wk.refl _) (WkS.cons rfl (Wk.refl _) (WkS.cons rfl (Wk.refl _) (WkS.cons rfl (Wk.refl _) (WkS.cons rfl (Wk.refl _) (WkS.cons rfl (Wk.refl _) (WkS.nil))))))) ((perm_at (j := 1) rfl).trans (List.Perm.cons _ ((perm_at (j := 0) rfl).trans (List.Perm.cons _ ((perm_at (j := 0) rfl).trans (List.Perm.cons _ ((perm_at (j := 0) rfl).trans (List.Perm.cons _ (List.Perm.refl _))))))))) (List.Perm.refl _))
    · intro G144 s144 z144 hm
      refine wpD_seq ?_
      refine wpD_region ?_
      refine p_pure htab rfl rfl rfl rfl ?_
      refine ops_nil ?_
      refine then_normal ?_
      refine wpD_seq ?_
      refine wpD_cond rfl (fun hc237 => ?_) (fun hc237 => ?_)
      · replace hm := yes_t hc237 hm
        refine wpD_skip ?_
        refine then_normal ?_
        refine wpD_seq ?_
        refine wpD_block ?_
        refine wpD_seq ?_
        refine wpD_region ?_
        obtain ⟨x238, q238, hm⟩ := yes_bind hm
        refine p_elem htab rfl rfl rfl rfl rfl rfl rfl rfl rfl rfl (idx_nonneg q238) (idx_map q238) ?_
        refine p_eq (i := 16) rfl (Wk.of_eq (congrArg D.el (eTApiStmt_eq x238))) ?_
        refine p_loadEl (d := .agg [.v (.int .i64 x238.gOp), .v (.string x238.gName), .v (.string x238.gFunc), .lst 5 (x238.gExps.map eTApiExpr) .no, .lst 7 (x238.gKids.map eTApiStmt) .no, .lst 7 (x238.gElse.map eTApiStmt) .no, .v (.int .i64 x238.gAt)]) htab rfl rfl rfl rfl rfl rfl rfl rfl ?_
        refine p_alloc htab rfl rfl rfl rfl rfl rfl rfl (fun b239 => ?_)
        refine p_store (ds' := [.v (.int .i64 x238.gOp), .v (.string x238.gName), .v (.string x238.gFunc), .lst 5 (x238.gExps.map eTApiExpr) .no, .lst 7 (x238.gKids.map eTApiStmt) .no, .lst 7 (x238.gElse.map eTApiStmt) .no, .v (.int .i64 x238.gAt)]) (h' := [(0, Blk.row 1 (s144.2.map eI64) (SL z144)), (o0, Blk.cells [.v (SL z144)] T0), (b1, Blk.cells [.fn (.func 42) [] [.ptr o0 0]] 58), (b2, Blk.cells [.fn (.func 52) [] [.ptr b1 0, .ptr b2 0]] 58), (b239, Blk.cells [.v (.int .i64 x238.gOp), .v (.string x238.gName), .v (.string x238.gFunc), .lst 5 (x238.gExps.map eTApiExpr) .no, .lst 7 (x238.gKids.map eTApiStmt) .no, .lst 7 (x238.gElse.map eTApiStmt) .no, .v (.int .i64 x238.gAt)] 56)]) 4 htab rfl rfl rfl rfl rfl rfl rfl rfl rfl rfl rfl rfl ?_
        refine ops_nil ?_
        refine then_normal ?_
        refine wpD_seq ?_
        refine wpD_region ?_
        refine p_pure htab rfl rfl rfl rfl ?_
        refine p_load (d := .agg [.v (.int .i64 x238.gOp), .v (.string x238.gName), .v (.string x238.gFunc), .lst 5 (x238.gExps.map eTApiExpr) .no, .lst 7 (x238.gKids.map eTApiStmt) .no, .lst 7 (x238.gElse.map eTApiStmt) .no, .v (.int .i64 x238.gAt)]) 4 htab rfl rfl rfl rfl rfl rfl rfl rfl ?_
        obtain ⟨x240, q240, hm⟩ := yes_bind hm
        refine p_callV0 (tree_Nums_1_ok x238 x240 q240) rfl rfl rfl rfl rfl rfl rfl (WkL.cons (Wk.trans (Wk.agg (WkR.refl _)) (Wk.of_eq (eTApiStmt_eq x238).symm)) (WkL.refl _)) ?_
        rintro _ rfl
        refine ops_nil ?_
        refine then_normal ?_
        refine wpD_seq ?_
        refine wpD_seq ?_
        refine wpD_region ?_
        refine p_pure htab rfl rfl rfl rfl ?_
        refine p_load 4 htab rfl rfl rfl rfl rfl rfl rfl rfl ?_
        refine p_lenL htab rfl rfl rfl rfl rfl rfl rfl (by first | exact map_len | rfl) ?_
        refine p_pure htab rfl rfl rfl rfl ?_
        refine ops_nil ?_
        refine then_normal ?_
        obtain ⟨y259, q259, ho259⟩ := yes_bind hm
        refine wpD_mid (Y := Z3) (fun z259 => (⟨[(1, .fn (.func 41) [] []), (5, .ptr b1 0), (6, .ptr b2 0), (8, .ptr b239 0), (12, .lst 7 (a0.map eTApiStmt) .no), (13, .v (.int .i64 (a0.length : Int))), (14, .v (.int .i64 s144.1))], [(0, Blk.row 1 (y259.map eI64) (SL z259)), (o0, Blk.cells [.v (SL z259)] T0), (b1, Blk.cells [.fn (.func 42) [] [.ptr o0 0]] 58), (b2, Blk.cells [.fn (.func 52) [] [.ptr b1 0, .ptr b2 0]] 58), (b239, Blk.cells [.v (.int .i64 x238.gOp), .v (.string x238.gName), .v (.string x238.gFunc), .lst 5 (x238.gExps.map eTApiExpr) .no, .lst 7 (x238.gKids.map eTApiStmt) .no, .lst 7 (x238.gElse.map eTApiStmt) .no, .v (.int .i64 x238.gAt)] 56)], []⟩ : S)) ?_ ?_
        · clear hm; have hm := yes_of q259
          refine wpD_block ?_
          obtain ⟨u260, hl260, hq260⟩ := yes_m hm
          refine loop_M (Y := Z3) hl260 (fun s260 z260 => (⟨[(1, .fn (.func 41) [] []), (5, .ptr b1 0), (6, .ptr b2 0), (8, .ptr b239 0), (12, .lst 7 (a0.map eTApiStmt) .no), (13, .v (.int .i64 (a0.length : Int))), (14, .v (.int .i64 s144.1)), (22, .lst 5 (x238.gExps.map eTApiExpr) .no), (23, .v (.int .i64 (x238.gExps.length : Int))), (24, .v (.int .i64 s260.1))], [(0, Blk.row 1 (s260.2.map eI64) (SL z260)), (o0, Blk.cells [.v (SL z260)] T0), (b1, Blk.cells [.fn (.func 42) [] [.ptr o0 0]] 58), (b2, Blk.cells [.fn (.func 52) [] [.ptr b1 0, .ptr b2 0]] 58), (b239, Blk.cells [.v (.int .i64 x238.gOp), .v (.string x238.gName), .v (.string x238.gFunc), .lst 5 (x238.gExps.map eTApiExpr) .no, .lst 7 (x238.gKids.map eTApiStmt) .no, .lst 7 (x238.gElse.map eTApiStmt) .no, .v (.int .i64 x238.gAt)] 56)], []⟩ : S)) ?_ ?_
          · skip
            exact WkX.of z144 (WkS.perm (WkS.cons rfl (Wk.refl _) (WkS.cons rfl (Wk.refl _) (WkS.cons rfl (Wk.refl _) (WkS.cons rfl (Wk.refl _) (WkS.cons rfl (Wk.refl _) (WkS.cons rfl (Wk.refl _) (WkS.cons rfl (Wk.refl _) (WkS.cons rfl (Wk.refl _) (WkS.cons rfl (Wk.refl _) (WkS.cons rfl (Wk.refl _) (WkS.nil))))))))))) (List.Perm.refl _) (List.Perm.refl _))
          · intro G260 s260 z260 hm
            refine wpD_seq ?_
            refine wpD_region ?_
            refine p_pure htab rfl rfl rfl rfl ?_
            refine ops_nil ?_
            refine then_normal ?_
            refine wpD_seq ?_
            refine wpD_cond rfl (fun hc273 => ?_) (fun hc273 => ?_)
            · replace hm := yes_t hc273 hm
              refine wpD_skip ?_
              refine then_normal ?_
              refine wpD_seq ?_
              refine wpD_block ?_
              refine wpD_seq ?_
              refine wpD_region ?_
              obtain ⟨x274, q274, hm⟩ := yes_bind hm
              refine p_elem htab rfl rfl rfl rfl rfl rfl rfl rfl rfl rfl (idx_nonneg q274) (idx_map q274) ?_
              refine p_eq (i := 26) rfl (Wk.of_eq (congrArg D.el (eTApiExpr_eq x274))) ?_
              refine p_loadEl (d := .agg [.v (.int .i64 x274.gOp), .v (.int .i64 x274.gN), .v (.string x274.gName), .lst 5 (x274.gKids.map eTApiExpr) .no, .v (.int .i64 x274.gAt)]) htab rfl rfl rfl rfl rfl rfl rfl rfl ?_
              refine p_alloc htab rfl rfl rfl rfl rfl rfl rfl (fun b275 => ?_)
              refine p_store (ds' := [.v (.int .i64 x274.gOp), .v (.int .i64 x274.gN), .v (.string x274.gName), .lst 5 (x274.gKids.map eTApiExpr) .no, .v (.int .i64 x274.gAt)]) (h' := [(0, Blk.row 1 (s260.2.map eI64) (SL z260)), (o0, Blk.cells [.v (SL z260)] T0), (b1, Blk.cells [.fn (.func 42) [] [.ptr o0 0]] 58), (b2, Blk.cells [.fn (.func 52) [] [.ptr b1 0, .ptr b2 0]] 58), (b239, Blk.cells [.v (.int .i64 x238.gOp), .v (.string x238.gName), .v (.string x238.gFunc), .lst 5 (x238.gExps.map eTApiExpr) .no, .lst 7 (x238.gKids.map eTApiStmt) .no, .lst 7 (x238.gElse.map eTApiStmt) .no, .v (.int .i64 x238.gAt)] 56), (b275, Blk.cells [.v (.int .i64 x274.gOp), .v (.int .i64 x274.gN), .v (.string x274.gName), .lst 5 (x274.gKids.map eTApiExpr) .no, .v (.int .i64 x274.gAt)] 34)]) 5 htab rfl rfl rfl rfl rfl rfl rfl rfl rfl rfl rfl rfl ?_
              refine ops_nil ?_
              refine then_normal ?_
              refine wpD_region ?_
              refine p_load 3 htab rfl rfl rfl rfl rfl rfl rfl rfl ?_
              refine p_load (d := .agg [.v (.int .i64 x274.gOp), .v (.int .i64 x274.gN), .v (.string x274.gName), .lst 5 (x274.gKids.map eTApiExpr) .no, .v (.int .i64 x274.gAt)]) 5 htab rfl rfl rfl rfl rfl rfl rfl rfl ?_
              obtain ⟨x277, q277, hm⟩ := yes_bind hm
              refine p_callV (tree_walk_1_r2_ok x274 (⟨s260.2⟩ : TTreeBagInt) b1 58 o0 T0 z260 b2 58 x277 q277) rfl rfl rfl rfl rfl rfl rfl (WkL.cons (Wk.trans (Wk.agg (WkR.refl _)) (Wk.of_eq (eTApiExpr_eq x274).symm)) (WkL.cons (Wk.refl _) (WkL.cons (Wk.refl _) (WkL.refl _)))) ((perm_at (j := 2) rfl).trans (List.Perm.cons _ ((perm_at (j := 1) rfl).trans (List.Perm.cons _ ((perm_at (j := 1) rfl).trans (List.Perm.cons _ ((perm_at (j := 0) rfl).trans (List.Perm.cons _ (List.Perm.refl _))))))))) (List.Perm.refl _) ?_
              rintro _ _ _ ⟨w276, rfl, rfl, rfl⟩
              refine ops_nil ?_
              refine block_normal ?_
              refine then_normal ?_
              refine wpD_region ?_
              refine p_pure htab rfl rfl rfl rfl ?_
              refine p_pure htab rfl rfl rfl rfl ?_
              refine ops_nil ?_
              refine then_normal ⟨_, lp_next hm, ?_⟩
              exact WkX.of w276 (WkS.perm (WkS.cons rfl (Wk.refl _) (WkS.cons rfl (Wk.refl _) (WkS.cons rfl (Wk.refl _) (WkS.cons rfl (Wk.refl _) (WkS.cons rfl (Wk.refl _) (WkS.cons rfl (Wk.refl _) (WkS.cons rfl (Wk.refl _) (WkS.cons rfl (Wk.refl _) (WkS.cons rfl (Wk.refl _) (WkS.cons rfl (Wk.refl _) (WkS.nil))))))))))) ((perm_at (j := 3) rfl).trans (List.Perm.cons _ ((perm_at (j := 1) rfl).trans (List.Perm.cons _ ((perm_at (j := 0) rfl).trans (List.Perm.cons _ ((perm_at (j := 0) rfl).trans (List.Perm.cons _ ((perm_at (j := 0) rfl).trans (List.Perm.cons _ (List.Perm.refl _))))))))))) (List.Perm.refl _))
            · replace hm := yes_f hc273 hm
              refine wpD_exit ?_
              refine then_exit ?_
              have e260 := lp_done hm; subst e260; clear hm; have hm := hq260
              refine then_exit ?_
              refine block_hit ?_
              have e259 := yes_eq hm; subst e259
              refine ⟨rfl, ?_⟩
              exact WkX.of z260 (WkS.perm (WkS.cons rfl (Wk.refl _) (WkS.cons rfl (Wk.refl _) (WkS.cons rfl (Wk.refl _) (WkS.cons rfl (Wk.refl _) (WkS.cons rfl (Wk.refl _) (WkS.cons rfl (Wk.refl _) (WkS.cons rfl (Wk.refl _) (WkS.nil)))))))) (List.Perm.refl _) (List.Perm.refl _))
        · intro s259 hw259; clear hm; have hm := ho259; clear q259 ho259
          refine then_normal ?_
          refine wpD_wkX hw259 (fun z259 => ?_)
          refine wpD_seq ?_
          refine wpD_region ?_
          refine p_pure htab rfl rfl rfl rfl ?_
          refine p_load 4 htab rfl rfl rfl rfl rfl rfl rfl rfl ?_
          refine p_pure htab rfl rfl rfl rfl ?_
          refine p_load 2 htab rfl rfl rfl rfl rfl rfl rfl rfl ?_
          obtain ⟨x279, q279, hm⟩ := yes_bind hm
          refine p_callG (hg0 x238.gKids (⟨y259⟩ : TTreeBagInt) o0 T0 z259 x279 q279) rfl rfl rfl rfl rfl (WkL.refl _) ((perm_at (j := 1) rfl).trans (List.Perm.cons _ ((perm_at (j := 0) rfl).trans (List.Perm.cons _ (List.Perm.refl _))))) (List.Perm.refl _) ?_
          rintro _ _ _ ⟨w278, rfl, rfl, rfl⟩
          refine ops_nil ?_
          refine then_normal ?_
          refine wpD_region ?_
          refine p_pure htab rfl rfl rfl rfl ?_
          refine p_load 4 htab rfl rfl rfl rfl rfl rfl rfl rfl ?_
          refine p_pure htab rfl rfl rfl rfl ?_
          refine p_load 2 htab rfl rfl rfl rfl rfl rfl rfl rfl ?_
          obtain ⟨x281, q281, hm⟩ := yes_bind hm
          refine p_callG (hg0 x238.gElse x279 o0 T0 w278 x281 q281) rfl rfl rfl rfl rfl (WkL.refl _) (List.Perm.refl _) (List.Perm.refl _) ?_
          rintro _ _ _ ⟨w280, rfl, rfl, rfl⟩
          refine ops_nil ?_
          refine block_normal ?_
          refine then_normal ?_
          refine wpD_region ?_
          refine p_pure htab rfl rfl rfl rfl ?_
          refine p_pure htab rfl rfl rfl rfl ?_
          refine ops_nil ?_
          refine then_normal ⟨_, lp_next hm, ?_⟩
          exact WkX.of w280 (WkS.perm (WkS.cons rfl (Wk.refl _) (WkS.cons rfl (Wk.refl _) (WkS.cons rfl (Wk.refl _) (WkS.cons rfl (Wk.refl _) (WkS.cons rfl (Wk.refl _) (WkS.cons rfl (Wk.refl _) (WkS.nil))))))) ((perm_at (j := 1) rfl).trans (List.Perm.cons _ ((perm_at (j := 0) rfl).trans (List.Perm.cons _ ((perm_at (j := 0) rfl).trans (List.Perm.cons _ ((perm_at (j := 0) rfl).trans (List.Perm.cons _ (List.Perm.refl _))))))))) (List.Perm.refl _))
      · replace hm := yes_f hc237 hm
        refine wpD_exit ?_
        refine then_exit ?_
        have e144 := lp_done hm; subst e144; clear hm; have hm := hq144
        refine then_exit ?_
        refine block_hit ?_
        have e143 := yes_eq hm; subst e143
        refine ⟨rfl, ?_⟩
        exact WkX.of z144 (WkS.perm (WkS.nil) (List.Perm.refl _) (List.Perm.refl _))
  · intro s143 hw143; clear hm; have hm := ho143; clear q143 ho143
    refine retX.wkX hw143 (fun z143 => ?_)
    have er282 := yes_eq hm; subst er282
    refine retX.of (s' := ⟨[], [(o0, Blk.cells [.v (SL z143)] T0), (0, Blk.row 1 (y143.map eI64) (SL z143))], []⟩) (WkS.perm (WkS.nil) ((perm_at (j := 1) rfl).trans (List.Perm.cons _ ((perm_at (j := 0) rfl).trans (List.Perm.cons _ (List.Perm.refl _))))) (List.Perm.refl _)) (retD_mk (hh := [(o0, Blk.cells [.v (SL z143)] T0), (0, Blk.row 1 (y143.map eI64) (SL z143))]) (.inr rfl) (resL_nil) (List.Sublist.refl _) (List.Sublist.refl _) ?_)
    exact ⟨z143, rfl, rfl, rfl⟩
noncomputable def tree_walk_r3_g : Nat → ((List TApiStmt) → (TTreeBagInt) → Option (TTreeBagInt))
  | 0 => (fun _ _ => none)
  | n + 1 => (tree_walk_r3_b ((tree_walk_r3_g n)))
theorem tree_walk_r3_g_ok : ∀ n, (∀ (a0 : List TApiStmt) (m0 : TTreeBagInt) (o0 : Nat) (T0 : TypeId) (z0_0 : Z3) (r : TTreeBagInt) (h0 : (tree_walk_r3_g n) a0 m0 = some r), CallsD Try.prog 34 [.lst 7 (a0.map eTApiStmt) .no, .fn (.func 41) [] [], .fn (.func 42) [] [.ptr o0 0]] [(o0, Blk.cells [.v (SL z0_0)] T0), (0, Blk.row 1 (m0.gL.map eI64) (SL z0_0))] [] (fun d h k => ∃ y0, d = .tup [] ∧ h = [(o0, Blk.cells [.v (SL y0)] T0), (0, Blk.row 1 (r.gL.map eI64) (SL y0))] ∧ k = []))
  | 0 => fun _ _ _ _ _ _ h0 => by cases h0
  | n + 1 => by
    have ih := tree_walk_r3_g_ok n
    exact tree_walk_r3_b_ok (tree_walk_r3_g n) ih
theorem tree_walk_r3_g_le : ∀ n, (∀ (a0 : List TApiStmt) (m0 : TTreeBagInt), Le ((tree_walk_r3_g n) a0 m0) ((tree_walk_r3_g (n + 1)) a0 m0))
  | 0 => fun _ _ => Le.none _
  | n + 1 => by
    have ih := tree_walk_r3_g_le n
    exact fun a0 m0 => by show Le (tree_walk_r3_b ((tree_walk_r3_g n)) a0 m0) (tree_walk_r3_b ((tree_walk_r3_g (n + 1))) a0 m0); unfold tree_walk_r3_b; repeat (first | exact Le.refl _ | exact ih _ _ | assumption | (refine Le.bind ?_ (fun _ => ?_)) | (refine Le.cond ?_ ?_) | (refine Le.loop (fun _ => ?_)) | (refine Le.elim (fun _ => ?_) (fun _ => ?_)))
noncomputable def tree_walk_r3 (a0 : List TApiStmt) (m0 : TTreeBagInt) : Option (TTreeBagInt) := anyN fun n => (tree_walk_r3_g n) a0 m0
theorem tree_walk_r3_of (a0 : List TApiStmt) (m0 : TTreeBagInt) {r : TTreeBagInt} (n : Nat) (h : (tree_walk_r3_g n) a0 m0 = some r) : tree_walk_r3 a0 m0 = some r := anyN_of (fun m => (tree_walk_r3_g_le m) a0 m0) h
theorem tree_walk_r3_ok (a0 : List TApiStmt) (m0 : TTreeBagInt) (o0 : Nat) (T0 : TypeId) (z0_0 : Z3) (r : TTreeBagInt) (h0 : tree_walk_r3 a0 m0 = some r) : CallsD Try.prog 34 [.lst 7 (a0.map eTApiStmt) .no, .fn (.func 41) [] [], .fn (.func 42) [] [.ptr o0 0]] [(o0, Blk.cells [.v (SL z0_0)] T0), (0, Blk.row 1 (m0.gL.map eI64) (SL z0_0))] [] (fun d h k => ∃ y0, d = .tup [] ∧ h = [(o0, Blk.cells [.v (SL y0)] T0), (0, Blk.row 1 (r.gL.map eI64) (SL y0))] ∧ k = []) :=
  let ⟨n, hn⟩ := anyN_inv h0; (tree_walk_r3_g_ok n) a0 m0 o0 T0 z0_0 r hn
noncomputable def tree_Nums (a0 : List TApiStmt) : Option (List Int) :=
  ((tree_walk_r3 a0 (⟨[]⟩ : TTreeBagInt)).bind fun x4 => ((tree_bag_int_all x4).bind fun x6 => some x6.1))
set_option maxRecDepth 100000 in
set_option maxHeartbeats 2000000 in
theorem tree_Nums_ok (a0 : List TApiStmt) (r : List Int) (h0 : tree_Nums a0 = some r) : CallsD Try.prog 12 [.lst 7 (a0.map eTApiStmt) .no] [] [] (fun d h k => ∃ y0, d = .v (SL y0) ∧ h = [(0, Blk.row 1 (r.map eI64) (SL y0))] ∧ k = []) := by
  have hm := yes_of h0
  unfold tree_Nums at hm
  clear h0
  refine enterX htab Try.func12 rfl rfl rfl rfl rfl (fun C => ?_)
  refine wpD_seq ?_
  refine wpD_region ?_
  refine p_pure htab rfl rfl rfl rfl ?_
  refine ops_nil ?_
  refine then_normal ?_
  refine wpD_seq ?_
  refine wpD_region ?_
  refine p_alloc htab rfl rfl rfl rfl rfl rfl rfl (fun b1 => ?_)
  refine ops_nil ?_
  refine then_normal ?_
  refine wpD_seq ?_
  refine wpD_region ?_
  refine p_pure htab rfl rfl rfl rfl ?_
  refine p_pure htab rfl rfl rfl rfl ?_
  refine o_rowC (off := 0) 1 0 rfl rfl (fun w2 => ?_)
  obtain ⟨x4, q4, hm⟩ := yes_bind hm
  refine p_callG (tree_walk_r3_ok a0 (⟨[]⟩ : TTreeBagInt) b1 62 w2 x4 q4) rfl rfl rfl rfl rfl (WkL.refl _) ((perm_at (j := 1) rfl).trans (List.Perm.cons _ ((perm_at (j := 0) rfl).trans (List.Perm.cons _ (List.Perm.refl _))))) (List.Perm.refl _) ?_
  rintro _ _ _ ⟨w3, rfl, rfl, rfl⟩
  refine ops_nil ?_
  refine then_normal ?_
  refine wpD_seq ?_
  refine wpD_region ?_
  obtain ⟨x6, q6, hm⟩ := yes_bind hm
  refine p_callG (tree_bag_int_all_ok x4 b1 62 w3 x6 q6) rfl rfl rfl rfl rfl (WkL.refl _) (List.Perm.refl _) (List.Perm.refl _) ?_
  rintro _ _ _ ⟨w5, rfl, rfl, rfl⟩
  refine p_pure htab rfl rfl rfl rfl ?_
  refine ops_nil ?_
  refine then_normal ?_
  refine wpD_ret ?_
  have er7 := yes_eq hm; subst er7
  refine retX.of (s' := ⟨[(2, .v (SL w5))], [(0, Blk.row 1 (x6.1.map eI64) (SL w5))], []⟩) (WkS.perm (WkS.cons rfl (Wk.refl _) (WkS.nil)) ((perm_at (j := 1) rfl).trans (List.Perm.cons _ (List.Perm.refl _))) (List.Perm.refl _)) (retD_mk (hh := [(0, Blk.row 1 (x6.1.map eI64) (SL w5))]) (.inl rfl) (resL_cons (resOne_tmp rfl) (resL_nil)) (List.Sublist.refl _) (List.Sublist.refl _) ?_)
  exact ⟨w5, rfl, rfl, rfl⟩
abbrev nlTn1_1 : List (List Nat) := [[],[0],[0,1],[0,1,2],[0,1,2],[0,1,2,3,4],[0,1,2,3,4,5],[0,1,2,3,4,5,6],[0,1,2],[0,1,2],[0,1,2,8,9],[0,1,2,8,9,10],[0,1,2,3,4,5,6,7,8,9,10,11],[0,1,2,3,4,5,6,7,8,9,10,11,12]]
noncomputable def r11_Nums (a0 : List TApiStmt) : Option (List Int) :=
  ((r11_Exprs a0).bind fun x2 => (Option.bind (α := List Int) (loopM (fun (s514 : List Int × Int) => (bif (decide (s514.2 < (x2.length : Int))) then ((idx x2 s514.2).bind fun x853 => (bif (x853.gOp != (1 : Int)) then some (.next (s514.1, (IntKind.i64.wrap (s514.2 + (1 : Int))))) else (Option.bind (α := List Int × Bool) (loopM (fun (s934 : List Int × Bool × Int) => (bif (decide (s934.2.2 < (s514.1.length : Int))) then (bif (!s934.2.1) then ((idx x2 s514.2).bind fun x989 => ((idx s514.1 s934.2.2).bind fun x990 => (Option.bind (α := List Int × Bool) (bif (decide (x989.gN ≤ x990)) then ((idx x2 s514.2).bind fun x999 => ((idx s514.1 s934.2.2).bind fun x1000 => (Option.bind (α := List Int) (bif (decide (x999.gN < x1000)) then ((idx x2 s514.2).bind fun x1006 => ((app 8 s934.1 ([x1006.gN] : List Int)).bind fun x1007 => some x1007)) else some s934.1) fun y1004 => some (y1004, true)))) else some (s934.1, s934.2.1)) fun y997 => ((idx s514.1 s934.2.2).bind fun x1008 => ((app 8 y997.1 ([x1008] : List Int)).bind fun x1009 => some (.next (x1009, y997.2, (IntKind.i64.wrap (s934.2.2 + (1 : Int)))))))))) else ((idx s514.1 s934.2.2).bind fun x1010 => ((app 8 s934.1 ([x1010] : List Int)).bind fun x1011 => some (.next (x1011, s934.2.1, (IntKind.i64.wrap (s934.2.2 + (1 : Int)))))))) else some (.done (s934.1, s934.2.1)))) (([] : List Int), false, (0 : Int))) fun y933 => (Option.bind (α := List Int) (bif (!y933.2) then ((idx x2 s514.2).bind fun x1017 => ((app 8 y933.1 ([x1017.gN] : List Int)).bind fun x1018 => some x1018)) else some y933.1) fun y1015 => some (.next (y1015, (IntKind.i64.wrap (s514.2 + (1 : Int))))))))) else some (.done s514.1))) (([] : List Int), (0 : Int))) fun y513 => some y513))
set_option maxRecDepth 100000 in
set_option maxHeartbeats 2000000 in
theorem r11_Nums_ok (a0 : List TApiStmt) (r : List Int) (h0 : r11_Nums a0 = some r) : CallsD Try.prog 13 [.lst 7 (a0.map eTApiStmt) .no] [] [] (fun d h k => ∃ y0, d = .lst 1 (r.map eI64) (.cur y0) ∧ h = [] ∧ k = [(1, y0)]) := by
  have hm := yes_of h0
  unfold r11_Nums at hm
  clear h0
  refine enterX htab Try.func13 rfl rfl rfl rfl rfl (fun C => ?_)
  refine wpD_seq ?_
  refine wpD_region ?_
  refine p_pure htab rfl rfl rfl rfl ?_
  refine ops_nil ?_
  refine then_normal ?_
  refine wpD_seq ?_
  refine wpD_region ?_
  refine p_pure htab rfl rfl rfl rfl ?_
  refine ops_nil ?_
  refine then_normal ?_
  refine wpD_seq ?_
  refine wpD_region ?_
  refine p_pure htab rfl rfl rfl rfl ?_
  obtain ⟨x2, q2, hm⟩ := yes_bind hm
  refine p_callG (r11_Exprs_ok a0 x2 q2) rfl rfl rfl rfl rfl (WkL.refl _) (List.Perm.refl _) (List.Perm.refl _) ?_
  rintro _ _ _ ⟨w1, rfl, rfl, rfl⟩
  refine p_pure htab rfl rfl rfl rfl ?_
  refine ops_nil ?_
  refine then_normal ?_
  refine wpD_seq ?_
  refine wpD_seq ?_
  refine wpD_region ?_
  refine p_pure htab rfl rfl rfl rfl ?_
  refine ops_nil ?_
  refine then_normal ?_
  obtain ⟨y513, q513, ho513⟩ := yes_bind hm
  refine wpD_mid (Y := Value) (fun z513 => (⟨[(3, .lst 1 (y513.map eI64) (.cur z513))], [], [(1, z513)]⟩ : S)) ?_ ?_
  · clear hm; have hm := yes_of q513
    refine wpD_block ?_
    obtain ⟨u514, hl514, hq514⟩ := yes_m hm
    refine loop_M (Y := Value) hl514 (fun s514 z514 => (⟨[(3, .lst 1 (s514.1.map eI64) (.cur z514)), (4, .lst 5 (x2.map eTApiExpr) (.cur w1)), (5, .v (.int .i64 s514.2))], [], [(1, z514), (5, w1)]⟩ : S)) ?_ ?_
    · skip
      refine WkX.tokN (i := 3) 1 rfl (fun w851 => ?_)
      exact WkX.of w851 (WkS.perm (WkS.cons rfl (Wk.refl _) (WkS.cons rfl (Wk.refl _) (WkS.cons rfl (Wk.refl _) (WkS.nil)))) (List.Perm.refl _) (List.Perm.refl _))
    · intro G514 s514 z514 hm
      refine wpD_seq ?_
      refine wpD_seq ?_
      refine wpD_region ?_
      refine p_pure htab rfl rfl rfl rfl ?_
      refine p_pure htab rfl rfl rfl rfl ?_
      refine p_lenL htab rfl rfl rfl rfl rfl rfl rfl (by first | exact map_len | rfl) ?_
      refine p_pure htab rfl rfl rfl rfl ?_
      refine ops_nil ?_
      refine then_normal ?_
      refine wpD_cond rfl (fun hc852 => ?_) (fun hc852 => ?_)
      · replace hm := yes_t hc852 hm
        refine wpD_skip ?_
        refine then_normal ?_
        refine wpD_seq ?_
        refine wpD_block ?_
        refine wpD_seq ?_
        refine wpD_seq ?_
        refine wpD_region ?_
        refine p_pure htab rfl rfl rfl rfl ?_
        refine p_pure htab rfl rfl rfl rfl ?_
        obtain ⟨x853, q853, hm⟩ := yes_bind hm
        refine p_elem htab rfl rfl rfl rfl rfl rfl rfl rfl rfl rfl (idx_nonneg q853) (idx_map q853) ?_
        refine p_eq (i := 19) rfl (Wk.of_eq (congrArg D.el (eTApiExpr_eq x853))) ?_
        refine p_pure htab rfl rfl rfl rfl ?_
        refine p_loadEl htab rfl rfl rfl rfl rfl rfl rfl rfl ?_
        refine p_pure htab rfl rfl rfl rfl ?_
        refine ops_nil ?_
        refine then_normal ?_
        refine wpD_cond rfl (fun hc854 => ?_) (fun hc854 => ?_)
        · replace hm := yes_t hc854 hm
          refine wpD_exit ?_
          refine then_exit ?_
          refine block_hit ?_
          refine then_normal ?_
          refine wpD_region ?_
          refine p_pure htab rfl rfl rfl rfl ?_
          refine p_pure htab rfl rfl rfl rfl ?_
          refine p_pure htab rfl rfl rfl rfl ?_
          refine ops_nil ?_
          refine then_normal ⟨_, lp_next hm, ?_⟩
          exact WkX.of z514 (WkS.perm (WkS.cons rfl (Wk.refl _) (WkS.cons rfl (Wk.refl _) (WkS.cons rfl (Wk.refl _) (WkS.nil)))) (List.Perm.refl _) (List.Perm.refl _))
        · replace hm := yes_f hc854 hm
          refine wpD_skip ?_
          refine then_normal ?_
          refine wpD_seq ?_
          refine wpD_region ?_
          refine p_pure htab rfl rfl rfl rfl ?_
          refine ops_nil ?_
          refine then_normal ?_
          refine wpD_seq ?_
          refine wpD_region ?_
          refine p_pure htab rfl rfl rfl rfl ?_
          refine ops_nil ?_
          refine then_normal ?_
          refine wpD_seq ?_
          refine wpD_seq ?_
          refine wpD_region ?_
          refine p_pure htab rfl rfl rfl rfl ?_
          refine ops_nil ?_
          refine then_normal ?_
          obtain ⟨y933, q933, ho933⟩ := yes_bind hm
          refine wpD_mid (Y := Value) (fun z933 => (⟨[(4, .lst 5 (x2.map eTApiExpr) (.cur w1)), (5, .v (.int .i64 s514.2)), (6, .lst 1 (y933.1.map eI64) (.cur z933)), (7, .v (.bool y933.2))], [], [(1, z933), (5, w1)]⟩ : S)) ?_ ?_
          · clear hm; have hm := yes_of q933
            refine wpD_block ?_
            obtain ⟨u934, hl934, hq934⟩ := yes_m hm
            refine loop_M (Y := Value) hl934 (fun s934 z934 => (⟨[(3, .lst 1 (s514.1.map eI64) (.cur z514)), (4, .lst 5 (x2.map eTApiExpr) (.cur w1)), (5, .v (.int .i64 s514.2)), (6, .lst 1 (s934.1.map eI64) (.cur z934)), (7, .v (.bool s934.2.1)), (8, .v (.int .i64 s934.2.2))], [], [(1, z934), (1, z514), (5, w1)]⟩ : S)) ?_ ?_
            · skip
              refine WkX.tokN (i := 6) 1 rfl (fun w986 => ?_)
              exact WkX.of w986 (WkS.perm (WkS.cons rfl (Wk.refl _) (WkS.cons rfl (Wk.refl _) (WkS.cons rfl (Wk.refl _) (WkS.cons rfl (Wk.refl _) (WkS.cons rfl (Wk.refl _) (WkS.cons rfl (Wk.refl _) (WkS.nil))))))) (List.Perm.refl _) (List.Perm.refl _))
            · intro G934 s934 z934 hm
              refine wpD_seq ?_
              refine wpD_seq ?_
              refine wpD_region ?_
              refine p_pure htab rfl rfl rfl rfl ?_
              refine p_pure htab rfl rfl rfl rfl ?_
              refine p_lenL htab rfl rfl rfl rfl rfl rfl rfl (by first | exact map_len | rfl) ?_
              refine p_pure htab rfl rfl rfl rfl ?_
              refine ops_nil ?_
              refine then_normal ?_
              refine wpD_cond rfl (fun hc987 => ?_) (fun hc987 => ?_)
              · replace hm := yes_t hc987 hm
                refine wpD_skip ?_
                refine then_normal ?_
                refine wpD_seq ?_
                refine wpD_block ?_
                refine wpD_seq ?_
                refine wpD_seq ?_
                refine bycB (!s934.2.1) (fun hs988 => ?_) (fun hs988 => ?_)
                · replace hm := yes_t hs988 hm
                  obtain ⟨x989, q989, hm⟩ := yes_bind hm
                  obtain ⟨x990, q990, hm⟩ := yes_bind hm
                  refine wpD_draws 12 [] [[],[],[],[],[],[3],[3,5],[3,5,6],[],[],[8],[8,10]] [3,5,6,8,10] nlTn1_1 (by kernel_rfl) (by kernel_rfl) (by kernel_rfl) (by rfl) (by rfl) (by kernel_rfl) ?_
                  apply Exists.intro
                  apply Exists.intro
                  apply Exists.intro
                  apply Exists.intro
                  apply Exists.intro
                  intro bs
                  refine z_q rfl rfl (ex_pure htab rfl) rfl rfl rfl rfl rfl rfl ?_
                  refine z_q rfl rfl (ex_pure htab rfl) rfl rfl rfl rfl rfl rfl ?_
                  refine z_q rfl rfl (ex_pure htab rfl) rfl rfl rfl rfl rfl rfl ?_
                  refine z_known (j := 31) (b' := true) rfl hs988 ?_
                  refine z_e rfl rfl (ex_pure htab rfl) rfl rfl rfl rfl rfl rfl ?_
                  refine z_q rfl rfl (ex_pure htab rfl) rfl rfl rfl rfl rfl rfl ?_
                  refine z_e rfl rfl (Ex.wk (x_elem htab rfl rfl rfl rfl rfl rfl rfl (idx_nonneg q989) (idx_map q989)) (Wk.of_eq (congrArg D.el (eTApiExpr_eq x989)))) rfl rfl rfl rfl rfl rfl ?_
                  refine z_e rfl rfl (ex_pure htab rfl) rfl rfl rfl rfl rfl rfl ?_
                  refine z_qM rfl rfl (xm_loadEl htab rfl rfl rfl rfl rfl) rfl rfl rfl rfl rfl rfl ?_
                  refine z_e rfl rfl (ex_pure htab rfl) rfl rfl rfl rfl rfl rfl ?_
                  refine z_q rfl rfl (ex_pure htab rfl) rfl rfl rfl rfl rfl rfl ?_
                  refine z_e rfl rfl (x_elem htab rfl rfl rfl rfl rfl rfl rfl (idx_nonneg q990) (idx_map q990)) rfl rfl rfl rfl rfl rfl ?_
                  refine z_qM rfl rfl (xm_loadEl htab rfl rfl rfl rfl rfl) rfl rfl rfl rfl rfl rfl ?_
                  refine z_nil rfl rfl (fun e he => by simp [isAl] at he) ?_
                  refine p_pure htab rfl rfl rfl rfl ?_
                  refine p_pickT rfl rfl rfl rfl rfl rfl ?_
                  refine ops_nil ?_
                  refine then_normal ?_
                  obtain ⟨y997, q997, ho997⟩ := yes_bind hm
                  refine wpD_mid (Y := Value) (fun z997 => (⟨[(3, .lst 1 (s514.1.map eI64) (.cur z514)), (4, .lst 5 (x2.map eTApiExpr) (.cur w1)), (5, .v (.int .i64 s514.2)), (6, .lst 1 (y997.1.map eI64) (.cur z997)), (7, .v (.bool y997.2)), (8, .v (.int .i64 s934.2.2))], [], [(1, z997), (1, z514), (5, w1)]⟩ : S)) ?_ ?_
                  · clear hm; have hm := yes_of q997
                    refine wpD_cond rfl (fun hc998 => ?_) (fun hc998 => ?_)
                    · replace hm := yes_t hc998 hm
                      refine wpD_seq ?_
                      refine wpD_seq ?_
                      obtain ⟨x999, q999, hm⟩ := yes_bind hm
                      obtain ⟨x1000, q1000, hm⟩ := yes_bind hm
                      refine wpD_draws 9 [] [[],[],[0],[0,2],[0,2,3],[],[],[5],[5,7]] [0,2,3,5,7] [[],[],[0,1],[0,1,2],[0,1,2,3],[],[],[5,6],[5,6,7],[0,1,2,3,4,5,6,7,8]] (by kernel_rfl) (by kernel_rfl) (by kernel_rfl) (by rfl) (by rfl) (by kernel_rfl) ?_
                      apply Exists.intro
                      apply Exists.intro
                      apply Exists.intro
                      apply Exists.intro
                      apply Exists.intro
                      intro bs
                      refine z_e rfl rfl (ex_pure htab rfl) rfl rfl rfl rfl rfl rfl ?_
                      refine z_q rfl rfl (ex_pure htab rfl) rfl rfl rfl rfl rfl rfl ?_
                      refine z_e rfl rfl (Ex.wk (x_elem htab rfl rfl rfl rfl rfl rfl rfl (idx_nonneg q999) (idx_map q999)) (Wk.of_eq (congrArg D.el (eTApiExpr_eq x999)))) rfl rfl rfl rfl rfl rfl ?_
                      refine z_e rfl rfl (ex_pure htab rfl) rfl rfl rfl rfl rfl rfl ?_
                      refine z_qM rfl rfl (xm_loadEl htab rfl rfl rfl rfl rfl) rfl rfl rfl rfl rfl rfl ?_
                      refine z_e rfl rfl (ex_pure htab rfl) rfl rfl rfl rfl rfl rfl ?_
                      refine z_q rfl rfl (ex_pure htab rfl) rfl rfl rfl rfl rfl rfl ?_
                      refine z_e rfl rfl (x_elem htab rfl rfl rfl rfl rfl rfl rfl (idx_nonneg q1000) (idx_map q1000)) rfl rfl rfl rfl rfl rfl ?_
                      refine z_qM rfl rfl (xm_loadEl htab rfl rfl rfl rfl rfl) rfl rfl rfl rfl rfl rfl ?_
                      refine z_nil rfl rfl (fun e he => by simp [isAl] at he) ?_
                      refine p_pure htab rfl rfl rfl rfl ?_
                      refine ops_nil ?_
                      refine then_normal ?_
                      obtain ⟨y1004, q1004, ho1004⟩ := yes_bind hm
                      refine wpD_mid (Y := Value) (fun z1004 => (⟨[(3, .lst 1 (s514.1.map eI64) (.cur z514)), (4, .lst 5 (x2.map eTApiExpr) (.cur w1)), (5, .v (.int .i64 s514.2)), (6, .lst 1 (y1004.map eI64) (.cur z1004)), (8, .v (.int .i64 s934.2.2))], [], [(1, z1004), (1, z514), (5, w1)]⟩ : S)) ?_ ?_
                      · clear hm; have hm := yes_of q1004
                        refine wpD_cond rfl (fun hc1005 => ?_) (fun hc1005 => ?_)
                        · replace hm := yes_t hc1005 hm
                          refine wpD_region ?_
                          refine p_pure htab rfl rfl rfl rfl ?_
                          refine p_pure htab rfl rfl rfl rfl ?_
                          refine p_pure htab rfl rfl rfl rfl ?_
                          obtain ⟨x1006, q1006, hm⟩ := yes_bind hm
                          refine p_elem htab rfl rfl rfl rfl rfl rfl rfl rfl rfl rfl (idx_nonneg q1006) (idx_map q1006) ?_
                          refine p_eq (i := 56) rfl (Wk.of_eq (congrArg D.el (eTApiExpr_eq x1006))) ?_
                          refine p_pure htab rfl rfl rfl rfl ?_
                          refine p_loadEl htab rfl rfl rfl rfl rfl rfl rfl rfl ?_
                          refine p_lit htab rfl rfl rfl rfl rfl rfl rfl rfl rfl rfl rfl rfl rfl rfl ?_
                          refine p_eq (i := 59) (d' := .lst 1 (([x1006.gN] : List Int).map eI64) .full) rfl (Wk.lst0 (.cons (WkC.refl _) (.nil))) ?_
                          obtain ⟨x1007, q1007, hm⟩ := yes_bind hm
                          refine p_appC 0 htab rfl rfl rfl rfl rfl rfl rfl rfl rfl rfl rfl rfl rfl rfl rfl rfl rfl (app_bound q1007) (fun v1007 => ?_)
                          refine p_mapD (i := 60) q1007 rfl ?_
                          refine p_pure htab rfl rfl rfl rfl ?_
                          refine ops_nil ?_
                          have e1004 := yes_eq hm; subst e1004
                          refine ⟨rfl, ?_⟩
                          exact WkX.of v1007 (WkS.perm (WkS.cons rfl (Wk.refl _) (WkS.cons rfl (Wk.refl _) (WkS.cons rfl (Wk.refl _) (WkS.cons rfl (Wk.refl _) (WkS.cons rfl (Wk.refl _) (WkS.nil)))))) (List.Perm.refl _) (List.Perm.refl _))
                        · replace hm := yes_f hc1005 hm
                          refine wpD_skip ?_
                          have e1004 := yes_eq hm; subst e1004
                          refine ⟨rfl, ?_⟩
                          exact WkX.of z934 (WkS.perm (WkS.cons rfl (Wk.refl _) (WkS.cons rfl (Wk.refl _) (WkS.cons rfl (Wk.refl _) (WkS.cons rfl (Wk.refl _) (WkS.cons rfl (Wk.refl _) (WkS.nil)))))) (List.Perm.refl _) (List.Perm.refl _))
                      · intro s1004 hw1004; clear hm; have hm := ho1004; clear q1004 ho1004
                        refine then_normal ?_
                        refine wpD_wkX hw1004 (fun z1004 => ?_)
                        refine wpD_region ?_
                        refine p_pure htab rfl rfl rfl rfl ?_
                        refine ops_nil ?_
                        have e997 := yes_eq hm; subst e997
                        refine ⟨rfl, ?_⟩
                        exact WkX.of z1004 (WkS.perm (WkS.cons rfl (Wk.refl _) (WkS.cons rfl (Wk.refl _) (WkS.cons rfl (Wk.refl _) (WkS.cons rfl (Wk.refl _) (WkS.cons rfl (Wk.refl _) (WkS.cons rfl (Wk.refl _) (WkS.nil))))))) (List.Perm.refl _) (List.Perm.refl _))
                    · replace hm := yes_f hc998 hm
                      refine wpD_skip ?_
                      have e997 := yes_eq hm; subst e997
                      refine ⟨rfl, ?_⟩
                      exact WkX.of z934 (WkS.perm (WkS.cons rfl (Wk.refl _) (WkS.cons rfl (Wk.refl _) (WkS.cons rfl (Wk.refl _) (WkS.cons rfl (Wk.refl _) (WkS.cons rfl (Wk.refl _) (WkS.cons rfl (Wk.refl _) (WkS.nil))))))) (List.Perm.refl _) (List.Perm.refl _))
                  · intro s997 hw997; clear hm; have hm := ho997; clear q997 ho997
                    refine then_normal ?_
                    refine wpD_wkX hw997 (fun z997 => ?_)
                    refine wpD_region ?_
                    refine p_pure htab rfl rfl rfl rfl ?_
                    refine p_pure htab rfl rfl rfl rfl ?_
                    refine p_pure htab rfl rfl rfl rfl ?_
                    obtain ⟨x1008, q1008, hm⟩ := yes_bind hm
                    refine p_elem htab rfl rfl rfl rfl rfl rfl rfl rfl rfl rfl (idx_nonneg q1008) (idx_map q1008) ?_
                    refine p_loadEl htab rfl rfl rfl rfl rfl rfl rfl rfl ?_
                    refine p_lit htab rfl rfl rfl rfl rfl rfl rfl rfl rfl rfl rfl rfl rfl rfl ?_
                    refine p_eq (i := 66) (d' := .lst 1 (([x1008] : List Int).map eI64) .full) rfl (Wk.lst0 (.cons (WkC.refl _) (.nil))) ?_
                    obtain ⟨x1009, q1009, hm⟩ := yes_bind hm
                    refine p_appC 0 htab rfl rfl rfl rfl rfl rfl rfl rfl rfl rfl rfl rfl rfl rfl rfl rfl rfl (app_bound q1009) (fun v1009 => ?_)
                    refine p_mapD (i := 67) q1009 rfl ?_
                    refine p_pure htab rfl rfl rfl rfl ?_
                    refine ops_nil ?_
                    refine block_normal ?_
                    refine then_normal ?_
                    refine wpD_region ?_
                    refine p_pure htab rfl rfl rfl rfl ?_
                    refine p_pure htab rfl rfl rfl rfl ?_
                    refine p_pure htab rfl rfl rfl rfl ?_
                    refine ops_nil ?_
                    refine then_normal ⟨_, lp_next hm, ?_⟩
                    exact WkX.of v1009 (WkS.perm (WkS.cons rfl (Wk.refl _) (WkS.cons rfl (Wk.refl _) (WkS.cons rfl (Wk.refl _) (WkS.cons rfl (Wk.refl _) (WkS.cons rfl (Wk.refl _) (WkS.cons rfl (Wk.refl _) (WkS.nil))))))) (List.Perm.refl _) (List.Perm.refl _))
                · replace hm := yes_f hs988 hm
                  refine wpD_draws 12 [] [[],[],[],[],[],[],[],[],[],[],[],[]] [] nlTn1_1 (by kernel_rfl) (by kernel_rfl) (by kernel_rfl) (by rfl) (by rfl) (by kernel_rfl) ?_
                  intro bs
                  refine z_q rfl rfl (ex_pure htab rfl) rfl rfl rfl rfl rfl rfl ?_
                  refine z_q rfl rfl (ex_pure htab rfl) rfl rfl rfl rfl rfl rfl ?_
                  refine z_q rfl rfl (ex_pure htab rfl) rfl rfl rfl rfl rfl rfl ?_
                  refine z_known (j := 31) (b' := false) rfl hs988 ?_
                  refine z_skip rfl rfl rfl rfl ?_
                  refine z_skip rfl rfl rfl rfl ?_
                  refine z_skip rfl rfl rfl rfl ?_
                  refine z_skip rfl rfl rfl rfl ?_
                  refine z_skip rfl rfl rfl rfl ?_
                  refine z_skip rfl rfl rfl rfl ?_
                  refine z_skip rfl rfl rfl rfl ?_
                  refine z_skip rfl rfl rfl rfl ?_
                  refine z_skip rfl rfl rfl rfl ?_
                  refine z_nil rfl rfl (fun e he => by simp [isAl] at he) ?_
                  refine p_skip rfl rfl rfl ?_
                  refine p_pickF rfl rfl rfl rfl rfl rfl ?_
                  refine ops_nil ?_
                  refine then_normal ?_
                  refine wpD_false rfl ?_
                  refine wpD_skip ?_
                  refine then_normal ?_
                  refine wpD_region ?_
                  refine p_pure htab rfl rfl rfl rfl ?_
                  refine p_pure htab rfl rfl rfl rfl ?_
                  refine p_pure htab rfl rfl rfl rfl ?_
                  obtain ⟨x1010, q1010, hm⟩ := yes_bind hm
                  refine p_elem htab rfl rfl rfl rfl rfl rfl rfl rfl rfl rfl (idx_nonneg q1010) (idx_map q1010) ?_
                  refine p_loadEl htab rfl rfl rfl rfl rfl rfl rfl rfl ?_
                  refine p_lit htab rfl rfl rfl rfl rfl rfl rfl rfl rfl rfl rfl rfl rfl rfl ?_
                  refine p_eq (i := 66) (d' := .lst 1 (([x1010] : List Int).map eI64) .full) rfl (Wk.lst0 (.cons (WkC.refl _) (.nil))) ?_
                  obtain ⟨x1011, q1011, hm⟩ := yes_bind hm
                  refine p_appC 0 htab rfl rfl rfl rfl rfl rfl rfl rfl rfl rfl rfl rfl rfl rfl rfl rfl rfl (app_bound q1011) (fun v1011 => ?_)
                  refine p_mapD (i := 67) q1011 rfl ?_
                  refine p_pure htab rfl rfl rfl rfl ?_
                  refine ops_nil ?_
                  refine block_normal ?_
                  refine then_normal ?_
                  refine wpD_region ?_
                  refine p_pure htab rfl rfl rfl rfl ?_
                  refine p_pure htab rfl rfl rfl rfl ?_
                  refine p_pure htab rfl rfl rfl rfl ?_
                  refine ops_nil ?_
                  refine then_normal ⟨_, lp_next hm, ?_⟩
                  exact WkX.of v1011 (WkS.perm (WkS.cons rfl (Wk.refl _) (WkS.cons rfl (Wk.refl _) (WkS.cons rfl (Wk.refl _) (WkS.cons rfl (Wk.refl _) (WkS.cons rfl (Wk.refl _) (WkS.cons rfl (Wk.refl _) (WkS.nil))))))) (List.Perm.refl _) (List.Perm.refl _))
              · replace hm := yes_f hc987 hm
                refine wpD_exit ?_
                refine then_exit ?_
                have e934 := lp_done hm; subst e934; clear hm; have hm := hq934
                refine then_exit ?_
                refine block_hit ?_
                have e933 := yes_eq hm; subst e933
                refine ⟨rfl, ?_⟩
                exact WkX.of z934 (WkS.perm (WkS.cons rfl (Wk.refl _) (WkS.cons rfl (Wk.refl _) (WkS.cons rfl (Wk.refl _) (WkS.cons rfl (Wk.refl _) (WkS.nil))))) (List.Perm.refl _) ((perm_at (j := 0) rfl).trans (List.Perm.cons _ ((perm_at (j := 1) rfl).trans (List.Perm.cons _ (List.Perm.refl _))))))
          · intro s933 hw933; clear hm; have hm := ho933; clear q933 ho933
            refine then_normal ?_
            refine wpD_wkX hw933 (fun z933 => ?_)
            refine wpD_seq ?_
            refine wpD_seq ?_
            refine wpD_region ?_
            refine p_pure htab rfl rfl rfl rfl ?_
            refine p_pure htab rfl rfl rfl rfl ?_
            refine ops_nil ?_
            refine then_normal ?_
            obtain ⟨y1015, q1015, ho1015⟩ := yes_bind hm
            refine wpD_mid (Y := Value) (fun z1015 => (⟨[(4, .lst 5 (x2.map eTApiExpr) (.cur w1)), (5, .v (.int .i64 s514.2)), (6, .lst 1 (y1015.map eI64) (.cur z1015))], [], [(1, z1015), (5, w1)]⟩ : S)) ?_ ?_
            · clear hm; have hm := yes_of q1015
              refine wpD_cond rfl (fun hc1016 => ?_) (fun hc1016 => ?_)
              · replace hm := yes_t hc1016 hm
                refine wpD_region ?_
                refine p_pure htab rfl rfl rfl rfl ?_
                refine p_pure htab rfl rfl rfl rfl ?_
                refine p_pure htab rfl rfl rfl rfl ?_
                obtain ⟨x1017, q1017, hm⟩ := yes_bind hm
                refine p_elem htab rfl rfl rfl rfl rfl rfl rfl rfl rfl rfl (idx_nonneg q1017) (idx_map q1017) ?_
                refine p_eq (i := 73) rfl (Wk.of_eq (congrArg D.el (eTApiExpr_eq x1017))) ?_
                refine p_pure htab rfl rfl rfl rfl ?_
                refine p_loadEl htab rfl rfl rfl rfl rfl rfl rfl rfl ?_
                refine p_lit htab rfl rfl rfl rfl rfl rfl rfl rfl rfl rfl rfl rfl rfl rfl ?_
                refine p_eq (i := 76) (d' := .lst 1 (([x1017.gN] : List Int).map eI64) .full) rfl (Wk.lst0 (.cons (WkC.refl _) (.nil))) ?_
                obtain ⟨x1018, q1018, hm⟩ := yes_bind hm
                refine p_appC 0 htab rfl rfl rfl rfl rfl rfl rfl rfl rfl rfl rfl rfl rfl rfl rfl rfl rfl (app_bound q1018) (fun v1018 => ?_)
                refine p_mapD (i := 77) q1018 rfl ?_
                refine p_pure htab rfl rfl rfl rfl ?_
                refine ops_nil ?_
                have e1015 := yes_eq hm; subst e1015
                refine ⟨rfl, ?_⟩
                exact WkX.of v1018 (WkS.perm (WkS.cons rfl (Wk.refl _) (WkS.cons rfl (Wk.refl _) (WkS.cons rfl (Wk.refl _) (WkS.nil)))) (List.Perm.refl _) (List.Perm.refl _))
              · replace hm := yes_f hc1016 hm
                refine wpD_skip ?_
                have e1015 := yes_eq hm; subst e1015
                refine ⟨rfl, ?_⟩
                exact WkX.of z933 (WkS.perm (WkS.cons rfl (Wk.refl _) (WkS.cons rfl (Wk.refl _) (WkS.cons rfl (Wk.refl _) (WkS.nil)))) (List.Perm.refl _) (List.Perm.refl _))
            · intro s1015 hw1015; clear hm; have hm := ho1015; clear q1015 ho1015
              refine then_normal ?_
              refine wpD_wkX hw1015 (fun z1015 => ?_)
              refine wpD_region ?_
              refine p_pure htab rfl rfl rfl rfl ?_
              refine p_pure htab rfl rfl rfl rfl ?_
              refine ops_nil ?_
              refine block_normal ?_
              refine then_normal ?_
              refine wpD_region ?_
              refine p_pure htab rfl rfl rfl rfl ?_
              refine p_pure htab rfl rfl rfl rfl ?_
              refine p_pure htab rfl rfl rfl rfl ?_
              refine ops_nil ?_
              refine then_normal ⟨_, lp_next hm, ?_⟩
              exact WkX.of z1015 (WkS.perm (WkS.cons rfl (Wk.refl _) (WkS.cons rfl (Wk.refl _) (WkS.cons rfl (Wk.refl _) (WkS.nil)))) (List.Perm.refl _) (List.Perm.refl _))
      · replace hm := yes_f hc852 hm
        refine wpD_exit ?_
        refine then_exit ?_
        have e514 := lp_done hm; subst e514; clear hm; have hm := hq514
        refine then_exit ?_
        refine block_hit ?_
        have e513 := yes_eq hm; subst e513
        refine ⟨rfl, ?_⟩
        exact WkX.of z514 (WkS.perm (WkS.cons rfl (Wk.refl _) (WkS.nil)) (List.Perm.refl _) (List.Perm.refl _))
  · intro s513 hw513; clear hm; have hm := ho513; clear q513 ho513
    refine then_normal ?_
    refine wpD_wkX hw513 (fun z513 => ?_)
    refine wpD_seq ?_
    refine wpD_region ?_
    refine p_pure htab rfl rfl rfl rfl ?_
    refine p_pure htab rfl rfl rfl rfl ?_
    refine ops_nil ?_
    refine then_normal ?_
    refine wpD_ret ?_
    have er1019 := yes_eq hm; subst er1019
    refine retX.of (s' := ⟨[(2, .lst 1 (y513.map eI64) (.cur z513))], [], [(1, z513)]⟩) (WkS.perm (WkS.cons rfl (Wk.refl _) (WkS.nil)) (List.Perm.refl _) (List.Perm.refl _)) (retD_mk (hh := []) (.inl rfl) (resL_cons (resOne_tmp rfl) (resL_nil)) (List.nil_sublist _) (List.Sublist.refl _) ?_)
    exact ⟨z513, rfl, rfl, rfl⟩
theorem r11_Nums_ok0 (a0 : List TApiStmt) (r : List Int) (h0 : r11_Nums a0 = some r) : CallsD Try.prog 13 [.lst 7 (a0.map eTApiStmt) .no] [] [] (fun d h k => d = .lst 1 (r.map eI64) .no ∧ h = [] ∧ k = []) :=
  (r11_Nums_ok a0 r h0).drop fun d h k ⟨y0, e, _, _⟩ => by subst e; exact Wk.no
noncomputable def r11_Ints (a0 : List Int) (a1 : List Int) : Option (Bool) :=
  (bif ((a0.length : Int) != (a1.length : Int)) then some false else (Option.bind (α := (Unit) ⊕ (Bool)) (loopM (fun (s21 : Int) => (bif (decide (s21 < (a0.length : Int))) then ((idx a0 s21).bind fun x33 => ((idx a1 s21).bind fun x34 => (bif (x33 != x34) then some (.done (.inr false)) else some (.next (IntKind.i64.wrap (s21 + (1 : Int))))))) else some (.done (.inl ())))) (0 : Int)) (Sum.elim (fun y20 => some true) (fun r => some r))))
set_option maxRecDepth 100000 in
set_option maxHeartbeats 2000000 in
theorem r11_Ints_ok (a0 : List Int) (a1 : List Int) (r : Bool) (h0 : r11_Ints a0 a1 = some r) : CallsD Try.prog 11 [.lst 1 (a0.map eI64) .no, .lst 1 (a1.map eI64) .no] [] [] (fun d h k => d = .v (.bool r) ∧ h = [] ∧ k = []) := by
  have hm := yes_of h0
  unfold r11_Ints at hm
  clear h0
  refine enterX htab Try.func11 rfl rfl rfl rfl rfl (fun C => ?_)
  refine wpD_seq ?_
  refine wpD_region ?_
  refine p_pure htab rfl rfl rfl rfl ?_
  refine ops_nil ?_
  refine then_normal ?_
  refine wpD_seq ?_
  refine wpD_seq ?_
  refine wpD_region ?_
  refine p_pure htab rfl rfl rfl rfl ?_
  refine p_lenL htab rfl rfl rfl rfl rfl rfl rfl (by first | exact map_len | rfl) ?_
  refine p_pure htab rfl rfl rfl rfl ?_
  refine p_lenL htab rfl rfl rfl rfl rfl rfl rfl (by first | exact map_len | rfl) ?_
  refine p_pure htab rfl rfl rfl rfl ?_
  refine ops_nil ?_
  refine then_normal ?_
  refine wpD_cond rfl (fun hc2 => ?_) (fun hc2 => ?_)
  · replace hm := yes_t hc2 hm
    refine wpD_seq ?_
    refine wpD_region ?_
    refine p_pure htab rfl rfl rfl rfl ?_
    refine ops_nil ?_
    refine then_normal ?_
    refine wpD_ret ?_
    refine then_ret ?_
    have er3 := yes_eq hm; subst er3
    refine retX.of (s' := ⟨[(4, .v (.bool false))], [], []⟩) (WkS.perm (WkS.cons rfl (Wk.refl _) (WkS.nil)) (List.Perm.refl _) (List.Perm.refl _)) (retD_mk (hh := []) (.inl rfl) (resL_cons (resOne_tmp rfl) (resL_nil)) (List.nil_sublist _) (List.Sublist.refl _) ?_)
    exact ⟨rfl, rfl, rfl⟩
  · replace hm := yes_f hc2 hm
    refine wpD_skip ?_
    refine then_normal ?_
    refine wpD_seq ?_
    refine wpD_seq ?_
    refine wpD_region ?_
    refine p_pure htab rfl rfl rfl rfl ?_
    refine ops_nil ?_
    refine then_normal ?_
    obtain ⟨x20, q20, ho20⟩ := yes_bind hm
    refine wpD_midX (τ := Unit) (Y := Unit) (fun y20 z20 => (⟨[], [], []⟩ : S)) x20 ?_ ?_
    · clear hm; have hm := yes_of q20
      refine wpD_block ?_
      obtain ⟨u21, hl21, hq21⟩ := yes_m hm
      refine loop_M (Y := Unit) hl21 (fun s21 z21 => (⟨[(0, .lst 1 (a0.map eI64) .no), (1, .lst 1 (a1.map eI64) .no), (5, .v (.int .i64 s21))], [], []⟩ : S)) ?_ ?_
      · skip
        exact WkX.of () (WkS.perm (WkS.cons rfl (Wk.refl _) (WkS.cons rfl (Wk.refl _) (WkS.cons rfl (Wk.refl _) (WkS.nil)))) (List.Perm.refl _) (List.Perm.refl _))
      · intro G21 s21 z21 hm
        refine wpD_seq ?_
        refine wpD_seq ?_
        refine wpD_region ?_
        refine p_pure htab rfl rfl rfl rfl ?_
        refine p_pure htab rfl rfl rfl rfl ?_
        refine p_lenL htab rfl rfl rfl rfl rfl rfl rfl (by first | exact map_len | rfl) ?_
        refine p_pure htab rfl rfl rfl rfl ?_
        refine ops_nil ?_
        refine then_normal ?_
        refine wpD_cond rfl (fun hc32 => ?_) (fun hc32 => ?_)
        · replace hm := yes_t hc32 hm
          refine wpD_skip ?_
          refine then_normal ?_
          refine wpD_seq ?_
          refine wpD_block ?_
          refine wpD_seq ?_
          obtain ⟨x33, q33, hm⟩ := yes_bind hm
          obtain ⟨x34, q34, hm⟩ := yes_bind hm
          refine wpD_draws 8 [] [[],[],[0],[0,2],[],[],[4],[4,6]] [0,2,4,6] [[],[],[0,1],[0,1,2],[],[],[4,5],[4,5,6],[0,1,2,3,4,5,6,7]] (by kernel_rfl) (by kernel_rfl) (by kernel_rfl) (by rfl) (by rfl) (by kernel_rfl) ?_
          apply Exists.intro
          apply Exists.intro
          apply Exists.intro
          apply Exists.intro
          intro bs
          refine z_e rfl rfl (ex_pure htab rfl) rfl rfl rfl rfl rfl rfl ?_
          refine z_q rfl rfl (ex_pure htab rfl) rfl rfl rfl rfl rfl rfl ?_
          refine z_e rfl rfl (x_elem htab rfl rfl rfl rfl rfl rfl rfl (idx_nonneg q33) (idx_map q33)) rfl rfl rfl rfl rfl rfl ?_
          refine z_qM rfl rfl (xm_loadEl htab rfl rfl rfl rfl rfl) rfl rfl rfl rfl rfl rfl ?_
          refine z_e rfl rfl (ex_pure htab rfl) rfl rfl rfl rfl rfl rfl ?_
          refine z_q rfl rfl (ex_pure htab rfl) rfl rfl rfl rfl rfl rfl ?_
          refine z_e rfl rfl (x_elem htab rfl rfl rfl rfl rfl rfl rfl (idx_nonneg q34) (idx_map q34)) rfl rfl rfl rfl rfl rfl ?_
          refine z_qM rfl rfl (xm_loadEl htab rfl rfl rfl rfl rfl) rfl rfl rfl rfl rfl rfl ?_
          refine z_nil rfl rfl (fun e he => by simp [isAl] at he) ?_
          refine p_pure htab rfl rfl rfl rfl ?_
          refine ops_nil ?_
          refine then_normal ?_
          refine wpD_cond rfl (fun hc35 => ?_) (fun hc35 => ?_)
          · replace hm := yes_t hc35 hm
            refine wpD_seq ?_
            refine wpD_region ?_
            refine p_pure htab rfl rfl rfl rfl ?_
            refine ops_nil ?_
            refine then_normal ?_
            refine wpD_ret ?_
            refine block_ret ?_
            refine then_ret ?_
            have e21 := lp_done hm; subst e21; clear hm; have hm := hq21
            refine then_ret ?_
            refine block_ret ?_
            have e20 := yes_eq hm; subst e20; refine midX_inr ?_; clear hm; have hm := ho20; simp only [Sum.elim_inr] at hm
            refine then_ret ?_
            have er36 := yes_eq hm; subst er36
            refine retX.of (s' := ⟨[(4, .v (.bool false))], [], []⟩) (WkS.perm (WkS.cons rfl (Wk.refl _) (WkS.nil)) (List.Perm.refl _) (List.Perm.refl _)) (retD_mk (hh := []) (.inl rfl) (resL_cons (resOne_tmp rfl) (resL_nil)) (List.nil_sublist _) (List.Sublist.refl _) ?_)
            exact ⟨rfl, rfl, rfl⟩
          · replace hm := yes_f hc35 hm
            refine wpD_skip ?_
            refine block_normal ?_
            refine then_normal ?_
            refine wpD_region ?_
            refine p_pure htab rfl rfl rfl rfl ?_
            refine p_pure htab rfl rfl rfl rfl ?_
            refine p_pure htab rfl rfl rfl rfl ?_
            refine ops_nil ?_
            refine then_normal ⟨_, lp_next hm, ?_⟩
            exact WkX.of () (WkS.perm (WkS.cons rfl (Wk.refl _) (WkS.cons rfl (Wk.refl _) (WkS.cons rfl (Wk.refl _) (WkS.nil)))) (List.Perm.refl _) (List.Perm.refl _))
        · replace hm := yes_f hc32 hm
          refine wpD_exit ?_
          refine then_exit ?_
          have e21 := lp_done hm; subst e21; clear hm; have hm := hq21
          refine then_exit ?_
          refine block_hit ?_
          have e20 := yes_eq hm; subst e20
          refine midX_inl ?_
          exact WkX.of () (WkS.perm (WkS.nil) (List.Perm.refl _) (List.Perm.refl _))
    · intro y20 s20 hx20 hw20; subst hx20; clear hm; have hm := ho20; simp only [Sum.elim_inl] at hm; clear q20 ho20
      refine then_normal ?_
      refine wpD_wkX hw20 (fun z20 => ?_)
      refine wpD_seq ?_
      refine wpD_region ?_
      refine p_pure htab rfl rfl rfl rfl ?_
      refine ops_nil ?_
      refine then_normal ?_
      refine wpD_ret ?_
      have er37 := yes_eq hm; subst er37
      refine retX.of (s' := ⟨[(4, .v (.bool true))], [], []⟩) (WkS.perm (WkS.cons rfl (Wk.refl _) (WkS.nil)) (List.Perm.refl _) (List.Perm.refl _)) (retD_mk (hh := []) (.inl rfl) (resL_cons (resOne_tmp rfl) (resL_nil)) (List.nil_sublist _) (List.Sublist.refl _) ?_)
      exact ⟨rfl, rfl, rfl⟩
noncomputable def tree_Size_b (g0 : (TApiExpr) → Option (Int)) (a0 : TApiExpr) : Option (Int) :=
  (Option.bind (α := Int) (loopM (fun (s19 : Int × Int) => (bif (decide (s19.2 < (a0.gKids.length : Int))) then ((idx a0.gKids s19.2).bind fun x31 => ((g0 x31).bind fun x33 => some (.next ((IntKind.i64.wrap (s19.1 + x33)), (IntKind.i64.wrap (s19.2 + (1 : Int))))))) else some (.done s19.1))) ((1 : Int), (0 : Int))) fun y18 => some y18)
set_option maxRecDepth 100000 in
set_option maxHeartbeats 2000000 in
theorem tree_Size_b_ok (g0 : (TApiExpr) → Option (Int)) (hg0 : ∀ (a0 : TApiExpr) (r : Int) (h0 : g0 a0 = some r), CallsD Try.prog 15 [eTApiExpr a0] [] [] (fun d h k => d = .v (.int .i64 r) ∧ h = [] ∧ k = [])) (a0 : TApiExpr) (r : Int) (h0 : tree_Size_b g0 a0 = some r) : CallsD Try.prog 15 [eTApiExpr a0] [] [] (fun d h k => d = .v (.int .i64 r) ∧ h = [] ∧ k = []) := by
  have hm := yes_of h0
  unfold tree_Size_b at hm
  clear h0
  refine enterX htab Try.func15 rfl rfl rfl rfl rfl (fun C => ?_)
  refine w_eq (i := 0) rfl (Wk.of_eq (eTApiExpr_eq a0)) ?_
  refine wpD_seq ?_
  refine wpD_region ?_
  refine p_box rfl rfl rfl rfl rfl rfl rfl (fun b1 => ?_)
  refine p_pure htab rfl rfl rfl rfl ?_
  refine ops_nil ?_
  refine then_normal ?_
  refine wpD_seq ?_
  refine wpD_region ?_
  refine p_pure htab rfl rfl rfl rfl ?_
  refine ops_nil ?_
  refine then_normal ?_
  refine wpD_seq ?_
  refine wpD_seq ?_
  refine wpD_region ?_
  refine p_pure htab rfl rfl rfl rfl ?_
  refine p_load 0 htab rfl rfl rfl rfl rfl rfl rfl rfl ?_
  refine p_lenL htab rfl rfl rfl rfl rfl rfl rfl (by first | exact map_len | rfl) ?_
  refine p_pure htab rfl rfl rfl rfl ?_
  refine ops_nil ?_
  refine then_normal ?_
  obtain ⟨y18, q18, ho18⟩ := yes_bind hm
  refine wpD_mid (Y := Unit) (fun z18 => (⟨[(3, .v (.int .i64 y18))], [(b1, Blk.cells [.v (.int .i64 a0.gOp), .v (.int .i64 a0.gN), .v (.string a0.gName), .lst 5 (a0.gKids.map eTApiExpr) .no, .v (.int .i64 a0.gAt)] 34)], []⟩ : S)) ?_ ?_
  · clear hm; have hm := yes_of q18
    refine wpD_block ?_
    obtain ⟨u19, hl19, hq19⟩ := yes_m hm
    refine loop_M (Y := Unit) hl19 (fun s19 z19 => (⟨[(3, .v (.int .i64 s19.1)), (7, .lst 5 (a0.gKids.map eTApiExpr) .no), (8, .v (.int .i64 (a0.gKids.length : Int))), (9, .v (.int .i64 s19.2))], [(b1, Blk.cells [.v (.int .i64 a0.gOp), .v (.int .i64 a0.gN), .v (.string a0.gName), .lst 5 (a0.gKids.map eTApiExpr) .no, .v (.int .i64 a0.gAt)] 34)], []⟩ : S)) ?_ ?_
    · skip
      exact WkX.of () (WkS.perm (WkS.cons rfl (Wk.refl _) (WkS.cons rfl (Wk.refl _) (WkS.cons rfl (Wk.refl _) (WkS.cons rfl (Wk.refl _) (WkS.nil))))) (List.Perm.refl _) (List.Perm.refl _))
    · intro G19 s19 z19 hm
      refine wpD_seq ?_
      refine wpD_region ?_
      refine p_pure htab rfl rfl rfl rfl ?_
      refine ops_nil ?_
      refine then_normal ?_
      refine wpD_seq ?_
      refine wpD_cond rfl (fun hc30 => ?_) (fun hc30 => ?_)
      · replace hm := yes_t hc30 hm
        refine wpD_skip ?_
        refine then_normal ?_
        refine wpD_seq ?_
        refine wpD_block ?_
        refine wpD_seq ?_
        refine wpD_region ?_
        obtain ⟨x31, q31, hm⟩ := yes_bind hm
        refine p_elem htab rfl rfl rfl rfl rfl rfl rfl rfl rfl rfl (idx_nonneg q31) (idx_map q31) ?_
        refine p_eq (i := 11) rfl (Wk.of_eq (congrArg D.el (eTApiExpr_eq x31))) ?_
        refine p_loadEl (d := .agg [.v (.int .i64 x31.gOp), .v (.int .i64 x31.gN), .v (.string x31.gName), .lst 5 (x31.gKids.map eTApiExpr) .no, .v (.int .i64 x31.gAt)]) htab rfl rfl rfl rfl rfl rfl rfl rfl ?_
        refine p_alloc htab rfl rfl rfl rfl rfl rfl rfl (fun b32 => ?_)
        refine p_store (ds' := [.v (.int .i64 x31.gOp), .v (.int .i64 x31.gN), .v (.string x31.gName), .lst 5 (x31.gKids.map eTApiExpr) .no, .v (.int .i64 x31.gAt)]) (h' := [(b1, Blk.cells [.v (.int .i64 a0.gOp), .v (.int .i64 a0.gN), .v (.string a0.gName), .lst 5 (a0.gKids.map eTApiExpr) .no, .v (.int .i64 a0.gAt)] 34), (b32, Blk.cells [.v (.int .i64 x31.gOp), .v (.int .i64 x31.gN), .v (.string x31.gName), .lst 5 (x31.gKids.map eTApiExpr) .no, .v (.int .i64 x31.gAt)] 34)]) 1 htab rfl rfl rfl rfl rfl rfl rfl rfl rfl rfl rfl rfl ?_
        refine ops_nil ?_
        refine then_normal ?_
        refine wpD_region ?_
        refine p_pure htab rfl rfl rfl rfl ?_
        refine p_load (d := .agg [.v (.int .i64 x31.gOp), .v (.int .i64 x31.gN), .v (.string x31.gName), .lst 5 (x31.gKids.map eTApiExpr) .no, .v (.int .i64 x31.gAt)]) 1 htab rfl rfl rfl rfl rfl rfl rfl rfl ?_
        obtain ⟨x33, q33, hm⟩ := yes_bind hm
        refine p_call0 (hg0 x31 x33 q33) rfl rfl rfl rfl rfl (WkL.cons (Wk.trans (Wk.agg (WkR.refl _)) (Wk.of_eq (eTApiExpr_eq x31).symm)) (WkL.refl _)) ?_
        rintro _ rfl
        refine p_pure htab rfl rfl rfl rfl ?_
        refine p_pure htab rfl rfl rfl rfl ?_
        refine ops_nil ?_
        refine block_normal ?_
        refine then_normal ?_
        refine wpD_region ?_
        refine p_pure htab rfl rfl rfl rfl ?_
        refine p_pure htab rfl rfl rfl rfl ?_
        refine ops_nil ?_
        refine then_normal ⟨_, lp_next hm, ?_⟩
        exact WkX.of () (WkS.perm (WkS.cons rfl (Wk.refl _) (WkS.cons rfl (Wk.refl _) (WkS.cons rfl (Wk.refl _) (WkS.cons rfl (Wk.refl _) (WkS.nil))))) (List.Perm.refl _) (List.Perm.refl _))
      · replace hm := yes_f hc30 hm
        refine wpD_exit ?_
        refine then_exit ?_
        have e19 := lp_done hm; subst e19; clear hm; have hm := hq19
        refine then_exit ?_
        refine block_hit ?_
        have e18 := yes_eq hm; subst e18
        refine ⟨rfl, ?_⟩
        exact WkX.of () (WkS.perm (WkS.cons rfl (Wk.refl _) (WkS.nil)) (List.Perm.refl _) (List.Perm.refl _))
  · intro s18 hw18; clear hm; have hm := ho18; clear q18 ho18
    refine then_normal ?_
    refine wpD_wkX hw18 (fun z18 => ?_)
    refine wpD_seq ?_
    refine wpD_region ?_
    refine p_pure htab rfl rfl rfl rfl ?_
    refine p_pure htab rfl rfl rfl rfl ?_
    refine ops_nil ?_
    refine then_normal ?_
    refine wpD_ret ?_
    have er34 := yes_eq hm; subst er34
    refine retX.of (s' := ⟨[(2, .v (.int .i64 y18))], [], []⟩) (WkS.perm (WkS.cons rfl (Wk.refl _) (WkS.nil)) (List.Perm.refl _) (List.Perm.refl _)) (retD_mk (hh := []) (.inl rfl) (resL_cons (resOne_tmp rfl) (resL_nil)) (List.nil_sublist _) (List.Sublist.refl _) ?_)
    exact ⟨rfl, rfl, rfl⟩
noncomputable def tree_Size_g : Nat → ((TApiExpr) → Option (Int))
  | 0 => (fun _ => none)
  | n + 1 => (tree_Size_b ((tree_Size_g n)))
theorem tree_Size_g_ok : ∀ n, (∀ (a0 : TApiExpr) (r : Int) (h0 : (tree_Size_g n) a0 = some r), CallsD Try.prog 15 [eTApiExpr a0] [] [] (fun d h k => d = .v (.int .i64 r) ∧ h = [] ∧ k = []))
  | 0 => fun _ _ h0 => by cases h0
  | n + 1 => by
    have ih := tree_Size_g_ok n
    exact tree_Size_b_ok (tree_Size_g n) ih
theorem tree_Size_g_le : ∀ n, (∀ (a0 : TApiExpr), Le ((tree_Size_g n) a0) ((tree_Size_g (n + 1)) a0))
  | 0 => fun _ => Le.none _
  | n + 1 => by
    have ih := tree_Size_g_le n
    exact fun a0 => by show Le (tree_Size_b ((tree_Size_g n)) a0) (tree_Size_b ((tree_Size_g (n + 1))) a0); unfold tree_Size_b; repeat (first | exact Le.refl _ | exact ih _ | assumption | (refine Le.bind ?_ (fun _ => ?_)) | (refine Le.cond ?_ ?_) | (refine Le.loop (fun _ => ?_)) | (refine Le.elim (fun _ => ?_) (fun _ => ?_)))
noncomputable def tree_Size (a0 : TApiExpr) : Option (Int) := anyN fun n => (tree_Size_g n) a0
theorem tree_Size_of (a0 : TApiExpr) {r : Int} (n : Nat) (h : (tree_Size_g n) a0 = some r) : tree_Size a0 = some r := anyN_of (fun m => (tree_Size_g_le m) a0) h
theorem tree_Size_ok (a0 : TApiExpr) (r : Int) (h0 : tree_Size a0 = some r) : CallsD Try.prog 15 [eTApiExpr a0] [] [] (fun d h k => d = .v (.int .i64 r) ∧ h = [] ∧ k = []) :=
  let ⟨n, hn⟩ := anyN_inv h0; (tree_Size_g_ok n) a0  r hn
noncomputable def tree_Deep_b (g0 : (TApiExpr) → Option (Int)) (a0 : TApiExpr) : Option (Int) :=
  (Option.bind (α := Int) (loopM (fun (s19 : Int × Int) => (bif (decide (s19.2 < (a0.gKids.length : Int))) then ((idx a0.gKids s19.2).bind fun x31 => ((g0 x31).bind fun x33 => some (.next ((max s19.1 x33), (IntKind.i64.wrap (s19.2 + (1 : Int))))))) else some (.done s19.1))) ((0 : Int), (0 : Int))) fun y18 => some (IntKind.i64.wrap (y18 + (1 : Int))))
set_option maxRecDepth 100000 in
set_option maxHeartbeats 2000000 in
theorem tree_Deep_b_ok (g0 : (TApiExpr) → Option (Int)) (hg0 : ∀ (a0 : TApiExpr) (r : Int) (h0 : g0 a0 = some r), CallsD Try.prog 17 [eTApiExpr a0] [] [] (fun d h k => d = .v (.int .i64 r) ∧ h = [] ∧ k = [])) (a0 : TApiExpr) (r : Int) (h0 : tree_Deep_b g0 a0 = some r) : CallsD Try.prog 17 [eTApiExpr a0] [] [] (fun d h k => d = .v (.int .i64 r) ∧ h = [] ∧ k = []) := by
  have hm := yes_of h0
  unfold tree_Deep_b at hm
  clear h0
  refine enterX htab Try.func17 rfl rfl rfl rfl rfl (fun C => ?_)
  refine w_eq (i := 0) rfl (Wk.of_eq (eTApiExpr_eq a0)) ?_
  refine wpD_seq ?_
  refine wpD_region ?_
  refine p_box rfl rfl rfl rfl rfl rfl rfl (fun b1 => ?_)
  refine p_pure htab rfl rfl rfl rfl ?_
  refine ops_nil ?_
  refine then_normal ?_
  refine wpD_seq ?_
  refine wpD_region ?_
  refine p_pure htab rfl rfl rfl rfl ?_
  refine ops_nil ?_
  refine then_normal ?_
  refine wpD_seq ?_
  refine wpD_seq ?_
  refine wpD_region ?_
  refine p_pure htab rfl rfl rfl rfl ?_
  refine p_load 0 htab rfl rfl rfl rfl rfl rfl rfl rfl ?_
  refine p_lenL htab rfl rfl rfl rfl rfl rfl rfl (by first | exact map_len | rfl) ?_
  refine p_pure htab rfl rfl rfl rfl ?_
  refine ops_nil ?_
  refine then_normal ?_
  obtain ⟨y18, q18, ho18⟩ := yes_bind hm
  refine wpD_mid (Y := Unit) (fun z18 => (⟨[(3, .v (.int .i64 y18))], [(b1, Blk.cells [.v (.int .i64 a0.gOp), .v (.int .i64 a0.gN), .v (.string a0.gName), .lst 5 (a0.gKids.map eTApiExpr) .no, .v (.int .i64 a0.gAt)] 34)], []⟩ : S)) ?_ ?_
  · clear hm; have hm := yes_of q18
    refine wpD_block ?_
    obtain ⟨u19, hl19, hq19⟩ := yes_m hm
    refine loop_M (Y := Unit) hl19 (fun s19 z19 => (⟨[(3, .v (.int .i64 s19.1)), (7, .lst 5 (a0.gKids.map eTApiExpr) .no), (8, .v (.int .i64 (a0.gKids.length : Int))), (9, .v (.int .i64 s19.2))], [(b1, Blk.cells [.v (.int .i64 a0.gOp), .v (.int .i64 a0.gN), .v (.string a0.gName), .lst 5 (a0.gKids.map eTApiExpr) .no, .v (.int .i64 a0.gAt)] 34)], []⟩ : S)) ?_ ?_
    · skip
      exact WkX.of () (WkS.perm (WkS.cons rfl (Wk.refl _) (WkS.cons rfl (Wk.refl _) (WkS.cons rfl (Wk.refl _) (WkS.cons rfl (Wk.refl _) (WkS.nil))))) (List.Perm.refl _) (List.Perm.refl _))
    · intro G19 s19 z19 hm
      refine wpD_seq ?_
      refine wpD_region ?_
      refine p_pure htab rfl rfl rfl rfl ?_
      refine ops_nil ?_
      refine then_normal ?_
      refine wpD_seq ?_
      refine wpD_cond rfl (fun hc30 => ?_) (fun hc30 => ?_)
      · replace hm := yes_t hc30 hm
        refine wpD_skip ?_
        refine then_normal ?_
        refine wpD_seq ?_
        refine wpD_block ?_
        refine wpD_seq ?_
        refine wpD_region ?_
        obtain ⟨x31, q31, hm⟩ := yes_bind hm
        refine p_elem htab rfl rfl rfl rfl rfl rfl rfl rfl rfl rfl (idx_nonneg q31) (idx_map q31) ?_
        refine p_eq (i := 11) rfl (Wk.of_eq (congrArg D.el (eTApiExpr_eq x31))) ?_
        refine p_loadEl (d := .agg [.v (.int .i64 x31.gOp), .v (.int .i64 x31.gN), .v (.string x31.gName), .lst 5 (x31.gKids.map eTApiExpr) .no, .v (.int .i64 x31.gAt)]) htab rfl rfl rfl rfl rfl rfl rfl rfl ?_
        refine p_alloc htab rfl rfl rfl rfl rfl rfl rfl (fun b32 => ?_)
        refine p_store (ds' := [.v (.int .i64 x31.gOp), .v (.int .i64 x31.gN), .v (.string x31.gName), .lst 5 (x31.gKids.map eTApiExpr) .no, .v (.int .i64 x31.gAt)]) (h' := [(b1, Blk.cells [.v (.int .i64 a0.gOp), .v (.int .i64 a0.gN), .v (.string a0.gName), .lst 5 (a0.gKids.map eTApiExpr) .no, .v (.int .i64 a0.gAt)] 34), (b32, Blk.cells [.v (.int .i64 x31.gOp), .v (.int .i64 x31.gN), .v (.string x31.gName), .lst 5 (x31.gKids.map eTApiExpr) .no, .v (.int .i64 x31.gAt)] 34)]) 1 htab rfl rfl rfl rfl rfl rfl rfl rfl rfl rfl rfl rfl ?_
        refine ops_nil ?_
        refine then_normal ?_
        refine wpD_region ?_
        refine p_pure htab rfl rfl rfl rfl ?_
        refine p_load (d := .agg [.v (.int .i64 x31.gOp), .v (.int .i64 x31.gN), .v (.string x31.gName), .lst 5 (x31.gKids.map eTApiExpr) .no, .v (.int .i64 x31.gAt)]) 1 htab rfl rfl rfl rfl rfl rfl rfl rfl ?_
        obtain ⟨x33, q33, hm⟩ := yes_bind hm
        refine p_call0 (hg0 x31 x33 q33) rfl rfl rfl rfl rfl (WkL.cons (Wk.trans (Wk.agg (WkR.refl _)) (Wk.of_eq (eTApiExpr_eq x31).symm)) (WkL.refl _)) ?_
        rintro _ rfl
        refine p_max rfl rfl rfl rfl rfl rfl ?_
        refine p_pure htab rfl rfl rfl rfl ?_
        refine ops_nil ?_
        refine block_normal ?_
        refine then_normal ?_
        refine wpD_region ?_
        refine p_pure htab rfl rfl rfl rfl ?_
        refine p_pure htab rfl rfl rfl rfl ?_
        refine ops_nil ?_
        refine then_normal ⟨_, lp_next hm, ?_⟩
        exact WkX.of () (WkS.perm (WkS.cons rfl (Wk.refl _) (WkS.cons rfl (Wk.refl _) (WkS.cons rfl (Wk.refl _) (WkS.cons rfl (Wk.refl _) (WkS.nil))))) (List.Perm.refl _) (List.Perm.refl _))
      · replace hm := yes_f hc30 hm
        refine wpD_exit ?_
        refine then_exit ?_
        have e19 := lp_done hm; subst e19; clear hm; have hm := hq19
        refine then_exit ?_
        refine block_hit ?_
        have e18 := yes_eq hm; subst e18
        refine ⟨rfl, ?_⟩
        exact WkX.of () (WkS.perm (WkS.cons rfl (Wk.refl _) (WkS.nil)) (List.Perm.refl _) (List.Perm.refl _))
  · intro s18 hw18; clear hm; have hm := ho18; clear q18 ho18
    refine then_normal ?_
    refine wpD_wkX hw18 (fun z18 => ?_)
    refine wpD_seq ?_
    refine wpD_region ?_
    refine p_pure htab rfl rfl rfl rfl ?_
    refine p_pure htab rfl rfl rfl rfl ?_
    refine p_pure htab rfl rfl rfl rfl ?_
    refine ops_nil ?_
    refine then_normal ?_
    refine wpD_ret ?_
    have er34 := yes_eq hm; subst er34
    refine retX.of (s' := ⟨[(2, .v (.int .i64 (IntKind.i64.wrap (y18 + (1 : Int)))))], [], []⟩) (WkS.perm (WkS.cons rfl (Wk.refl _) (WkS.nil)) (List.Perm.refl _) (List.Perm.refl _)) (retD_mk (hh := []) (.inl rfl) (resL_cons (resOne_tmp rfl) (resL_nil)) (List.nil_sublist _) (List.Sublist.refl _) ?_)
    exact ⟨rfl, rfl, rfl⟩
noncomputable def tree_Deep_g : Nat → ((TApiExpr) → Option (Int))
  | 0 => (fun _ => none)
  | n + 1 => (tree_Deep_b ((tree_Deep_g n)))
theorem tree_Deep_g_ok : ∀ n, (∀ (a0 : TApiExpr) (r : Int) (h0 : (tree_Deep_g n) a0 = some r), CallsD Try.prog 17 [eTApiExpr a0] [] [] (fun d h k => d = .v (.int .i64 r) ∧ h = [] ∧ k = []))
  | 0 => fun _ _ h0 => by cases h0
  | n + 1 => by
    have ih := tree_Deep_g_ok n
    exact tree_Deep_b_ok (tree_Deep_g n) ih
theorem tree_Deep_g_le : ∀ n, (∀ (a0 : TApiExpr), Le ((tree_Deep_g n) a0) ((tree_Deep_g (n + 1)) a0))
  | 0 => fun _ => Le.none _
  | n + 1 => by
    have ih := tree_Deep_g_le n
    exact fun a0 => by show Le (tree_Deep_b ((tree_Deep_g n)) a0) (tree_Deep_b ((tree_Deep_g (n + 1))) a0); unfold tree_Deep_b; repeat (first | exact Le.refl _ | exact ih _ | assumption | (refine Le.bind ?_ (fun _ => ?_)) | (refine Le.cond ?_ ?_) | (refine Le.loop (fun _ => ?_)) | (refine Le.elim (fun _ => ?_) (fun _ => ?_)))
noncomputable def tree_Deep (a0 : TApiExpr) : Option (Int) := anyN fun n => (tree_Deep_g n) a0
theorem tree_Deep_of (a0 : TApiExpr) {r : Int} (n : Nat) (h : (tree_Deep_g n) a0 = some r) : tree_Deep a0 = some r := anyN_of (fun m => (tree_Deep_g_le m) a0) h
theorem tree_Deep_ok (a0 : TApiExpr) (r : Int) (h0 : tree_Deep a0 = some r) : CallsD Try.prog 17 [eTApiExpr a0] [] [] (fun d h k => d = .v (.int .i64 r) ∧ h = [] ∧ k = []) :=
  let ⟨n, hn⟩ := anyN_inv h0; (tree_Deep_g_ok n) a0  r hn
noncomputable def l11_lives : Option (Bool) :=
  ((tree_Size (⟨(10 : Int), (0 : Int), ByteArray.empty, ([(⟨(1 : Int), (1 : Int), ByteArray.empty, [], (0 : Int)⟩ : TApiExpr), (⟨(7 : Int), (0 : Int), ByteArray.empty, ([(⟨(2 : Int), (0 : Int), (ByteArray.mk #[120]), [], (0 : Int)⟩ : TApiExpr), (⟨(1 : Int), (2 : Int), ByteArray.empty, [], (0 : Int)⟩ : TApiExpr)] : List TApiExpr), (0 : Int)⟩ : TApiExpr)] : List TApiExpr), (0 : Int)⟩ : TApiExpr)).bind fun x2 => (bif (x2 == (5 : Int)) then ((tree_Deep (⟨(10 : Int), (0 : Int), ByteArray.empty, ([(⟨(1 : Int), (1 : Int), ByteArray.empty, [], (0 : Int)⟩ : TApiExpr), (⟨(7 : Int), (0 : Int), ByteArray.empty, ([(⟨(2 : Int), (0 : Int), (ByteArray.mk #[120]), [], (0 : Int)⟩ : TApiExpr), (⟨(1 : Int), (2 : Int), ByteArray.empty, [], (0 : Int)⟩ : TApiExpr)] : List TApiExpr), (0 : Int)⟩ : TApiExpr)] : List TApiExpr), (0 : Int)⟩ : TApiExpr)).bind fun x4 => (bif (x4 == (3 : Int)) then ((tree_Nums ([(⟨(0 : Int), ByteArray.empty, ByteArray.empty, ([(⟨(10 : Int), (0 : Int), ByteArray.empty, ([(⟨(1 : Int), (1 : Int), ByteArray.empty, [], (0 : Int)⟩ : TApiExpr), (⟨(7 : Int), (0 : Int), ByteArray.empty, ([(⟨(2 : Int), (0 : Int), (ByteArray.mk #[120]), [], (0 : Int)⟩ : TApiExpr), (⟨(1 : Int), (2 : Int), ByteArray.empty, [], (0 : Int)⟩ : TApiExpr)] : List TApiExpr), (0 : Int)⟩ : TApiExpr)] : List TApiExpr), (0 : Int)⟩ : TApiExpr)] : List TApiExpr), [], [], (0 : Int)⟩ : TApiStmt)] : List TApiStmt)).bind fun x7 => some ((x7.length : Int) == (2 : Int))) else some false)) else some false))
set_option maxRecDepth 100000 in
set_option maxHeartbeats 2000000 in
theorem l11_lives_ok  (r : Bool) (h0 : l11_lives = some r) : CallsD Try.prog 14 [] [] [] (fun d h k => d = .v (.bool r) ∧ h = [] ∧ k = []) := by
  have hm := yes_of h0
  unfold l11_lives at hm
  clear h0
  refine enterX htab Try.func14 rfl rfl rfl rfl rfl (fun C => ?_)
  refine wpD_seq ?_
  refine wpD_region ?_
  refine p_pure htab rfl rfl rfl rfl ?_
  refine ops_nil ?_
  refine then_normal ?_
  refine wpD_seq ?_
  refine wpD_region ?_
  refine p_build (r := [.v (.int .i64 (1 : Int)), .v (.int .i64 (1 : Int)), .v (.string ByteArray.empty), .lst 1 [] .full, .v (.int .i64 (0 : Int))]) htab rfl rfl rfl rfl rfl rfl rfl rfl rfl ?_
  refine p_build (r := [.v (.int .i64 (2 : Int)), .v (.int .i64 (0 : Int)), .v (.string (ByteArray.mk #[120])), .lst 1 [] .full, .v (.int .i64 (0 : Int))]) htab rfl rfl rfl rfl rfl rfl rfl rfl rfl ?_
  refine p_build (r := [.v (.int .i64 (1 : Int)), .v (.int .i64 (2 : Int)), .v (.string ByteArray.empty), .lst 1 [] .full, .v (.int .i64 (0 : Int))]) htab rfl rfl rfl rfl rfl rfl rfl rfl rfl ?_
  refine p_lit htab rfl rfl rfl rfl rfl rfl rfl rfl rfl rfl rfl rfl rfl rfl ?_
  refine p_eq (i := 5) (d' := .lst 5 (([(⟨(2 : Int), (0 : Int), (ByteArray.mk #[120]), [], (0 : Int)⟩ : TApiExpr), (⟨(1 : Int), (2 : Int), ByteArray.empty, [], (0 : Int)⟩ : TApiExpr)] : List TApiExpr).map eTApiExpr) .full) rfl (Wk.lst0 (.cons (WkC.trans (WkC.agg (WkR.cons (WkC.refl _) rfl (WkR.cons (WkC.refl _) rfl (WkR.cons (WkC.refl _) rfl (WkR.cons (WkC.nil) rfl (WkR.cons (WkC.refl _) rfl (WkR.nil))))))) (WkC.of_eq (eTApiExpr_eq (⟨(2 : Int), (0 : Int), (ByteArray.mk #[120]), [], (0 : Int)⟩ : TApiExpr)).symm)) (.cons (WkC.trans (WkC.agg (WkR.cons (WkC.refl _) rfl (WkR.cons (WkC.refl _) rfl (WkR.cons (WkC.refl _) rfl (WkR.cons (WkC.nil) rfl (WkR.cons (WkC.refl _) rfl (WkR.nil))))))) (WkC.of_eq (eTApiExpr_eq (⟨(1 : Int), (2 : Int), ByteArray.empty, [], (0 : Int)⟩ : TApiExpr)).symm)) (.nil)))) ?_
  refine p_build (r := [.v (.int .i64 (7 : Int)), .v (.int .i64 (0 : Int)), .v (.string ByteArray.empty), .lst 5 (([(⟨(2 : Int), (0 : Int), (ByteArray.mk #[120]), [], (0 : Int)⟩ : TApiExpr), (⟨(1 : Int), (2 : Int), ByteArray.empty, [], (0 : Int)⟩ : TApiExpr)] : List TApiExpr).map eTApiExpr) .full, .v (.int .i64 (0 : Int))]) htab rfl rfl rfl rfl rfl rfl rfl rfl rfl ?_
  refine p_lit htab rfl rfl rfl rfl rfl rfl rfl rfl rfl rfl rfl rfl rfl rfl ?_
  refine p_eq (i := 7) (d' := .lst 5 (([(⟨(1 : Int), (1 : Int), ByteArray.empty, [], (0 : Int)⟩ : TApiExpr), (⟨(7 : Int), (0 : Int), ByteArray.empty, ([(⟨(2 : Int), (0 : Int), (ByteArray.mk #[120]), [], (0 : Int)⟩ : TApiExpr), (⟨(1 : Int), (2 : Int), ByteArray.empty, [], (0 : Int)⟩ : TApiExpr)] : List TApiExpr), (0 : Int)⟩ : TApiExpr)] : List TApiExpr).map eTApiExpr) .full) rfl (Wk.lst0 (.cons (WkC.trans (WkC.agg (WkR.cons (WkC.refl _) rfl (WkR.cons (WkC.refl _) rfl (WkR.cons (WkC.refl _) rfl (WkR.cons (WkC.nil) rfl (WkR.cons (WkC.refl _) rfl (WkR.nil))))))) (WkC.of_eq (eTApiExpr_eq (⟨(1 : Int), (1 : Int), ByteArray.empty, [], (0 : Int)⟩ : TApiExpr)).symm)) (.cons (WkC.trans (WkC.agg (WkR.cons (WkC.refl _) rfl (WkR.cons (WkC.refl _) rfl (WkR.cons (WkC.refl _) rfl (WkR.cons (WkC.no) rfl (WkR.cons (WkC.refl _) rfl (WkR.nil))))))) (WkC.of_eq (eTApiExpr_eq (⟨(7 : Int), (0 : Int), ByteArray.empty, ([(⟨(2 : Int), (0 : Int), (ByteArray.mk #[120]), [], (0 : Int)⟩ : TApiExpr), (⟨(1 : Int), (2 : Int), ByteArray.empty, [], (0 : Int)⟩ : TApiExpr)] : List TApiExpr), (0 : Int)⟩ : TApiExpr)).symm)) (.nil)))) ?_
  refine p_build (r := [.v (.int .i64 (10 : Int)), .v (.int .i64 (0 : Int)), .v (.string ByteArray.empty), .lst 5 (([(⟨(1 : Int), (1 : Int), ByteArray.empty, [], (0 : Int)⟩ : TApiExpr), (⟨(7 : Int), (0 : Int), ByteArray.empty, ([(⟨(2 : Int), (0 : Int), (ByteArray.mk #[120]), [], (0 : Int)⟩ : TApiExpr), (⟨(1 : Int), (2 : Int), ByteArray.empty, [], (0 : Int)⟩ : TApiExpr)] : List TApiExpr), (0 : Int)⟩ : TApiExpr)] : List TApiExpr).map eTApiExpr) .full, .v (.int .i64 (0 : Int))]) htab rfl rfl rfl rfl rfl rfl rfl rfl rfl ?_
  refine p_alloc htab rfl rfl rfl rfl rfl rfl rfl (fun b1 => ?_)
  refine p_store (ds' := [.v (.int .i64 (10 : Int)), .v (.int .i64 (0 : Int)), .v (.string ByteArray.empty), .lst 5 (([(⟨(1 : Int), (1 : Int), ByteArray.empty, [], (0 : Int)⟩ : TApiExpr), (⟨(7 : Int), (0 : Int), ByteArray.empty, ([(⟨(2 : Int), (0 : Int), (ByteArray.mk #[120]), [], (0 : Int)⟩ : TApiExpr), (⟨(1 : Int), (2 : Int), ByteArray.empty, [], (0 : Int)⟩ : TApiExpr)] : List TApiExpr), (0 : Int)⟩ : TApiExpr)] : List TApiExpr).map eTApiExpr) .full, .v (.int .i64 (0 : Int))]) (h' := [(b1, Blk.cells [.v (.int .i64 (10 : Int)), .v (.int .i64 (0 : Int)), .v (.string ByteArray.empty), .lst 5 (([(⟨(1 : Int), (1 : Int), ByteArray.empty, [], (0 : Int)⟩ : TApiExpr), (⟨(7 : Int), (0 : Int), ByteArray.empty, ([(⟨(2 : Int), (0 : Int), (ByteArray.mk #[120]), [], (0 : Int)⟩ : TApiExpr), (⟨(1 : Int), (2 : Int), ByteArray.empty, [], (0 : Int)⟩ : TApiExpr)] : List TApiExpr), (0 : Int)⟩ : TApiExpr)] : List TApiExpr).map eTApiExpr) .full, .v (.int .i64 (0 : Int))] 34)]) 0 htab rfl rfl rfl rfl rfl rfl rfl rfl rfl rfl rfl rfl ?_
  refine ops_nil ?_
  refine then_normal ?_
  refine wpD_seq ?_
  refine wpD_region ?_
  refine p_load (d := .agg [.v (.int .i64 (10 : Int)), .v (.int .i64 (0 : Int)), .v (.string ByteArray.empty), .lst 5 (([(⟨(1 : Int), (1 : Int), ByteArray.empty, [], (0 : Int)⟩ : TApiExpr), (⟨(7 : Int), (0 : Int), ByteArray.empty, ([(⟨(2 : Int), (0 : Int), (ByteArray.mk #[120]), [], (0 : Int)⟩ : TApiExpr), (⟨(1 : Int), (2 : Int), ByteArray.empty, [], (0 : Int)⟩ : TApiExpr)] : List TApiExpr), (0 : Int)⟩ : TApiExpr)] : List TApiExpr).map eTApiExpr) .full, .v (.int .i64 (0 : Int))]) 0 htab rfl rfl rfl rfl rfl rfl rfl rfl ?_
  obtain ⟨x2, q2, hm⟩ := yes_bind hm
  refine p_call0 (tree_Size_ok (⟨(10 : Int), (0 : Int), ByteArray.empty, ([(⟨(1 : Int), (1 : Int), ByteArray.empty, [], (0 : Int)⟩ : TApiExpr), (⟨(7 : Int), (0 : Int), ByteArray.empty, ([(⟨(2 : Int), (0 : Int), (ByteArray.mk #[120]), [], (0 : Int)⟩ : TApiExpr), (⟨(1 : Int), (2 : Int), ByteArray.empty, [], (0 : Int)⟩ : TApiExpr)] : List TApiExpr), (0 : Int)⟩ : TApiExpr)] : List TApiExpr), (0 : Int)⟩ : TApiExpr) x2 q2) rfl rfl rfl rfl rfl (WkL.cons (Wk.trans (Wk.agg (WkR.cons (WkC.refl _) rfl (WkR.cons (WkC.refl _) rfl (WkR.cons (WkC.refl _) rfl (WkR.cons (WkC.no) rfl (WkR.cons (WkC.refl _) rfl (WkR.nil))))))) (Wk.of_eq (eTApiExpr_eq (⟨(10 : Int), (0 : Int), ByteArray.empty, ([(⟨(1 : Int), (1 : Int), ByteArray.empty, [], (0 : Int)⟩ : TApiExpr), (⟨(7 : Int), (0 : Int), ByteArray.empty, ([(⟨(2 : Int), (0 : Int), (ByteArray.mk #[120]), [], (0 : Int)⟩ : TApiExpr), (⟨(1 : Int), (2 : Int), ByteArray.empty, [], (0 : Int)⟩ : TApiExpr)] : List TApiExpr), (0 : Int)⟩ : TApiExpr)] : List TApiExpr), (0 : Int)⟩ : TApiExpr)).symm)) (WkL.refl _)) ?_
  rintro _ rfl
  refine p_pure htab rfl rfl rfl rfl ?_
  refine p_pure htab rfl rfl rfl rfl ?_
  refine p_split (i := 12) rfl (fun hg3 => ?_) (fun hg3 => ?_)
  · replace hm := yes_t hg3 hm
    refine p_load (d := .agg [.v (.int .i64 (10 : Int)), .v (.int .i64 (0 : Int)), .v (.string ByteArray.empty), .lst 5 (([(⟨(1 : Int), (1 : Int), ByteArray.empty, [], (0 : Int)⟩ : TApiExpr), (⟨(7 : Int), (0 : Int), ByteArray.empty, ([(⟨(2 : Int), (0 : Int), (ByteArray.mk #[120]), [], (0 : Int)⟩ : TApiExpr), (⟨(1 : Int), (2 : Int), ByteArray.empty, [], (0 : Int)⟩ : TApiExpr)] : List TApiExpr), (0 : Int)⟩ : TApiExpr)] : List TApiExpr).map eTApiExpr) .full, .v (.int .i64 (0 : Int))]) 0 htab rfl rfl rfl rfl rfl rfl rfl rfl ?_
    obtain ⟨x4, q4, hm⟩ := yes_bind hm
    refine p_call0 (tree_Deep_ok (⟨(10 : Int), (0 : Int), ByteArray.empty, ([(⟨(1 : Int), (1 : Int), ByteArray.empty, [], (0 : Int)⟩ : TApiExpr), (⟨(7 : Int), (0 : Int), ByteArray.empty, ([(⟨(2 : Int), (0 : Int), (ByteArray.mk #[120]), [], (0 : Int)⟩ : TApiExpr), (⟨(1 : Int), (2 : Int), ByteArray.empty, [], (0 : Int)⟩ : TApiExpr)] : List TApiExpr), (0 : Int)⟩ : TApiExpr)] : List TApiExpr), (0 : Int)⟩ : TApiExpr) x4 q4) rfl rfl rfl rfl rfl (WkL.cons (Wk.trans (Wk.agg (WkR.cons (WkC.refl _) rfl (WkR.cons (WkC.refl _) rfl (WkR.cons (WkC.refl _) rfl (WkR.cons (WkC.no) rfl (WkR.cons (WkC.refl _) rfl (WkR.nil))))))) (Wk.of_eq (eTApiExpr_eq (⟨(10 : Int), (0 : Int), ByteArray.empty, ([(⟨(1 : Int), (1 : Int), ByteArray.empty, [], (0 : Int)⟩ : TApiExpr), (⟨(7 : Int), (0 : Int), ByteArray.empty, ([(⟨(2 : Int), (0 : Int), (ByteArray.mk #[120]), [], (0 : Int)⟩ : TApiExpr), (⟨(1 : Int), (2 : Int), ByteArray.empty, [], (0 : Int)⟩ : TApiExpr)] : List TApiExpr), (0 : Int)⟩ : TApiExpr)] : List TApiExpr), (0 : Int)⟩ : TApiExpr)).symm)) (WkL.refl _)) ?_
    rintro _ rfl
    refine p_pure htab rfl rfl rfl rfl ?_
    refine p_pickT rfl rfl rfl rfl rfl rfl ?_
    refine p_pure htab rfl rfl rfl rfl ?_
    refine p_split (i := 17) rfl (fun hg5 => ?_) (fun hg5 => ?_)
    · replace hm := yes_t hg5 hm
      refine p_load (d := .agg [.v (.int .i64 (10 : Int)), .v (.int .i64 (0 : Int)), .v (.string ByteArray.empty), .lst 5 (([(⟨(1 : Int), (1 : Int), ByteArray.empty, [], (0 : Int)⟩ : TApiExpr), (⟨(7 : Int), (0 : Int), ByteArray.empty, ([(⟨(2 : Int), (0 : Int), (ByteArray.mk #[120]), [], (0 : Int)⟩ : TApiExpr), (⟨(1 : Int), (2 : Int), ByteArray.empty, [], (0 : Int)⟩ : TApiExpr)] : List TApiExpr), (0 : Int)⟩ : TApiExpr)] : List TApiExpr).map eTApiExpr) .full, .v (.int .i64 (0 : Int))]) 0 htab rfl rfl rfl rfl rfl rfl rfl rfl ?_
      refine p_lit htab rfl rfl rfl rfl rfl rfl rfl rfl rfl rfl rfl rfl rfl rfl ?_
      refine p_eq (i := 19) (d' := .lst 5 (([(⟨(10 : Int), (0 : Int), ByteArray.empty, ([(⟨(1 : Int), (1 : Int), ByteArray.empty, [], (0 : Int)⟩ : TApiExpr), (⟨(7 : Int), (0 : Int), ByteArray.empty, ([(⟨(2 : Int), (0 : Int), (ByteArray.mk #[120]), [], (0 : Int)⟩ : TApiExpr), (⟨(1 : Int), (2 : Int), ByteArray.empty, [], (0 : Int)⟩ : TApiExpr)] : List TApiExpr), (0 : Int)⟩ : TApiExpr)] : List TApiExpr), (0 : Int)⟩ : TApiExpr)] : List TApiExpr).map eTApiExpr) .full) rfl (Wk.lst0 (.cons (WkC.trans (WkC.agg (WkR.cons (WkC.refl _) rfl (WkR.cons (WkC.refl _) rfl (WkR.cons (WkC.refl _) rfl (WkR.cons (WkC.no) rfl (WkR.cons (WkC.refl _) rfl (WkR.nil))))))) (WkC.of_eq (eTApiExpr_eq (⟨(10 : Int), (0 : Int), ByteArray.empty, ([(⟨(1 : Int), (1 : Int), ByteArray.empty, [], (0 : Int)⟩ : TApiExpr), (⟨(7 : Int), (0 : Int), ByteArray.empty, ([(⟨(2 : Int), (0 : Int), (ByteArray.mk #[120]), [], (0 : Int)⟩ : TApiExpr), (⟨(1 : Int), (2 : Int), ByteArray.empty, [], (0 : Int)⟩ : TApiExpr)] : List TApiExpr), (0 : Int)⟩ : TApiExpr)] : List TApiExpr), (0 : Int)⟩ : TApiExpr)).symm)) (.nil))) ?_
      refine p_build (r := [.v (.int .i64 (0 : Int)), .v (.string ByteArray.empty), .v (.string ByteArray.empty), .lst 5 (([(⟨(10 : Int), (0 : Int), ByteArray.empty, ([(⟨(1 : Int), (1 : Int), ByteArray.empty, [], (0 : Int)⟩ : TApiExpr), (⟨(7 : Int), (0 : Int), ByteArray.empty, ([(⟨(2 : Int), (0 : Int), (ByteArray.mk #[120]), [], (0 : Int)⟩ : TApiExpr), (⟨(1 : Int), (2 : Int), ByteArray.empty, [], (0 : Int)⟩ : TApiExpr)] : List TApiExpr), (0 : Int)⟩ : TApiExpr)] : List TApiExpr), (0 : Int)⟩ : TApiExpr)] : List TApiExpr).map eTApiExpr) .full, .lst 1 [] .full, .lst 1 [] .full, .v (.int .i64 (0 : Int))]) htab rfl rfl rfl rfl rfl rfl rfl rfl rfl ?_
      refine p_lit htab rfl rfl rfl rfl rfl rfl rfl rfl rfl rfl rfl rfl rfl rfl ?_
      refine p_eq (i := 21) (d' := .lst 7 (([(⟨(0 : Int), ByteArray.empty, ByteArray.empty, ([(⟨(10 : Int), (0 : Int), ByteArray.empty, ([(⟨(1 : Int), (1 : Int), ByteArray.empty, [], (0 : Int)⟩ : TApiExpr), (⟨(7 : Int), (0 : Int), ByteArray.empty, ([(⟨(2 : Int), (0 : Int), (ByteArray.mk #[120]), [], (0 : Int)⟩ : TApiExpr), (⟨(1 : Int), (2 : Int), ByteArray.empty, [], (0 : Int)⟩ : TApiExpr)] : List TApiExpr), (0 : Int)⟩ : TApiExpr)] : List TApiExpr), (0 : Int)⟩ : TApiExpr)] : List TApiExpr), [], [], (0 : Int)⟩ : TApiStmt)] : List TApiStmt).map eTApiStmt) .full) rfl (Wk.lst0 (.cons (WkC.trans (WkC.agg (WkR.cons (WkC.refl _) rfl (WkR.cons (WkC.refl _) rfl (WkR.cons (WkC.refl _) rfl (WkR.cons (WkC.no) rfl (WkR.cons (WkC.nil) rfl (WkR.cons (WkC.nil) rfl (WkR.cons (WkC.refl _) rfl (WkR.nil))))))))) (WkC.of_eq (eTApiStmt_eq (⟨(0 : Int), ByteArray.empty, ByteArray.empty, ([(⟨(10 : Int), (0 : Int), ByteArray.empty, ([(⟨(1 : Int), (1 : Int), ByteArray.empty, [], (0 : Int)⟩ : TApiExpr), (⟨(7 : Int), (0 : Int), ByteArray.empty, ([(⟨(2 : Int), (0 : Int), (ByteArray.mk #[120]), [], (0 : Int)⟩ : TApiExpr), (⟨(1 : Int), (2 : Int), ByteArray.empty, [], (0 : Int)⟩ : TApiExpr)] : List TApiExpr), (0 : Int)⟩ : TApiExpr)] : List TApiExpr), (0 : Int)⟩ : TApiExpr)] : List TApiExpr), [], [], (0 : Int)⟩ : TApiStmt)).symm)) (.nil))) ?_
      obtain ⟨x7, q7, hm⟩ := yes_bind hm
      refine p_callG (tree_Nums_ok ([(⟨(0 : Int), ByteArray.empty, ByteArray.empty, ([(⟨(10 : Int), (0 : Int), ByteArray.empty, ([(⟨(1 : Int), (1 : Int), ByteArray.empty, [], (0 : Int)⟩ : TApiExpr), (⟨(7 : Int), (0 : Int), ByteArray.empty, ([(⟨(2 : Int), (0 : Int), (ByteArray.mk #[120]), [], (0 : Int)⟩ : TApiExpr), (⟨(1 : Int), (2 : Int), ByteArray.empty, [], (0 : Int)⟩ : TApiExpr)] : List TApiExpr), (0 : Int)⟩ : TApiExpr)] : List TApiExpr), (0 : Int)⟩ : TApiExpr)] : List TApiExpr), [], [], (0 : Int)⟩ : TApiStmt)] : List TApiStmt) x7 q7) rfl rfl rfl rfl rfl (WkL.cons (Wk.no) (WkL.refl _)) (List.Perm.refl _) (List.Perm.refl _) ?_
      rintro _ _ _ ⟨w6, rfl, rfl, rfl⟩
      refine p_lenR 0 htab rfl rfl rfl rfl rfl rfl rfl rfl (by first | exact map_len | rfl) ?_
      refine p_pure htab rfl rfl rfl rfl ?_
      refine p_pickT rfl rfl rfl rfl rfl rfl ?_
      refine p_pure htab rfl rfl rfl rfl ?_
      refine ops_nil ?_
      refine then_normal ?_
      refine wpD_ret ?_
      have er8 := yes_eq hm; subst er8
      refine retX.of (s' := ⟨[(0, .v (.bool ((x7.length : Int) == (2 : Int))))], [], []⟩) (WkS.perm (WkS.cons rfl (Wk.refl _) (WkS.nil)) (List.Perm.refl _) (List.Perm.refl _)) (retD_mk (hh := []) (.inl rfl) (resL_cons (resOne_tmp rfl) (resL_nil)) (List.nil_sublist _) (List.Sublist.refl _) ?_)
      exact ⟨rfl, rfl, rfl⟩
    · replace hm := yes_f hg5 hm
      refine p_skip rfl rfl rfl ?_
      refine p_skip rfl rfl rfl ?_
      refine p_skip rfl rfl rfl ?_
      refine p_skip rfl rfl rfl ?_
      refine p_skip rfl rfl rfl ?_
      refine p_skip rfl rfl rfl ?_
      refine p_skip rfl rfl rfl ?_
      refine p_pickF rfl rfl rfl rfl rfl rfl ?_
      refine p_pure htab rfl rfl rfl rfl ?_
      refine ops_nil ?_
      refine then_normal ?_
      refine wpD_ret ?_
      have er9 := yes_eq hm; subst er9
      refine retX.of (s' := ⟨[(0, .v (.bool false))], [], []⟩) (WkS.perm (WkS.cons rfl (Wk.refl _) (WkS.nil)) (List.Perm.refl _) (List.Perm.refl _)) (retD_mk (hh := []) (.inl rfl) (resL_cons (resOne_tmp rfl) (resL_nil)) (List.nil_sublist _) (List.Sublist.refl _) ?_)
      exact ⟨rfl, rfl, rfl⟩
  · replace hm := yes_f hg3 hm
    refine p_skip rfl rfl rfl ?_
    refine p_skip rfl rfl rfl ?_
    refine p_skip rfl rfl rfl ?_
    refine p_pickF rfl rfl rfl rfl rfl rfl ?_
    refine p_pure htab rfl rfl rfl rfl ?_
    refine p_skip rfl rfl rfl ?_
    refine p_skip rfl rfl rfl ?_
    refine p_skip rfl rfl rfl ?_
    refine p_skip rfl rfl rfl ?_
    refine p_skip rfl rfl rfl ?_
    refine p_skip rfl rfl rfl ?_
    refine p_skip rfl rfl rfl ?_
    refine p_pickF rfl rfl rfl rfl rfl rfl ?_
    refine p_pure htab rfl rfl rfl rfl ?_
    refine ops_nil ?_
    refine then_normal ?_
    refine wpD_ret ?_
    have er10 := yes_eq hm; subst er10
    refine retX.of (s' := ⟨[(0, .v (.bool false))], [], []⟩) (WkS.perm (WkS.cons rfl (Wk.refl _) (WkS.nil)) (List.Perm.refl _) (List.Perm.refl _)) (retD_mk (hh := []) (.inl rfl) (resL_cons (resOne_tmp rfl) (resL_nil)) (List.nil_sublist _) (List.Sublist.refl _) ?_)
    exact ⟨rfl, rfl, rfl⟩
noncomputable def l11_TreeNames (a0 : List TApiStmt) : Option (Bool) :=
  ((tree_Names a0).bind fun x2 => ((r11_Names a0 false).bind fun x4 => ((r11_Texts x2 x4).bind fun x5 => (bif x5 then ((tree_Calls a0).bind fun x8 => ((r11_Names a0 true).bind fun x10 => ((r11_Texts x8 x10).bind fun x11 => (bif x11 then ((tree_Nums a0).bind fun x14 => ((r11_Nums a0).bind fun x16 => ((r11_Ints x14 x16).bind fun x17 => (bif x17 then (l11_lives.bind fun x19 => some x19) else some false)))) else some false)))) else some false))))
set_option maxRecDepth 100000 in
set_option maxHeartbeats 2000000 in
theorem l11_TreeNames_ok (a0 : List TApiStmt) (r : Bool) (h0 : l11_TreeNames a0 = some r) : CallsD Try.prog 3 [.lst 7 (a0.map eTApiStmt) .no] [] [] (fun d h k => d = .v (.bool r) ∧ h = [] ∧ k = []) := by
  have hm := yes_of h0
  unfold l11_TreeNames at hm
  clear h0
  refine enterX htab Try.func3 rfl rfl rfl rfl rfl (fun C => ?_)
  refine wpD_seq ?_
  refine wpD_region ?_
  refine p_pure htab rfl rfl rfl rfl ?_
  refine ops_nil ?_
  refine then_normal ?_
  refine wpD_seq ?_
  refine wpD_region ?_
  refine p_pure htab rfl rfl rfl rfl ?_
  obtain ⟨x2, q2, hm⟩ := yes_bind hm
  refine p_callG (tree_Names_ok a0 x2 q2) rfl rfl rfl rfl rfl (WkL.refl _) (List.Perm.refl _) (List.Perm.refl _) ?_
  rintro _ _ _ ⟨w1, rfl, rfl, rfl⟩
  refine p_pure htab rfl rfl rfl rfl ?_
  obtain ⟨x4, q4, hm⟩ := yes_bind hm
  refine p_callG (r11_Names_ok a0 false x4 q4) rfl rfl rfl rfl rfl (WkL.refl _) (List.Perm.refl _) (List.Perm.refl _) ?_
  rintro _ _ _ ⟨w3, rfl, rfl, rfl⟩
  refine o_norm (WkS.frz 0 rfl rfl) ?_
  refine o_norm (WkS.tld 4 0 rfl rfl) ?_
  refine o_norm (WkS.drop 0 rfl) ?_
  obtain ⟨x5, q5, hm⟩ := yes_bind hm
  refine p_call0 (r11_Texts_ok x2 x4 x5 q5) rfl rfl rfl rfl rfl (WkL.cons (Wk.no) (WkL.cons (Wk.no) (WkL.refl _))) ?_
  rintro _ rfl
  refine p_pure htab rfl rfl rfl rfl ?_
  refine p_split (i := 8) rfl (fun hg6 => ?_) (fun hg6 => ?_)
  · replace hm := yes_t hg6 hm
    refine p_pure htab rfl rfl rfl rfl ?_
    obtain ⟨x8, q8, hm⟩ := yes_bind hm
    refine p_callG (tree_Calls_ok a0 x8 q8) rfl rfl rfl rfl rfl (WkL.refl _) (List.Perm.refl _) (List.Perm.refl _) ?_
    rintro _ _ _ ⟨w7, rfl, rfl, rfl⟩
    refine p_pure htab rfl rfl rfl rfl ?_
    obtain ⟨x10, q10, hm⟩ := yes_bind hm
    refine p_callG (r11_Names_ok a0 true x10 q10) rfl rfl rfl rfl rfl (WkL.refl _) (List.Perm.refl _) (List.Perm.refl _) ?_
    rintro _ _ _ ⟨w9, rfl, rfl, rfl⟩
    refine o_norm (WkS.frz 0 rfl rfl) ?_
    refine o_norm (WkS.tld 10 0 rfl rfl) ?_
    refine o_norm (WkS.drop 0 rfl) ?_
    obtain ⟨x11, q11, hm⟩ := yes_bind hm
    refine p_call0 (r11_Texts_ok x8 x10 x11 q11) rfl rfl rfl rfl rfl (WkL.cons (Wk.no) (WkL.cons (Wk.no) (WkL.refl _))) ?_
    rintro _ rfl
    refine p_pickT rfl rfl rfl rfl rfl rfl ?_
    refine p_pure htab rfl rfl rfl rfl ?_
    refine p_split (i := 15) rfl (fun hg12 => ?_) (fun hg12 => ?_)
    · replace hm := yes_t hg12 hm
      refine p_pure htab rfl rfl rfl rfl ?_
      obtain ⟨x14, q14, hm⟩ := yes_bind hm
      refine p_callG (tree_Nums_ok a0 x14 q14) rfl rfl rfl rfl rfl (WkL.refl _) (List.Perm.refl _) (List.Perm.refl _) ?_
      rintro _ _ _ ⟨w13, rfl, rfl, rfl⟩
      refine p_pure htab rfl rfl rfl rfl ?_
      obtain ⟨x16, q16, hm⟩ := yes_bind hm
      refine p_callG (r11_Nums_ok a0 x16 q16) rfl rfl rfl rfl rfl (WkL.refl _) (List.Perm.refl _) (List.Perm.refl _) ?_
      rintro _ _ _ ⟨w15, rfl, rfl, rfl⟩
      refine o_norm (WkS.frz 0 rfl rfl) ?_
      refine o_norm (WkS.tld 17 0 rfl rfl) ?_
      refine o_norm (WkS.drop 0 rfl) ?_
      obtain ⟨x17, q17, hm⟩ := yes_bind hm
      refine p_call0 (r11_Ints_ok x14 x16 x17 q17) rfl rfl rfl rfl rfl (WkL.cons (Wk.no) (WkL.cons (Wk.no) (WkL.refl _))) ?_
      rintro _ rfl
      refine p_pickT rfl rfl rfl rfl rfl rfl ?_
      refine p_pure htab rfl rfl rfl rfl ?_
      refine p_split (i := 22) rfl (fun hg18 => ?_) (fun hg18 => ?_)
      · replace hm := yes_t hg18 hm
        obtain ⟨x19, q19, hm⟩ := yes_bind hm
        refine p_call0 (l11_lives_ok x19 q19) rfl rfl rfl rfl rfl (WkL.refl _) ?_
        rintro _ rfl
        refine p_pickT rfl rfl rfl rfl rfl rfl ?_
        refine p_pure htab rfl rfl rfl rfl ?_
        refine ops_nil ?_
        refine then_normal ?_
        refine wpD_ret ?_
        have er20 := yes_eq hm; subst er20
        refine retX.of (s' := ⟨[(2, .v (.bool x19))], [], []⟩) (WkS.perm (WkS.cons rfl (Wk.refl _) (WkS.nil)) (List.Perm.refl _) (List.Perm.refl _)) (retD_mk (hh := []) (.inl rfl) (resL_cons (resOne_tmp rfl) (resL_nil)) (List.nil_sublist _) (List.Sublist.refl _) ?_)
        exact ⟨rfl, rfl, rfl⟩
      · replace hm := yes_f hg18 hm
        refine p_skip rfl rfl rfl ?_
        refine p_pickF rfl rfl rfl rfl rfl rfl ?_
        refine p_pure htab rfl rfl rfl rfl ?_
        refine ops_nil ?_
        refine then_normal ?_
        refine wpD_ret ?_
        have er21 := yes_eq hm; subst er21
        refine retX.of (s' := ⟨[(2, .v (.bool false))], [], []⟩) (WkS.perm (WkS.cons rfl (Wk.refl _) (WkS.nil)) (List.Perm.refl _) (List.Perm.refl _)) (retD_mk (hh := []) (.inl rfl) (resL_cons (resOne_tmp rfl) (resL_nil)) (List.nil_sublist _) (List.Sublist.refl _) ?_)
        exact ⟨rfl, rfl, rfl⟩
    · replace hm := yes_f hg12 hm
      refine p_skip rfl rfl rfl ?_
      refine p_skip rfl rfl rfl ?_
      refine p_skip rfl rfl rfl ?_
      refine p_skip rfl rfl rfl ?_
      refine p_skip rfl rfl rfl ?_
      refine p_pickF rfl rfl rfl rfl rfl rfl ?_
      refine p_pure htab rfl rfl rfl rfl ?_
      refine p_skip rfl rfl rfl ?_
      refine p_pickF rfl rfl rfl rfl rfl rfl ?_
      refine p_pure htab rfl rfl rfl rfl ?_
      refine ops_nil ?_
      refine then_normal ?_
      refine wpD_ret ?_
      have er22 := yes_eq hm; subst er22
      refine retX.of (s' := ⟨[(2, .v (.bool false))], [], []⟩) (WkS.perm (WkS.cons rfl (Wk.refl _) (WkS.nil)) (List.Perm.refl _) (List.Perm.refl _)) (retD_mk (hh := []) (.inl rfl) (resL_cons (resOne_tmp rfl) (resL_nil)) (List.nil_sublist _) (List.Sublist.refl _) ?_)
      exact ⟨rfl, rfl, rfl⟩
  · replace hm := yes_f hg6 hm
    refine p_skip rfl rfl rfl ?_
    refine p_skip rfl rfl rfl ?_
    refine p_skip rfl rfl rfl ?_
    refine p_skip rfl rfl rfl ?_
    refine p_skip rfl rfl rfl ?_
    refine p_pickF rfl rfl rfl rfl rfl rfl ?_
    refine p_pure htab rfl rfl rfl rfl ?_
    refine p_skip rfl rfl rfl ?_
    refine p_skip rfl rfl rfl ?_
    refine p_skip rfl rfl rfl ?_
    refine p_skip rfl rfl rfl ?_
    refine p_skip rfl rfl rfl ?_
    refine p_pickF rfl rfl rfl rfl rfl rfl ?_
    refine p_pure htab rfl rfl rfl rfl ?_
    refine p_skip rfl rfl rfl ?_
    refine p_pickF rfl rfl rfl rfl rfl rfl ?_
    refine p_pure htab rfl rfl rfl rfl ?_
    refine ops_nil ?_
    refine then_normal ?_
    refine wpD_ret ?_
    have er23 := yes_eq hm; subst er23
    refine retX.of (s' := ⟨[(2, .v (.bool false))], [], []⟩) (WkS.perm (WkS.cons rfl (Wk.refl _) (WkS.nil)) (List.Perm.refl _) (List.Perm.refl _)) (retD_mk (hh := []) (.inl rfl) (resL_cons (resOne_tmp rfl) (resL_nil)) (List.nil_sublist _) (List.Sublist.refl _) ?_)
    exact ⟨rfl, rfl, rfl⟩
noncomputable def r11_Deep_b (g0 : (TApiExpr) → Option (Int)) (a0 : TApiExpr) : Option (Int) :=
  (Option.bind (α := Int) (loopM (fun (s16 : Int × Int) => (bif (decide (s16.2 < (a0.gKids.length : Int))) then ((idx a0.gKids s16.2).bind fun x26 => ((g0 x26).bind fun x27 => some (.next ((max s16.1 x27), (IntKind.i64.wrap (s16.2 + (1 : Int))))))) else some (.done s16.1))) ((0 : Int), (0 : Int))) fun y15 => some (IntKind.i64.wrap ((1 : Int) + y15)))
set_option maxRecDepth 100000 in
set_option maxHeartbeats 2000000 in
theorem r11_Deep_b_ok (g0 : (TApiExpr) → Option (Int)) (hg0 : ∀ (a0 : TApiExpr) (r : Int) (h0 : g0 a0 = some r), CallsD Try.prog 18 [eTApiExpr a0] [] [] (fun d h k => d = .v (.int .i64 r) ∧ h = [] ∧ k = [])) (a0 : TApiExpr) (r : Int) (h0 : r11_Deep_b g0 a0 = some r) : CallsD Try.prog 18 [eTApiExpr a0] [] [] (fun d h k => d = .v (.int .i64 r) ∧ h = [] ∧ k = []) := by
  have hm := yes_of h0
  unfold r11_Deep_b at hm
  clear h0
  refine enterX htab Try.func18 rfl rfl rfl rfl rfl (fun C => ?_)
  refine w_eq (i := 0) rfl (Wk.of_eq (eTApiExpr_eq a0)) ?_
  refine wpD_seq ?_
  refine wpD_region ?_
  refine p_box rfl rfl rfl rfl rfl rfl rfl (fun b1 => ?_)
  refine p_pure htab rfl rfl rfl rfl ?_
  refine ops_nil ?_
  refine then_normal ?_
  refine wpD_seq ?_
  refine wpD_region ?_
  refine p_pure htab rfl rfl rfl rfl ?_
  refine ops_nil ?_
  refine then_normal ?_
  refine wpD_seq ?_
  refine wpD_seq ?_
  refine wpD_region ?_
  refine p_pure htab rfl rfl rfl rfl ?_
  refine ops_nil ?_
  refine then_normal ?_
  obtain ⟨y15, q15, ho15⟩ := yes_bind hm
  refine wpD_mid (Y := Unit) (fun z15 => (⟨[(3, .v (.int .i64 y15))], [(b1, Blk.cells [.v (.int .i64 a0.gOp), .v (.int .i64 a0.gN), .v (.string a0.gName), .lst 5 (a0.gKids.map eTApiExpr) .no, .v (.int .i64 a0.gAt)] 34)], []⟩ : S)) ?_ ?_
  · clear hm; have hm := yes_of q15
    refine wpD_block ?_
    obtain ⟨u16, hl16, hq16⟩ := yes_m hm
    refine loop_M (Y := Unit) hl16 (fun s16 z16 => (⟨[(1, .ptr b1 0), (3, .v (.int .i64 s16.1)), (4, .v (.int .i64 s16.2))], [(b1, Blk.cells [.v (.int .i64 a0.gOp), .v (.int .i64 a0.gN), .v (.string a0.gName), .lst 5 (a0.gKids.map eTApiExpr) .no, .v (.int .i64 a0.gAt)] 34)], []⟩ : S)) ?_ ?_
    · skip
      exact WkX.of () (WkS.perm (WkS.cons rfl (Wk.refl _) (WkS.cons rfl (Wk.refl _) (WkS.cons rfl (Wk.refl _) (WkS.nil)))) (List.Perm.refl _) (List.Perm.refl _))
    · intro G16 s16 z16 hm
      refine wpD_seq ?_
      refine wpD_seq ?_
      refine wpD_region ?_
      refine p_pure htab rfl rfl rfl rfl ?_
      refine p_pure htab rfl rfl rfl rfl ?_
      refine p_load 0 htab rfl rfl rfl rfl rfl rfl rfl rfl ?_
      refine p_lenL htab rfl rfl rfl rfl rfl rfl rfl (by first | exact map_len | rfl) ?_
      refine p_pure htab rfl rfl rfl rfl ?_
      refine ops_nil ?_
      refine then_normal ?_
      refine wpD_cond rfl (fun hc25 => ?_) (fun hc25 => ?_)
      · replace hm := yes_t hc25 hm
        refine wpD_skip ?_
        refine then_normal ?_
        refine wpD_seq ?_
        refine wpD_block ?_
        refine wpD_region ?_
        refine p_pure htab rfl rfl rfl rfl ?_
        refine p_pure htab rfl rfl rfl rfl ?_
        refine p_load 0 htab rfl rfl rfl rfl rfl rfl rfl rfl ?_
        refine p_pure htab rfl rfl rfl rfl ?_
        obtain ⟨x26, q26, hm⟩ := yes_bind hm
        refine p_elem htab rfl rfl rfl rfl rfl rfl rfl rfl rfl rfl (idx_nonneg q26) (idx_map q26) ?_
        refine p_eq (i := 16) rfl (Wk.of_eq (congrArg D.el (eTApiExpr_eq x26))) ?_
        refine p_loadEl (d := .agg [.v (.int .i64 x26.gOp), .v (.int .i64 x26.gN), .v (.string x26.gName), .lst 5 (x26.gKids.map eTApiExpr) .no, .v (.int .i64 x26.gAt)]) htab rfl rfl rfl rfl rfl rfl rfl rfl ?_
        obtain ⟨x27, q27, hm⟩ := yes_bind hm
        refine p_call0 (hg0 x26 x27 q27) rfl rfl rfl rfl rfl (WkL.cons (Wk.trans (Wk.agg (WkR.refl _)) (Wk.of_eq (eTApiExpr_eq x26).symm)) (WkL.refl _)) ?_
        rintro _ rfl
        refine p_max rfl rfl rfl rfl rfl rfl ?_
        refine p_pure htab rfl rfl rfl rfl ?_
        refine ops_nil ?_
        refine block_normal ?_
        refine then_normal ?_
        refine wpD_region ?_
        refine p_pure htab rfl rfl rfl rfl ?_
        refine p_pure htab rfl rfl rfl rfl ?_
        refine p_pure htab rfl rfl rfl rfl ?_
        refine ops_nil ?_
        refine then_normal ⟨_, lp_next hm, ?_⟩
        exact WkX.of () (WkS.perm (WkS.cons rfl (Wk.refl _) (WkS.cons rfl (Wk.refl _) (WkS.cons rfl (Wk.refl _) (WkS.nil)))) (List.Perm.refl _) (List.Perm.refl _))
      · replace hm := yes_f hc25 hm
        refine wpD_exit ?_
        refine then_exit ?_
        have e16 := lp_done hm; subst e16; clear hm; have hm := hq16
        refine then_exit ?_
        refine block_hit ?_
        have e15 := yes_eq hm; subst e15
        refine ⟨rfl, ?_⟩
        exact WkX.of () (WkS.perm (WkS.cons rfl (Wk.refl _) (WkS.nil)) (List.Perm.refl _) (List.Perm.refl _))
  · intro s15 hw15; clear hm; have hm := ho15; clear q15 ho15
    refine then_normal ?_
    refine wpD_wkX hw15 (fun z15 => ?_)
    refine wpD_seq ?_
    refine wpD_region ?_
    refine p_pure htab rfl rfl rfl rfl ?_
    refine p_pure htab rfl rfl rfl rfl ?_
    refine p_pure htab rfl rfl rfl rfl ?_
    refine ops_nil ?_
    refine then_normal ?_
    refine wpD_ret ?_
    have er28 := yes_eq hm; subst er28
    refine retX.of (s' := ⟨[(2, .v (.int .i64 (IntKind.i64.wrap ((1 : Int) + y15))))], [], []⟩) (WkS.perm (WkS.cons rfl (Wk.refl _) (WkS.nil)) (List.Perm.refl _) (List.Perm.refl _)) (retD_mk (hh := []) (.inl rfl) (resL_cons (resOne_tmp rfl) (resL_nil)) (List.nil_sublist _) (List.Sublist.refl _) ?_)
    exact ⟨rfl, rfl, rfl⟩
noncomputable def r11_Deep_g : Nat → ((TApiExpr) → Option (Int))
  | 0 => (fun _ => none)
  | n + 1 => (r11_Deep_b ((r11_Deep_g n)))
theorem r11_Deep_g_ok : ∀ n, (∀ (a0 : TApiExpr) (r : Int) (h0 : (r11_Deep_g n) a0 = some r), CallsD Try.prog 18 [eTApiExpr a0] [] [] (fun d h k => d = .v (.int .i64 r) ∧ h = [] ∧ k = []))
  | 0 => fun _ _ h0 => by cases h0
  | n + 1 => by
    have ih := r11_Deep_g_ok n
    exact r11_Deep_b_ok (r11_Deep_g n) ih
theorem r11_Deep_g_le : ∀ n, (∀ (a0 : TApiExpr), Le ((r11_Deep_g n) a0) ((r11_Deep_g (n + 1)) a0))
  | 0 => fun _ => Le.none _
  | n + 1 => by
    have ih := r11_Deep_g_le n
    exact fun a0 => by show Le (r11_Deep_b ((r11_Deep_g n)) a0) (r11_Deep_b ((r11_Deep_g (n + 1))) a0); unfold r11_Deep_b; repeat (first | exact Le.refl _ | exact ih _ | assumption | (refine Le.bind ?_ (fun _ => ?_)) | (refine Le.cond ?_ ?_) | (refine Le.loop (fun _ => ?_)) | (refine Le.elim (fun _ => ?_) (fun _ => ?_)))
noncomputable def r11_Deep (a0 : TApiExpr) : Option (Int) := anyN fun n => (r11_Deep_g n) a0
theorem r11_Deep_of (a0 : TApiExpr) {r : Int} (n : Nat) (h : (r11_Deep_g n) a0 = some r) : r11_Deep a0 = some r := anyN_of (fun m => (r11_Deep_g_le m) a0) h
theorem r11_Deep_ok (a0 : TApiExpr) (r : Int) (h0 : r11_Deep a0 = some r) : CallsD Try.prog 18 [eTApiExpr a0] [] [] (fun d h k => d = .v (.int .i64 r) ∧ h = [] ∧ k = []) :=
  let ⟨n, hn⟩ := anyN_inv h0; (r11_Deep_g_ok n) a0  r hn
end Go.Proofs.Ytphpnbdfngdinaa.Ab
