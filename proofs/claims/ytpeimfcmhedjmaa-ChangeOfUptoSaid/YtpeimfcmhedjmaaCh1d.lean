/- Layer 18: what the functions compute. -/
import Derived.Test.YtpeimfcmhedjmaaCh1c
namespace Go.Proofs.Ytpeimfcmhedjmaa.Ab
open Go
set_option linter.all false
noncomputable def change_funcs_r (a0 : TApiProgram) (a1 : TApiProgram) : Option (List ByteArray) :=
  ((slices_Concat_api_Func_api_Func_r ([a0.gFuncs, a1.gFuncs] : List (List TApiFunc))).bind fun x4 => (Option.bind (α := List ByteArray) (loopM (fun (s85 : List ByteArray × Int) => (bif (decide (s85.2 < (x4.length : Int))) then ((idx x4 s85.2).bind fun x118 => ((change_funcOf a0 x118.gName).bind fun x120 => ((change_funcOf a1 x118.gName).bind fun x122 => (Option.bind (α := Bool) (bif (!(x120.2 == x122.2)) then some true else ((tree_SameFunc x120.1 x122.1).bind fun x128 => some (!x128))) fun y126 => (bif y126 then ((app 16 s85.1 ([x118.gName] : List ByteArray)).bind fun x130 => some (.next (x130, (IntKind.i64.wrap (s85.2 + (1 : Int)))))) else some (.next (s85.1, (IntKind.i64.wrap (s85.2 + (1 : Int)))))))))) else some (.done s85.1))) (([] : List ByteArray), (0 : Int))) fun y68 => ((change_row_r y68).bind fun x132 => some x132)))
set_option maxRecDepth 100000 in
set_option maxHeartbeats 2000000 in
theorem change_funcs_r_ok (a0 : TApiProgram) (a1 : TApiProgram) (r : List ByteArray) (h0 : change_funcs_r a0 a1 = some r) : CallsD Try.prog 17 [eTApiProgram a0, eTApiProgram a1] [] [] (fun d h k => ∃ y0, d = .v (SL y0) ∧ h = [(0, Blk.row 1 (r.map eStr) (SL y0))] ∧ k = []) := by
  have hm := yes_of h0
  unfold change_funcs_r at hm
  clear h0
  refine enterX htab Try.func17 rfl rfl rfl rfl rfl (fun C => ?_)
  refine wpD_seq ?_
  refine wpD_region ?_
  refine p_box rfl rfl rfl rfl rfl rfl rfl (fun b1 => ?_)
  refine p_box rfl rfl rfl rfl rfl rfl rfl (fun b2 => ?_)
  refine p_pure htab rfl rfl rfl rfl ?_
  refine ops_nil ?_
  refine then_normal ?_
  refine wpD_seq ?_
  refine wpD_region ?_
  refine p_pure htab rfl rfl rfl rfl ?_
  refine ops_nil ?_
  refine then_normal ?_
  refine wpD_seq ?_
  refine wpD_seq ?_
  refine wpD_region ?_
  refine p_pure htab rfl rfl rfl rfl ?_
  refine p_load 0 htab rfl rfl rfl rfl rfl rfl rfl rfl ?_
  refine p_pure htab rfl rfl rfl rfl ?_
  refine p_load 1 htab rfl rfl rfl rfl rfl rfl rfl rfl ?_
  refine p_lit htab rfl rfl rfl rfl rfl rfl rfl rfl rfl rfl rfl rfl rfl rfl ?_
  refine p_eq (i := 16) (d' := .lst 1 (([a0.gFuncs, a1.gFuncs] : List (List TApiFunc)).map (eList 5 eTApiFunc)) .full) rfl (Wk.lst0 (.cons (WkC.refl _) (.cons (WkC.refl _) (.nil)))) ?_
  obtain ⟨x4, q4, hm⟩ := yes_bind hm
  refine p_callG (slices_Concat_api_Func_api_Func_r_ok ([a0.gFuncs, a1.gFuncs] : List (List TApiFunc)) x4 q4) rfl rfl rfl rfl rfl (WkL.cons (Wk.no) (WkL.refl _)) (List.Perm.refl _) (List.Perm.refl _) ?_
  rintro _ _ _ ⟨w3, rfl, rfl, rfl⟩
  refine p_lenR 0 htab rfl rfl rfl rfl rfl rfl rfl rfl (by first | exact map_len | rfl) ?_
  refine p_pure htab rfl rfl rfl rfl ?_
  refine ops_nil ?_
  refine then_normal ?_
  obtain ⟨y68, q68, ho68⟩ := yes_bind hm
  refine wpD_mid (Y := Z3) (fun z68 => (⟨[(5, .v (SL z68))], [(0, Blk.row 1 (y68.map eStr) (SL z68)), (b1, Blk.cells [.lst 4 (a0.gGlobals.map eTApiGlobal) .no, .lst 5 (a0.gFuncs.map eTApiFunc) .no] 25), (b2, Blk.cells [.lst 4 (a1.gGlobals.map eTApiGlobal) .no, .lst 5 (a1.gFuncs.map eTApiFunc) .no] 25)], []⟩ : S)) ?_ ?_
  · clear hm; have hm := yes_of q68
    refine wpD_block ?_
    refine wpD_wkX (Y := Unit) (S1 := fun _ => (⟨[(2, .ptr b1 0), (3, .ptr b2 0), (5, .lst 1 [] .full), (17, .lst 5 (x4.map eTApiFunc) (.cur (SL w3))), (18, .v (.int .i64 (x4.length : Int))), (19, .v (.int .i64 (0 : Int)))], [(b1, Blk.cells [.lst 4 (a0.gGlobals.map eTApiGlobal) .no, .lst 5 (a0.gFuncs.map eTApiFunc) .no] 25), (b2, Blk.cells [.lst 4 (a1.gGlobals.map eTApiGlobal) .no, .lst 5 (a1.gFuncs.map eTApiFunc) .no] 25)], [(5, (SL w3))]⟩ : S)) ?_ (fun _ => ?_)
    · skip
      refine WkX.wk (WkS.frz 0 rfl rfl) ?_
      refine WkX.wk (WkS.tld 17 0 rfl rfl) ?_
      refine WkX.wk (WkS.drop 0 rfl) ?_
      exact WkX.of () (WkS.perm (WkS.cons rfl (Wk.refl _) (WkS.cons rfl (Wk.refl _) (WkS.cons rfl (Wk.refl _) (WkS.cons rfl (Wk.refl _) (WkS.cons rfl (Wk.refl _) (WkS.cons rfl (Wk.refl _) (WkS.nil))))))) (List.Perm.refl _) (List.Perm.refl _))
    · skip
      obtain ⟨u85, hl85, hq85⟩ := yes_m hm
      refine loop_M (Y := Z3) hl85 (fun s85 z85 => (⟨[(2, .ptr b1 0), (3, .ptr b2 0), (5, .v (SL z85)), (17, .lst 5 (x4.map eTApiFunc) (.cur (SL w3))), (18, .v (.int .i64 (x4.length : Int))), (19, .v (.int .i64 s85.2))], [(0, Blk.row 1 (s85.1.map eStr) (SL z85)), (b1, Blk.cells [.lst 4 (a0.gGlobals.map eTApiGlobal) .no, .lst 5 (a0.gFuncs.map eTApiFunc) .no] 25), (b2, Blk.cells [.lst 4 (a1.gGlobals.map eTApiGlobal) .no, .lst 5 (a1.gFuncs.map eTApiFunc) .no] 25)], [(5, (SL w3))]⟩ : S)) ?_ ?_
      · skip
        refine WkX.rowN (i := 5) 1 rfl (fun w116 => ?_)
        exact WkX.of w116 (WkS.perm (WkS.cons rfl (Wk.refl _) (WkS.cons rfl (Wk.refl _) (WkS.cons rfl (Wk.refl _) (WkS.cons rfl (Wk.refl _) (WkS.cons rfl (Wk.refl _) (WkS.cons rfl (Wk.refl _) (WkS.nil))))))) (List.Perm.refl _) (List.Perm.refl _))
      · intro G85 s85 z85 hm
        refine wpD_seq ?_
        refine wpD_region ?_
        refine p_pure htab rfl rfl rfl rfl ?_
        refine ops_nil ?_
        refine then_normal ?_
        refine wpD_seq ?_
        refine wpD_cond rfl (fun hc117 => ?_) (fun hc117 => ?_)
        · replace hm := yes_t hc117 hm
          refine wpD_skip ?_
          refine then_normal ?_
          refine wpD_seq ?_
          refine wpD_block ?_
          refine wpD_seq ?_
          refine wpD_region ?_
          obtain ⟨x118, q118, hm⟩ := yes_bind hm
          refine p_elem htab rfl rfl rfl rfl rfl rfl rfl rfl rfl rfl (idx_nonneg q118) (idx_map q118) ?_
          refine p_loadEl (d := eTApiFunc x118) htab rfl rfl rfl rfl rfl rfl rfl rfl ?_
          refine p_alloc htab rfl rfl rfl rfl rfl rfl rfl (fun b119 => ?_)
          refine p_store (ds' := [.v (.string x118.gName), .lst 2 (x118.gParams.map eTApiVar) .no, .lst 2 (x118.gLocals.map eTApiVar) .no, .lst 7 (x118.gBody.map eTApiStmt) .no, .v (.int .i64 x118.gAt)]) (h' := [(0, Blk.row 1 (s85.1.map eStr) (SL z85)), (b1, Blk.cells [.lst 4 (a0.gGlobals.map eTApiGlobal) .no, .lst 5 (a0.gFuncs.map eTApiFunc) .no] 25), (b2, Blk.cells [.lst 4 (a1.gGlobals.map eTApiGlobal) .no, .lst 5 (a1.gFuncs.map eTApiFunc) .no] 25), (b119, Blk.cells [.v (.string x118.gName), .lst 2 (x118.gParams.map eTApiVar) .no, .lst 2 (x118.gLocals.map eTApiVar) .no, .lst 7 (x118.gBody.map eTApiStmt) .no, .v (.int .i64 x118.gAt)] 41)]) 3 htab rfl rfl rfl rfl rfl rfl rfl rfl rfl rfl rfl rfl ?_
          refine ops_nil ?_
          refine then_normal ?_
          refine wpD_seq ?_
          refine wpD_region ?_
          refine p_load (d := eTApiProgram a0) 1 htab rfl rfl rfl rfl rfl rfl rfl rfl ?_
          refine p_pure htab rfl rfl rfl rfl ?_
          refine p_load 3 htab rfl rfl rfl rfl rfl rfl rfl rfl ?_
          obtain ⟨x120, q120, hm⟩ := yes_bind hm
          refine p_call0 (change_funcOf_ok a0 x118.gName x120 q120) rfl rfl rfl rfl rfl (WkL.refl _) ?_
          rintro _ rfl
          refine p_pure htab rfl rfl rfl rfl ?_
          refine p_pure htab rfl rfl rfl rfl ?_
          refine p_pure htab rfl rfl rfl rfl ?_
          refine p_alloc htab rfl rfl rfl rfl rfl rfl rfl (fun b121 => ?_)
          refine p_store (ds' := [.v (.string x120.1.gName), .lst 2 (x120.1.gParams.map eTApiVar) .no, .lst 2 (x120.1.gLocals.map eTApiVar) .no, .lst 7 (x120.1.gBody.map eTApiStmt) .no, .v (.int .i64 x120.1.gAt)]) (h' := [(0, Blk.row 1 (s85.1.map eStr) (SL z85)), (b1, Blk.cells [.lst 4 (a0.gGlobals.map eTApiGlobal) .no, .lst 5 (a0.gFuncs.map eTApiFunc) .no] 25), (b2, Blk.cells [.lst 4 (a1.gGlobals.map eTApiGlobal) .no, .lst 5 (a1.gFuncs.map eTApiFunc) .no] 25), (b119, Blk.cells [.v (.string x118.gName), .lst 2 (x118.gParams.map eTApiVar) .no, .lst 2 (x118.gLocals.map eTApiVar) .no, .lst 7 (x118.gBody.map eTApiStmt) .no, .v (.int .i64 x118.gAt)] 41), (b121, Blk.cells [.v (.string x120.1.gName), .lst 2 (x120.1.gParams.map eTApiVar) .no, .lst 2 (x120.1.gLocals.map eTApiVar) .no, .lst 7 (x120.1.gBody.map eTApiStmt) .no, .v (.int .i64 x120.1.gAt)] 41)]) 4 htab rfl rfl rfl rfl rfl rfl rfl rfl rfl rfl rfl rfl ?_
          refine p_pure htab rfl rfl rfl rfl ?_
          refine ops_nil ?_
          refine then_normal ?_
          refine wpD_seq ?_
          refine wpD_region ?_
          refine p_load (d := eTApiProgram a1) 2 htab rfl rfl rfl rfl rfl rfl rfl rfl ?_
          refine p_pure htab rfl rfl rfl rfl ?_
          refine p_load 3 htab rfl rfl rfl rfl rfl rfl rfl rfl ?_
          obtain ⟨x122, q122, hm⟩ := yes_bind hm
          refine p_call0 (change_funcOf_ok a1 x118.gName x122 q122) rfl rfl rfl rfl rfl (WkL.refl _) ?_
          rintro _ rfl
          refine p_pure htab rfl rfl rfl rfl ?_
          refine p_pure htab rfl rfl rfl rfl ?_
          refine p_pure htab rfl rfl rfl rfl ?_
          refine p_alloc htab rfl rfl rfl rfl rfl rfl rfl (fun b123 => ?_)
          refine p_store (ds' := [.v (.string x122.1.gName), .lst 2 (x122.1.gParams.map eTApiVar) .no, .lst 2 (x122.1.gLocals.map eTApiVar) .no, .lst 7 (x122.1.gBody.map eTApiStmt) .no, .v (.int .i64 x122.1.gAt)]) (h' := [(0, Blk.row 1 (s85.1.map eStr) (SL z85)), (b1, Blk.cells [.lst 4 (a0.gGlobals.map eTApiGlobal) .no, .lst 5 (a0.gFuncs.map eTApiFunc) .no] 25), (b2, Blk.cells [.lst 4 (a1.gGlobals.map eTApiGlobal) .no, .lst 5 (a1.gFuncs.map eTApiFunc) .no] 25), (b119, Blk.cells [.v (.string x118.gName), .lst 2 (x118.gParams.map eTApiVar) .no, .lst 2 (x118.gLocals.map eTApiVar) .no, .lst 7 (x118.gBody.map eTApiStmt) .no, .v (.int .i64 x118.gAt)] 41), (b121, Blk.cells [.v (.string x120.1.gName), .lst 2 (x120.1.gParams.map eTApiVar) .no, .lst 2 (x120.1.gLocals.map eTApiVar) .no, .lst 7 (x120.1.gBody.map eTApiStmt) .no, .v (.int .i64 x120.1.gAt)] 41), (b123, Blk.cells [.v (.string x122.1.gName), .lst 2 (x122.1.gParams.map eTApiVar) .no, .lst 2 (x122.1.gLocals.map eTApiVar) .no, .lst 7 (x122.1.gBody.map eTApiStmt) .no, .v (.int .i64 x122.1.gAt)] 41)]) 5 htab rfl rfl rfl rfl rfl rfl rfl rfl rfl rfl rfl rfl ?_
          refine p_pure htab rfl rfl rfl rfl ?_
          refine ops_nil ?_
          refine then_normal ?_
          refine wpD_seq ?_
          obtain ⟨y126, q126, ho126⟩ := yes_bind hm
          refine wpD_mid (Y := Unit) (fun z126 => (⟨[(2, .ptr b1 0), (3, .ptr b2 0), (5, .v (SL z85)), (7, .ptr b119 0), (17, .lst 5 (x4.map eTApiFunc) (.cur (SL w3))), (18, .v (.int .i64 (x4.length : Int))), (19, .v (.int .i64 s85.2)), (45, .v (.bool y126))], [(0, Blk.row 1 (s85.1.map eStr) (SL z85)), (b1, Blk.cells [.lst 4 (a0.gGlobals.map eTApiGlobal) .no, .lst 5 (a0.gFuncs.map eTApiFunc) .no] 25), (b2, Blk.cells [.lst 4 (a1.gGlobals.map eTApiGlobal) .no, .lst 5 (a1.gFuncs.map eTApiFunc) .no] 25), (b119, Blk.cells [.v (.string x118.gName), .lst 2 (x118.gParams.map eTApiVar) .no, .lst 2 (x118.gLocals.map eTApiVar) .no, .lst 7 (x118.gBody.map eTApiStmt) .no, .v (.int .i64 x118.gAt)] 41), (b121, Blk.cells [.v (.string x120.1.gName), .lst 2 (x120.1.gParams.map eTApiVar) .no, .lst 2 (x120.1.gLocals.map eTApiVar) .no, .lst 7 (x120.1.gBody.map eTApiStmt) .no, .v (.int .i64 x120.1.gAt)] 41), (b123, Blk.cells [.v (.string x122.1.gName), .lst 2 (x122.1.gParams.map eTApiVar) .no, .lst 2 (x122.1.gLocals.map eTApiVar) .no, .lst 7 (x122.1.gBody.map eTApiStmt) .no, .v (.int .i64 x122.1.gAt)] 41)], [(5, (SL w3))]⟩ : S)) ?_ ?_
          · clear hm; have hm := yes_of q126
            refine wpD_region ?_
            refine p_pure htab rfl rfl rfl rfl ?_
            refine p_pure htab rfl rfl rfl rfl ?_
            refine p_pure htab rfl rfl rfl rfl ?_
            refine p_pure htab rfl rfl rfl rfl ?_
            refine p_split (i := 40) rfl (fun hg127 => ?_) (fun hg127 => ?_)
            · replace hm := yes_t hg127 hm
              refine p_skip rfl rfl rfl ?_
              refine p_skip rfl rfl rfl ?_
              refine p_skip rfl rfl rfl ?_
              refine p_skip rfl rfl rfl ?_
              refine p_pickT rfl rfl rfl rfl rfl rfl ?_
              refine ops_nil ?_
              have e126 := yes_eq hm; subst e126
              refine ⟨rfl, ?_⟩
              exact WkX.of () (WkS.perm (WkS.cons rfl (Wk.refl _) (WkS.cons rfl (Wk.refl _) (WkS.cons rfl (Wk.refl _) (WkS.cons rfl (Wk.refl _) (WkS.cons rfl (Wk.refl _) (WkS.cons rfl (Wk.refl _) (WkS.cons rfl (Wk.refl _) (WkS.cons rfl (Wk.refl _) (WkS.nil))))))))) (List.Perm.refl _) (List.Perm.refl _))
            · replace hm := yes_f hg127 hm
              refine p_load (d := eTApiFunc x120.1) 4 htab rfl rfl rfl rfl rfl rfl rfl rfl ?_
              refine p_load (d := eTApiFunc x122.1) 5 htab rfl rfl rfl rfl rfl rfl rfl rfl ?_
              obtain ⟨x128, q128, hm⟩ := yes_bind hm
              refine p_call0 (tree_SameFunc_ok x120.1 x122.1 x128 q128) rfl rfl rfl rfl rfl (WkL.refl _) ?_
              rintro _ rfl
              refine p_pure htab rfl rfl rfl rfl ?_
              refine p_pickF rfl rfl rfl rfl rfl rfl ?_
              refine ops_nil ?_
              have e126 := yes_eq hm; subst e126
              refine ⟨rfl, ?_⟩
              exact WkX.of () (WkS.perm (WkS.cons rfl (Wk.refl _) (WkS.cons rfl (Wk.refl _) (WkS.cons rfl (Wk.refl _) (WkS.cons rfl (Wk.refl _) (WkS.cons rfl (Wk.refl _) (WkS.cons rfl (Wk.refl _) (WkS.cons rfl (Wk.refl _) (WkS.cons rfl (Wk.refl _) (WkS.nil))))))))) (List.Perm.refl _) (List.Perm.refl _))
          · intro s126 hw126; clear hm; have hm := ho126; clear q126 ho126
            refine then_normal ?_
            refine wpD_wkX hw126 (fun z126 => ?_)
            refine wpD_cond rfl (fun hc129 => ?_) (fun hc129 => ?_)
            · replace hm := yes_t hc129 hm
              refine wpD_region ?_
              refine p_pure htab rfl rfl rfl rfl ?_
              refine p_pure htab rfl rfl rfl rfl ?_
              refine p_load 3 htab rfl rfl rfl rfl rfl rfl rfl rfl ?_
              refine p_lit htab rfl rfl rfl rfl rfl rfl rfl rfl rfl rfl rfl rfl rfl rfl ?_
              refine p_eq (i := 49) (d' := .lst 1 (([x118.gName] : List ByteArray).map eStr) .full) rfl (Wk.lst0 (.cons (WkC.refl _) (.nil))) ?_
              obtain ⟨x130, q130, hm⟩ := yes_bind hm
              refine p_appR2 0 htab rfl rfl rfl rfl rfl rfl rfl rfl rfl rfl rfl rfl rfl rfl rfl rfl (app_bound q130) (app_map q130) (fun v130 => ?_)
              refine p_pure htab rfl rfl rfl rfl ?_
              refine ops_nil ?_
              refine block_normal ?_
              refine then_normal ?_
              refine wpD_region ?_
              refine p_pure htab rfl rfl rfl rfl ?_
              refine p_pure htab rfl rfl rfl rfl ?_
              refine ops_nil ?_
              refine then_normal ⟨_, lp_next hm, ?_⟩
              exact WkX.of v130 (WkS.perm (WkS.cons rfl (Wk.refl _) (WkS.cons rfl (Wk.refl _) (WkS.cons rfl (Wk.refl _) (WkS.cons rfl (Wk.refl _) (WkS.cons rfl (Wk.refl _) (WkS.cons rfl (Wk.refl _) (WkS.nil))))))) (List.Perm.refl _) (List.Perm.refl _))
            · replace hm := yes_f hc129 hm
              refine wpD_skip ?_
              refine block_normal ?_
              refine then_normal ?_
              refine wpD_region ?_
              refine p_pure htab rfl rfl rfl rfl ?_
              refine p_pure htab rfl rfl rfl rfl ?_
              refine ops_nil ?_
              refine then_normal ⟨_, lp_next hm, ?_⟩
              exact WkX.of z85 (WkS.perm (WkS.cons rfl (Wk.refl _) (WkS.cons rfl (Wk.refl _) (WkS.cons rfl (Wk.refl _) (WkS.cons rfl (Wk.refl _) (WkS.cons rfl (Wk.refl _) (WkS.cons rfl (Wk.refl _) (WkS.nil))))))) (List.Perm.refl _) (List.Perm.refl _))
        · replace hm := yes_f hc117 hm
          refine wpD_exit ?_
          refine then_exit ?_
          have e85 := lp_done hm; subst e85; clear hm; have hm := hq85
          refine then_exit ?_
          refine block_hit ?_
          have e68 := yes_eq hm; subst e68
          refine ⟨rfl, ?_⟩
          exact WkX.of z85 (WkS.perm (WkS.cons rfl (Wk.refl _) (WkS.nil)) (List.Perm.refl _) (List.Perm.refl _))
  · intro s68 hw68; clear hm; have hm := ho68; clear q68 ho68
    refine then_normal ?_
    refine wpD_wkX hw68 (fun z68 => ?_)
    refine wpD_seq ?_
    refine wpD_region ?_
    refine p_pure htab rfl rfl rfl rfl ?_
    obtain ⟨x132, q132, hm⟩ := yes_bind hm
    refine p_callG (change_row_r_ok y68 z68 x132 q132) rfl rfl rfl rfl rfl (WkL.refl _) (List.Perm.refl _) (List.Perm.refl _) ?_
    rintro _ _ _ ⟨w131, rfl, rfl, rfl⟩
    refine p_pure htab rfl rfl rfl rfl ?_
    refine ops_nil ?_
    refine then_normal ?_
    refine wpD_ret ?_
    have er133 := yes_eq hm; subst er133
    refine retX.of (s' := ⟨[(4, .v (SL w131))], [(0, Blk.row 1 (x132.map eStr) (SL w131))], []⟩) (WkS.perm (WkS.cons rfl (Wk.refl _) (WkS.nil)) (List.Perm.refl _) (List.Perm.refl _)) (retD_mk (hh := [(0, Blk.row 1 (x132.map eStr) (SL w131))]) (.inl rfl) (resL_cons (resOne_tmp rfl) (resL_nil)) (List.Sublist.refl _) (List.Sublist.refl _) ?_)
    exact ⟨w131, rfl, rfl, rfl⟩
noncomputable def change_globals_r (a0 : TApiProgram) (a1 : TApiProgram) : Option (List ByteArray) :=
  ((slices_Concat_api_Global_api_Global_r ([a0.gGlobals, a1.gGlobals] : List (List TApiGlobal))).bind fun x4 => (Option.bind (α := List ByteArray) (loopM (fun (s85 : List ByteArray × Int) => (bif (decide (s85.2 < (x4.length : Int))) then ((idx x4 s85.2).bind fun x118 => ((change_globalOf a0 x118.gName).bind fun x120 => ((change_globalOf a1 x118.gName).bind fun x122 => (Option.bind (α := Bool) (bif (!(x120.2 == x122.2)) then some true else (bif (!(x120.1.gPtr == x122.1.gPtr)) then some true else some (x120.1.gSize != x122.1.gSize))) fun y126 => (bif y126 then ((app 16 s85.1 ([x118.gName] : List ByteArray)).bind fun x130 => some (.next (x130, (IntKind.i64.wrap (s85.2 + (1 : Int)))))) else some (.next (s85.1, (IntKind.i64.wrap (s85.2 + (1 : Int)))))))))) else some (.done s85.1))) (([] : List ByteArray), (0 : Int))) fun y68 => ((change_row_r y68).bind fun x132 => some x132)))
set_option maxRecDepth 100000 in
set_option maxHeartbeats 2000000 in
theorem change_globals_r_ok (a0 : TApiProgram) (a1 : TApiProgram) (r : List ByteArray) (h0 : change_globals_r a0 a1 = some r) : CallsD Try.prog 18 [eTApiProgram a0, eTApiProgram a1] [] [] (fun d h k => ∃ y0, d = .v (SL y0) ∧ h = [(0, Blk.row 1 (r.map eStr) (SL y0))] ∧ k = []) := by
  have hm := yes_of h0
  unfold change_globals_r at hm
  clear h0
  refine enterX htab Try.func18 rfl rfl rfl rfl rfl (fun C => ?_)
  refine wpD_seq ?_
  refine wpD_region ?_
  refine p_box rfl rfl rfl rfl rfl rfl rfl (fun b1 => ?_)
  refine p_box rfl rfl rfl rfl rfl rfl rfl (fun b2 => ?_)
  refine p_pure htab rfl rfl rfl rfl ?_
  refine ops_nil ?_
  refine then_normal ?_
  refine wpD_seq ?_
  refine wpD_region ?_
  refine p_pure htab rfl rfl rfl rfl ?_
  refine ops_nil ?_
  refine then_normal ?_
  refine wpD_seq ?_
  refine wpD_seq ?_
  refine wpD_region ?_
  refine p_pure htab rfl rfl rfl rfl ?_
  refine p_load 0 htab rfl rfl rfl rfl rfl rfl rfl rfl ?_
  refine p_pure htab rfl rfl rfl rfl ?_
  refine p_load 1 htab rfl rfl rfl rfl rfl rfl rfl rfl ?_
  refine p_lit htab rfl rfl rfl rfl rfl rfl rfl rfl rfl rfl rfl rfl rfl rfl ?_
  refine p_eq (i := 16) (d' := .lst 1 (([a0.gGlobals, a1.gGlobals] : List (List TApiGlobal)).map (eList 4 eTApiGlobal)) .full) rfl (Wk.lst0 (.cons (WkC.refl _) (.cons (WkC.refl _) (.nil)))) ?_
  obtain ⟨x4, q4, hm⟩ := yes_bind hm
  refine p_callG (slices_Concat_api_Global_api_Global_r_ok ([a0.gGlobals, a1.gGlobals] : List (List TApiGlobal)) x4 q4) rfl rfl rfl rfl rfl (WkL.cons (Wk.no) (WkL.refl _)) (List.Perm.refl _) (List.Perm.refl _) ?_
  rintro _ _ _ ⟨w3, rfl, rfl, rfl⟩
  refine p_lenR 0 htab rfl rfl rfl rfl rfl rfl rfl rfl (by first | exact map_len | rfl) ?_
  refine p_pure htab rfl rfl rfl rfl ?_
  refine ops_nil ?_
  refine then_normal ?_
  obtain ⟨y68, q68, ho68⟩ := yes_bind hm
  refine wpD_mid (Y := Z3) (fun z68 => (⟨[(5, .v (SL z68))], [(0, Blk.row 1 (y68.map eStr) (SL z68)), (b1, Blk.cells [.lst 4 (a0.gGlobals.map eTApiGlobal) .no, .lst 5 (a0.gFuncs.map eTApiFunc) .no] 25), (b2, Blk.cells [.lst 4 (a1.gGlobals.map eTApiGlobal) .no, .lst 5 (a1.gFuncs.map eTApiFunc) .no] 25)], []⟩ : S)) ?_ ?_
  · clear hm; have hm := yes_of q68
    refine wpD_block ?_
    refine wpD_wkX (Y := Unit) (S1 := fun _ => (⟨[(2, .ptr b1 0), (3, .ptr b2 0), (5, .lst 1 [] .full), (17, .lst 4 (x4.map eTApiGlobal) (.cur (SL w3))), (18, .v (.int .i64 (x4.length : Int))), (19, .v (.int .i64 (0 : Int)))], [(b1, Blk.cells [.lst 4 (a0.gGlobals.map eTApiGlobal) .no, .lst 5 (a0.gFuncs.map eTApiFunc) .no] 25), (b2, Blk.cells [.lst 4 (a1.gGlobals.map eTApiGlobal) .no, .lst 5 (a1.gFuncs.map eTApiFunc) .no] 25)], [(4, (SL w3))]⟩ : S)) ?_ (fun _ => ?_)
    · skip
      refine WkX.wk (WkS.frz 0 rfl rfl) ?_
      refine WkX.wk (WkS.tld 17 0 rfl rfl) ?_
      refine WkX.wk (WkS.drop 0 rfl) ?_
      exact WkX.of () (WkS.perm (WkS.cons rfl (Wk.refl _) (WkS.cons rfl (Wk.refl _) (WkS.cons rfl (Wk.refl _) (WkS.cons rfl (Wk.refl _) (WkS.cons rfl (Wk.refl _) (WkS.cons rfl (Wk.refl _) (WkS.nil))))))) (List.Perm.refl _) (List.Perm.refl _))
    · skip
      obtain ⟨u85, hl85, hq85⟩ := yes_m hm
      refine loop_M (Y := Z3) hl85 (fun s85 z85 => (⟨[(2, .ptr b1 0), (3, .ptr b2 0), (5, .v (SL z85)), (17, .lst 4 (x4.map eTApiGlobal) (.cur (SL w3))), (18, .v (.int .i64 (x4.length : Int))), (19, .v (.int .i64 s85.2))], [(0, Blk.row 1 (s85.1.map eStr) (SL z85)), (b1, Blk.cells [.lst 4 (a0.gGlobals.map eTApiGlobal) .no, .lst 5 (a0.gFuncs.map eTApiFunc) .no] 25), (b2, Blk.cells [.lst 4 (a1.gGlobals.map eTApiGlobal) .no, .lst 5 (a1.gFuncs.map eTApiFunc) .no] 25)], [(4, (SL w3))]⟩ : S)) ?_ ?_
      · skip
        refine WkX.rowN (i := 5) 1 rfl (fun w116 => ?_)
        exact WkX.of w116 (WkS.perm (WkS.cons rfl (Wk.refl _) (WkS.cons rfl (Wk.refl _) (WkS.cons rfl (Wk.refl _) (WkS.cons rfl (Wk.refl _) (WkS.cons rfl (Wk.refl _) (WkS.cons rfl (Wk.refl _) (WkS.nil))))))) (List.Perm.refl _) (List.Perm.refl _))
      · intro G85 s85 z85 hm
        refine wpD_seq ?_
        refine wpD_region ?_
        refine p_pure htab rfl rfl rfl rfl ?_
        refine ops_nil ?_
        refine then_normal ?_
        refine wpD_seq ?_
        refine wpD_cond rfl (fun hc117 => ?_) (fun hc117 => ?_)
        · replace hm := yes_t hc117 hm
          refine wpD_skip ?_
          refine then_normal ?_
          refine wpD_seq ?_
          refine wpD_block ?_
          refine wpD_seq ?_
          refine wpD_region ?_
          obtain ⟨x118, q118, hm⟩ := yes_bind hm
          refine p_elem htab rfl rfl rfl rfl rfl rfl rfl rfl rfl rfl (idx_nonneg q118) (idx_map q118) ?_
          refine p_loadEl (d := eTApiGlobal x118) htab rfl rfl rfl rfl rfl rfl rfl rfl ?_
          refine p_alloc htab rfl rfl rfl rfl rfl rfl rfl (fun b119 => ?_)
          refine p_store (ds' := [.v (.string x118.gName), .v (.bool x118.gPtr), .v (.int .i64 x118.gSize), .v (.int .i64 x118.gAt)]) (h' := [(0, Blk.row 1 (s85.1.map eStr) (SL z85)), (b1, Blk.cells [.lst 4 (a0.gGlobals.map eTApiGlobal) .no, .lst 5 (a0.gFuncs.map eTApiFunc) .no] 25), (b2, Blk.cells [.lst 4 (a1.gGlobals.map eTApiGlobal) .no, .lst 5 (a1.gFuncs.map eTApiFunc) .no] 25), (b119, Blk.cells [.v (.string x118.gName), .v (.bool x118.gPtr), .v (.int .i64 x118.gSize), .v (.int .i64 x118.gAt)] 61)]) 3 htab rfl rfl rfl rfl rfl rfl rfl rfl rfl rfl rfl rfl ?_
          refine ops_nil ?_
          refine then_normal ?_
          refine wpD_seq ?_
          refine wpD_region ?_
          refine p_load (d := eTApiProgram a0) 1 htab rfl rfl rfl rfl rfl rfl rfl rfl ?_
          refine p_pure htab rfl rfl rfl rfl ?_
          refine p_load 3 htab rfl rfl rfl rfl rfl rfl rfl rfl ?_
          obtain ⟨x120, q120, hm⟩ := yes_bind hm
          refine p_call0 (change_globalOf_ok a0 x118.gName x120 q120) rfl rfl rfl rfl rfl (WkL.refl _) ?_
          rintro _ rfl
          refine p_pure htab rfl rfl rfl rfl ?_
          refine p_pure htab rfl rfl rfl rfl ?_
          refine p_pure htab rfl rfl rfl rfl ?_
          refine p_alloc htab rfl rfl rfl rfl rfl rfl rfl (fun b121 => ?_)
          refine p_store (ds' := [.v (.string x120.1.gName), .v (.bool x120.1.gPtr), .v (.int .i64 x120.1.gSize), .v (.int .i64 x120.1.gAt)]) (h' := [(0, Blk.row 1 (s85.1.map eStr) (SL z85)), (b1, Blk.cells [.lst 4 (a0.gGlobals.map eTApiGlobal) .no, .lst 5 (a0.gFuncs.map eTApiFunc) .no] 25), (b2, Blk.cells [.lst 4 (a1.gGlobals.map eTApiGlobal) .no, .lst 5 (a1.gFuncs.map eTApiFunc) .no] 25), (b119, Blk.cells [.v (.string x118.gName), .v (.bool x118.gPtr), .v (.int .i64 x118.gSize), .v (.int .i64 x118.gAt)] 61), (b121, Blk.cells [.v (.string x120.1.gName), .v (.bool x120.1.gPtr), .v (.int .i64 x120.1.gSize), .v (.int .i64 x120.1.gAt)] 61)]) 4 htab rfl rfl rfl rfl rfl rfl rfl rfl rfl rfl rfl rfl ?_
          refine p_pure htab rfl rfl rfl rfl ?_
          refine ops_nil ?_
          refine then_normal ?_
          refine wpD_seq ?_
          refine wpD_region ?_
          refine p_load (d := eTApiProgram a1) 2 htab rfl rfl rfl rfl rfl rfl rfl rfl ?_
          refine p_pure htab rfl rfl rfl rfl ?_
          refine p_load 3 htab rfl rfl rfl rfl rfl rfl rfl rfl ?_
          obtain ⟨x122, q122, hm⟩ := yes_bind hm
          refine p_call0 (change_globalOf_ok a1 x118.gName x122 q122) rfl rfl rfl rfl rfl (WkL.refl _) ?_
          rintro _ rfl
          refine p_pure htab rfl rfl rfl rfl ?_
          refine p_pure htab rfl rfl rfl rfl ?_
          refine p_pure htab rfl rfl rfl rfl ?_
          refine p_alloc htab rfl rfl rfl rfl rfl rfl rfl (fun b123 => ?_)
          refine p_store (ds' := [.v (.string x122.1.gName), .v (.bool x122.1.gPtr), .v (.int .i64 x122.1.gSize), .v (.int .i64 x122.1.gAt)]) (h' := [(0, Blk.row 1 (s85.1.map eStr) (SL z85)), (b1, Blk.cells [.lst 4 (a0.gGlobals.map eTApiGlobal) .no, .lst 5 (a0.gFuncs.map eTApiFunc) .no] 25), (b2, Blk.cells [.lst 4 (a1.gGlobals.map eTApiGlobal) .no, .lst 5 (a1.gFuncs.map eTApiFunc) .no] 25), (b119, Blk.cells [.v (.string x118.gName), .v (.bool x118.gPtr), .v (.int .i64 x118.gSize), .v (.int .i64 x118.gAt)] 61), (b121, Blk.cells [.v (.string x120.1.gName), .v (.bool x120.1.gPtr), .v (.int .i64 x120.1.gSize), .v (.int .i64 x120.1.gAt)] 61), (b123, Blk.cells [.v (.string x122.1.gName), .v (.bool x122.1.gPtr), .v (.int .i64 x122.1.gSize), .v (.int .i64 x122.1.gAt)] 61)]) 5 htab rfl rfl rfl rfl rfl rfl rfl rfl rfl rfl rfl rfl ?_
          refine p_pure htab rfl rfl rfl rfl ?_
          refine ops_nil ?_
          refine then_normal ?_
          refine wpD_seq ?_
          obtain ⟨y126, q126, ho126⟩ := yes_bind hm
          refine wpD_mid (Y := Unit) (fun z126 => (⟨[(2, .ptr b1 0), (3, .ptr b2 0), (5, .v (SL z85)), (7, .ptr b119 0), (17, .lst 4 (x4.map eTApiGlobal) (.cur (SL w3))), (18, .v (.int .i64 (x4.length : Int))), (19, .v (.int .i64 s85.2)), (53, .v (.bool y126))], [(0, Blk.row 1 (s85.1.map eStr) (SL z85)), (b1, Blk.cells [.lst 4 (a0.gGlobals.map eTApiGlobal) .no, .lst 5 (a0.gFuncs.map eTApiFunc) .no] 25), (b2, Blk.cells [.lst 4 (a1.gGlobals.map eTApiGlobal) .no, .lst 5 (a1.gFuncs.map eTApiFunc) .no] 25), (b119, Blk.cells [.v (.string x118.gName), .v (.bool x118.gPtr), .v (.int .i64 x118.gSize), .v (.int .i64 x118.gAt)] 61), (b121, Blk.cells [.v (.string x120.1.gName), .v (.bool x120.1.gPtr), .v (.int .i64 x120.1.gSize), .v (.int .i64 x120.1.gAt)] 61), (b123, Blk.cells [.v (.string x122.1.gName), .v (.bool x122.1.gPtr), .v (.int .i64 x122.1.gSize), .v (.int .i64 x122.1.gAt)] 61)], [(4, (SL w3))]⟩ : S)) ?_ ?_
          · clear hm; have hm := yes_of q126
            refine wpD_region ?_
            refine p_pure htab rfl rfl rfl rfl ?_
            refine p_pure htab rfl rfl rfl rfl ?_
            refine p_pure htab rfl rfl rfl rfl ?_
            refine p_pure htab rfl rfl rfl rfl ?_
            refine p_split (i := 40) rfl (fun hg127 => ?_) (fun hg127 => ?_)
            · replace hm := yes_t hg127 hm
              refine p_skip rfl rfl rfl ?_
              refine p_skip rfl rfl rfl ?_
              refine p_skip rfl rfl rfl ?_
              refine p_skip rfl rfl rfl ?_
              refine p_skip rfl rfl rfl ?_
              refine p_pickT rfl rfl rfl rfl rfl rfl ?_
              refine p_pure htab rfl rfl rfl rfl ?_
              refine p_skip rfl rfl rfl ?_
              refine p_skip rfl rfl rfl ?_
              refine p_skip rfl rfl rfl ?_
              refine p_skip rfl rfl rfl ?_
              refine p_skip rfl rfl rfl ?_
              refine p_pickT rfl rfl rfl rfl rfl rfl ?_
              refine ops_nil ?_
              have e126 := yes_eq hm; subst e126
              refine ⟨rfl, ?_⟩
              exact WkX.of () (WkS.perm (WkS.cons rfl (Wk.refl _) (WkS.cons rfl (Wk.refl _) (WkS.cons rfl (Wk.refl _) (WkS.cons rfl (Wk.refl _) (WkS.cons rfl (Wk.refl _) (WkS.cons rfl (Wk.refl _) (WkS.cons rfl (Wk.refl _) (WkS.cons rfl (Wk.refl _) (WkS.nil))))))))) (List.Perm.refl _) (List.Perm.refl _))
            · replace hm := yes_f hg127 hm
              refine p_pure htab rfl rfl rfl rfl ?_
              refine p_load 4 htab rfl rfl rfl rfl rfl rfl rfl rfl ?_
              refine p_pure htab rfl rfl rfl rfl ?_
              refine p_load 5 htab rfl rfl rfl rfl rfl rfl rfl rfl ?_
              refine p_pure htab rfl rfl rfl rfl ?_
              refine p_pickF rfl rfl rfl rfl rfl rfl ?_
              refine p_pure htab rfl rfl rfl rfl ?_
              refine p_split (i := 47) rfl (fun hg128 => ?_) (fun hg128 => ?_)
              · replace hm := yes_t hg128 hm
                refine p_skip rfl rfl rfl ?_
                refine p_skip rfl rfl rfl ?_
                refine p_skip rfl rfl rfl ?_
                refine p_skip rfl rfl rfl ?_
                refine p_skip rfl rfl rfl ?_
                refine p_pickT rfl rfl rfl rfl rfl rfl ?_
                refine ops_nil ?_
                have e126 := yes_eq hm; subst e126
                refine ⟨rfl, ?_⟩
                exact WkX.of () (WkS.perm (WkS.cons rfl (Wk.refl _) (WkS.cons rfl (Wk.refl _) (WkS.cons rfl (Wk.refl _) (WkS.cons rfl (Wk.refl _) (WkS.cons rfl (Wk.refl _) (WkS.cons rfl (Wk.refl _) (WkS.cons rfl (Wk.refl _) (WkS.cons rfl (Wk.refl _) (WkS.nil))))))))) (List.Perm.refl _) (List.Perm.refl _))
              · replace hm := yes_f hg128 hm
                refine p_pure htab rfl rfl rfl rfl ?_
                refine p_load 4 htab rfl rfl rfl rfl rfl rfl rfl rfl ?_
                refine p_pure htab rfl rfl rfl rfl ?_
                refine p_load 5 htab rfl rfl rfl rfl rfl rfl rfl rfl ?_
                refine p_pure htab rfl rfl rfl rfl ?_
                refine p_pickF rfl rfl rfl rfl rfl rfl ?_
                refine ops_nil ?_
                have e126 := yes_eq hm; subst e126
                refine ⟨rfl, ?_⟩
                exact WkX.of () (WkS.perm (WkS.cons rfl (Wk.refl _) (WkS.cons rfl (Wk.refl _) (WkS.cons rfl (Wk.refl _) (WkS.cons rfl (Wk.refl _) (WkS.cons rfl (Wk.refl _) (WkS.cons rfl (Wk.refl _) (WkS.cons rfl (Wk.refl _) (WkS.cons rfl (Wk.refl _) (WkS.nil))))))))) (List.Perm.refl _) (List.Perm.refl _))
          · intro s126 hw126; clear hm; have hm := ho126; clear q126 ho126
            refine then_normal ?_
            refine wpD_wkX hw126 (fun z126 => ?_)
            refine wpD_cond rfl (fun hc129 => ?_) (fun hc129 => ?_)
            · replace hm := yes_t hc129 hm
              refine wpD_region ?_
              refine p_pure htab rfl rfl rfl rfl ?_
              refine p_pure htab rfl rfl rfl rfl ?_
              refine p_load 3 htab rfl rfl rfl rfl rfl rfl rfl rfl ?_
              refine p_lit htab rfl rfl rfl rfl rfl rfl rfl rfl rfl rfl rfl rfl rfl rfl ?_
              refine p_eq (i := 57) (d' := .lst 1 (([x118.gName] : List ByteArray).map eStr) .full) rfl (Wk.lst0 (.cons (WkC.refl _) (.nil))) ?_
              obtain ⟨x130, q130, hm⟩ := yes_bind hm
              refine p_appR2 0 htab rfl rfl rfl rfl rfl rfl rfl rfl rfl rfl rfl rfl rfl rfl rfl rfl (app_bound q130) (app_map q130) (fun v130 => ?_)
              refine p_pure htab rfl rfl rfl rfl ?_
              refine ops_nil ?_
              refine block_normal ?_
              refine then_normal ?_
              refine wpD_region ?_
              refine p_pure htab rfl rfl rfl rfl ?_
              refine p_pure htab rfl rfl rfl rfl ?_
              refine ops_nil ?_
              refine then_normal ⟨_, lp_next hm, ?_⟩
              exact WkX.of v130 (WkS.perm (WkS.cons rfl (Wk.refl _) (WkS.cons rfl (Wk.refl _) (WkS.cons rfl (Wk.refl _) (WkS.cons rfl (Wk.refl _) (WkS.cons rfl (Wk.refl _) (WkS.cons rfl (Wk.refl _) (WkS.nil))))))) (List.Perm.refl _) (List.Perm.refl _))
            · replace hm := yes_f hc129 hm
              refine wpD_skip ?_
              refine block_normal ?_
              refine then_normal ?_
              refine wpD_region ?_
              refine p_pure htab rfl rfl rfl rfl ?_
              refine p_pure htab rfl rfl rfl rfl ?_
              refine ops_nil ?_
              refine then_normal ⟨_, lp_next hm, ?_⟩
              exact WkX.of z85 (WkS.perm (WkS.cons rfl (Wk.refl _) (WkS.cons rfl (Wk.refl _) (WkS.cons rfl (Wk.refl _) (WkS.cons rfl (Wk.refl _) (WkS.cons rfl (Wk.refl _) (WkS.cons rfl (Wk.refl _) (WkS.nil))))))) (List.Perm.refl _) (List.Perm.refl _))
        · replace hm := yes_f hc117 hm
          refine wpD_exit ?_
          refine then_exit ?_
          have e85 := lp_done hm; subst e85; clear hm; have hm := hq85
          refine then_exit ?_
          refine block_hit ?_
          have e68 := yes_eq hm; subst e68
          refine ⟨rfl, ?_⟩
          exact WkX.of z85 (WkS.perm (WkS.cons rfl (Wk.refl _) (WkS.nil)) (List.Perm.refl _) (List.Perm.refl _))
  · intro s68 hw68; clear hm; have hm := ho68; clear q68 ho68
    refine then_normal ?_
    refine wpD_wkX hw68 (fun z68 => ?_)
    refine wpD_seq ?_
    refine wpD_region ?_
    refine p_pure htab rfl rfl rfl rfl ?_
    obtain ⟨x132, q132, hm⟩ := yes_bind hm
    refine p_callG (change_row_r_ok y68 z68 x132 q132) rfl rfl rfl rfl rfl (WkL.refl _) (List.Perm.refl _) (List.Perm.refl _) ?_
    rintro _ _ _ ⟨w131, rfl, rfl, rfl⟩
    refine p_pure htab rfl rfl rfl rfl ?_
    refine ops_nil ?_
    refine then_normal ?_
    refine wpD_ret ?_
    have er133 := yes_eq hm; subst er133
    refine retX.of (s' := ⟨[(4, .v (SL w131))], [(0, Blk.row 1 (x132.map eStr) (SL w131))], []⟩) (WkS.perm (WkS.cons rfl (Wk.refl _) (WkS.nil)) (List.Perm.refl _) (List.Perm.refl _)) (retD_mk (hh := [(0, Blk.row 1 (x132.map eStr) (SL w131))]) (.inl rfl) (resL_cons (resOne_tmp rfl) (resL_nil)) (List.Sublist.refl _) (List.Sublist.refl _) ?_)
    exact ⟨w131, rfl, rfl, rfl⟩
noncomputable def change_Of_r (a0 : TApiProgram) (a1 : TApiProgram) : Option (TChangeDiff) :=
  ((change_funcs_r a0 a1).bind fun x5 => ((change_globals_r a0 a1).bind fun x11 => some (⟨x5, x11⟩ : TChangeDiff)))
set_option maxRecDepth 100000 in
set_option maxHeartbeats 2000000 in
theorem change_Of_r_ok (a0 : TApiProgram) (a1 : TApiProgram) (r : TChangeDiff) (h0 : change_Of_r a0 a1 = some r) : CallsD Try.prog 8 [eTApiProgram a0, eTApiProgram a1] [] [] (fun d h k => ∃ y0 y1, d = .agg [.v (SL y0), .v (SL y1)] ∧ h = [(0, Blk.row 1 (r.gFuncs.map eStr) (SL y0)), (0, Blk.row 1 (r.gGlobals.map eStr) (SL y1))] ∧ k = []) := by
  have hm := yes_of h0
  unfold change_Of_r at hm
  clear h0
  refine enterX htab Try.func8 rfl rfl rfl rfl rfl (fun C => ?_)
  refine wpD_seq ?_
  refine wpD_region ?_
  refine p_box rfl rfl rfl rfl rfl rfl rfl (fun b1 => ?_)
  refine p_box rfl rfl rfl rfl rfl rfl rfl (fun b2 => ?_)
  refine p_alloc htab rfl rfl rfl rfl rfl rfl rfl (fun b3 => ?_)
  refine ops_nil ?_
  refine then_normal ?_
  refine wpD_seq ?_
  obtain ⟨x5, q5, hm⟩ := yes_bind hm
  refine wpD_drawsR 5 [] [(2, 1, x5.map eStr)] [[],[],[0,1],[],[]] [0,1,2,3,4] [[],[],[0,1],[],[],[0,1,2,3,4],[0,1,2,3,4,5],[0,1,2,3,4,5,6]] (by kernel_rfl) (by kernel_rfl) (by kernel_rfl) (by rfl) (by rfl) (by kernel_rfl) ?_
  apply Exists.intro
  apply Exists.intro
  refine ⟨.any, ?_⟩
  apply Exists.intro
  apply Exists.intro
  intro bs
  refine zr_eM rfl rfl (xm_load (d := eTApiProgram a0) 0 htab rfl rfl rfl rfl rfl) rfl rfl rfl rfl rfl rfl rfl ?_
  refine zr_eM rfl rfl (xm_load (d := eTApiProgram a1) 1 htab rfl rfl rfl rfl rfl) rfl rfl rfl rfl rfl rfl rfl ?_
  refine zr_callR rfl rfl (change_funcs_r_ok a0 a1 x5 q5) rfl rfl (WkL.refl _) rfl rfl rfl rfl rfl (by simp) (by simp) ?_
  refine zr_eM rfl rfl (xm_load (d := eTApiProgram a0) 0 htab rfl rfl rfl rfl rfl) rfl rfl rfl rfl rfl rfl rfl ?_
  refine zr_eM rfl rfl (xm_load (d := eTApiProgram a1) 1 htab rfl rfl rfl rfl rfl) rfl rfl rfl rfl rfl rfl rfl ?_
  refine zr_nil (fun e he => by simp [isR] at he; subst he; rfl) rfl (by simp only [List.map_cons, List.map_nil, List.nil_append, List.append_nil, List.cons_append]; exact rfl) (fun e he => by simp [isAl] at he) (fun hz => ?_)
  obtain ⟨w9, hw9⟩ := hz 2 rfl
  simp only [hw9]
  clear hz hw9
  obtain ⟨x11, q11, hm⟩ := yes_bind hm
  refine p_callG (change_globals_r_ok a0 a1 x11 q11) rfl rfl rfl rfl rfl (WkL.refl _) (List.Perm.refl _) (List.Perm.refl _) ?_
  rintro _ _ _ ⟨w10, rfl, rfl, rfl⟩
  refine p_build (r := [.v (SL w9), .v (SL w10)]) htab rfl rfl rfl rfl rfl rfl rfl rfl rfl ?_
  refine p_store (ds' := [.v (SL w9), .v (SL w10)]) (h' := [(0, Blk.row 1 (x11.map eStr) (SL w10)), (b1, Blk.cells [.lst 4 (a0.gGlobals.map eTApiGlobal) .no, .lst 5 (a0.gFuncs.map eTApiFunc) .no] 25), (b2, Blk.cells [.lst 4 (a1.gGlobals.map eTApiGlobal) .no, .lst 5 (a1.gFuncs.map eTApiFunc) .no] 25), (b3, Blk.cells [.v (SL w9), .v (SL w10)] 30), (0, Blk.row 1 (x5.map eStr) (SL w9))]) 3 htab rfl rfl rfl rfl rfl rfl rfl rfl rfl rfl rfl rfl ?_
  refine ops_nil ?_
  refine then_normal ?_
  refine wpD_ret ?_
  have er12 := yes_eq hm; subst er12
  refine retX.of (s' := ⟨[(4, .ptr b3 0)], [(0, Blk.row 1 (x5.map eStr) (SL w9)), (0, Blk.row 1 (x11.map eStr) (SL w10)), (b3, Blk.cells [.v (SL w9), .v (SL w10)] 30)], []⟩) (WkS.perm (WkS.cons rfl (Wk.refl _) (WkS.nil)) ((perm_at (j := 4) rfl).trans (List.Perm.cons _ ((perm_at (j := 0) rfl).trans (List.Perm.cons _ ((perm_at (j := 2) rfl).trans (List.Perm.cons _ (List.Perm.refl _))))))) (List.Perm.refl _)) (retD_mk (hh := [(0, Blk.row 1 (x5.map eStr) (SL w9)), (0, Blk.row 1 (x11.map eStr) (SL w10))]) (.inl rfl) (resL_cons (resOne_cell 2 rfl rfl rfl rfl) (resL_nil)) (List.sublist_append_left [_, _] _) (List.Sublist.refl _) ?_)
  exact ⟨w9, w10, rfl, rfl, rfl⟩
noncomputable def tree_Names_r (a0 : List TApiStmt) : Option (List ByteArray) :=
  ((tree_walk_r a0 (⟨[]⟩ : TTreeBagString)).bind fun x5 => ((tree_bag_string_all_r x5).bind fun x7 => some x7.1))
set_option maxRecDepth 100000 in
set_option maxHeartbeats 2000000 in
theorem tree_Names_r_ok (a0 : List TApiStmt) (r : List ByteArray) (h0 : tree_Names_r a0 = some r) : CallsD Try.prog 23 [.lst 7 (a0.map eTApiStmt) .no] [] [] (fun d h k => ∃ y0, d = .v (SL y0) ∧ h = [(0, Blk.row 1 (r.map eStr) (SL y0))] ∧ k = []) := by
  have hm := yes_of h0
  unfold tree_Names_r at hm
  clear h0
  refine enterX htab Try.func23 rfl rfl rfl rfl rfl (fun C => ?_)
  refine wpD_seq ?_
  refine wpD_region ?_
  refine p_pure htab rfl rfl rfl rfl ?_
  refine ops_nil ?_
  refine then_normal ?_
  refine wpD_seq ?_
  refine wpD_region ?_
  refine p_alloc htab rfl rfl rfl rfl rfl rfl rfl (fun b1 => ?_)
  refine ops_nil ?_
  refine then_normal ?_
  refine wpD_seq ?_
  refine wpD_region ?_
  refine p_pure htab rfl rfl rfl rfl ?_
  refine p_alloc htab rfl rfl rfl rfl rfl rfl rfl (fun b2 => ?_)
  refine p_store (ds' := [.fn (.func 39) [] [.ptr b1 0]]) (h' := [(b1, Blk.cells [.lst 1 [] .full] 68), (b2, Blk.cells [.fn (.func 39) [] [.ptr b1 0]] 69)]) 1 htab rfl rfl rfl rfl rfl rfl rfl rfl rfl rfl rfl rfl ?_
  refine ops_nil ?_
  refine then_normal ?_
  refine wpD_seq ?_
  refine wpD_region ?_
  refine p_pure htab rfl rfl rfl rfl ?_
  refine p_pure htab rfl rfl rfl rfl ?_
  refine p_pure htab rfl rfl rfl rfl ?_
  refine o_rowC (off := 0) 1 0 rfl rfl (fun w3 => ?_)
  obtain ⟨x5, q5, hm⟩ := yes_bind hm
  refine p_callG (tree_walk_r_ok a0 (⟨[]⟩ : TTreeBagString) b2 69 b1 68 w3 x5 q5) rfl rfl rfl rfl rfl (WkL.refl _) ((perm_at (j := 2) rfl).trans (List.Perm.cons _ ((perm_at (j := 1) rfl).trans (List.Perm.cons _ ((perm_at (j := 0) rfl).trans (List.Perm.cons _ (List.Perm.refl _))))))) (List.Perm.refl _) ?_
  rintro _ _ _ ⟨w4, rfl, rfl, rfl⟩
  refine ops_nil ?_
  refine then_normal ?_
  refine wpD_seq ?_
  refine wpD_region ?_
  obtain ⟨x7, q7, hm⟩ := yes_bind hm
  refine p_callG (tree_bag_string_all_r_ok x5 b1 68 w4 x7 q7) rfl rfl rfl rfl rfl (WkL.refl _) ((perm_at (j := 1) rfl).trans (List.Perm.cons _ ((perm_at (j := 1) rfl).trans (List.Perm.cons _ (List.Perm.refl _))))) (List.Perm.refl _) ?_
  rintro _ _ _ ⟨w6, rfl, rfl, rfl⟩
  refine p_pure htab rfl rfl rfl rfl ?_
  refine ops_nil ?_
  refine then_normal ?_
  refine wpD_ret ?_
  have er8 := yes_eq hm; subst er8
  refine retX.of (s' := ⟨[(2, .v (SL w6))], [(0, Blk.row 1 (x7.1.map eStr) (SL w6))], []⟩) (WkS.perm (WkS.cons rfl (Wk.refl _) (WkS.nil)) ((perm_at (j := 1) rfl).trans (List.Perm.cons _ (List.Perm.refl _))) (List.Perm.refl _)) (retD_mk (hh := [(0, Blk.row 1 (x7.1.map eStr) (SL w6))]) (.inl rfl) (resL_cons (resOne_tmp rfl) (resL_nil)) (List.Sublist.refl _) (List.Sublist.refl _) ?_)
  exact ⟨w6, rfl, rfl, rfl⟩
noncomputable def change_Touched (a0 : TApiProgram) (a1 : TApiProgram) : Option (List ByteArray) :=
  ((change_Of_r a0 a1).bind fun x5 => ((slices_Concat_api_Func_api_Func_r ([a0.gFuncs, a1.gFuncs] : List (List TApiFunc))).bind fun x8 => (Option.bind (α := List ByteArray × List ByteArray) (loopM (fun (s73 : Int × List ByteArray) => (bif (decide (s73.1 < (x8.length : Int))) then ((idx x8 s73.1).bind fun x105 => ((tree_Names_r x105.gBody).bind fun x108 => ((slices_ContainsFunc_string_string x5.gGlobals x108).bind fun x110 => (bif x110 then ((app 16 s73.2 ([x105.gName] : List ByteArray)).bind fun x112 => some (.next ((IntKind.i64.wrap (s73.1 + (1 : Int))), x112))) else some (.next ((IntKind.i64.wrap (s73.1 + (1 : Int))), s73.2)))))) else some (.done (x5.gGlobals, s73.2)))) ((0 : Int), x5.gFuncs)) fun y61 => ((change_row_r y61.2).bind fun x114 => some x114))))
set_option maxRecDepth 100000 in
set_option maxHeartbeats 2000000 in
theorem change_Touched_ok (a0 : TApiProgram) (a1 : TApiProgram) (r : List ByteArray) (h0 : change_Touched a0 a1 = some r) : CallsD Try.prog 11 [eTApiProgram a0, eTApiProgram a1] [] [] (fun d h k => ∃ y0, d = .lst 1 (r.map eStr) (.cur y0) ∧ h = [] ∧ k = [(1, y0)]) := by
  have hm := yes_of h0
  unfold change_Touched at hm
  clear h0
  refine enterX htab Try.func11 rfl rfl rfl rfl rfl (fun C => ?_)
  refine wpD_seq ?_
  refine wpD_region ?_
  refine p_box rfl rfl rfl rfl rfl rfl rfl (fun b1 => ?_)
  refine p_box rfl rfl rfl rfl rfl rfl rfl (fun b2 => ?_)
  refine p_pure htab rfl rfl rfl rfl ?_
  refine ops_nil ?_
  refine then_normal ?_
  refine wpD_seq ?_
  refine wpD_region ?_
  refine p_load (d := eTApiProgram a0) 0 htab rfl rfl rfl rfl rfl rfl rfl rfl ?_
  refine p_load (d := eTApiProgram a1) 1 htab rfl rfl rfl rfl rfl rfl rfl rfl ?_
  obtain ⟨x5, q5, hm⟩ := yes_bind hm
  refine p_callG (change_Of_r_ok a0 a1 x5 q5) rfl rfl rfl rfl rfl (WkL.refl _) (List.Perm.refl _) (List.Perm.refl _) ?_
  rintro _ _ _ ⟨w3, w4, rfl, rfl, rfl⟩
  refine p_alloc htab rfl rfl rfl rfl rfl rfl rfl (fun b6 => ?_)
  refine p_store (ds' := [.v (SL w3), .v (SL w4)]) (h' := [(0, Blk.row 1 (x5.gFuncs.map eStr) (SL w3)), (0, Blk.row 1 (x5.gGlobals.map eStr) (SL w4)), (b1, Blk.cells [.lst 4 (a0.gGlobals.map eTApiGlobal) .no, .lst 5 (a0.gFuncs.map eTApiFunc) .no] 25), (b2, Blk.cells [.lst 4 (a1.gGlobals.map eTApiGlobal) .no, .lst 5 (a1.gFuncs.map eTApiFunc) .no] 25), (b6, Blk.cells [.v (SL w3), .v (SL w4)] 30)]) 4 htab rfl rfl rfl rfl rfl rfl rfl rfl rfl rfl rfl rfl ?_
  refine ops_nil ?_
  refine then_normal ?_
  refine wpD_seq ?_
  refine wpD_region ?_
  refine p_pure htab rfl rfl rfl rfl ?_
  refine p_load 4 htab rfl rfl rfl rfl rfl rfl rfl rfl ?_
  refine p_pure htab rfl rfl rfl rfl ?_
  refine ops_nil ?_
  refine then_normal ?_
  refine wpD_seq ?_
  refine wpD_seq ?_
  refine wpD_region ?_
  refine p_pure htab rfl rfl rfl rfl ?_
  refine p_load 2 htab rfl rfl rfl rfl rfl rfl rfl rfl ?_
  refine p_pure htab rfl rfl rfl rfl ?_
  refine p_load 3 htab rfl rfl rfl rfl rfl rfl rfl rfl ?_
  refine p_lit htab rfl rfl rfl rfl rfl rfl rfl rfl rfl rfl rfl rfl rfl rfl ?_
  refine p_eq (i := 19) (d' := .lst 1 (([a0.gFuncs, a1.gFuncs] : List (List TApiFunc)).map (eList 5 eTApiFunc)) .full) rfl (Wk.lst0 (.cons (WkC.refl _) (.cons (WkC.refl _) (.nil)))) ?_
  obtain ⟨x8, q8, hm⟩ := yes_bind hm
  refine p_callG (slices_Concat_api_Func_api_Func_r_ok ([a0.gFuncs, a1.gFuncs] : List (List TApiFunc)) x8 q8) rfl rfl rfl rfl rfl (WkL.cons (Wk.no) (WkL.refl _)) (List.Perm.refl _) (List.Perm.refl _) ?_
  rintro _ _ _ ⟨w7, rfl, rfl, rfl⟩
  refine p_lenR 0 htab rfl rfl rfl rfl rfl rfl rfl rfl (by first | exact map_len | rfl) ?_
  refine p_pure htab rfl rfl rfl rfl ?_
  refine ops_nil ?_
  refine then_normal ?_
  obtain ⟨y61, q61, ho61⟩ := yes_bind hm
  refine wpD_mid (Y := Value × Z3) (fun z61 => (⟨[(6, .v (SL z61.2))], [(0, Blk.row 1 (y61.2.map eStr) (SL z61.2)), (b1, Blk.cells [.lst 4 (a0.gGlobals.map eTApiGlobal) .no, .lst 5 (a0.gFuncs.map eTApiFunc) .no] 25), (b2, Blk.cells [.lst 4 (a1.gGlobals.map eTApiGlobal) .no, .lst 5 (a1.gFuncs.map eTApiFunc) .no] 25), (b6, Blk.cells [.any, .lst 1 (y61.1.map eStr) (.cur z61.1)] 30)], [(1, z61.1)]⟩ : S)) ?_ ?_
  · clear hm; have hm := yes_of q61
    refine wpD_block ?_
    refine wpD_wkX (Y := Unit) (S1 := fun _ => (⟨[(5, .ptr b6 0), (6, .v (SL w3)), (20, .lst 5 (x8.map eTApiFunc) (.cur (SL w7))), (21, .v (.int .i64 (x8.length : Int))), (22, .v (.int .i64 (0 : Int)))], [(0, Blk.row 1 (x5.gFuncs.map eStr) (SL w3)), (b1, Blk.cells [.lst 4 (a0.gGlobals.map eTApiGlobal) .no, .lst 5 (a0.gFuncs.map eTApiFunc) .no] 25), (b2, Blk.cells [.lst 4 (a1.gGlobals.map eTApiGlobal) .no, .lst 5 (a1.gFuncs.map eTApiFunc) .no] 25), (b6, Blk.cells [.v (SL w3), .lst 1 (x5.gGlobals.map eStr) (.cur (SL w4))] 30)], [(5, (SL w7)), (1, (SL w4))]⟩ : S)) ?_ (fun _ => ?_)
    · skip
      refine WkX.wk (WkS.frz 0 rfl rfl) ?_
      refine WkX.wk (WkS.tld 20 0 rfl rfl) ?_
      refine WkX.wk (WkS.drop 0 rfl) ?_
      refine WkX.wk (WkS.frz 1 rfl rfl) ?_
      refine WkX.wk (WkS.tldC (off := 1) 4 1 rfl rfl rfl rfl) ?_
      refine WkX.wk (WkS.drop 1 rfl) ?_
      exact WkX.of () (WkS.perm (WkS.cons rfl (Wk.refl _) (WkS.cons rfl (Wk.refl _) (WkS.cons rfl (Wk.refl _) (WkS.cons rfl (Wk.refl _) (WkS.cons rfl (Wk.refl _) (WkS.nil)))))) (List.Perm.refl _) ((perm_at (j := 1) rfl).trans (List.Perm.cons _ ((perm_at (j := 0) rfl).trans (List.Perm.cons _ (List.Perm.refl _))))))
    · skip
      obtain ⟨u73, hl73, hq73⟩ := yes_m hm
      refine loop_M (Y := Z3) hl73 (fun s73 z73 => (⟨[(5, .ptr b6 0), (6, .v (SL z73)), (20, .lst 5 (x8.map eTApiFunc) (.cur (SL w7))), (21, .v (.int .i64 (x8.length : Int))), (22, .v (.int .i64 s73.1))], [(0, Blk.row 1 (s73.2.map eStr) (SL z73)), (b1, Blk.cells [.lst 4 (a0.gGlobals.map eTApiGlobal) .no, .lst 5 (a0.gFuncs.map eTApiFunc) .no] 25), (b2, Blk.cells [.lst 4 (a1.gGlobals.map eTApiGlobal) .no, .lst 5 (a1.gFuncs.map eTApiFunc) .no] 25), (b6, Blk.cells [.any, .lst 1 (x5.gGlobals.map eStr) (.cur (SL w4))] 30)], [(5, (SL w7)), (1, (SL w4))]⟩ : S)) ?_ ?_
      · skip
        refine WkX.wk (WkS.blk (ds' := [.any, .lst 1 (x5.gGlobals.map eStr) (.cur (SL w4))]) (h' := [(0, Blk.row 1 (x5.gFuncs.map eStr) (SL w3)), (b1, Blk.cells [.lst 4 (a0.gGlobals.map eTApiGlobal) .no, .lst 5 (a0.gFuncs.map eTApiFunc) .no] 25), (b2, Blk.cells [.lst 4 (a1.gGlobals.map eTApiGlobal) .no, .lst 5 (a1.gFuncs.map eTApiFunc) .no] 25), (b6, Blk.cells [.any, .lst 1 (x5.gGlobals.map eStr) (.cur (SL w4))] 30)]) 3 rfl (WkR.cons (WkC.any) rfl (WkR.cons (WkC.refl _) rfl (WkR.nil))) rfl) ?_
        exact WkX.of w3 (WkS.perm (WkS.cons rfl (Wk.refl _) (WkS.cons rfl (Wk.refl _) (WkS.cons rfl (Wk.refl _) (WkS.cons rfl (Wk.refl _) (WkS.cons rfl (Wk.refl _) (WkS.nil)))))) (List.Perm.refl _) (List.Perm.refl _))
      · intro G73 s73 z73 hm
        refine wpD_seq ?_
        refine wpD_region ?_
        refine p_pure htab rfl rfl rfl rfl ?_
        refine ops_nil ?_
        refine then_normal ?_
        refine wpD_seq ?_
        refine wpD_cond rfl (fun hc104 => ?_) (fun hc104 => ?_)
        · replace hm := yes_t hc104 hm
          refine wpD_skip ?_
          refine then_normal ?_
          refine wpD_seq ?_
          refine wpD_block ?_
          refine wpD_seq ?_
          refine wpD_region ?_
          obtain ⟨x105, q105, hm⟩ := yes_bind hm
          refine p_elem htab rfl rfl rfl rfl rfl rfl rfl rfl rfl rfl (idx_nonneg q105) (idx_map q105) ?_
          refine p_loadEl (d := eTApiFunc x105) htab rfl rfl rfl rfl rfl rfl rfl rfl ?_
          refine p_alloc htab rfl rfl rfl rfl rfl rfl rfl (fun b106 => ?_)
          refine p_store (ds' := [.v (.string x105.gName), .lst 2 (x105.gParams.map eTApiVar) .no, .lst 2 (x105.gLocals.map eTApiVar) .no, .lst 7 (x105.gBody.map eTApiStmt) .no, .v (.int .i64 x105.gAt)]) (h' := [(0, Blk.row 1 (s73.2.map eStr) (SL z73)), (b1, Blk.cells [.lst 4 (a0.gGlobals.map eTApiGlobal) .no, .lst 5 (a0.gFuncs.map eTApiFunc) .no] 25), (b2, Blk.cells [.lst 4 (a1.gGlobals.map eTApiGlobal) .no, .lst 5 (a1.gFuncs.map eTApiFunc) .no] 25), (b6, Blk.cells [.any, .lst 1 (x5.gGlobals.map eStr) (.cur (SL w4))] 30), (b106, Blk.cells [.v (.string x105.gName), .lst 2 (x105.gParams.map eTApiVar) .no, .lst 2 (x105.gLocals.map eTApiVar) .no, .lst 7 (x105.gBody.map eTApiStmt) .no, .v (.int .i64 x105.gAt)] 41)]) 4 htab rfl rfl rfl rfl rfl rfl rfl rfl rfl rfl rfl rfl ?_
          refine ops_nil ?_
          refine then_normal ?_
          refine wpD_seq ?_
          refine wpD_region ?_
          refine p_pure htab rfl rfl rfl rfl ?_
          refine p_load 4 htab rfl rfl rfl rfl rfl rfl rfl rfl ?_
          obtain ⟨x108, q108, hm⟩ := yes_bind hm
          refine p_callG (tree_Names_r_ok x105.gBody x108 q108) rfl rfl rfl rfl rfl (WkL.refl _) (List.Perm.refl _) (List.Perm.refl _) ?_
          rintro _ _ _ ⟨w107, rfl, rfl, rfl⟩
          refine p_alloc htab rfl rfl rfl rfl rfl rfl rfl (fun b109 => ?_)
          refine p_store (ds' := [.v (SL w107)]) (h' := [(0, Blk.row 1 (x108.map eStr) (SL w107)), (0, Blk.row 1 (s73.2.map eStr) (SL z73)), (b1, Blk.cells [.lst 4 (a0.gGlobals.map eTApiGlobal) .no, .lst 5 (a0.gFuncs.map eTApiFunc) .no] 25), (b2, Blk.cells [.lst 4 (a1.gGlobals.map eTApiGlobal) .no, .lst 5 (a1.gFuncs.map eTApiFunc) .no] 25), (b6, Blk.cells [.any, .lst 1 (x5.gGlobals.map eStr) (.cur (SL w4))] 30), (b106, Blk.cells [.v (.string x105.gName), .lst 2 (x105.gParams.map eTApiVar) .no, .lst 2 (x105.gLocals.map eTApiVar) .no, .lst 7 (x105.gBody.map eTApiStmt) .no, .v (.int .i64 x105.gAt)] 41), (b109, Blk.cells [.v (SL w107)] 28)]) 6 htab rfl rfl rfl rfl rfl rfl rfl rfl rfl rfl rfl rfl ?_
          refine ops_nil ?_
          refine then_normal ?_
          refine wpD_seq ?_
          refine wpD_region ?_
          refine p_pure htab rfl rfl rfl rfl ?_
          refine p_load 4 htab rfl rfl rfl rfl rfl rfl rfl rfl ?_
          refine p_pure htab rfl rfl rfl rfl ?_
          refine o_norm (WkS.frz 0 rfl rfl) ?_
          refine o_norm (WkS.tld 28 0 rfl rfl) ?_
          refine o_norm (WkS.tldC (off := 0) 6 0 rfl rfl rfl rfl) ?_
          refine o_norm (WkS.drop 0 rfl) ?_
          obtain ⟨x110, q110, hm⟩ := yes_bind hm
          refine p_callG (slices_ContainsFunc_string_string_ok x5.gGlobals x108 b109 28 (.cur (SL w107)) x110 q110) rfl rfl rfl rfl rfl (WkL.cons (Wk.no) (WkL.cons (Wk.refl _) (WkL.refl _))) ((perm_at (j := 5) rfl).trans (List.Perm.cons _ (List.Perm.refl _))) (List.Perm.refl _) ?_
          rintro _ _ _ ⟨rfl, rfl, rfl⟩
          refine ops_nil ?_
          refine then_normal ?_
          refine wpD_cond rfl (fun hc111 => ?_) (fun hc111 => ?_)
          · replace hm := yes_t hc111 hm
            refine wpD_region ?_
            refine p_pure htab rfl rfl rfl rfl ?_
            refine p_pure htab rfl rfl rfl rfl ?_
            refine p_load 5 htab rfl rfl rfl rfl rfl rfl rfl rfl ?_
            refine p_lit htab rfl rfl rfl rfl rfl rfl rfl rfl rfl rfl rfl rfl rfl rfl ?_
            refine p_eq (i := 36) (d' := .lst 1 (([x105.gName] : List ByteArray).map eStr) .full) rfl (Wk.lst0 (.cons (WkC.refl _) (.nil))) ?_
            obtain ⟨x112, q112, hm⟩ := yes_bind hm
            refine p_appR2 1 htab rfl rfl rfl rfl rfl rfl rfl rfl rfl rfl rfl rfl rfl rfl rfl rfl (app_bound q112) (app_map q112) (fun v112 => ?_)
            refine p_pure htab rfl rfl rfl rfl ?_
            refine ops_nil ?_
            refine block_normal ?_
            refine then_normal ?_
            refine wpD_region ?_
            refine p_pure htab rfl rfl rfl rfl ?_
            refine p_pure htab rfl rfl rfl rfl ?_
            refine ops_nil ?_
            refine then_normal ⟨_, lp_next hm, ?_⟩
            exact WkX.of v112 (WkS.perm (WkS.cons rfl (Wk.refl _) (WkS.cons rfl (Wk.refl _) (WkS.cons rfl (Wk.refl _) (WkS.cons rfl (Wk.refl _) (WkS.cons rfl (Wk.refl _) (WkS.nil)))))) ((perm_at (j := 1) rfl).trans (List.Perm.cons _ ((perm_at (j := 1) rfl).trans (List.Perm.cons _ ((perm_at (j := 1) rfl).trans (List.Perm.cons _ ((perm_at (j := 1) rfl).trans (List.Perm.cons _ (List.Perm.refl _))))))))) ((perm_at (j := 1) rfl).trans (List.Perm.cons _ ((perm_at (j := 1) rfl).trans (List.Perm.cons _ (List.Perm.refl _))))))
          · replace hm := yes_f hc111 hm
            refine wpD_skip ?_
            refine block_normal ?_
            refine then_normal ?_
            refine wpD_region ?_
            refine p_pure htab rfl rfl rfl rfl ?_
            refine p_pure htab rfl rfl rfl rfl ?_
            refine ops_nil ?_
            refine then_normal ⟨_, lp_next hm, ?_⟩
            exact WkX.of z73 (WkS.perm (WkS.cons rfl (Wk.refl _) (WkS.cons rfl (Wk.refl _) (WkS.cons rfl (Wk.refl _) (WkS.cons rfl (Wk.refl _) (WkS.cons rfl (Wk.refl _) (WkS.nil)))))) ((perm_at (j := 1) rfl).trans (List.Perm.cons _ ((perm_at (j := 1) rfl).trans (List.Perm.cons _ ((perm_at (j := 1) rfl).trans (List.Perm.cons _ ((perm_at (j := 1) rfl).trans (List.Perm.cons _ (List.Perm.refl _))))))))) ((perm_at (j := 1) rfl).trans (List.Perm.cons _ ((perm_at (j := 1) rfl).trans (List.Perm.cons _ (List.Perm.refl _))))))
        · replace hm := yes_f hc104 hm
          refine wpD_exit ?_
          refine then_exit ?_
          have e73 := lp_done hm; subst e73; clear hm; have hm := hq73
          refine then_exit ?_
          refine block_hit ?_
          have e61 := yes_eq hm; subst e61
          refine ⟨rfl, ?_⟩
          exact WkX.of ((SL w4), z73) (WkS.perm (WkS.cons rfl (Wk.refl _) (WkS.nil)) (List.Perm.refl _) ((perm_at (j := 1) rfl).trans (List.Perm.cons _ (List.Perm.refl _))))
  · intro s61 hw61; clear hm; have hm := ho61; clear q61 ho61
    refine then_normal ?_
    refine wpD_wkX hw61 (fun z61 => ?_)
    refine wpD_seq ?_
    refine wpD_region ?_
    refine p_pure htab rfl rfl rfl rfl ?_
    obtain ⟨x114, q114, hm⟩ := yes_bind hm
    refine p_callG (change_row_r_ok y61.2 z61.2 x114 q114) rfl rfl rfl rfl rfl (WkL.refl _) (List.Perm.refl _) (List.Perm.refl _) ?_
    rintro _ _ _ ⟨w113, rfl, rfl, rfl⟩
    refine p_pure htab rfl rfl rfl rfl ?_
    refine ops_nil ?_
    refine then_normal ?_
    refine wpD_ret ?_
    have er115 := yes_eq hm; subst er115
    refine retX.wk (WkS.frz 0 rfl rfl) ?_
    refine retX.wk (WkS.tld 4 0 rfl rfl) ?_
    refine retX.wk (WkS.tld 40 0 rfl rfl) ?_
    refine retX.wk (WkS.drop 0 rfl) ?_
    refine retX.of (s' := ⟨[(4, .lst 1 (x114.map eStr) (.cur (SL w113)))], [], [(1, (SL w113))]⟩) (WkS.perm (WkS.cons rfl (Wk.refl _) (WkS.nil)) (List.Perm.refl _) (List.Perm.refl _)) (retD_mk (hh := []) (.inl rfl) (resL_cons (resOne_tmp rfl) (resL_nil)) (List.nil_sublist _) (List.Sublist.refl _) ?_)
    exact ⟨(SL w113), rfl, rfl, rfl⟩
theorem change_Touched_ok0 (a0 : TApiProgram) (a1 : TApiProgram) (r : List ByteArray) (h0 : change_Touched a0 a1 = some r) : CallsD Try.prog 11 [eTApiProgram a0, eTApiProgram a1] [] [] (fun d h k => d = .lst 1 (r.map eStr) .no ∧ h = [] ∧ k = []) :=
  (change_Touched_ok a0 a1 r h0).drop fun d h k ⟨y0, e, _, _⟩ => by subst e; exact Wk.no
abbrev nlCh1_24 : List (List Nat) := [[],[0],[0,1],[0,1],[0,1],[0,1],[0,1,5],[0,1,5,6],[0,1,5,6],[0,1,5,6],[0,1,5,6],[0,1,5,6],[0,1,5,6],[0,1,5,6,11,12],[0,1,5,6,11,12,13],[0,1,5,6,11,12,13],[0,1,5,6,11,12,13],[0,1,5,6,11,12,13],[0,1,5,6,11,12,13],[0,1,5,6,11,12,13],[0,1,5,6,11,12,13,18,19],[0,1,5,6,11,12,13],[0,1,5,6,11,12,13]]
abbrev nlCh1_25 : List (List Nat) := [[],[0],[0,1],[0,1,2],[0,1,2,3],[0,1,2,3,4],[0,1,2,3,4,5],[0,1,2,3,4,5,6],[0,1,2,3,4,5,6,7],[0,1,2,3,4,5,6,7,8],[0,1,2,3,4,5,6,7,8,9],[0,1,2,3,4,5,6,7,8,9,10],[0,1,2,3,4,5,6,7,8,9,10],[0,1,2,3,4,5,6,7,8,9,10,11,12],[0,1,2,3,4,5,6,7,8,9,10,11,12,13],[0,1,2,3,4,5,6,7,8,9,10,11,12,13,14],[0,1,2,3,4,5,6,7,8,9,10,11,12,13,14,15],[0,1,2,3,4,5,6,7,8,9,10,11,12,13,14,15,16],[0,1,2,3,4,5,6,7,8,9,10,11,12,13,14,15,16,17],[0,1,2,3,4,5,6,7,8,9,10,11,12,13,14,15,16,17],[0,1,2,3,4,5,6,7,8,9,10,11,12,13,14,15,16,17,18,19],[0,1,2,3,4,5,6,7,8,9,10,11,12,13,14,15,16,17],[0,1,2,3,4,5,6,7,8,9,10,11,12,13,14,15,16,17],[0,1,2,3,4,5,6,7,8,9,10,11,12,13,14,15,16,17,18,19,20,21,22],[0,1,2,3,4,5,6,7,8,9,10,11,12,13,14,15,16,17,18,19,20,21,22,23],[0,1,2,3,4,5,6,7,8,9,10,11,12,13,14,15,16,17,18,19,20,21,22,23,24],[0,1,2,3,4,5,6,7,8,9,10,11,12,13,14,15,16,17,18,19,20,21,22,23,24,25],[0,1,2,3,4,5,6,7,8,9,10,11,12,13,14,15,16,17,18,19,20,21,22,23,24,25,26],[0,1,2,3,4,5,6,7,8,9,10,11,12,13,14,15,16,17,18,19,20,21,22,23,24,25,26,27],[0,1,2,3,4,5,6,7,8,9,10,11,12,13,14,15,16,17,18,19,20,21,22,23,24,25,26,27,28]]
abbrev nlCh1_26 : List (List Nat) := [[],[0],[0,1],[0,1],[0,1],[0,1],[0,1,5],[0,1,5,6],[0,1,5,6],[0,1,5,6],[0,1,5,6],[0,1,5,6],[0,1,5,6],[0,1,5,6,11,12],[0,1,5,6,11,12,13],[0,1,5,6,11,12,13],[0,1,5,6,11,12,13],[0,1,5,6,11,12,13],[0,1,5,6,11,12,13],[0,1,5,6,11,12,13],[0,1,5,6,11,12,13],[0,1,5,6,11,12,13],[0,1,5,6,11,12,13]]
abbrev nlCh1_27 : List (List Nat) := [[],[0],[0,1],[0,1],[0,1],[0,1],[0,1,5],[0,1,5,6],[0,1,5,6],[0,1,5,6],[0,1,5,6],[0,1,5,6],[0,1,5,6],[0,1,5,6],[0,1,5,6],[0,1,5,6],[0,1,5,6],[0,1,5,6],[0,1,5,6],[0,1,5,6],[0,1,5,6],[0,1,5,6],[0,1,5,6]]
noncomputable def l18_ChangeNone (a0 : TApiProgram) (a1 : TApiProgram) : Option (Bool) :=
  (Option.bind (α := Bool) ((l18_few a0).bind fun x7 => (bif (!x7) then some true else ((l18_few a1).bind fun x9 => some (!x9)))) fun y6 => (bif y6 then (l18_lives.bind fun x13 => some x13) else ((change_Of a0 a0).bind fun x17 => (bif ((x17.gFuncs.length : Int) == (0 : Int)) then (bif ((x17.gGlobals.length : Int) == (0 : Int)) then ((change_Touched a0 a0).bind fun x22 => (bif ((x22.length : Int) == (0 : Int)) then ((change_Touched a0 a1).bind fun x26 => ((change_Touched a1 a0).bind fun x36 => ((r11_Texts x26 x36).bind fun x37 => (bif x37 then (l18_lives.bind fun x39 => some x39) else some false)))) else some false)) else some false) else some false))))
set_option maxRecDepth 100000 in
set_option maxHeartbeats 2000000 in
theorem l18_ChangeNone_ok (a0 : TApiProgram) (a1 : TApiProgram) (r : Bool) (h0 : l18_ChangeNone a0 a1 = some r) : CallsD Try.prog 4 [eTApiProgram a0, eTApiProgram a1] [] [] (fun d h k => d = .v (.bool r) ∧ h = [] ∧ k = []) := by
  have hm := yes_of h0
  unfold l18_ChangeNone at hm
  clear h0
  refine enterX htab Try.func4 rfl rfl rfl rfl rfl (fun C => ?_)
  refine wpD_seq ?_
  refine wpD_region ?_
  refine p_box rfl rfl rfl rfl rfl rfl rfl (fun b1 => ?_)
  refine p_box rfl rfl rfl rfl rfl rfl rfl (fun b2 => ?_)
  refine p_pure htab rfl rfl rfl rfl ?_
  refine ops_nil ?_
  refine then_normal ?_
  refine wpD_seq ?_
  refine wpD_seq ?_
  obtain ⟨y6, q6, ho6⟩ := yes_bind hm
  refine wpD_mid (Y := Unit) (fun z6 => (⟨[(2, .ptr b1 0), (3, .ptr b2 0), (13, .v (.bool y6))], [(b1, Blk.cells [.lst 4 (a0.gGlobals.map eTApiGlobal) .no, .lst 5 (a0.gFuncs.map eTApiFunc) .no] 25), (b2, Blk.cells [.lst 4 (a1.gGlobals.map eTApiGlobal) .no, .lst 5 (a1.gFuncs.map eTApiFunc) .no] 25)], []⟩ : S)) ?_ ?_
  · clear hm; have hm := yes_of q6
    refine wpD_region ?_
    refine p_load (d := eTApiProgram a0) 0 htab rfl rfl rfl rfl rfl rfl rfl rfl ?_
    obtain ⟨x7, q7, hm⟩ := yes_bind hm
    refine p_call0 (l18_few_ok a0 x7 q7) rfl rfl rfl rfl rfl (WkL.refl _) ?_
    rintro _ rfl
    refine p_pure htab rfl rfl rfl rfl ?_
    refine p_pure htab rfl rfl rfl rfl ?_
    refine p_split (i := 9) rfl (fun hg8 => ?_) (fun hg8 => ?_)
    · replace hm := yes_t hg8 hm
      refine p_skip rfl rfl rfl ?_
      refine p_skip rfl rfl rfl ?_
      refine p_skip rfl rfl rfl ?_
      refine p_pickT rfl rfl rfl rfl rfl rfl ?_
      refine ops_nil ?_
      have e6 := yes_eq hm; subst e6
      refine ⟨rfl, ?_⟩
      exact WkX.of () (WkS.perm (WkS.cons rfl (Wk.refl _) (WkS.cons rfl (Wk.refl _) (WkS.cons rfl (Wk.refl _) (WkS.nil)))) (List.Perm.refl _) (List.Perm.refl _))
    · replace hm := yes_f hg8 hm
      refine p_load (d := eTApiProgram a1) 1 htab rfl rfl rfl rfl rfl rfl rfl rfl ?_
      obtain ⟨x9, q9, hm⟩ := yes_bind hm
      refine p_call0 (l18_few_ok a1 x9 q9) rfl rfl rfl rfl rfl (WkL.refl _) ?_
      rintro _ rfl
      refine p_pure htab rfl rfl rfl rfl ?_
      refine p_pickF rfl rfl rfl rfl rfl rfl ?_
      refine ops_nil ?_
      have e6 := yes_eq hm; subst e6
      refine ⟨rfl, ?_⟩
      exact WkX.of () (WkS.perm (WkS.cons rfl (Wk.refl _) (WkS.cons rfl (Wk.refl _) (WkS.cons rfl (Wk.refl _) (WkS.nil)))) (List.Perm.refl _) (List.Perm.refl _))
  · intro s6 hw6; clear hm; have hm := ho6; clear q6 ho6
    refine then_normal ?_
    refine wpD_wkX hw6 (fun z6 => ?_)
    refine wpD_cond rfl (fun hc12 => ?_) (fun hc12 => ?_)
    · replace hm := yes_t hc12 hm
      refine wpD_seq ?_
      refine wpD_region ?_
      obtain ⟨x13, q13, hm⟩ := yes_bind hm
      refine p_call0 (l18_lives_ok x13 q13) rfl rfl rfl rfl rfl (WkL.refl _) ?_
      rintro _ rfl
      refine p_pure htab rfl rfl rfl rfl ?_
      refine ops_nil ?_
      refine then_normal ?_
      refine wpD_ret ?_
      refine then_ret ?_
      have er14 := yes_eq hm; subst er14
      refine retX.of (s' := ⟨[(4, .v (.bool x13))], [], []⟩) (WkS.perm (WkS.cons rfl (Wk.refl _) (WkS.nil)) (List.Perm.refl _) (List.Perm.refl _)) (retD_mk (hh := []) (.inl rfl) (resL_cons (resOne_tmp rfl) (resL_nil)) (List.nil_sublist _) (List.Sublist.refl _) ?_)
      exact ⟨rfl, rfl, rfl⟩
    · replace hm := yes_f hc12 hm
      refine wpD_skip ?_
      refine then_normal ?_
      refine wpD_seq ?_
      refine wpD_region ?_
      refine p_load (d := eTApiProgram a0) 0 htab rfl rfl rfl rfl rfl rfl rfl rfl ?_
      refine p_load (d := eTApiProgram a0) 0 htab rfl rfl rfl rfl rfl rfl rfl rfl ?_
      obtain ⟨x17, q17, hm⟩ := yes_bind hm
      refine p_callG (change_Of_ok a0 a0 x17 q17) rfl rfl rfl rfl rfl (WkL.refl _) (List.Perm.refl _) (List.Perm.refl _) ?_
      rintro _ _ _ ⟨w15, w16, rfl, rfl, rfl⟩
      refine p_alloc htab rfl rfl rfl rfl rfl rfl rfl (fun b18 => ?_)
      refine p_store (ds' := [.lst 1 (x17.gFuncs.map eStr) (.cur w15), .lst 1 (x17.gGlobals.map eStr) (.cur w16)]) (h' := [(b1, Blk.cells [.lst 4 (a0.gGlobals.map eTApiGlobal) .no, .lst 5 (a0.gFuncs.map eTApiFunc) .no] 25), (b2, Blk.cells [.lst 4 (a1.gGlobals.map eTApiGlobal) .no, .lst 5 (a1.gFuncs.map eTApiFunc) .no] 25), (b18, Blk.cells [.lst 1 (x17.gFuncs.map eStr) (.cur w15), .lst 1 (x17.gGlobals.map eStr) (.cur w16)] 30)]) 2 htab rfl rfl rfl rfl rfl rfl rfl rfl rfl rfl rfl rfl ?_
      refine ops_nil ?_
      refine then_normal ?_
      refine wpD_seq ?_
      refine bycB ((x17.gFuncs.length : Int) == (0 : Int)) (fun hs19 => ?_) (fun hs19 => ?_)
      · replace hm := yes_t hs19 hm
        refine bycB ((x17.gGlobals.length : Int) == (0 : Int)) (fun hs20 => ?_) (fun hs20 => ?_)
        · replace hm := yes_t hs20 hm
          obtain ⟨x22, q22, hm⟩ := yes_bind hm
          refine bycB ((x22.length : Int) == (0 : Int)) (fun hs23 => ?_) (fun hs23 => ?_)
          · replace hm := yes_t hs23 hm
            obtain ⟨x26, q26, hm⟩ := yes_bind hm
            refine wpD_drawsT 23 [] [(13, 1), (20, 1)] nlCh1_24 [0,1,5,6,11,12,13,18,19,20,21,22] nlCh1_25 (by kernel_rfl) (by kernel_rfl) (by kernel_rfl) (by rfl) (by rfl) (by kernel_rfl) ?_
            apply Exists.intro
            apply Exists.intro
            apply Exists.intro
            apply Exists.intro
            apply Exists.intro
            apply Exists.intro
            apply Exists.intro
            apply Exists.intro
            apply Exists.intro
            apply Exists.intro
            apply Exists.intro
            apply Exists.intro
            intro bs
            refine zt_e rfl rfl (ex_pure htab rfl) rfl rfl rfl rfl rfl rfl rfl ?_
            refine zt_eM rfl rfl (xm_load 2 htab rfl rfl rfl rfl rfl) rfl rfl rfl rfl rfl rfl rfl ?_
            refine zt_q rfl rfl (x_lenL htab rfl rfl rfl rfl (by first | exact map_len | rfl)) rfl rfl rfl rfl rfl rfl ?_
            refine zt_q rfl rfl (ex_pure htab rfl) rfl rfl rfl rfl rfl rfl ?_
            refine zt_q rfl rfl (ex_pure htab rfl) rfl rfl rfl rfl rfl rfl ?_
            refine zt_known (j := 22) (b' := true) rfl hs19 ?_
            refine zt_e rfl rfl (ex_pure htab rfl) rfl rfl rfl rfl rfl rfl rfl ?_
            refine zt_eM rfl rfl (xm_load 2 htab rfl rfl rfl rfl rfl) rfl rfl rfl rfl rfl rfl rfl ?_
            refine zt_q rfl rfl (x_lenL htab rfl rfl rfl rfl (by first | exact map_len | rfl)) rfl rfl rfl rfl rfl rfl ?_
            refine zt_q rfl rfl (ex_pure htab rfl) rfl rfl rfl rfl rfl rfl ?_
            refine zt_q rfl rfl (x_pickT rfl rfl rfl) rfl rfl rfl rfl rfl rfl ?_
            refine zt_q rfl rfl (ex_pure htab rfl) rfl rfl rfl rfl rfl rfl ?_
            refine zt_known (j := 28) (b' := true) rfl hs20 ?_
            refine zt_eM rfl rfl (xm_load (d := eTApiProgram a0) 0 htab rfl rfl rfl rfl rfl) rfl rfl rfl rfl rfl rfl rfl ?_
            refine zt_eM rfl rfl (xm_load (d := eTApiProgram a0) 0 htab rfl rfl rfl rfl rfl) rfl rfl rfl rfl rfl rfl rfl ?_
            refine zt_callT rfl rfl (change_Touched_ok a0 a0 x22 q22) rfl rfl (WkL.refl _) rfl rfl rfl rfl rfl (by simp) (by decide) rfl ?_
            refine zt_q rfl rfl (x_lenL htab rfl rfl rfl rfl (by first | exact map_len | rfl)) rfl rfl rfl rfl rfl rfl ?_
            refine zt_q rfl rfl (ex_pure htab rfl) rfl rfl rfl rfl rfl rfl ?_
            refine zt_q rfl rfl (x_pickT rfl rfl rfl) rfl rfl rfl rfl rfl rfl ?_
            refine zt_q rfl rfl (ex_pure htab rfl) rfl rfl rfl rfl rfl rfl ?_
            refine zt_known (j := 35) (b' := true) rfl hs23 ?_
            refine zt_eM rfl rfl (xm_load (d := eTApiProgram a0) 0 htab rfl rfl rfl rfl rfl) rfl rfl rfl rfl rfl rfl rfl ?_
            refine zt_eM rfl rfl (xm_load (d := eTApiProgram a1) 1 htab rfl rfl rfl rfl rfl) rfl rfl rfl rfl rfl rfl rfl ?_
            refine zt_callT rfl rfl (change_Touched_ok a0 a1 x26 q26) rfl rfl (WkL.refl _) rfl rfl rfl rfl rfl (by simp) (by decide) rfl ?_
            refine zt_eM rfl rfl (xm_load (d := eTApiProgram a1) 1 htab rfl rfl rfl rfl rfl) rfl rfl rfl rfl rfl rfl rfl ?_
            refine zt_eM rfl rfl (xm_load (d := eTApiProgram a0) 0 htab rfl rfl rfl rfl rfl) rfl rfl rfl rfl rfl rfl rfl ?_
            refine zt_nil (k' := [(1, w15), (1, w16), (1, (bs 13)), (1, (bs 20))]) rfl (fun e he => by simp [isT] at he; rcases he with rfl | rfl <;> rfl) rfl rfl (fun e he => by simp [isAl] at he) ?_
            obtain ⟨w33, hw33⟩ : ∃ y, bs 13 = y := ⟨_, rfl⟩
            obtain ⟨w34, hw34⟩ : ∃ y, bs 20 = y := ⟨_, rfl⟩
            simp only [hw33, hw34]
            clear hw33 hw34
            obtain ⟨x36, q36, hm⟩ := yes_bind hm
            refine p_callG (change_Touched_ok a1 a0 x36 q36) rfl rfl rfl rfl rfl (WkL.refl _) (List.Perm.refl _) (List.Perm.refl _) ?_
            rintro _ _ _ ⟨w35, rfl, rfl, rfl⟩
            obtain ⟨x37, q37, hm⟩ := yes_bind hm
            refine p_call0 (r11_Texts_ok x26 x36 x37 q37) rfl rfl rfl rfl rfl (WkL.cons (Wk.no) (WkL.cons (Wk.no) (WkL.refl _))) ?_
            rintro _ rfl
            refine p_pickT rfl rfl rfl rfl rfl rfl ?_
            refine p_pure htab rfl rfl rfl rfl ?_
            refine p_split (i := 44) rfl (fun hg38 => ?_) (fun hg38 => ?_)
            · replace hm := yes_t hg38 hm
              obtain ⟨x39, q39, hm⟩ := yes_bind hm
              refine p_call0 (l18_lives_ok x39 q39) rfl rfl rfl rfl rfl (WkL.refl _) ?_
              rintro _ rfl
              refine p_pickT rfl rfl rfl rfl rfl rfl ?_
              refine p_pure htab rfl rfl rfl rfl ?_
              refine ops_nil ?_
              refine then_normal ?_
              refine wpD_ret ?_
              have er40 := yes_eq hm; subst er40
              refine retX.of (s' := ⟨[(4, .v (.bool x39))], [], []⟩) (WkS.perm (WkS.cons rfl (Wk.refl _) (WkS.nil)) (List.Perm.refl _) (List.Perm.refl _)) (retD_mk (hh := []) (.inl rfl) (resL_cons (resOne_tmp rfl) (resL_nil)) (List.nil_sublist _) (List.Sublist.refl _) ?_)
              exact ⟨rfl, rfl, rfl⟩
            · replace hm := yes_f hg38 hm
              refine p_skip rfl rfl rfl ?_
              refine p_pickF rfl rfl rfl rfl rfl rfl ?_
              refine p_pure htab rfl rfl rfl rfl ?_
              refine ops_nil ?_
              refine then_normal ?_
              refine wpD_ret ?_
              have er41 := yes_eq hm; subst er41
              refine retX.of (s' := ⟨[(4, .v (.bool false))], [], []⟩) (WkS.perm (WkS.cons rfl (Wk.refl _) (WkS.nil)) (List.Perm.refl _) (List.Perm.refl _)) (retD_mk (hh := []) (.inl rfl) (resL_cons (resOne_tmp rfl) (resL_nil)) (List.nil_sublist _) (List.Sublist.refl _) ?_)
              exact ⟨rfl, rfl, rfl⟩
          · replace hm := yes_f hs23 hm
            refine wpD_drawsT 23 [] [(13, 1)] nlCh1_26 [0,1,5,6,11,12,13] nlCh1_25 (by kernel_rfl) (by kernel_rfl) (by kernel_rfl) (by rfl) (by rfl) (by kernel_rfl) ?_
            apply Exists.intro
            apply Exists.intro
            apply Exists.intro
            apply Exists.intro
            apply Exists.intro
            apply Exists.intro
            apply Exists.intro
            intro bs
            refine zt_e rfl rfl (ex_pure htab rfl) rfl rfl rfl rfl rfl rfl rfl ?_
            refine zt_eM rfl rfl (xm_load 2 htab rfl rfl rfl rfl rfl) rfl rfl rfl rfl rfl rfl rfl ?_
            refine zt_q rfl rfl (x_lenL htab rfl rfl rfl rfl (by first | exact map_len | rfl)) rfl rfl rfl rfl rfl rfl ?_
            refine zt_q rfl rfl (ex_pure htab rfl) rfl rfl rfl rfl rfl rfl ?_
            refine zt_q rfl rfl (ex_pure htab rfl) rfl rfl rfl rfl rfl rfl ?_
            refine zt_known (j := 22) (b' := true) rfl hs19 ?_
            refine zt_e rfl rfl (ex_pure htab rfl) rfl rfl rfl rfl rfl rfl rfl ?_
            refine zt_eM rfl rfl (xm_load 2 htab rfl rfl rfl rfl rfl) rfl rfl rfl rfl rfl rfl rfl ?_
            refine zt_q rfl rfl (x_lenL htab rfl rfl rfl rfl (by first | exact map_len | rfl)) rfl rfl rfl rfl rfl rfl ?_
            refine zt_q rfl rfl (ex_pure htab rfl) rfl rfl rfl rfl rfl rfl ?_
            refine zt_q rfl rfl (x_pickT rfl rfl rfl) rfl rfl rfl rfl rfl rfl ?_
            refine zt_q rfl rfl (ex_pure htab rfl) rfl rfl rfl rfl rfl rfl ?_
            refine zt_known (j := 28) (b' := true) rfl hs20 ?_
            refine zt_eM rfl rfl (xm_load (d := eTApiProgram a0) 0 htab rfl rfl rfl rfl rfl) rfl rfl rfl rfl rfl rfl rfl ?_
            refine zt_eM rfl rfl (xm_load (d := eTApiProgram a0) 0 htab rfl rfl rfl rfl rfl) rfl rfl rfl rfl rfl rfl rfl ?_
            refine zt_callT rfl rfl (change_Touched_ok a0 a0 x22 q22) rfl rfl (WkL.refl _) rfl rfl rfl rfl rfl (by simp) (by decide) rfl ?_
            refine zt_q rfl rfl (x_lenL htab rfl rfl rfl rfl (by first | exact map_len | rfl)) rfl rfl rfl rfl rfl rfl ?_
            refine zt_q rfl rfl (ex_pure htab rfl) rfl rfl rfl rfl rfl rfl ?_
            refine zt_q rfl rfl (x_pickT rfl rfl rfl) rfl rfl rfl rfl rfl rfl ?_
            refine zt_q rfl rfl (ex_pure htab rfl) rfl rfl rfl rfl rfl rfl ?_
            refine zt_known (j := 35) (b' := false) rfl hs23 ?_
            refine zt_skip rfl rfl rfl rfl ?_
            refine zt_skip rfl rfl rfl rfl ?_
            refine zt_skip rfl rfl rfl rfl ?_
            refine zt_skip rfl rfl rfl rfl ?_
            refine zt_skip rfl rfl rfl rfl ?_
            refine zt_nil (k' := [(1, w15), (1, w16), (1, (bs 13))]) rfl (fun e he => by simp [isT] at he; subst he; rfl) rfl rfl (fun e he => by simp [isAl] at he) ?_
            obtain ⟨w46, hw46⟩ : ∃ y, bs 13 = y := ⟨_, rfl⟩
            simp only [hw46]
            clear hw46
            refine p_skip rfl rfl rfl ?_
            refine p_skip rfl rfl rfl ?_
            refine p_pickF rfl rfl rfl rfl rfl rfl ?_
            refine p_pure htab rfl rfl rfl rfl ?_
            refine p_skip rfl rfl rfl ?_
            refine p_pickF rfl rfl rfl rfl rfl rfl ?_
            refine p_pure htab rfl rfl rfl rfl ?_
            refine ops_nil ?_
            refine then_normal ?_
            refine wpD_ret ?_
            have er47 := yes_eq hm; subst er47
            refine retX.of (s' := ⟨[(4, .v (.bool false))], [], []⟩) (WkS.perm (WkS.cons rfl (Wk.refl _) (WkS.nil)) (List.Perm.refl _) (List.Perm.refl _)) (retD_mk (hh := []) (.inl rfl) (resL_cons (resOne_tmp rfl) (resL_nil)) (List.nil_sublist _) (List.Sublist.refl _) ?_)
            exact ⟨rfl, rfl, rfl⟩
        · replace hm := yes_f hs20 hm
          refine wpD_draws 23 [] nlCh1_27 [0,1,5,6] nlCh1_25 (by kernel_rfl) (by kernel_rfl) (by kernel_rfl) (by rfl) (by rfl) (by kernel_rfl) ?_
          apply Exists.intro
          apply Exists.intro
          apply Exists.intro
          apply Exists.intro
          intro bs
          refine z_e rfl rfl (ex_pure htab rfl) rfl rfl rfl rfl rfl rfl ?_
          refine z_eM rfl rfl (xm_load 2 htab rfl rfl rfl rfl rfl) rfl rfl rfl rfl rfl rfl ?_
          refine z_q rfl rfl (x_lenL htab rfl rfl rfl rfl (by first | exact map_len | rfl)) rfl rfl rfl rfl rfl rfl ?_
          refine z_q rfl rfl (ex_pure htab rfl) rfl rfl rfl rfl rfl rfl ?_
          refine z_q rfl rfl (ex_pure htab rfl) rfl rfl rfl rfl rfl rfl ?_
          refine z_known (j := 22) (b' := true) rfl hs19 ?_
          refine z_e rfl rfl (ex_pure htab rfl) rfl rfl rfl rfl rfl rfl ?_
          refine z_eM rfl rfl (xm_load 2 htab rfl rfl rfl rfl rfl) rfl rfl rfl rfl rfl rfl ?_
          refine z_q rfl rfl (x_lenL htab rfl rfl rfl rfl (by first | exact map_len | rfl)) rfl rfl rfl rfl rfl rfl ?_
          refine z_q rfl rfl (ex_pure htab rfl) rfl rfl rfl rfl rfl rfl ?_
          refine z_q rfl rfl (x_pickT rfl rfl rfl) rfl rfl rfl rfl rfl rfl ?_
          refine z_q rfl rfl (ex_pure htab rfl) rfl rfl rfl rfl rfl rfl ?_
          refine z_known (j := 28) (b' := false) rfl hs20 ?_
          refine z_skip rfl rfl rfl rfl ?_
          refine z_skip rfl rfl rfl rfl ?_
          refine z_skip rfl rfl rfl rfl ?_
          refine z_skip rfl rfl rfl rfl ?_
          refine z_skip rfl rfl rfl rfl ?_
          refine z_q rfl rfl (x_pickF rfl rfl rfl) rfl rfl rfl rfl rfl rfl ?_
          refine z_q rfl rfl (ex_pure htab rfl) rfl rfl rfl rfl rfl rfl ?_
          refine z_skip rfl rfl rfl rfl ?_
          refine z_skip rfl rfl rfl rfl ?_
          refine z_skip rfl rfl rfl rfl ?_
          refine z_skip rfl rfl rfl rfl ?_
          refine z_skip rfl rfl rfl rfl ?_
          refine z_nil rfl rfl (fun e he => by simp [isAl] at he) ?_
          refine p_skip rfl rfl rfl ?_
          refine p_skip rfl rfl rfl ?_
          refine p_pickF rfl rfl rfl rfl rfl rfl ?_
          refine p_pure htab rfl rfl rfl rfl ?_
          refine p_skip rfl rfl rfl ?_
          refine p_pickF rfl rfl rfl rfl rfl rfl ?_
          refine p_pure htab rfl rfl rfl rfl ?_
          refine ops_nil ?_
          refine then_normal ?_
          refine wpD_ret ?_
          have er48 := yes_eq hm; subst er48
          refine retX.of (s' := ⟨[(4, .v (.bool false))], [], []⟩) (WkS.perm (WkS.cons rfl (Wk.refl _) (WkS.nil)) (List.Perm.refl _) (List.Perm.refl _)) (retD_mk (hh := []) (.inl rfl) (resL_cons (resOne_tmp rfl) (resL_nil)) (List.nil_sublist _) (List.Sublist.refl _) ?_)
          exact ⟨rfl, rfl, rfl⟩
      · replace hm := yes_f hs19 hm
        refine wpD_draws 23 [] [[],[0],[0,1],[0,1],[0,1],[0,1],[0,1],[0,1],[0,1],[0,1],[0,1],[0,1],[0,1],[0,1],[0,1],[0,1],[0,1],[0,1],[0,1],[0,1],[0,1],[0,1],[0,1]] [0,1] nlCh1_25 (by kernel_rfl) (by kernel_rfl) (by kernel_rfl) (by rfl) (by rfl) (by kernel_rfl) ?_
        apply Exists.intro
        apply Exists.intro
        intro bs
        refine z_e rfl rfl (ex_pure htab rfl) rfl rfl rfl rfl rfl rfl ?_
        refine z_eM rfl rfl (xm_load 2 htab rfl rfl rfl rfl rfl) rfl rfl rfl rfl rfl rfl ?_
        refine z_q rfl rfl (x_lenL htab rfl rfl rfl rfl (by first | exact map_len | rfl)) rfl rfl rfl rfl rfl rfl ?_
        refine z_q rfl rfl (ex_pure htab rfl) rfl rfl rfl rfl rfl rfl ?_
        refine z_q rfl rfl (ex_pure htab rfl) rfl rfl rfl rfl rfl rfl ?_
        refine z_known (j := 22) (b' := false) rfl hs19 ?_
        refine z_skip rfl rfl rfl rfl ?_
        refine z_skip rfl rfl rfl rfl ?_
        refine z_skip rfl rfl rfl rfl ?_
        refine z_skip rfl rfl rfl rfl ?_
        refine z_q rfl rfl (x_pickF rfl rfl rfl) rfl rfl rfl rfl rfl rfl ?_
        refine z_q rfl rfl (ex_pure htab rfl) rfl rfl rfl rfl rfl rfl ?_
        refine z_skip rfl rfl rfl rfl ?_
        refine z_skip rfl rfl rfl rfl ?_
        refine z_skip rfl rfl rfl rfl ?_
        refine z_skip rfl rfl rfl rfl ?_
        refine z_skip rfl rfl rfl rfl ?_
        refine z_q rfl rfl (x_pickF rfl rfl rfl) rfl rfl rfl rfl rfl rfl ?_
        refine z_q rfl rfl (ex_pure htab rfl) rfl rfl rfl rfl rfl rfl ?_
        refine z_skip rfl rfl rfl rfl ?_
        refine z_skip rfl rfl rfl rfl ?_
        refine z_skip rfl rfl rfl rfl ?_
        refine z_skip rfl rfl rfl rfl ?_
        refine z_skip rfl rfl rfl rfl ?_
        refine z_nil rfl rfl (fun e he => by simp [isAl] at he) ?_
        refine p_skip rfl rfl rfl ?_
        refine p_skip rfl rfl rfl ?_
        refine p_pickF rfl rfl rfl rfl rfl rfl ?_
        refine p_pure htab rfl rfl rfl rfl ?_
        refine p_skip rfl rfl rfl ?_
        refine p_pickF rfl rfl rfl rfl rfl rfl ?_
        refine p_pure htab rfl rfl rfl rfl ?_
        refine ops_nil ?_
        refine then_normal ?_
        refine wpD_ret ?_
        have er49 := yes_eq hm; subst er49
        refine retX.of (s' := ⟨[(4, .v (.bool false))], [], []⟩) (WkS.perm (WkS.cons rfl (Wk.refl _) (WkS.nil)) (List.Perm.refl _) (List.Perm.refl _)) (retD_mk (hh := []) (.inl rfl) (resL_cons (resOne_tmp rfl) (resL_nil)) (List.nil_sublist _) (List.Sublist.refl _) ?_)
        exact ⟨rfl, rfl, rfl⟩
end Go.Proofs.Ytpeimfcmhedjmaa.Ab
