/- Layer 18: what the functions compute. -/
import Derived.Test.YtpeimfcmhedjmaaCh1
namespace Go.Proofs.Ytpeimfcmhedjmaa.Ab
open Go
set_option linter.all false
noncomputable def change_globals (a0 : TApiProgram) (a1 : TApiProgram) : Option (List ByteArray) :=
  ((slices_Concat_api_Global_api_Global_r ([a0.gGlobals, a1.gGlobals] : List (List TApiGlobal))).bind fun x4 => (Option.bind (α := List ByteArray) (loopM (fun (s85 : List ByteArray × Int) => (bif (decide (s85.2 < (x4.length : Int))) then ((idx x4 s85.2).bind fun x118 => ((change_globalOf a0 x118.gName).bind fun x120 => ((change_globalOf a1 x118.gName).bind fun x122 => (Option.bind (α := Bool) (bif (!(x120.2 == x122.2)) then some true else (bif (!(x120.1.gPtr == x122.1.gPtr)) then some true else some (x120.1.gSize != x122.1.gSize))) fun y126 => (bif y126 then ((app 16 s85.1 ([x118.gName] : List ByteArray)).bind fun x130 => some (.next (x130, (IntKind.i64.wrap (s85.2 + (1 : Int)))))) else some (.next (s85.1, (IntKind.i64.wrap (s85.2 + (1 : Int)))))))))) else some (.done s85.1))) (([] : List ByteArray), (0 : Int))) fun y68 => ((change_row_r y68).bind fun x132 => some x132)))
set_option maxRecDepth 100000 in
set_option maxHeartbeats 2000000 in
theorem change_globals_ok (a0 : TApiProgram) (a1 : TApiProgram) (r : List ByteArray) (h0 : change_globals a0 a1 = some r) : CallsD Try.prog 18 [eTApiProgram a0, eTApiProgram a1] [] [] (fun d h k => ∃ y0, d = .lst 1 (r.map eStr) (.cur y0) ∧ h = [] ∧ k = [(1, y0)]) := by
  have hm := yes_of h0
  unfold change_globals at hm
  clear h0
  refine enterX htab Try.func18 rfl rfl rfl rfl rfl (fun C => ?_)
  refine wpD_seq ?_
  refine wpD_region ?_
  refine p_box rfl rfl rfl rfl rfl rfl rfl (fun b1 => ?_)
  refine p_box rfl rfl rfl rfl rfl rfl rfl (fun b2 => ?_)
  refine p_pure htab rfl rfl rfl rfl ?_
  refine ops_nil ?_
  refine then_normal ?_
  refine wpD_seq ?_
  refine wpD_region ?_
  refine p_pure htab rfl rfl rfl rfl ?_
  refine ops_nil ?_
  refine then_normal ?_
  refine wpD_seq ?_
  refine wpD_seq ?_
  refine wpD_region ?_
  refine p_pure htab rfl rfl rfl rfl ?_
  refine p_load 0 htab rfl rfl rfl rfl rfl rfl rfl rfl ?_
  refine p_pure htab rfl rfl rfl rfl ?_
  refine p_load 1 htab rfl rfl rfl rfl rfl rfl rfl rfl ?_
  refine p_lit htab rfl rfl rfl rfl rfl rfl rfl rfl rfl rfl rfl rfl rfl rfl ?_
  refine p_eq (i := 16) (d' := .lst 1 (([a0.gGlobals, a1.gGlobals] : List (List TApiGlobal)).map (eList 4 eTApiGlobal)) .full) rfl (Wk.lst0 (.cons (WkC.refl _) (.cons (WkC.refl _) (.nil)))) ?_
  obtain ⟨x4, q4, hm⟩ := yes_bind hm
  refine p_callG (slices_Concat_api_Global_api_Global_r_ok ([a0.gGlobals, a1.gGlobals] : List (List TApiGlobal)) x4 q4) rfl rfl rfl rfl rfl (WkL.cons (Wk.no) (WkL.refl _)) (List.Perm.refl _) (List.Perm.refl _) ?_
  rintro _ _ _ ⟨w3, rfl, rfl, rfl⟩
  refine p_lenR 0 htab rfl rfl rfl rfl rfl rfl rfl rfl (by first | exact map_len | rfl) ?_
  refine p_pure htab rfl rfl rfl rfl ?_
  refine ops_nil ?_
  refine then_normal ?_
  obtain ⟨y68, q68, ho68⟩ := yes_bind hm
  refine wpD_mid (Y := Z3) (fun z68 => (⟨[(5, .v (SL z68))], [(0, Blk.row 1 (y68.map eStr) (SL z68)), (b1, Blk.cells [.lst 4 (a0.gGlobals.map eTApiGlobal) .no, .lst 5 (a0.gFuncs.map eTApiFunc) .no] 25), (b2, Blk.cells [.lst 4 (a1.gGlobals.map eTApiGlobal) .no, .lst 5 (a1.gFuncs.map eTApiFunc) .no] 25)], []⟩ : S)) ?_ ?_
  · clear hm; have hm := yes_of q68
    refine wpD_block ?_
    refine wpD_wkX (Y := Unit) (S1 := fun _ => (⟨[(2, .ptr b1 0), (3, .ptr b2 0), (5, .lst 1 [] .full), (17, .lst 4 (x4.map eTApiGlobal) (.cur (SL w3))), (18, .v (.int .i64 (x4.length : Int))), (19, .v (.int .i64 (0 : Int)))], [(b1, Blk.cells [.lst 4 (a0.gGlobals.map eTApiGlobal) .no, .lst 5 (a0.gFuncs.map eTApiFunc) .no] 25), (b2, Blk.cells [.lst 4 (a1.gGlobals.map eTApiGlobal) .no, .lst 5 (a1.gFuncs.map eTApiFunc) .no] 25)], [(4, (SL w3))]⟩ : S)) ?_ (fun _ => ?_)
    · skip
      refine WkX.wk (WkS.frz 0 rfl rfl) ?_
      refine WkX.wk (WkS.tld 17 0 rfl rfl) ?_
      refine WkX.wk (WkS.drop 0 rfl) ?_
      exact WkX.of () (WkS.perm (WkS.cons rfl (Wk.refl _) (WkS.cons rfl (Wk.refl _) (WkS.cons rfl (Wk.refl _) (WkS.cons rfl (Wk.refl _) (WkS.cons rfl (Wk.refl _) (WkS.cons rfl (Wk.refl _) (WkS.nil))))))) (List.Perm.refl _) (List.Perm.refl _))
    · skip
      obtain ⟨u85, hl85, hq85⟩ := yes_m hm
      refine loop_M (Y := Z3) hl85 (fun s85 z85 => (⟨[(2, .ptr b1 0), (3, .ptr b2 0), (5, .v (SL z85)), (17, .lst 4 (x4.map eTApiGlobal) (.cur (SL w3))), (18, .v (.int .i64 (x4.length : Int))), (19, .v (.int .i64 s85.2))], [(0, Blk.row 1 (s85.1.map eStr) (SL z85)), (b1, Blk.cells [.lst 4 (a0.gGlobals.map eTApiGlobal) .no, .lst 5 (a0.gFuncs.map eTApiFunc) .no] 25), (b2, Blk.cells [.lst 4 (a1.gGlobals.map eTApiGlobal) .no, .lst 5 (a1.gFuncs.map eTApiFunc) .no] 25)], [(4, (SL w3))]⟩ : S)) ?_ ?_
      · skip
        refine WkX.rowN (i := 5) 1 rfl (fun w116 => ?_)
        exact WkX.of w116 (WkS.perm (WkS.cons rfl (Wk.refl _) (WkS.cons rfl (Wk.refl _) (WkS.cons rfl (Wk.refl _) (WkS.cons rfl (Wk.refl _) (WkS.cons rfl (Wk.refl _) (WkS.cons rfl (Wk.refl _) (WkS.nil))))))) (List.Perm.refl _) (List.Perm.refl _))
      · intro G85 s85 z85 hm
        refine wpD_seq ?_
        refine wpD_region ?_
        refine p_pure htab rfl rfl rfl rfl ?_
        refine ops_nil ?_
        refine then_normal ?_
        refine wpD_seq ?_
        refine wpD_cond rfl (fun hc117 => ?_) (fun hc117 => ?_)
        · replace hm := yes_t hc117 hm
          refine wpD_skip ?_
          refine then_normal ?_
          refine wpD_seq ?_
          refine wpD_block ?_
          refine wpD_seq ?_
          refine wpD_region ?_
          obtain ⟨x118, q118, hm⟩ := yes_bind hm
          refine p_elem htab rfl rfl rfl rfl rfl rfl rfl rfl rfl rfl (idx_nonneg q118) (idx_map q118) ?_
          refine p_loadEl (d := eTApiGlobal x118) htab rfl rfl rfl rfl rfl rfl rfl rfl ?_
          refine p_alloc htab rfl rfl rfl rfl rfl rfl rfl (fun b119 => ?_)
          refine p_store (ds' := [.v (.string x118.gName), .v (.bool x118.gPtr), .v (.int .i64 x118.gSize), .v (.int .i64 x118.gAt)]) (h' := [(0, Blk.row 1 (s85.1.map eStr) (SL z85)), (b1, Blk.cells [.lst 4 (a0.gGlobals.map eTApiGlobal) .no, .lst 5 (a0.gFuncs.map eTApiFunc) .no] 25), (b2, Blk.cells [.lst 4 (a1.gGlobals.map eTApiGlobal) .no, .lst 5 (a1.gFuncs.map eTApiFunc) .no] 25), (b119, Blk.cells [.v (.string x118.gName), .v (.bool x118.gPtr), .v (.int .i64 x118.gSize), .v (.int .i64 x118.gAt)] 61)]) 3 htab rfl rfl rfl rfl rfl rfl rfl rfl rfl rfl rfl rfl ?_
          refine ops_nil ?_
          refine then_normal ?_
          refine wpD_seq ?_
          refine wpD_region ?_
          refine p_load (d := eTApiProgram a0) 1 htab rfl rfl rfl rfl rfl rfl rfl rfl ?_
          refine p_pure htab rfl rfl rfl rfl ?_
          refine p_load 3 htab rfl rfl rfl rfl rfl rfl rfl rfl ?_
          obtain ⟨x120, q120, hm⟩ := yes_bind hm
          refine p_call0 (change_globalOf_ok a0 x118.gName x120 q120) rfl rfl rfl rfl rfl (WkL.refl _) ?_
          rintro _ rfl
          refine p_pure htab rfl rfl rfl rfl ?_
          refine p_pure htab rfl rfl rfl rfl ?_
          refine p_pure htab rfl rfl rfl rfl ?_
          refine p_alloc htab rfl rfl rfl rfl rfl rfl rfl (fun b121 => ?_)
          refine p_store (ds' := [.v (.string x120.1.gName), .v (.bool x120.1.gPtr), .v (.int .i64 x120.1.gSize), .v (.int .i64 x120.1.gAt)]) (h' := [(0, Blk.row 1 (s85.1.map eStr) (SL z85)), (b1, Blk.cells [.lst 4 (a0.gGlobals.map eTApiGlobal) .no, .lst 5 (a0.gFuncs.map eTApiFunc) .no] 25), (b2, Blk.cells [.lst 4 (a1.gGlobals.map eTApiGlobal) .no, .lst 5 (a1.gFuncs.map eTApiFunc) .no] 25), (b119, Blk.cells [.v (.string x118.gName), .v (.bool x118.gPtr), .v (.int .i64 x118.gSize), .v (.int .i64 x118.gAt)] 61), (b121, Blk.cells [.v (.string x120.1.gName), .v (.bool x120.1.gPtr), .v (.int .i64 x120.1.gSize), .v (.int .i64 x120.1.gAt)] 61)]) 4 htab rfl rfl rfl rfl rfl rfl rfl rfl rfl rfl rfl rfl ?_
          refine p_pure htab rfl rfl rfl rfl ?_
          refine ops_nil ?_
          refine then_normal ?_
          refine wpD_seq ?_
          refine wpD_region ?_
          refine p_load (d := eTApiProgram a1) 2 htab rfl rfl rfl rfl rfl rfl rfl rfl ?_
          refine p_pure htab rfl rfl rfl rfl ?_
          refine p_load 3 htab rfl rfl rfl rfl rfl rfl rfl rfl ?_
          obtain ⟨x122, q122, hm⟩ := yes_bind hm
          refine p_call0 (change_globalOf_ok a1 x118.gName x122 q122) rfl rfl rfl rfl rfl (WkL.refl _) ?_
          rintro _ rfl
          refine p_pure htab rfl rfl rfl rfl ?_
          refine p_pure htab rfl rfl rfl rfl ?_
          refine p_pure htab rfl rfl rfl rfl ?_
          refine p_alloc htab rfl rfl rfl rfl rfl rfl rfl (fun b123 => ?_)
          refine p_store (ds' := [.v (.string x122.1.gName), .v (.bool x122.1.gPtr), .v (.int .i64 x122.1.gSize), .v (.int .i64 x122.1.gAt)]) (h' := [(0, Blk.row 1 (s85.1.map eStr) (SL z85)), (b1, Blk.cells [.lst 4 (a0.gGlobals.map eTApiGlobal) .no, .lst 5 (a0.gFuncs.map eTApiFunc) .no] 25), (b2, Blk.cells [.lst 4 (a1.gGlobals.map eTApiGlobal) .no, .lst 5 (a1.gFuncs.map eTApiFunc) .no] 25), (b119, Blk.cells [.v (.string x118.gName), .v (.bool x118.gPtr), .v (.int .i64 x118.gSize), .v (.int .i64 x118.gAt)] 61), (b121, Blk.cells [.v (.string x120.1.gName), .v (.bool x120.1.gPtr), .v (.int .i64 x120.1.gSize), .v (.int .i64 x120.1.gAt)] 61), (b123, Blk.cells [.v (.string x122.1.gName), .v (.bool x122.1.gPtr), .v (.int .i64 x122.1.gSize), .v (.int .i64 x122.1.gAt)] 61)]) 5 htab rfl rfl rfl rfl rfl rfl rfl rfl rfl rfl rfl rfl ?_
          refine p_pure htab rfl rfl rfl rfl ?_
          refine ops_nil ?_
          refine then_normal ?_
          refine wpD_seq ?_
          obtain ⟨y126, q126, ho126⟩ := yes_bind hm
          refine wpD_mid (Y := Unit) (fun z126 => (⟨[(2, .ptr b1 0), (3, .ptr b2 0), (5, .v (SL z85)), (7, .ptr b119 0), (17, .lst 4 (x4.map eTApiGlobal) (.cur (SL w3))), (18, .v (.int .i64 (x4.length : Int))), (19, .v (.int .i64 s85.2)), (53, .v (.bool y126))], [(0, Blk.row 1 (s85.1.map eStr) (SL z85)), (b1, Blk.cells [.lst 4 (a0.gGlobals.map eTApiGlobal) .no, .lst 5 (a0.gFuncs.map eTApiFunc) .no] 25), (b2, Blk.cells [.lst 4 (a1.gGlobals.map eTApiGlobal) .no, .lst 5 (a1.gFuncs.map eTApiFunc) .no] 25), (b119, Blk.cells [.v (.string x118.gName), .v (.bool x118.gPtr), .v (.int .i64 x118.gSize), .v (.int .i64 x118.gAt)] 61), (b121, Blk.cells [.v (.string x120.1.gName), .v (.bool x120.1.gPtr), .v (.int .i64 x120.1.gSize), .v (.int .i64 x120.1.gAt)] 61), (b123, Blk.cells [.v (.string x122.1.gName), .v (.bool x122.1.gPtr), .v (.int .i64 x122.1.gSize), .v (.int .i64 x122.1.gAt)] 61)], [(4, (SL w3))]⟩ : S)) ?_ ?_
          · clear hm; have hm := yes_of q126
            refine wpD_region ?_
            refine p_pure htab rfl rfl rfl rfl ?_
            refine p_pure htab rfl rfl rfl rfl ?_
            refine p_pure htab rfl rfl rfl rfl ?_
            refine p_pure htab rfl rfl rfl rfl ?_
            refine p_split (i := 40) rfl (fun hg127 => ?_) (fun hg127 => ?_)
            · replace hm := yes_t hg127 hm
              refine p_skip rfl rfl rfl ?_
              refine p_skip rfl rfl rfl ?_
              refine p_skip rfl rfl rfl ?_
              refine p_skip rfl rfl rfl ?_
              refine p_skip rfl rfl rfl ?_
              refine p_pickT rfl rfl rfl rfl rfl rfl ?_
              refine p_pure htab rfl rfl rfl rfl ?_
              refine p_skip rfl rfl rfl ?_
              refine p_skip rfl rfl rfl ?_
              refine p_skip rfl rfl rfl ?_
              refine p_skip rfl rfl rfl ?_
              refine p_skip rfl rfl rfl ?_
              refine p_pickT rfl rfl rfl rfl rfl rfl ?_
              refine ops_nil ?_
              have e126 := yes_eq hm; subst e126
              refine ⟨rfl, ?_⟩
              exact WkX.of () (WkS.perm (WkS.cons rfl (Wk.refl _) (WkS.cons rfl (Wk.refl _) (WkS.cons rfl (Wk.refl _) (WkS.cons rfl (Wk.refl _) (WkS.cons rfl (Wk.refl _) (WkS.cons rfl (Wk.refl _) (WkS.cons rfl (Wk.refl _) (WkS.cons rfl (Wk.refl _) (WkS.nil))))))))) (List.Perm.refl _) (List.Perm.refl _))
            · replace hm := yes_f hg127 hm
              refine p_pure htab rfl rfl rfl rfl ?_
              refine p_load 4 htab rfl rfl rfl rfl rfl rfl rfl rfl ?_
              refine p_pure htab rfl rfl rfl rfl ?_
              refine p_load 5 htab rfl rfl rfl rfl rfl rfl rfl rfl ?_
              refine p_pure htab rfl rfl rfl rfl ?_
              refine p_pickF rfl rfl rfl rfl rfl rfl ?_
              refine p_pure htab rfl rfl rfl rfl ?_
              refine p_split (i := 47) rfl (fun hg128 => ?_) (fun hg128 => ?_)
              · replace hm := yes_t hg128 hm
                refine p_skip rfl rfl rfl ?_
                refine p_skip rfl rfl rfl ?_
                refine p_skip rfl rfl rfl ?_
                refine p_skip rfl rfl rfl ?_
                refine p_skip rfl rfl rfl ?_
                refine p_pickT rfl rfl rfl rfl rfl rfl ?_
                refine ops_nil ?_
                have e126 := yes_eq hm; subst e126
                refine ⟨rfl, ?_⟩
                exact WkX.of () (WkS.perm (WkS.cons rfl (Wk.refl _) (WkS.cons rfl (Wk.refl _) (WkS.cons rfl (Wk.refl _) (WkS.cons rfl (Wk.refl _) (WkS.cons rfl (Wk.refl _) (WkS.cons rfl (Wk.refl _) (WkS.cons rfl (Wk.refl _) (WkS.cons rfl (Wk.refl _) (WkS.nil))))))))) (List.Perm.refl _) (List.Perm.refl _))
              · replace hm := yes_f hg128 hm
                refine p_pure htab rfl rfl rfl rfl ?_
                refine p_load 4 htab rfl rfl rfl rfl rfl rfl rfl rfl ?_
                refine p_pure htab rfl rfl rfl rfl ?_
                refine p_load 5 htab rfl rfl rfl rfl rfl rfl rfl rfl ?_
                refine p_pure htab rfl rfl rfl rfl ?_
                refine p_pickF rfl rfl rfl rfl rfl rfl ?_
                refine ops_nil ?_
                have e126 := yes_eq hm; subst e126
                refine ⟨rfl, ?_⟩
                exact WkX.of () (WkS.perm (WkS.cons rfl (Wk.refl _) (WkS.cons rfl (Wk.refl _) (WkS.cons rfl (Wk.refl _) (WkS.cons rfl (Wk.refl _) (WkS.cons rfl (Wk.refl _) (WkS.cons rfl (Wk.refl _) (WkS.cons rfl (Wk.refl _) (WkS.cons rfl (Wk.refl _) (WkS.nil))))))))) (List.Perm.refl _) (List.Perm.refl _))
          · intro s126 hw126; clear hm; have hm := ho126; clear q126 ho126
            refine then_normal ?_
            refine wpD_wkX hw126 (fun z126 => ?_)
            refine wpD_cond rfl (fun hc129 => ?_) (fun hc129 => ?_)
            · replace hm := yes_t hc129 hm
              refine wpD_region ?_
              refine p_pure htab rfl rfl rfl rfl ?_
              refine p_pure htab rfl rfl rfl rfl ?_
              refine p_load 3 htab rfl rfl rfl rfl rfl rfl rfl rfl ?_
              refine p_lit htab rfl rfl rfl rfl rfl rfl rfl rfl rfl rfl rfl rfl rfl rfl ?_
              refine p_eq (i := 57) (d' := .lst 1 (([x118.gName] : List ByteArray).map eStr) .full) rfl (Wk.lst0 (.cons (WkC.refl _) (.nil))) ?_
              obtain ⟨x130, q130, hm⟩ := yes_bind hm
              refine p_appR2 0 htab rfl rfl rfl rfl rfl rfl rfl rfl rfl rfl rfl rfl rfl rfl rfl rfl (app_bound q130) (app_map q130) (fun v130 => ?_)
              refine p_pure htab rfl rfl rfl rfl ?_
              refine ops_nil ?_
              refine block_normal ?_
              refine then_normal ?_
              refine wpD_region ?_
              refine p_pure htab rfl rfl rfl rfl ?_
              refine p_pure htab rfl rfl rfl rfl ?_
              refine ops_nil ?_
              refine then_normal ⟨_, lp_next hm, ?_⟩
              exact WkX.of v130 (WkS.perm (WkS.cons rfl (Wk.refl _) (WkS.cons rfl (Wk.refl _) (WkS.cons rfl (Wk.refl _) (WkS.cons rfl (Wk.refl _) (WkS.cons rfl (Wk.refl _) (WkS.cons rfl (Wk.refl _) (WkS.nil))))))) (List.Perm.refl _) (List.Perm.refl _))
            · replace hm := yes_f hc129 hm
              refine wpD_skip ?_
              refine block_normal ?_
              refine then_normal ?_
              refine wpD_region ?_
              refine p_pure htab rfl rfl rfl rfl ?_
              refine p_pure htab rfl rfl rfl rfl ?_
              refine ops_nil ?_
              refine then_normal ⟨_, lp_next hm, ?_⟩
              exact WkX.of z85 (WkS.perm (WkS.cons rfl (Wk.refl _) (WkS.cons rfl (Wk.refl _) (WkS.cons rfl (Wk.refl _) (WkS.cons rfl (Wk.refl _) (WkS.cons rfl (Wk.refl _) (WkS.cons rfl (Wk.refl _) (WkS.nil))))))) (List.Perm.refl _) (List.Perm.refl _))
        · replace hm := yes_f hc117 hm
          refine wpD_exit ?_
          refine then_exit ?_
          have e85 := lp_done hm; subst e85; clear hm; have hm := hq85
          refine then_exit ?_
          refine block_hit ?_
          have e68 := yes_eq hm; subst e68
          refine ⟨rfl, ?_⟩
          exact WkX.of z85 (WkS.perm (WkS.cons rfl (Wk.refl _) (WkS.nil)) (List.Perm.refl _) (List.Perm.refl _))
  · intro s68 hw68; clear hm; have hm := ho68; clear q68 ho68
    refine then_normal ?_
    refine wpD_wkX hw68 (fun z68 => ?_)
    refine wpD_seq ?_
    refine wpD_region ?_
    refine p_pure htab rfl rfl rfl rfl ?_
    obtain ⟨x132, q132, hm⟩ := yes_bind hm
    refine p_callG (change_row_r_ok y68 z68 x132 q132) rfl rfl rfl rfl rfl (WkL.refl _) (List.Perm.refl _) (List.Perm.refl _) ?_
    rintro _ _ _ ⟨w131, rfl, rfl, rfl⟩
    refine p_pure htab rfl rfl rfl rfl ?_
    refine ops_nil ?_
    refine then_normal ?_
    refine wpD_ret ?_
    have er133 := yes_eq hm; subst er133
    refine retX.wk (WkS.frz 0 rfl rfl) ?_
    refine retX.wk (WkS.tld 4 0 rfl rfl) ?_
    refine retX.wk (WkS.tld 61 0 rfl rfl) ?_
    refine retX.wk (WkS.drop 0 rfl) ?_
    refine retX.of (s' := ⟨[(4, .lst 1 (x132.map eStr) (.cur (SL w131)))], [], [(1, (SL w131))]⟩) (WkS.perm (WkS.cons rfl (Wk.refl _) (WkS.nil)) (List.Perm.refl _) (List.Perm.refl _)) (retD_mk (hh := []) (.inl rfl) (resL_cons (resOne_tmp rfl) (resL_nil)) (List.nil_sublist _) (List.Sublist.refl _) ?_)
    exact ⟨(SL w131), rfl, rfl, rfl⟩
theorem change_globals_ok0 (a0 : TApiProgram) (a1 : TApiProgram) (r : List ByteArray) (h0 : change_globals a0 a1 = some r) : CallsD Try.prog 18 [eTApiProgram a0, eTApiProgram a1] [] [] (fun d h k => d = .lst 1 (r.map eStr) .no ∧ h = [] ∧ k = []) :=
  (change_globals_ok a0 a1 r h0).drop fun d h k ⟨y0, e, _, _⟩ => by subst e; exact Wk.no
structure TChangeDiff where
  gFuncs : List ByteArray
  gGlobals : List ByteArray
def eTChangeDiff (x : TChangeDiff) : D := .agg [.lst 1 (x.gFuncs.map eStr) .no, .lst 1 (x.gGlobals.map eStr) .no]
noncomputable def change_Of (a0 : TApiProgram) (a1 : TApiProgram) : Option (TChangeDiff) :=
  ((change_funcs a0 a1).bind fun x5 => ((change_globals a0 a1).bind fun x11 => some (⟨x5, x11⟩ : TChangeDiff)))
set_option maxRecDepth 100000 in
set_option maxHeartbeats 2000000 in
theorem change_Of_ok (a0 : TApiProgram) (a1 : TApiProgram) (r : TChangeDiff) (h0 : change_Of a0 a1 = some r) : CallsD Try.prog 8 [eTApiProgram a0, eTApiProgram a1] [] [] (fun d h k => ∃ y0 y1, d = .agg [.lst 1 (r.gFuncs.map eStr) (.cur y0), .lst 1 (r.gGlobals.map eStr) (.cur y1)] ∧ h = [] ∧ k = [(1, y0), (1, y1)]) := by
  have hm := yes_of h0
  unfold change_Of at hm
  clear h0
  refine enterX htab Try.func8 rfl rfl rfl rfl rfl (fun C => ?_)
  refine wpD_seq ?_
  refine wpD_region ?_
  refine p_box rfl rfl rfl rfl rfl rfl rfl (fun b1 => ?_)
  refine p_box rfl rfl rfl rfl rfl rfl rfl (fun b2 => ?_)
  refine p_alloc htab rfl rfl rfl rfl rfl rfl rfl (fun b3 => ?_)
  refine ops_nil ?_
  refine then_normal ?_
  refine wpD_seq ?_
  obtain ⟨x5, q5, hm⟩ := yes_bind hm
  refine wpD_drawsT 5 [] [(2, 1)] [[],[],[0,1],[],[]] [0,1,2,3,4] [[],[],[0,1],[],[],[0,1,2,3,4],[0,1,2,3,4,5],[0,1,2,3,4,5,6]] (by kernel_rfl) (by kernel_rfl) (by kernel_rfl) (by rfl) (by rfl) (by kernel_rfl) ?_
  apply Exists.intro
  apply Exists.intro
  apply Exists.intro
  apply Exists.intro
  apply Exists.intro
  intro bs
  refine zt_eM rfl rfl (xm_load (d := eTApiProgram a0) 0 htab rfl rfl rfl rfl rfl) rfl rfl rfl rfl rfl rfl rfl ?_
  refine zt_eM rfl rfl (xm_load (d := eTApiProgram a1) 1 htab rfl rfl rfl rfl rfl) rfl rfl rfl rfl rfl rfl rfl ?_
  refine zt_callT rfl rfl (change_funcs_ok a0 a1 x5 q5) rfl rfl (WkL.refl _) rfl rfl rfl rfl rfl (by simp) (by decide) rfl ?_
  refine zt_eM rfl rfl (xm_load (d := eTApiProgram a0) 0 htab rfl rfl rfl rfl rfl) rfl rfl rfl rfl rfl rfl rfl ?_
  refine zt_eM rfl rfl (xm_load (d := eTApiProgram a1) 1 htab rfl rfl rfl rfl rfl) rfl rfl rfl rfl rfl rfl rfl ?_
  refine zt_nil (k' := [(1, (bs 2))]) rfl (fun e he => by simp [isT] at he; subst he; rfl) rfl rfl (fun e he => by simp [isAl] at he) ?_
  obtain ⟨w9, hw9⟩ : ∃ y, bs 2 = y := ⟨_, rfl⟩
  simp only [hw9]
  clear hw9
  obtain ⟨x11, q11, hm⟩ := yes_bind hm
  refine p_callG (change_globals_ok a0 a1 x11 q11) rfl rfl rfl rfl rfl (WkL.refl _) (List.Perm.refl _) (List.Perm.refl _) ?_
  rintro _ _ _ ⟨w10, rfl, rfl, rfl⟩
  refine p_build (r := [.lst 1 (x5.map eStr) (.cur w9), .lst 1 (x11.map eStr) (.cur w10)]) htab rfl rfl rfl rfl rfl rfl rfl rfl rfl ?_
  refine p_store (ds' := [.lst 1 (x5.map eStr) (.cur w9), .lst 1 (x11.map eStr) (.cur w10)]) (h' := [(b1, Blk.cells [.lst 4 (a0.gGlobals.map eTApiGlobal) .no, .lst 5 (a0.gFuncs.map eTApiFunc) .no] 25), (b2, Blk.cells [.lst 4 (a1.gGlobals.map eTApiGlobal) .no, .lst 5 (a1.gFuncs.map eTApiFunc) .no] 25), (b3, Blk.cells [.lst 1 (x5.map eStr) (.cur w9), .lst 1 (x11.map eStr) (.cur w10)] 30)]) 2 htab rfl rfl rfl rfl rfl rfl rfl rfl rfl rfl rfl rfl ?_
  refine ops_nil ?_
  refine then_normal ?_
  refine wpD_ret ?_
  have er12 := yes_eq hm; subst er12
  refine retX.of (s' := ⟨[(4, .ptr b3 0)], [(b3, Blk.cells [.lst 1 (x5.map eStr) (.cur w9), .lst 1 (x11.map eStr) (.cur w10)] 30)], [(1, w9), (1, w10)]⟩) (WkS.perm (WkS.cons rfl (Wk.refl _) (WkS.nil)) ((perm_at (j := 2) rfl).trans (List.Perm.cons _ (List.Perm.refl _))) ((perm_at (j := 1) rfl).trans (List.Perm.cons _ ((perm_at (j := 0) rfl).trans (List.Perm.cons _ (List.Perm.refl _)))))) (retD_mk (hh := []) (.inl rfl) (resL_cons (resOne_cell 0 rfl rfl rfl rfl) (resL_nil)) (List.nil_sublist _) (List.Sublist.refl _) ?_)
  exact ⟨w9, w10, rfl, rfl, rfl⟩
theorem change_Of_ok0 (a0 : TApiProgram) (a1 : TApiProgram) (r : TChangeDiff) (h0 : change_Of a0 a1 = some r) : CallsD Try.prog 8 [eTApiProgram a0, eTApiProgram a1] [] [] (fun d h k => d = eTChangeDiff r ∧ h = [] ∧ k = []) :=
  (change_Of_ok a0 a1 r h0).drop fun d h k ⟨y0, y1, e, _, _⟩ => by subst e; exact Wk.agg (WkR.cons (WkC.no) rfl (WkR.cons (WkC.no) rfl (WkR.nil)))
noncomputable def r11_Texts (a0 : List ByteArray) (a1 : List ByteArray) : Option (Bool) :=
  (bif ((a0.length : Int) != (a1.length : Int)) then some false else (Option.bind (α := (Unit) ⊕ (Bool)) (loopM (fun (s21 : Int) => (bif (decide (s21 < (a0.length : Int))) then ((idx a0 s21).bind fun x33 => ((idx a1 s21).bind fun x34 => (bif (!decide (x33 = x34)) then some (.done (.inr false)) else some (.next (IntKind.i64.wrap (s21 + (1 : Int))))))) else some (.done (.inl ())))) (0 : Int)) (Sum.elim (fun y20 => some true) (fun r => some r))))
set_option maxRecDepth 100000 in
set_option maxHeartbeats 2000000 in
theorem r11_Texts_ok (a0 : List ByteArray) (a1 : List ByteArray) (r : Bool) (h0 : r11_Texts a0 a1 = some r) : CallsD Try.prog 9 [.lst 1 (a0.map eStr) .no, .lst 1 (a1.map eStr) .no] [] [] (fun d h k => d = .v (.bool r) ∧ h = [] ∧ k = []) := by
  have hm := yes_of h0
  unfold r11_Texts at hm
  clear h0
  refine enterX htab Try.func9 rfl rfl rfl rfl rfl (fun C => ?_)
  refine wpD_seq ?_
  refine wpD_region ?_
  refine p_pure htab rfl rfl rfl rfl ?_
  refine ops_nil ?_
  refine then_normal ?_
  refine wpD_seq ?_
  refine wpD_seq ?_
  refine wpD_region ?_
  refine p_pure htab rfl rfl rfl rfl ?_
  refine p_lenL htab rfl rfl rfl rfl rfl rfl rfl (by first | exact map_len | rfl) ?_
  refine p_pure htab rfl rfl rfl rfl ?_
  refine p_lenL htab rfl rfl rfl rfl rfl rfl rfl (by first | exact map_len | rfl) ?_
  refine p_pure htab rfl rfl rfl rfl ?_
  refine ops_nil ?_
  refine then_normal ?_
  refine wpD_cond rfl (fun hc2 => ?_) (fun hc2 => ?_)
  · replace hm := yes_t hc2 hm
    refine wpD_seq ?_
    refine wpD_region ?_
    refine p_pure htab rfl rfl rfl rfl ?_
    refine ops_nil ?_
    refine then_normal ?_
    refine wpD_ret ?_
    refine then_ret ?_
    have er3 := yes_eq hm; subst er3
    refine retX.of (s' := ⟨[(4, .v (.bool false))], [], []⟩) (WkS.perm (WkS.cons rfl (Wk.refl _) (WkS.nil)) (List.Perm.refl _) (List.Perm.refl _)) (retD_mk (hh := []) (.inl rfl) (resL_cons (resOne_tmp rfl) (resL_nil)) (List.nil_sublist _) (List.Sublist.refl _) ?_)
    exact ⟨rfl, rfl, rfl⟩
  · replace hm := yes_f hc2 hm
    refine wpD_skip ?_
    refine then_normal ?_
    refine wpD_seq ?_
    refine wpD_seq ?_
    refine wpD_region ?_
    refine p_pure htab rfl rfl rfl rfl ?_
    refine ops_nil ?_
    refine then_normal ?_
    obtain ⟨x20, q20, ho20⟩ := yes_bind hm
    refine wpD_midX (τ := Unit) (Y := Unit) (fun y20 z20 => (⟨[], [], []⟩ : S)) x20 ?_ ?_
    · clear hm; have hm := yes_of q20
      refine wpD_block ?_
      obtain ⟨u21, hl21, hq21⟩ := yes_m hm
      refine loop_M (Y := Unit) hl21 (fun s21 z21 => (⟨[(0, .lst 1 (a0.map eStr) .no), (1, .lst 1 (a1.map eStr) .no), (5, .v (.int .i64 s21))], [], []⟩ : S)) ?_ ?_
      · skip
        exact WkX.of () (WkS.perm (WkS.cons rfl (Wk.refl _) (WkS.cons rfl (Wk.refl _) (WkS.cons rfl (Wk.refl _) (WkS.nil)))) (List.Perm.refl _) (List.Perm.refl _))
      · intro G21 s21 z21 hm
        refine wpD_seq ?_
        refine wpD_seq ?_
        refine wpD_region ?_
        refine p_pure htab rfl rfl rfl rfl ?_
        refine p_pure htab rfl rfl rfl rfl ?_
        refine p_lenL htab rfl rfl rfl rfl rfl rfl rfl (by first | exact map_len | rfl) ?_
        refine p_pure htab rfl rfl rfl rfl ?_
        refine ops_nil ?_
        refine then_normal ?_
        refine wpD_cond rfl (fun hc32 => ?_) (fun hc32 => ?_)
        · replace hm := yes_t hc32 hm
          refine wpD_skip ?_
          refine then_normal ?_
          refine wpD_seq ?_
          refine wpD_block ?_
          refine wpD_seq ?_
          obtain ⟨x33, q33, hm⟩ := yes_bind hm
          obtain ⟨x34, q34, hm⟩ := yes_bind hm
          refine wpD_draws 8 [] [[],[],[0],[0,2],[],[],[4],[4,6]] [0,2,4,6] [[],[],[0,1],[0,1,2],[],[],[4,5],[4,5,6],[0,1,2,3,4,5,6,7]] (by kernel_rfl) (by kernel_rfl) (by kernel_rfl) (by rfl) (by rfl) (by kernel_rfl) ?_
          apply Exists.intro
          apply Exists.intro
          apply Exists.intro
          apply Exists.intro
          intro bs
          refine z_e rfl rfl (ex_pure htab rfl) rfl rfl rfl rfl rfl rfl ?_
          refine z_q rfl rfl (ex_pure htab rfl) rfl rfl rfl rfl rfl rfl ?_
          refine z_e rfl rfl (x_elem htab rfl rfl rfl rfl rfl rfl rfl (idx_nonneg q33) (idx_map q33)) rfl rfl rfl rfl rfl rfl ?_
          refine z_qM rfl rfl (xm_loadEl htab rfl rfl rfl rfl rfl) rfl rfl rfl rfl rfl rfl ?_
          refine z_e rfl rfl (ex_pure htab rfl) rfl rfl rfl rfl rfl rfl ?_
          refine z_q rfl rfl (ex_pure htab rfl) rfl rfl rfl rfl rfl rfl ?_
          refine z_e rfl rfl (x_elem htab rfl rfl rfl rfl rfl rfl rfl (idx_nonneg q34) (idx_map q34)) rfl rfl rfl rfl rfl rfl ?_
          refine z_qM rfl rfl (xm_loadEl htab rfl rfl rfl rfl rfl) rfl rfl rfl rfl rfl rfl ?_
          refine z_nil rfl rfl (fun e he => by simp [isAl] at he) ?_
          refine p_pure htab rfl rfl rfl rfl ?_
          refine ops_nil ?_
          refine then_normal ?_
          refine wpD_cond rfl (fun hc35 => ?_) (fun hc35 => ?_)
          · replace hm := yes_t hc35 hm
            refine wpD_seq ?_
            refine wpD_region ?_
            refine p_pure htab rfl rfl rfl rfl ?_
            refine ops_nil ?_
            refine then_normal ?_
            refine wpD_ret ?_
            refine block_ret ?_
            refine then_ret ?_
            have e21 := lp_done hm; subst e21; clear hm; have hm := hq21
            refine then_ret ?_
            refine block_ret ?_
            have e20 := yes_eq hm; subst e20; refine midX_inr ?_; clear hm; have hm := ho20; simp only [Sum.elim_inr] at hm
            refine then_ret ?_
            have er36 := yes_eq hm; subst er36
            refine retX.of (s' := ⟨[(4, .v (.bool false))], [], []⟩) (WkS.perm (WkS.cons rfl (Wk.refl _) (WkS.nil)) (List.Perm.refl _) (List.Perm.refl _)) (retD_mk (hh := []) (.inl rfl) (resL_cons (resOne_tmp rfl) (resL_nil)) (List.nil_sublist _) (List.Sublist.refl _) ?_)
            exact ⟨rfl, rfl, rfl⟩
          · replace hm := yes_f hc35 hm
            refine wpD_skip ?_
            refine block_normal ?_
            refine then_normal ?_
            refine wpD_region ?_
            refine p_pure htab rfl rfl rfl rfl ?_
            refine p_pure htab rfl rfl rfl rfl ?_
            refine p_pure htab rfl rfl rfl rfl ?_
            refine ops_nil ?_
            refine then_normal ⟨_, lp_next hm, ?_⟩
            exact WkX.of () (WkS.perm (WkS.cons rfl (Wk.refl _) (WkS.cons rfl (Wk.refl _) (WkS.cons rfl (Wk.refl _) (WkS.nil)))) (List.Perm.refl _) (List.Perm.refl _))
        · replace hm := yes_f hc32 hm
          refine wpD_exit ?_
          refine then_exit ?_
          have e21 := lp_done hm; subst e21; clear hm; have hm := hq21
          refine then_exit ?_
          refine block_hit ?_
          have e20 := yes_eq hm; subst e20
          refine midX_inl ?_
          exact WkX.of () (WkS.perm (WkS.nil) (List.Perm.refl _) (List.Perm.refl _))
    · intro y20 s20 hx20 hw20; subst hx20; clear hm; have hm := ho20; simp only [Sum.elim_inl] at hm; clear q20 ho20
      refine then_normal ?_
      refine wpD_wkX hw20 (fun z20 => ?_)
      refine wpD_seq ?_
      refine wpD_region ?_
      refine p_pure htab rfl rfl rfl rfl ?_
      refine ops_nil ?_
      refine then_normal ?_
      refine wpD_ret ?_
      have er37 := yes_eq hm; subst er37
      refine retX.of (s' := ⟨[(4, .v (.bool true))], [], []⟩) (WkS.perm (WkS.cons rfl (Wk.refl _) (WkS.nil)) (List.Perm.refl _) (List.Perm.refl _)) (retD_mk (hh := []) (.inl rfl) (resL_cons (resOne_tmp rfl) (resL_nil)) (List.nil_sublist _) (List.Sublist.refl _) ?_)
      exact ⟨rfl, rfl, rfl⟩
noncomputable def l18_lives : Option (Bool) :=
  ((change_Of (⟨[], ([(⟨(ByteArray.mk #[102]), [], [], [], (0 : Int)⟩ : TApiFunc), (⟨(ByteArray.mk #[103]), [], [], [], (0 : Int)⟩ : TApiFunc)] : List TApiFunc)⟩ : TApiProgram) (⟨[], ([(⟨(ByteArray.mk #[103]), [], [], [], (0 : Int)⟩ : TApiFunc), (⟨(ByteArray.mk #[102]), ([(⟨(ByteArray.mk #[120]), false⟩ : TApiVar)] : List TApiVar), [], [], (0 : Int)⟩ : TApiFunc)] : List TApiFunc)⟩ : TApiProgram)).bind fun x3 => ((r11_Texts x3.gFuncs ([(ByteArray.mk #[102])] : List ByteArray)).bind fun x5 => (bif x5 then some ((x3.gGlobals.length : Int) == (0 : Int)) else some false)))
set_option maxRecDepth 100000 in
set_option maxHeartbeats 2000000 in
theorem l18_lives_ok  (r : Bool) (h0 : l18_lives = some r) : CallsD Try.prog 7 [] [] [] (fun d h k => d = .v (.bool r) ∧ h = [] ∧ k = []) := by
  have hm := yes_of h0
  unfold l18_lives at hm
  clear h0
  refine enterX htab Try.func7 rfl rfl rfl rfl rfl (fun C => ?_)
  refine wpD_seq ?_
  refine wpD_region ?_
  refine p_pure htab rfl rfl rfl rfl ?_
  refine ops_nil ?_
  refine then_normal ?_
  refine wpD_seq ?_
  refine wpD_region ?_
  refine p_build (r := [.v (.string (ByteArray.mk #[102])), .lst 1 [] .full, .lst 1 [] .full, .lst 1 [] .full, .v (.int .i64 (0 : Int))]) htab rfl rfl rfl rfl rfl rfl rfl rfl rfl ?_
  refine p_build (r := [.v (.string (ByteArray.mk #[103])), .lst 1 [] .full, .lst 1 [] .full, .lst 1 [] .full, .v (.int .i64 (0 : Int))]) htab rfl rfl rfl rfl rfl rfl rfl rfl rfl ?_
  refine p_lit htab rfl rfl rfl rfl rfl rfl rfl rfl rfl rfl rfl rfl rfl rfl ?_
  refine p_eq (i := 4) (d' := .lst 5 (([(⟨(ByteArray.mk #[102]), [], [], [], (0 : Int)⟩ : TApiFunc), (⟨(ByteArray.mk #[103]), [], [], [], (0 : Int)⟩ : TApiFunc)] : List TApiFunc).map eTApiFunc) .full) rfl (Wk.lst0 (.cons (WkC.agg (WkR.cons (WkC.refl _) rfl (WkR.cons (WkC.nil) rfl (WkR.cons (WkC.nil) rfl (WkR.cons (WkC.nil) rfl (WkR.cons (WkC.refl _) rfl (WkR.nil))))))) (.cons (WkC.agg (WkR.cons (WkC.refl _) rfl (WkR.cons (WkC.nil) rfl (WkR.cons (WkC.nil) rfl (WkR.cons (WkC.nil) rfl (WkR.cons (WkC.refl _) rfl (WkR.nil))))))) (.nil)))) ?_
  refine p_build (r := [.lst 1 [] .full, .lst 5 (([(⟨(ByteArray.mk #[102]), [], [], [], (0 : Int)⟩ : TApiFunc), (⟨(ByteArray.mk #[103]), [], [], [], (0 : Int)⟩ : TApiFunc)] : List TApiFunc).map eTApiFunc) .full]) htab rfl rfl rfl rfl rfl rfl rfl rfl rfl ?_
  refine p_build (r := [.v (.string (ByteArray.mk #[103])), .lst 1 [] .full, .lst 1 [] .full, .lst 1 [] .full, .v (.int .i64 (0 : Int))]) htab rfl rfl rfl rfl rfl rfl rfl rfl rfl ?_
  refine p_build (r := [.v (.string (ByteArray.mk #[120])), .v (.bool false)]) htab rfl rfl rfl rfl rfl rfl rfl rfl rfl ?_
  refine p_lit htab rfl rfl rfl rfl rfl rfl rfl rfl rfl rfl rfl rfl rfl rfl ?_
  refine p_eq (i := 8) (d' := .lst 2 (([(⟨(ByteArray.mk #[120]), false⟩ : TApiVar)] : List TApiVar).map eTApiVar) .full) rfl (Wk.lst0 (.cons (WkC.refl _) (.nil))) ?_
  refine p_build (r := [.v (.string (ByteArray.mk #[102])), .lst 2 (([(⟨(ByteArray.mk #[120]), false⟩ : TApiVar)] : List TApiVar).map eTApiVar) .full, .lst 1 [] .full, .lst 1 [] .full, .v (.int .i64 (0 : Int))]) htab rfl rfl rfl rfl rfl rfl rfl rfl rfl ?_
  refine p_lit htab rfl rfl rfl rfl rfl rfl rfl rfl rfl rfl rfl rfl rfl rfl ?_
  refine p_eq (i := 10) (d' := .lst 5 (([(⟨(ByteArray.mk #[103]), [], [], [], (0 : Int)⟩ : TApiFunc), (⟨(ByteArray.mk #[102]), ([(⟨(ByteArray.mk #[120]), false⟩ : TApiVar)] : List TApiVar), [], [], (0 : Int)⟩ : TApiFunc)] : List TApiFunc).map eTApiFunc) .full) rfl (Wk.lst0 (.cons (WkC.agg (WkR.cons (WkC.refl _) rfl (WkR.cons (WkC.nil) rfl (WkR.cons (WkC.nil) rfl (WkR.cons (WkC.nil) rfl (WkR.cons (WkC.refl _) rfl (WkR.nil))))))) (.cons (WkC.agg (WkR.cons (WkC.refl _) rfl (WkR.cons (WkC.no) rfl (WkR.cons (WkC.nil) rfl (WkR.cons (WkC.nil) rfl (WkR.cons (WkC.refl _) rfl (WkR.nil))))))) (.nil)))) ?_
  refine p_build (r := [.lst 1 [] .full, .lst 5 (([(⟨(ByteArray.mk #[103]), [], [], [], (0 : Int)⟩ : TApiFunc), (⟨(ByteArray.mk #[102]), ([(⟨(ByteArray.mk #[120]), false⟩ : TApiVar)] : List TApiVar), [], [], (0 : Int)⟩ : TApiFunc)] : List TApiFunc).map eTApiFunc) .full]) htab rfl rfl rfl rfl rfl rfl rfl rfl rfl ?_
  obtain ⟨x3, q3, hm⟩ := yes_bind hm
  refine p_callG (change_Of_ok (⟨[], ([(⟨(ByteArray.mk #[102]), [], [], [], (0 : Int)⟩ : TApiFunc), (⟨(ByteArray.mk #[103]), [], [], [], (0 : Int)⟩ : TApiFunc)] : List TApiFunc)⟩ : TApiProgram) (⟨[], ([(⟨(ByteArray.mk #[103]), [], [], [], (0 : Int)⟩ : TApiFunc), (⟨(ByteArray.mk #[102]), ([(⟨(ByteArray.mk #[120]), false⟩ : TApiVar)] : List TApiVar), [], [], (0 : Int)⟩ : TApiFunc)] : List TApiFunc)⟩ : TApiProgram) x3 q3) rfl rfl rfl rfl rfl (WkL.cons (Wk.agg (WkR.cons (WkC.nil) rfl (WkR.cons (WkC.no) rfl (WkR.nil)))) (WkL.cons (Wk.agg (WkR.cons (WkC.nil) rfl (WkR.cons (WkC.no) rfl (WkR.nil)))) (WkL.refl _))) (List.Perm.refl _) (List.Perm.refl _) ?_
  rintro _ _ _ ⟨w1, w2, rfl, rfl, rfl⟩
  refine p_alloc htab rfl rfl rfl rfl rfl rfl rfl (fun b4 => ?_)
  refine p_store (ds' := [.lst 1 (x3.gFuncs.map eStr) (.cur w1), .lst 1 (x3.gGlobals.map eStr) (.cur w2)]) (h' := [(b4, Blk.cells [.lst 1 (x3.gFuncs.map eStr) (.cur w1), .lst 1 (x3.gGlobals.map eStr) (.cur w2)] 30)]) 0 htab rfl rfl rfl rfl rfl rfl rfl rfl rfl rfl rfl rfl ?_
  refine ops_nil ?_
  refine then_normal ?_
  refine wpD_seq ?_
  refine wpD_region ?_
  refine p_pure htab rfl rfl rfl rfl ?_
  refine p_load 0 htab rfl rfl rfl rfl rfl rfl rfl rfl ?_
  refine p_lit htab rfl rfl rfl rfl rfl rfl rfl rfl rfl rfl rfl rfl rfl rfl ?_
  refine p_eq (i := 15) (d' := .lst 1 (([(ByteArray.mk #[102])] : List ByteArray).map eStr) .full) rfl (Wk.lst0 (.cons (WkC.refl _) (.nil))) ?_
  obtain ⟨x5, q5, hm⟩ := yes_bind hm
  refine p_call0 (r11_Texts_ok x3.gFuncs ([(ByteArray.mk #[102])] : List ByteArray) x5 q5) rfl rfl rfl rfl rfl (WkL.cons (Wk.no) (WkL.cons (Wk.no) (WkL.refl _))) ?_
  rintro _ rfl
  refine p_pure htab rfl rfl rfl rfl ?_
  refine p_split (i := 17) rfl (fun hg6 => ?_) (fun hg6 => ?_)
  · replace hm := yes_t hg6 hm
    refine p_pure htab rfl rfl rfl rfl ?_
    refine p_load 0 htab rfl rfl rfl rfl rfl rfl rfl rfl ?_
    refine p_lenL htab rfl rfl rfl rfl rfl rfl rfl (by first | exact map_len | rfl) ?_
    refine p_pure htab rfl rfl rfl rfl ?_
    refine p_pickT rfl rfl rfl rfl rfl rfl ?_
    refine p_pure htab rfl rfl rfl rfl ?_
    refine ops_nil ?_
    refine then_normal ?_
    refine wpD_ret ?_
    have er7 := yes_eq hm; subst er7
    refine retX.of (s' := ⟨[(0, .v (.bool ((x3.gGlobals.length : Int) == (0 : Int))))], [], []⟩) (WkS.perm (WkS.cons rfl (Wk.refl _) (WkS.nil)) (List.Perm.refl _) (List.Perm.refl _)) (retD_mk (hh := []) (.inl rfl) (resL_cons (resOne_tmp rfl) (resL_nil)) (List.nil_sublist _) (List.Sublist.refl _) ?_)
    exact ⟨rfl, rfl, rfl⟩
  · replace hm := yes_f hg6 hm
    refine p_skip rfl rfl rfl ?_
    refine p_skip rfl rfl rfl ?_
    refine p_skip rfl rfl rfl ?_
    refine p_skip rfl rfl rfl ?_
    refine p_pickF rfl rfl rfl rfl rfl rfl ?_
    refine p_pure htab rfl rfl rfl rfl ?_
    refine ops_nil ?_
    refine then_normal ?_
    refine wpD_ret ?_
    have er8 := yes_eq hm; subst er8
    refine retX.of (s' := ⟨[(0, .v (.bool false))], [], []⟩) (WkS.perm (WkS.cons rfl (Wk.refl _) (WkS.nil)) (List.Perm.refl _) (List.Perm.refl _)) (retD_mk (hh := []) (.inl rfl) (resL_cons (resOne_tmp rfl) (resL_nil)) (List.nil_sublist _) (List.Sublist.refl _) ?_)
    exact ⟨rfl, rfl, rfl⟩
noncomputable def r18_all (a0 : TApiProgram) (a1 : Bool) : Option (List ByteArray) :=
  (bif a1 then (Option.bind (α := List ByteArray) (loopM (fun (s46 : List ByteArray × Int) => (bif (decide (s46.2 < (a0.gFuncs.length : Int))) then ((idx a0.gFuncs s46.2).bind fun x57 => ((app 16 s46.1 ([x57.gName] : List ByteArray)).bind fun x58 => some (.next (x58, (IntKind.i64.wrap (s46.2 + (1 : Int))))))) else some (.done s46.1))) (([] : List ByteArray), (0 : Int))) fun y45 => some y45) else (Option.bind (α := List ByteArray) (loopM (fun (s75 : List ByteArray × Int) => (bif (decide (s75.2 < (a0.gGlobals.length : Int))) then ((idx a0.gGlobals s75.2).bind fun x86 => ((app 16 s75.1 ([x86.gName] : List ByteArray)).bind fun x87 => some (.next (x87, (IntKind.i64.wrap (s75.2 + (1 : Int))))))) else some (.done s75.1))) (([] : List ByteArray), (0 : Int))) fun y74 => some y74))
set_option maxRecDepth 100000 in
set_option maxHeartbeats 2000000 in
theorem r18_all_ok (a0 : TApiProgram) (a1 : Bool) (r : List ByteArray) (h0 : r18_all a0 a1 = some r) : CallsD Try.prog 19 [eTApiProgram a0, .v (.bool a1)] [] [] (fun d h k => ∃ y0, d = .lst 1 (r.map eStr) (.cur y0) ∧ h = [] ∧ k = [(1, y0)]) := by
  have hm := yes_of h0
  unfold r18_all at hm
  clear h0
  refine enterX htab Try.func19 rfl rfl rfl rfl rfl (fun C => ?_)
  refine wpD_seq ?_
  refine wpD_region ?_
  refine p_box rfl rfl rfl rfl rfl rfl rfl (fun b1 => ?_)
  refine p_pure htab rfl rfl rfl rfl ?_
  refine ops_nil ?_
  refine then_normal ?_
  refine wpD_seq ?_
  refine wpD_region ?_
  refine p_pure htab rfl rfl rfl rfl ?_
  refine ops_nil ?_
  refine then_normal ?_
  refine wpD_seq ?_
  refine wpD_seq ?_
  refine wpD_region ?_
  refine p_pure htab rfl rfl rfl rfl ?_
  refine ops_nil ?_
  refine then_normal ?_
  refine wpD_cond rfl (fun hc31 => ?_) (fun hc31 => ?_)
  · replace hm := yes_t hc31 hm
    refine wpD_seq ?_
    refine wpD_seq ?_
    refine wpD_region ?_
    refine p_pure htab rfl rfl rfl rfl ?_
    refine ops_nil ?_
    refine then_normal ?_
    obtain ⟨y45, q45, ho45⟩ := yes_bind hm
    refine wpD_mid (Y := Value) (fun z45 => (⟨[(5, .lst 1 (y45.map eStr) (.cur z45))], [(b1, Blk.cells [.lst 4 (a0.gGlobals.map eTApiGlobal) .no, .lst 5 (a0.gFuncs.map eTApiFunc) .no] 25)], [(1, z45)]⟩ : S)) ?_ ?_
    · clear hm; have hm := yes_of q45
      refine wpD_block ?_
      obtain ⟨u46, hl46, hq46⟩ := yes_m hm
      refine loop_M (Y := Value) hl46 (fun s46 z46 => (⟨[(2, .ptr b1 0), (5, .lst 1 (s46.1.map eStr) (.cur z46)), (6, .v (.int .i64 s46.2))], [(b1, Blk.cells [.lst 4 (a0.gGlobals.map eTApiGlobal) .no, .lst 5 (a0.gFuncs.map eTApiFunc) .no] 25)], [(1, z46)]⟩ : S)) ?_ ?_
      · skip
        refine WkX.tokN (i := 5) 1 rfl (fun w55 => ?_)
        exact WkX.of w55 (WkS.perm (WkS.cons rfl (Wk.refl _) (WkS.cons rfl (Wk.refl _) (WkS.cons rfl (Wk.refl _) (WkS.nil)))) (List.Perm.refl _) (List.Perm.refl _))
      · intro G46 s46 z46 hm
        refine wpD_seq ?_
        refine wpD_seq ?_
        refine wpD_region ?_
        refine p_pure htab rfl rfl rfl rfl ?_
        refine p_pure htab rfl rfl rfl rfl ?_
        refine p_load 0 htab rfl rfl rfl rfl rfl rfl rfl rfl ?_
        refine p_lenL htab rfl rfl rfl rfl rfl rfl rfl (by first | exact map_len | rfl) ?_
        refine p_pure htab rfl rfl rfl rfl ?_
        refine ops_nil ?_
        refine then_normal ?_
        refine wpD_cond rfl (fun hc56 => ?_) (fun hc56 => ?_)
        · replace hm := yes_t hc56 hm
          refine wpD_skip ?_
          refine then_normal ?_
          refine wpD_seq ?_
          refine wpD_block ?_
          refine wpD_region ?_
          refine p_pure htab rfl rfl rfl rfl ?_
          refine p_pure htab rfl rfl rfl rfl ?_
          refine p_load 0 htab rfl rfl rfl rfl rfl rfl rfl rfl ?_
          refine p_pure htab rfl rfl rfl rfl ?_
          obtain ⟨x57, q57, hm⟩ := yes_bind hm
          refine p_elem htab rfl rfl rfl rfl rfl rfl rfl rfl rfl rfl (idx_nonneg q57) (idx_map q57) ?_
          refine p_pure htab rfl rfl rfl rfl ?_
          refine p_loadEl htab rfl rfl rfl rfl rfl rfl rfl rfl ?_
          refine p_lit htab rfl rfl rfl rfl rfl rfl rfl rfl rfl rfl rfl rfl rfl rfl ?_
          refine p_eq (i := 23) (d' := .lst 1 (([x57.gName] : List ByteArray).map eStr) .full) rfl (Wk.lst0 (.cons (WkC.refl _) (.nil))) ?_
          obtain ⟨x58, q58, hm⟩ := yes_bind hm
          refine p_appC 0 htab rfl rfl rfl rfl rfl rfl rfl rfl rfl rfl rfl rfl rfl rfl rfl rfl rfl (app_bound q58) (fun v58 => ?_)
          refine p_mapD (i := 24) q58 rfl ?_
          refine p_pure htab rfl rfl rfl rfl ?_
          refine ops_nil ?_
          refine block_normal ?_
          refine then_normal ?_
          refine wpD_region ?_
          refine p_pure htab rfl rfl rfl rfl ?_
          refine p_pure htab rfl rfl rfl rfl ?_
          refine p_pure htab rfl rfl rfl rfl ?_
          refine ops_nil ?_
          refine then_normal ⟨_, lp_next hm, ?_⟩
          exact WkX.of v58 (WkS.perm (WkS.cons rfl (Wk.refl _) (WkS.cons rfl (Wk.refl _) (WkS.cons rfl (Wk.refl _) (WkS.nil)))) (List.Perm.refl _) (List.Perm.refl _))
        · replace hm := yes_f hc56 hm
          refine wpD_exit ?_
          refine then_exit ?_
          have e46 := lp_done hm; subst e46; clear hm; have hm := hq46
          refine then_exit ?_
          refine block_hit ?_
          have e45 := yes_eq hm; subst e45
          refine ⟨rfl, ?_⟩
          exact WkX.of z46 (WkS.perm (WkS.cons rfl (Wk.refl _) (WkS.nil)) (List.Perm.refl _) (List.Perm.refl _))
    · intro s45 hw45; clear hm; have hm := ho45; clear q45 ho45
      refine then_normal ?_
      refine wpD_wkX hw45 (fun z45 => ?_)
      refine wpD_seq ?_
      refine wpD_region ?_
      refine p_pure htab rfl rfl rfl rfl ?_
      refine p_pure htab rfl rfl rfl rfl ?_
      refine ops_nil ?_
      refine then_normal ?_
      refine wpD_ret ?_
      refine then_ret ?_
      have er59 := yes_eq hm; subst er59
      refine retX.of (s' := ⟨[(4, .lst 1 (y45.map eStr) (.cur z45))], [], [(1, z45)]⟩) (WkS.perm (WkS.cons rfl (Wk.refl _) (WkS.nil)) (List.Perm.refl _) (List.Perm.refl _)) (retD_mk (hh := []) (.inl rfl) (resL_cons (resOne_tmp rfl) (resL_nil)) (List.nil_sublist _) (List.Sublist.refl _) ?_)
      exact ⟨z45, rfl, rfl, rfl⟩
  · replace hm := yes_f hc31 hm
    refine wpD_skip ?_
    refine then_normal ?_
    refine wpD_seq ?_
    refine wpD_seq ?_
    refine wpD_region ?_
    refine p_pure htab rfl rfl rfl rfl ?_
    refine ops_nil ?_
    refine then_normal ?_
    obtain ⟨y74, q74, ho74⟩ := yes_bind hm
    refine wpD_mid (Y := Value) (fun z74 => (⟨[(5, .lst 1 (y74.map eStr) (.cur z74))], [(b1, Blk.cells [.lst 4 (a0.gGlobals.map eTApiGlobal) .no, .lst 5 (a0.gFuncs.map eTApiFunc) .no] 25)], [(1, z74)]⟩ : S)) ?_ ?_
    · clear hm; have hm := yes_of q74
      refine wpD_block ?_
      obtain ⟨u75, hl75, hq75⟩ := yes_m hm
      refine loop_M (Y := Value) hl75 (fun s75 z75 => (⟨[(2, .ptr b1 0), (5, .lst 1 (s75.1.map eStr) (.cur z75)), (7, .v (.int .i64 s75.2))], [(b1, Blk.cells [.lst 4 (a0.gGlobals.map eTApiGlobal) .no, .lst 5 (a0.gFuncs.map eTApiFunc) .no] 25)], [(1, z75)]⟩ : S)) ?_ ?_
      · skip
        refine WkX.tokN (i := 5) 1 rfl (fun w84 => ?_)
        exact WkX.of w84 (WkS.perm (WkS.cons rfl (Wk.refl _) (WkS.cons rfl (Wk.refl _) (WkS.cons rfl (Wk.refl _) (WkS.nil)))) (List.Perm.refl _) (List.Perm.refl _))
      · intro G75 s75 z75 hm
        refine wpD_seq ?_
        refine wpD_seq ?_
        refine wpD_region ?_
        refine p_pure htab rfl rfl rfl rfl ?_
        refine p_pure htab rfl rfl rfl rfl ?_
        refine p_load 0 htab rfl rfl rfl rfl rfl rfl rfl rfl ?_
        refine p_lenL htab rfl rfl rfl rfl rfl rfl rfl (by first | exact map_len | rfl) ?_
        refine p_pure htab rfl rfl rfl rfl ?_
        refine ops_nil ?_
        refine then_normal ?_
        refine wpD_cond rfl (fun hc85 => ?_) (fun hc85 => ?_)
        · replace hm := yes_t hc85 hm
          refine wpD_skip ?_
          refine then_normal ?_
          refine wpD_seq ?_
          refine wpD_block ?_
          refine wpD_region ?_
          refine p_pure htab rfl rfl rfl rfl ?_
          refine p_pure htab rfl rfl rfl rfl ?_
          refine p_load 0 htab rfl rfl rfl rfl rfl rfl rfl rfl ?_
          refine p_pure htab rfl rfl rfl rfl ?_
          obtain ⟨x86, q86, hm⟩ := yes_bind hm
          refine p_elem htab rfl rfl rfl rfl rfl rfl rfl rfl rfl rfl (idx_nonneg q86) (idx_map q86) ?_
          refine p_pure htab rfl rfl rfl rfl ?_
          refine p_loadEl htab rfl rfl rfl rfl rfl rfl rfl rfl ?_
          refine p_lit htab rfl rfl rfl rfl rfl rfl rfl rfl rfl rfl rfl rfl rfl rfl ?_
          refine p_eq (i := 40) (d' := .lst 1 (([x86.gName] : List ByteArray).map eStr) .full) rfl (Wk.lst0 (.cons (WkC.refl _) (.nil))) ?_
          obtain ⟨x87, q87, hm⟩ := yes_bind hm
          refine p_appC 0 htab rfl rfl rfl rfl rfl rfl rfl rfl rfl rfl rfl rfl rfl rfl rfl rfl rfl (app_bound q87) (fun v87 => ?_)
          refine p_mapD (i := 41) q87 rfl ?_
          refine p_pure htab rfl rfl rfl rfl ?_
          refine ops_nil ?_
          refine block_normal ?_
          refine then_normal ?_
          refine wpD_region ?_
          refine p_pure htab rfl rfl rfl rfl ?_
          refine p_pure htab rfl rfl rfl rfl ?_
          refine p_pure htab rfl rfl rfl rfl ?_
          refine ops_nil ?_
          refine then_normal ⟨_, lp_next hm, ?_⟩
          exact WkX.of v87 (WkS.perm (WkS.cons rfl (Wk.refl _) (WkS.cons rfl (Wk.refl _) (WkS.cons rfl (Wk.refl _) (WkS.nil)))) (List.Perm.refl _) (List.Perm.refl _))
        · replace hm := yes_f hc85 hm
          refine wpD_exit ?_
          refine then_exit ?_
          have e75 := lp_done hm; subst e75; clear hm; have hm := hq75
          refine then_exit ?_
          refine block_hit ?_
          have e74 := yes_eq hm; subst e74
          refine ⟨rfl, ?_⟩
          exact WkX.of z75 (WkS.perm (WkS.cons rfl (Wk.refl _) (WkS.nil)) (List.Perm.refl _) (List.Perm.refl _))
    · intro s74 hw74; clear hm; have hm := ho74; clear q74 ho74
      refine then_normal ?_
      refine wpD_wkX hw74 (fun z74 => ?_)
      refine wpD_seq ?_
      refine wpD_region ?_
      refine p_pure htab rfl rfl rfl rfl ?_
      refine p_pure htab rfl rfl rfl rfl ?_
      refine ops_nil ?_
      refine then_normal ?_
      refine wpD_ret ?_
      have er88 := yes_eq hm; subst er88
      refine retX.of (s' := ⟨[(4, .lst 1 (y74.map eStr) (.cur z74))], [], [(1, z74)]⟩) (WkS.perm (WkS.cons rfl (Wk.refl _) (WkS.nil)) (List.Perm.refl _) (List.Perm.refl _)) (retD_mk (hh := []) (.inl rfl) (resL_cons (resOne_tmp rfl) (resL_nil)) (List.nil_sublist _) (List.Sublist.refl _) ?_)
      exact ⟨z74, rfl, rfl, rfl⟩
theorem r18_all_ok0 (a0 : TApiProgram) (a1 : Bool) (r : List ByteArray) (h0 : r18_all a0 a1 = some r) : CallsD Try.prog 19 [eTApiProgram a0, .v (.bool a1)] [] [] (fun d h k => d = .lst 1 (r.map eStr) .no ∧ h = [] ∧ k = []) :=
  (r18_all_ok a0 a1 r h0).drop fun d h k ⟨y0, e, _, _⟩ => by subst e; exact Wk.no
noncomputable def r18_Func (a0 : TApiProgram) (a1 : ByteArray) : Option (Int) :=
  (Option.bind (α := (Unit) ⊕ (Int)) (loopM (fun (s16 : Int) => (bif (decide (s16 < (a0.gFuncs.length : Int))) then ((idx a0.gFuncs s16).bind fun x26 => (bif (decide (x26.gName = a1)) then some (.done (.inr s16)) else some (.next (IntKind.i64.wrap (s16 + (1 : Int)))))) else some (.done (.inl ())))) (0 : Int)) (Sum.elim (fun y15 => some (-1 : Int)) (fun r => some r)))
set_option maxRecDepth 100000 in
set_option maxHeartbeats 2000000 in
theorem r18_Func_ok (a0 : TApiProgram) (a1 : ByteArray) (r : Int) (h0 : r18_Func a0 a1 = some r) : CallsD Try.prog 32 [eTApiProgram a0, .v (.string a1)] [] [] (fun d h k => d = .v (.int .i64 r) ∧ h = [] ∧ k = []) := by
  have hm := yes_of h0
  unfold r18_Func at hm
  clear h0
  refine enterX htab Try.func32 rfl rfl rfl rfl rfl (fun C => ?_)
  refine wpD_seq ?_
  refine wpD_region ?_
  refine p_box rfl rfl rfl rfl rfl rfl rfl (fun b1 => ?_)
  refine p_pure htab rfl rfl rfl rfl ?_
  refine ops_nil ?_
  refine then_normal ?_
  refine wpD_seq ?_
  refine wpD_seq ?_
  refine wpD_region ?_
  refine p_pure htab rfl rfl rfl rfl ?_
  refine ops_nil ?_
  refine then_normal ?_
  obtain ⟨x15, q15, ho15⟩ := yes_bind hm
  refine wpD_midX (τ := Unit) (Y := Unit) (fun y15 z15 => (⟨[], [(b1, Blk.cells [.lst 4 (a0.gGlobals.map eTApiGlobal) .no, .lst 5 (a0.gFuncs.map eTApiFunc) .no] 25)], []⟩ : S)) x15 ?_ ?_
  · clear hm; have hm := yes_of q15
    refine wpD_block ?_
    obtain ⟨u16, hl16, hq16⟩ := yes_m hm
    refine loop_M (Y := Unit) hl16 (fun s16 z16 => (⟨[(1, .v (.string a1)), (2, .ptr b1 0), (5, .v (.int .i64 s16))], [(b1, Blk.cells [.lst 4 (a0.gGlobals.map eTApiGlobal) .no, .lst 5 (a0.gFuncs.map eTApiFunc) .no] 25)], []⟩ : S)) ?_ ?_
    · skip
      exact WkX.of () (WkS.perm (WkS.cons rfl (Wk.refl _) (WkS.cons rfl (Wk.refl _) (WkS.cons rfl (Wk.refl _) (WkS.nil)))) (List.Perm.refl _) (List.Perm.refl _))
    · intro G16 s16 z16 hm
      refine wpD_seq ?_
      refine wpD_seq ?_
      refine wpD_region ?_
      refine p_pure htab rfl rfl rfl rfl ?_
      refine p_pure htab rfl rfl rfl rfl ?_
      refine p_load 0 htab rfl rfl rfl rfl rfl rfl rfl rfl ?_
      refine p_lenL htab rfl rfl rfl rfl rfl rfl rfl (by first | exact map_len | rfl) ?_
      refine p_pure htab rfl rfl rfl rfl ?_
      refine ops_nil ?_
      refine then_normal ?_
      refine wpD_cond rfl (fun hc25 => ?_) (fun hc25 => ?_)
      · replace hm := yes_t hc25 hm
        refine wpD_skip ?_
        refine then_normal ?_
        refine wpD_seq ?_
        refine wpD_block ?_
        refine wpD_seq ?_
        refine wpD_region ?_
        refine p_pure htab rfl rfl rfl rfl ?_
        refine p_load 0 htab rfl rfl rfl rfl rfl rfl rfl rfl ?_
        refine p_pure htab rfl rfl rfl rfl ?_
        obtain ⟨x26, q26, hm⟩ := yes_bind hm
        refine p_elem htab rfl rfl rfl rfl rfl rfl rfl rfl rfl rfl (idx_nonneg q26) (idx_map q26) ?_
        refine p_pure htab rfl rfl rfl rfl ?_
        refine p_loadEl htab rfl rfl rfl rfl rfl rfl rfl rfl ?_
        refine p_pure htab rfl rfl rfl rfl ?_
        refine p_pure htab rfl rfl rfl rfl ?_
        refine ops_nil ?_
        refine then_normal ?_
        refine wpD_cond rfl (fun hc27 => ?_) (fun hc27 => ?_)
        · replace hm := yes_t hc27 hm
          refine wpD_seq ?_
          refine wpD_region ?_
          refine p_pure htab rfl rfl rfl rfl ?_
          refine p_pure htab rfl rfl rfl rfl ?_
          refine ops_nil ?_
          refine then_normal ?_
          refine wpD_ret ?_
          refine block_ret ?_
          refine then_ret ?_
          have e16 := lp_done hm; subst e16; clear hm; have hm := hq16
          refine then_ret ?_
          refine block_ret ?_
          have e15 := yes_eq hm; subst e15; refine midX_inr ?_; clear hm; have hm := ho15; simp only [Sum.elim_inr] at hm
          refine then_ret ?_
          have er28 := yes_eq hm; subst er28
          refine retX.of (s' := ⟨[(4, .v (.int .i64 s16))], [], []⟩) (WkS.perm (WkS.cons rfl (Wk.refl _) (WkS.nil)) (List.Perm.refl _) (List.Perm.refl _)) (retD_mk (hh := []) (.inl rfl) (resL_cons (resOne_tmp rfl) (resL_nil)) (List.nil_sublist _) (List.Sublist.refl _) ?_)
          exact ⟨rfl, rfl, rfl⟩
        · replace hm := yes_f hc27 hm
          refine wpD_skip ?_
          refine block_normal ?_
          refine then_normal ?_
          refine wpD_region ?_
          refine p_pure htab rfl rfl rfl rfl ?_
          refine p_pure htab rfl rfl rfl rfl ?_
          refine p_pure htab rfl rfl rfl rfl ?_
          refine ops_nil ?_
          refine then_normal ⟨_, lp_next hm, ?_⟩
          exact WkX.of () (WkS.perm (WkS.cons rfl (Wk.refl _) (WkS.cons rfl (Wk.refl _) (WkS.cons rfl (Wk.refl _) (WkS.nil)))) (List.Perm.refl _) (List.Perm.refl _))
      · replace hm := yes_f hc25 hm
        refine wpD_exit ?_
        refine then_exit ?_
        have e16 := lp_done hm; subst e16; clear hm; have hm := hq16
        refine then_exit ?_
        refine block_hit ?_
        have e15 := yes_eq hm; subst e15
        refine midX_inl ?_
        exact WkX.of () (WkS.perm (WkS.nil) (List.Perm.refl _) (List.Perm.refl _))
  · intro y15 s15 hx15 hw15; subst hx15; clear hm; have hm := ho15; simp only [Sum.elim_inl] at hm; clear q15 ho15
    refine then_normal ?_
    refine wpD_wkX hw15 (fun z15 => ?_)
    refine wpD_seq ?_
    refine wpD_region ?_
    refine p_pure htab rfl rfl rfl rfl ?_
    refine ops_nil ?_
    refine then_normal ?_
    refine wpD_ret ?_
    have er29 := yes_eq hm; subst er29
    refine retX.of (s' := ⟨[(4, .v (.int .i64 (-1 : Int)))], [], []⟩) (WkS.perm (WkS.cons rfl (Wk.refl _) (WkS.nil)) (List.Perm.refl _) (List.Perm.refl _)) (retD_mk (hh := []) (.inl rfl) (resL_cons (resOne_tmp rfl) (resL_nil)) (List.nil_sublist _) (List.Sublist.refl _) ?_)
    exact ⟨rfl, rfl, rfl⟩
noncomputable def r11_vars (a0 : List TApiVar) (a1 : List TApiVar) : Option (Bool) :=
  (bif ((a0.length : Int) != (a1.length : Int)) then some false else (Option.bind (α := (Unit) ⊕ (Bool)) (loopM (fun (s21 : Int) => (bif (decide (s21 < (a0.length : Int))) then ((idx a0 s21).bind fun x33 => ((idx a1 s21).bind fun x34 => (bif (!(decide (x33.gName = x34.gName) && (x33.gPtr == x34.gPtr && true))) then some (.done (.inr false)) else some (.next (IntKind.i64.wrap (s21 + (1 : Int))))))) else some (.done (.inl ())))) (0 : Int)) (Sum.elim (fun y20 => some true) (fun r => some r))))
set_option maxRecDepth 100000 in
set_option maxHeartbeats 2000000 in
theorem r11_vars_ok (a0 : List TApiVar) (a1 : List TApiVar) (r : Bool) (h0 : r11_vars a0 a1 = some r) : CallsD Try.prog 61 [.lst 2 (a0.map eTApiVar) .no, .lst 2 (a1.map eTApiVar) .no] [] [] (fun d h k => d = .v (.bool r) ∧ h = [] ∧ k = []) := by
  have hm := yes_of h0
  unfold r11_vars at hm
  clear h0
  refine enterX htab Try.func61 rfl rfl rfl rfl rfl (fun C => ?_)
  refine wpD_seq ?_
  refine wpD_region ?_
  refine p_pure htab rfl rfl rfl rfl ?_
  refine ops_nil ?_
  refine then_normal ?_
  refine wpD_seq ?_
  refine wpD_seq ?_
  refine wpD_region ?_
  refine p_pure htab rfl rfl rfl rfl ?_
  refine p_lenL htab rfl rfl rfl rfl rfl rfl rfl (by first | exact map_len | rfl) ?_
  refine p_pure htab rfl rfl rfl rfl ?_
  refine p_lenL htab rfl rfl rfl rfl rfl rfl rfl (by first | exact map_len | rfl) ?_
  refine p_pure htab rfl rfl rfl rfl ?_
  refine ops_nil ?_
  refine then_normal ?_
  refine wpD_cond rfl (fun hc2 => ?_) (fun hc2 => ?_)
  · replace hm := yes_t hc2 hm
    refine wpD_seq ?_
    refine wpD_region ?_
    refine p_pure htab rfl rfl rfl rfl ?_
    refine ops_nil ?_
    refine then_normal ?_
    refine wpD_ret ?_
    refine then_ret ?_
    have er3 := yes_eq hm; subst er3
    refine retX.of (s' := ⟨[(4, .v (.bool false))], [], []⟩) (WkS.perm (WkS.cons rfl (Wk.refl _) (WkS.nil)) (List.Perm.refl _) (List.Perm.refl _)) (retD_mk (hh := []) (.inl rfl) (resL_cons (resOne_tmp rfl) (resL_nil)) (List.nil_sublist _) (List.Sublist.refl _) ?_)
    exact ⟨rfl, rfl, rfl⟩
  · replace hm := yes_f hc2 hm
    refine wpD_skip ?_
    refine then_normal ?_
    refine wpD_seq ?_
    refine wpD_seq ?_
    refine wpD_region ?_
    refine p_pure htab rfl rfl rfl rfl ?_
    refine ops_nil ?_
    refine then_normal ?_
    obtain ⟨x20, q20, ho20⟩ := yes_bind hm
    refine wpD_midX (τ := Unit) (Y := Unit) (fun y20 z20 => (⟨[], [], []⟩ : S)) x20 ?_ ?_
    · clear hm; have hm := yes_of q20
      refine wpD_block ?_
      obtain ⟨u21, hl21, hq21⟩ := yes_m hm
      refine loop_M (Y := Unit) hl21 (fun s21 z21 => (⟨[(0, .lst 2 (a0.map eTApiVar) .no), (1, .lst 2 (a1.map eTApiVar) .no), (5, .v (.int .i64 s21))], [], []⟩ : S)) ?_ ?_
      · skip
        exact WkX.of () (WkS.perm (WkS.cons rfl (Wk.refl _) (WkS.cons rfl (Wk.refl _) (WkS.cons rfl (Wk.refl _) (WkS.nil)))) (List.Perm.refl _) (List.Perm.refl _))
      · intro G21 s21 z21 hm
        refine wpD_seq ?_
        refine wpD_seq ?_
        refine wpD_region ?_
        refine p_pure htab rfl rfl rfl rfl ?_
        refine p_pure htab rfl rfl rfl rfl ?_
        refine p_lenL htab rfl rfl rfl rfl rfl rfl rfl (by first | exact map_len | rfl) ?_
        refine p_pure htab rfl rfl rfl rfl ?_
        refine ops_nil ?_
        refine then_normal ?_
        refine wpD_cond rfl (fun hc32 => ?_) (fun hc32 => ?_)
        · replace hm := yes_t hc32 hm
          refine wpD_skip ?_
          refine then_normal ?_
          refine wpD_seq ?_
          refine wpD_block ?_
          refine wpD_seq ?_
          obtain ⟨x33, q33, hm⟩ := yes_bind hm
          obtain ⟨x34, q34, hm⟩ := yes_bind hm
          refine wpD_draws 8 [] [[],[],[0],[0,2],[],[],[4],[4,6]] [0,2,3,4,6,7] [[],[],[0,1],[0,1,2],[],[],[4,5],[4,5,6],[0,1,2,3,4,5,6,7]] (by kernel_rfl) (by kernel_rfl) (by kernel_rfl) (by rfl) (by rfl) (by kernel_rfl) ?_
          apply Exists.intro
          apply Exists.intro
          apply Exists.intro
          apply Exists.intro
          apply Exists.intro
          apply Exists.intro
          intro bs
          refine z_e rfl rfl (ex_pure htab rfl) rfl rfl rfl rfl rfl rfl ?_
          refine z_q rfl rfl (ex_pure htab rfl) rfl rfl rfl rfl rfl rfl ?_
          refine z_e rfl rfl (x_elem htab rfl rfl rfl rfl rfl rfl rfl (idx_nonneg q33) (idx_map q33)) rfl rfl rfl rfl rfl rfl ?_
          refine z_eM rfl rfl (xm_loadEl (d := eTApiVar x33) htab rfl rfl rfl rfl rfl) rfl rfl rfl rfl rfl rfl ?_
          refine z_e rfl rfl (ex_pure htab rfl) rfl rfl rfl rfl rfl rfl ?_
          refine z_q rfl rfl (ex_pure htab rfl) rfl rfl rfl rfl rfl rfl ?_
          refine z_e rfl rfl (x_elem htab rfl rfl rfl rfl rfl rfl rfl (idx_nonneg q34) (idx_map q34)) rfl rfl rfl rfl rfl rfl ?_
          refine z_eM rfl rfl (xm_loadEl (d := eTApiVar x34) htab rfl rfl rfl rfl rfl) rfl rfl rfl rfl rfl rfl ?_
          refine z_nil rfl rfl (fun e he => by simp [isAl] at he) ?_
          refine p_eqS htab rfl rfl rfl rfl rfl eqt43 rfl rfl rfl rfl rfl ?_
          refine ops_nil ?_
          refine then_normal ?_
          refine wpD_cond rfl (fun hc35 => ?_) (fun hc35 => ?_)
          · replace hm := yes_t hc35 hm
            refine wpD_seq ?_
            refine wpD_region ?_
            refine p_pure htab rfl rfl rfl rfl ?_
            refine ops_nil ?_
            refine then_normal ?_
            refine wpD_ret ?_
            refine block_ret ?_
            refine then_ret ?_
            have e21 := lp_done hm; subst e21; clear hm; have hm := hq21
            refine then_ret ?_
            refine block_ret ?_
            have e20 := yes_eq hm; subst e20; refine midX_inr ?_; clear hm; have hm := ho20; simp only [Sum.elim_inr] at hm
            refine then_ret ?_
            have er36 := yes_eq hm; subst er36
            refine retX.of (s' := ⟨[(4, .v (.bool false))], [], []⟩) (WkS.perm (WkS.cons rfl (Wk.refl _) (WkS.nil)) (List.Perm.refl _) (List.Perm.refl _)) (retD_mk (hh := []) (.inl rfl) (resL_cons (resOne_tmp rfl) (resL_nil)) (List.nil_sublist _) (List.Sublist.refl _) ?_)
            exact ⟨rfl, rfl, rfl⟩
          · replace hm := yes_f hc35 hm
            refine wpD_skip ?_
            refine block_normal ?_
            refine then_normal ?_
            refine wpD_region ?_
            refine p_pure htab rfl rfl rfl rfl ?_
            refine p_pure htab rfl rfl rfl rfl ?_
            refine p_pure htab rfl rfl rfl rfl ?_
            refine ops_nil ?_
            refine then_normal ⟨_, lp_next hm, ?_⟩
            exact WkX.of () (WkS.perm (WkS.cons rfl (Wk.refl _) (WkS.cons rfl (Wk.refl _) (WkS.cons rfl (Wk.refl _) (WkS.nil)))) (List.Perm.refl _) (List.Perm.refl _))
        · replace hm := yes_f hc32 hm
          refine wpD_exit ?_
          refine then_exit ?_
          have e21 := lp_done hm; subst e21; clear hm; have hm := hq21
          refine then_exit ?_
          refine block_hit ?_
          have e20 := yes_eq hm; subst e20
          refine midX_inl ?_
          exact WkX.of () (WkS.perm (WkS.nil) (List.Perm.refl _) (List.Perm.refl _))
    · intro y20 s20 hx20 hw20; subst hx20; clear hm; have hm := ho20; simp only [Sum.elim_inl] at hm; clear q20 ho20
      refine then_normal ?_
      refine wpD_wkX hw20 (fun z20 => ?_)
      refine wpD_seq ?_
      refine wpD_region ?_
      refine p_pure htab rfl rfl rfl rfl ?_
      refine ops_nil ?_
      refine then_normal ?_
      refine wpD_ret ?_
      have er37 := yes_eq hm; subst er37
      refine retX.of (s' := ⟨[(4, .v (.bool true))], [], []⟩) (WkS.perm (WkS.cons rfl (Wk.refl _) (WkS.nil)) (List.Perm.refl _) (List.Perm.refl _)) (retD_mk (hh := []) (.inl rfl) (resL_cons (resOne_tmp rfl) (resL_nil)) (List.nil_sublist _) (List.Sublist.refl _) ?_)
      exact ⟨rfl, rfl, rfl⟩
abbrev nlCh1_1 : List (List Nat) := [[],[],[0],[0,2],[0,2,3],[],[],[5],[5,7],[5,7,8],[0,2,3,5,7,8],[0,2,3,5,7,8],[0,2,3,5,7,8],[0,2,3,5,7,8],[0,2,3,5,7,8],[0,2,3,5,7,8],[0,2,3,5,7,8],[0,2,3,5,7,8],[0,2,3,5,7,8],[0,2,3,5,7,8],[0,2,3,5,7,8],[0,2,3,5,7,8],[0,2,3,5,7,8],[0,2,3,5,7,8],[0,2,3,5,7,8],[0,2,3,5,7,8],[0,2,3,5,7,8],[0,2,3,5,7,8],[0,2,3,5,7,8],[0,2,3,5,7,8],[0,2,3,5,7,8],[0,2,3,5,7,8],[0,2,3,5,7,8],[0,2,3,5,7,8],[0,2,3,5,7,8],[0,2,3,5,7,8],[0,2,3,5,7,8],[0,2,3,5,7,8],[0,2,3,5,7,8],[0,2,3,5,7,8],[0,2,3,5,7,8],[0,2,3,5,7,8],[0,2,3,5,7,8],[0,2,3,5,7,8],[0,2,3,5,7,8],[0,2,3,5,7,8],[0,2,3,5,7,8],[0,2,3,5,7,8],[0,2,3,5,7,8],[0,2,3,5,7,8],[0,2,3,5,7,8],[0,2,3,5,7,8],[0,2,3,5,7,8],[0,2,3,5,7,8],[0,2,3,5,7,8],[0,2,3,5,7,8],[0,2,3,5,7,8],[0,2,3,5,7,8],[0,2,3,5,7,8],[0,2,3,5,7,8],[0,2,3,5,7,8],[0,2,3,5,7,8],[0,2,3,5,7,8],[0,2,3,5,7,8],[0,2,3,5,7,8]]
abbrev nlCh1_2 : List (List Nat) := [[],[],[0,1],[0,1,2],[0,1,2,3],[],[],[5,6],[5,6,7],[5,6,7,8],[0,1,2,3,4,5,6,7,8,9],[0,1,2,3,4,5,6,7,8,9,10],[0,1,2,3,4,5,6,7,8,9,10,11],[0,1,2,3,4,5,6,7,8,9,10,11],[0,1,2,3,4,5,6,7,8,9,10,11,12,13],[0,1,2,3,4,5,6,7,8,9,10,11,12,13,14],[0,1,2,3,4,5,6,7,8,9,10,11,12,13,14,15],[0,1,2,3,4,5,6,7,8,9,10,11],[0,1,2,3,4,5,6,7,8,9,10,11],[0,1,2,3,4,5,6,7,8,9,10,11,17,18],[0,1,2,3,4,5,6,7,8,9,10,11,17,18,19],[0,1,2,3,4,5,6,7,8,9,10,11,17,18,19,20],[0,1,2,3,4,5,6,7,8,9,10,11,12,13,14,15,16,17,18,19,20,21],[0,1,2,3,4,5,6,7,8,9,10,11,12,13,14,15,16,17,18,19,20,21,22],[0,1,2,3,4,5,6,7,8,9,10,11,12,13,14,15,16,17,18,19,20,21,22,23],[0,1,2,3,4,5,6,7,8,9,10,11,12,13,14,15,16,17,18,19,20,21,22,23,24],[0,1,2,3,4,5,6,7,8,9,10,11,12,13,14,15,16,17,18,19,20,21,22,23,24],[0,1,2,3,4,5,6,7,8,9,10,11,12,13,14,15,16,17,18,19,20,21,22,23,24,25,26],[0,1,2,3,4,5,6,7,8,9,10,11,12,13,14,15,16,17,18,19,20,21,22,23,24,25,26,27],[0,1,2,3,4,5,6,7,8,9,10,11,12,13,14,15,16,17,18,19,20,21,22,23,24,25,26,27,28],[0,1,2,3,4,5,6,7,8,9,10,11,12,13,14,15,16,17,18,19,20,21,22,23,24],[0,1,2,3,4,5,6,7,8,9,10,11,12,13,14,15,16,17,18,19,20,21,22,23,24],[0,1,2,3,4,5,6,7,8,9,10,11,12,13,14,15,16,17,18,19,20,21,22,23,24,30,31],[0,1,2,3,4,5,6,7,8,9,10,11,12,13,14,15,16,17,18,19,20,21,22,23,24,30,31,32],[0,1,2,3,4,5,6,7,8,9,10,11,12,13,14,15,16,17,18,19,20,21,22,23,24,30,31,32,33],[0,1,2,3,4,5,6,7,8,9,10,11,12,13,14,15,16,17,18,19,20,21,22,23,24,25,26,27,28,29,30,31,32,33,34],[0,1,2,3,4,5,6,7,8,9,10,11,12,13,14,15,16,17,18,19,20,21,22,23,24,25,26,27,28,29,30,31,32,33,34,35],[0,1,2,3,4,5,6,7,8,9,10,11,12,13,14,15,16,17,18,19,20,21,22,23,24,25,26,27,28,29,30,31,32,33,34,35,36],[0,1,2,3,4,5,6,7,8,9,10,11,12,13,14,15,16,17,18,19,20,21,22,23,24,25,26,27,28,29,30,31,32,33,34,35,36,37],[0,1,2,3,4,5,6,7,8,9,10,11,12,13,14,15,16,17,18,19,20,21,22,23,24,25,26,27,28,29,30,31,32,33,34,35,36,37,38],[0,1,2,3,4,5,6,7,8,9,10,11,12,13,14,15,16,17,18,19,20,21,22,23,24,25,26,27,28,29,30,31,32,33,34,35,36,37,38,39],[0,1,2,3,4,5,6,7,8,9,10,11,12,13,14,15,16,17,18,19,20,21,22,23,24,25,26,27,28,29,30,31,32,33,34,35,36,37,38,39],[0,1,2,3,4,5,6,7,8,9,10,11,12,13,14,15,16,17,18,19,20,21,22,23,24,25,26,27,28,29,30,31,32,33,34,35,36,37,38,39,40,41],[0,1,2,3,4,5,6,7,8,9,10,11,12,13,14,15,16,17,18,19,20,21,22,23,24,25,26,27,28,29,30,31,32,33,34,35,36,37,38,39,40,41,42],[0,1,2,3,4,5,6,7,8,9,10,11,12,13,14,15,16,17,18,19,20,21,22,23,24,25,26,27,28,29,30,31,32,33,34,35,36,37,38,39,40,41,42,43],[0,1,2,3,4,5,6,7,8,9,10,11,12,13,14,15,16,17,18,19,20,21,22,23,24,25,26,27,28,29,30,31,32,33,34,35,36,37,38,39],[0,1,2,3,4,5,6,7,8,9,10,11,12,13,14,15,16,17,18,19,20,21,22,23,24,25,26,27,28,29,30,31,32,33,34,35,36,37,38,39],[0,1,2,3,4,5,6,7,8,9,10,11,12,13,14,15,16,17,18,19,20,21,22,23,24,25,26,27,28,29,30,31,32,33,34,35,36,37,38,39,45,46],[0,1,2,3,4,5,6,7,8,9,10,11,12,13,14,15,16,17,18,19,20,21,22,23,24,25,26,27,28,29,30,31,32,33,34,35,36,37,38,39,45,46,47],[0,1,2,3,4,5,6,7,8,9,10,11,12,13,14,15,16,17,18,19,20,21,22,23,24,25,26,27,28,29,30,31,32,33,34,35,36,37,38,39,45,46,47,48],[0,1,2,3,4,5,6,7,8,9,10,11,12,13,14,15,16,17,18,19,20,21,22,23,24,25,26,27,28,29,30,31,32,33,34,35,36,37,38,39,40,41,42,43,44,45,46,47,48,49],[0,1,2,3,4,5,6,7,8,9,10,11,12,13,14,15,16,17,18,19,20,21,22,23,24,25,26,27,28,29,30,31,32,33,34,35,36,37,38,39,40,41,42,43,44,45,46,47,48,49,50],[0,1,2,3,4,5,6,7,8,9,10,11,12,13,14,15,16,17,18,19,20,21,22,23,24,25,26,27,28,29,30,31,32,33,34,35,36,37,38,39,40,41,42,43,44,45,46,47,48,49,50,51],[0,1,2,3,4,5,6,7,8,9,10,11,12,13,14,15,16,17,18,19,20,21,22,23,24,25,26,27,28,29,30,31,32,33,34,35,36,37,38,39,40,41,42,43,44,45,46,47,48,49,50,51,52],[0,1,2,3,4,5,6,7,8,9,10,11,12,13,14,15,16,17,18,19,20,21,22,23,24,25,26,27,28,29,30,31,32,33,34,35,36,37,38,39,40,41,42,43,44,45,46,47,48,49,50,51,52,53],[0,1,2,3,4,5,6,7,8,9,10,11,12,13,14,15,16,17,18,19,20,21,22,23,24,25,26,27,28,29,30,31,32,33,34,35,36,37,38,39,40,41,42,43,44,45,46,47,48,49,50,51,52,53],[0,1,2,3,4,5,6,7,8,9,10,11,12,13,14,15,16,17,18,19,20,21,22,23,24,25,26,27,28,29,30,31,32,33,34,35,36,37,38,39,40,41,42,43,44,45,46,47,48,49,50,51,52,53,54,55],[0,1,2,3,4,5,6,7,8,9,10,11,12,13,14,15,16,17,18,19,20,21,22,23,24,25,26,27,28,29,30,31,32,33,34,35,36,37,38,39,40,41,42,43,44,45,46,47,48,49,50,51,52,53,54,55,56],[0,1,2,3,4,5,6,7,8,9,10,11,12,13,14,15,16,17,18,19,20,21,22,23,24,25,26,27,28,29,30,31,32,33,34,35,36,37,38,39,40,41,42,43,44,45,46,47,48,49,50,51,52,53,54,55,56,57],[0,1,2,3,4,5,6,7,8,9,10,11,12,13,14,15,16,17,18,19,20,21,22,23,24,25,26,27,28,29,30,31,32,33,34,35,36,37,38,39,40,41,42,43,44,45,46,47,48,49,50,51,52,53],[0,1,2,3,4,5,6,7,8,9,10,11,12,13,14,15,16,17,18,19,20,21,22,23,24,25,26,27,28,29,30,31,32,33,34,35,36,37,38,39,40,41,42,43,44,45,46,47,48,49,50,51,52,53],[0,1,2,3,4,5,6,7,8,9,10,11,12,13,14,15,16,17,18,19,20,21,22,23,24,25,26,27,28,29,30,31,32,33,34,35,36,37,38,39,40,41,42,43,44,45,46,47,48,49,50,51,52,53,59,60],[0,1,2,3,4,5,6,7,8,9,10,11,12,13,14,15,16,17,18,19,20,21,22,23,24,25,26,27,28,29,30,31,32,33,34,35,36,37,38,39,40,41,42,43,44,45,46,47,48,49,50,51,52,53,59,60,61],[0,1,2,3,4,5,6,7,8,9,10,11,12,13,14,15,16,17,18,19,20,21,22,23,24,25,26,27,28,29,30,31,32,33,34,35,36,37,38,39,40,41,42,43,44,45,46,47,48,49,50,51,52,53,59,60,61,62],[0,1,2,3,4,5,6,7,8,9,10,11,12,13,14,15,16,17,18,19,20,21,22,23,24,25,26,27,28,29,30,31,32,33,34,35,36,37,38,39,40,41,42,43,44,45,46,47,48,49,50,51,52,53],[0,1,2,3,4,5,6,7,8,9,10,11,12,13,14,15,16,17,18,19,20,21,22,23,24,25,26,27,28,29,30,31,32,33,34,35,36,37,38,39,40,41,42,43,44,45,46,47,48,49,50,51,52,53,54,55,56,57,58,59,60,61,62,63,64],[0,1,2,3,4,5,6,7,8,9,10,11,12,13,14,15,16,17,18,19,20,21,22,23,24,25,26,27,28,29,30,31,32,33,34,35,36,37,38,39,40,41,42,43,44,45,46,47,48,49,50,51,52,53,54,55,56,57,58,59,60,61,62,63,64,65],[0,1,2,3,4,5,6,7,8,9,10,11,12,13,14,15,16,17,18,19,20,21,22,23,24,25,26,27,28,29,30,31,32,33,34,35,36,37,38,39,40,41,42,43,44,45,46,47,48,49,50,51,52,53,54,55,56,57,58,59,60,61,62,63,64,65,66]]
abbrev nlCh1_3 : List (List Nat) := [[],[],[0],[0,2],[0,2,3],[],[],[5],[5,7],[5,7,8],[0,2,3,5,7,8],[0,2,3,5,7,8],[0,2,3,5,7,8],[0,2,3,5,7,8],[0,2,3,5,7,8,12],[0,2,3,5,7,8,12,14],[0,2,3,5,7,8,12,14,15],[0,2,3,5,7,8],[0,2,3,5,7,8],[0,2,3,5,7,8,17],[0,2,3,5,7,8,17,19],[0,2,3,5,7,8,17,19,20],[0,2,3,5,7,8,12,14,15,17,19,20],[0,2,3,5,7,8,12,14,15,17,19,20],[0,2,3,5,7,8,12,14,15,17,19,20],[0,2,3,5,7,8,12,14,15,17,19,20],[0,2,3,5,7,8,12,14,15,17,19,20],[0,2,3,5,7,8,12,14,15,17,19,20],[0,2,3,5,7,8,12,14,15,17,19,20],[0,2,3,5,7,8,12,14,15,17,19,20],[0,2,3,5,7,8,12,14,15,17,19,20],[0,2,3,5,7,8,12,14,15,17,19,20],[0,2,3,5,7,8,12,14,15,17,19,20],[0,2,3,5,7,8,12,14,15,17,19,20],[0,2,3,5,7,8,12,14,15,17,19,20],[0,2,3,5,7,8,12,14,15,17,19,20],[0,2,3,5,7,8,12,14,15,17,19,20],[0,2,3,5,7,8,12,14,15,17,19,20],[0,2,3,5,7,8,12,14,15,17,19,20],[0,2,3,5,7,8,12,14,15,17,19,20],[0,2,3,5,7,8,12,14,15,17,19,20],[0,2,3,5,7,8,12,14,15,17,19,20],[0,2,3,5,7,8,12,14,15,17,19,20],[0,2,3,5,7,8,12,14,15,17,19,20],[0,2,3,5,7,8,12,14,15,17,19,20],[0,2,3,5,7,8,12,14,15,17,19,20],[0,2,3,5,7,8,12,14,15,17,19,20],[0,2,3,5,7,8,12,14,15,17,19,20],[0,2,3,5,7,8,12,14,15,17,19,20],[0,2,3,5,7,8,12,14,15,17,19,20],[0,2,3,5,7,8,12,14,15,17,19,20],[0,2,3,5,7,8,12,14,15,17,19,20],[0,2,3,5,7,8,12,14,15,17,19,20],[0,2,3,5,7,8,12,14,15,17,19,20],[0,2,3,5,7,8,12,14,15,17,19,20],[0,2,3,5,7,8,12,14,15,17,19,20],[0,2,3,5,7,8,12,14,15,17,19,20],[0,2,3,5,7,8,12,14,15,17,19,20],[0,2,3,5,7,8,12,14,15,17,19,20],[0,2,3,5,7,8,12,14,15,17,19,20],[0,2,3,5,7,8,12,14,15,17,19,20],[0,2,3,5,7,8,12,14,15,17,19,20],[0,2,3,5,7,8,12,14,15,17,19,20],[0,2,3,5,7,8,12,14,15,17,19,20],[0,2,3,5,7,8,12,14,15,17,19,20]]
abbrev nlCh1_4 : List (List Nat) := [[],[],[0],[0,2],[0,2,3],[],[],[5],[5,7],[5,7,8],[0,2,3,5,7,8],[0,2,3,5,7,8],[0,2,3,5,7,8],[0,2,3,5,7,8],[0,2,3,5,7,8,12],[0,2,3,5,7,8,12,14],[0,2,3,5,7,8,12,14,15],[0,2,3,5,7,8],[0,2,3,5,7,8],[0,2,3,5,7,8,17],[0,2,3,5,7,8,17,19],[0,2,3,5,7,8,17,19,20],[0,2,3,5,7,8,12,14,15,17,19,20],[0,2,3,5,7,8,12,14,15,17,19,20],[0,2,3,5,7,8,12,14,15,17,19,20],[0,2,3,5,7,8,12,14,15,17,19,20],[0,2,3,5,7,8,12,14,15,17,19,20],[0,2,3,5,7,8,12,14,15,17,19,20,25],[0,2,3,5,7,8,12,14,15,17,19,20,25,27],[0,2,3,5,7,8,12,14,15,17,19,20,25,27,28],[0,2,3,5,7,8,12,14,15,17,19,20],[0,2,3,5,7,8,12,14,15,17,19,20],[0,2,3,5,7,8,12,14,15,17,19,20,30],[0,2,3,5,7,8,12,14,15,17,19,20,30,32],[0,2,3,5,7,8,12,14,15,17,19,20,30,32,33],[0,2,3,5,7,8,12,14,15,17,19,20,25,27,28,30,32,33],[0,2,3,5,7,8,12,14,15,17,19,20,25,27,28,30,32,33],[0,2,3,5,7,8,12,14,15,17,19,20,25,27,28,30,32,33],[0,2,3,5,7,8,12,14,15,17,19,20,25,27,28,30,32,33],[0,2,3,5,7,8,12,14,15,17,19,20,25,27,28,30,32,33],[0,2,3,5,7,8,12,14,15,17,19,20,25,27,28,30,32,33],[0,2,3,5,7,8,12,14,15,17,19,20,25,27,28,30,32,33],[0,2,3,5,7,8,12,14,15,17,19,20,25,27,28,30,32,33],[0,2,3,5,7,8,12,14,15,17,19,20,25,27,28,30,32,33],[0,2,3,5,7,8,12,14,15,17,19,20,25,27,28,30,32,33],[0,2,3,5,7,8,12,14,15,17,19,20,25,27,28,30,32,33],[0,2,3,5,7,8,12,14,15,17,19,20,25,27,28,30,32,33],[0,2,3,5,7,8,12,14,15,17,19,20,25,27,28,30,32,33],[0,2,3,5,7,8,12,14,15,17,19,20,25,27,28,30,32,33],[0,2,3,5,7,8,12,14,15,17,19,20,25,27,28,30,32,33],[0,2,3,5,7,8,12,14,15,17,19,20,25,27,28,30,32,33],[0,2,3,5,7,8,12,14,15,17,19,20,25,27,28,30,32,33],[0,2,3,5,7,8,12,14,15,17,19,20,25,27,28,30,32,33],[0,2,3,5,7,8,12,14,15,17,19,20,25,27,28,30,32,33],[0,2,3,5,7,8,12,14,15,17,19,20,25,27,28,30,32,33],[0,2,3,5,7,8,12,14,15,17,19,20,25,27,28,30,32,33],[0,2,3,5,7,8,12,14,15,17,19,20,25,27,28,30,32,33],[0,2,3,5,7,8,12,14,15,17,19,20,25,27,28,30,32,33],[0,2,3,5,7,8,12,14,15,17,19,20,25,27,28,30,32,33],[0,2,3,5,7,8,12,14,15,17,19,20,25,27,28,30,32,33],[0,2,3,5,7,8,12,14,15,17,19,20,25,27,28,30,32,33],[0,2,3,5,7,8,12,14,15,17,19,20,25,27,28,30,32,33],[0,2,3,5,7,8,12,14,15,17,19,20,25,27,28,30,32,33],[0,2,3,5,7,8,12,14,15,17,19,20,25,27,28,30,32,33],[0,2,3,5,7,8,12,14,15,17,19,20,25,27,28,30,32,33]]
abbrev nlCh1_5 : List (List Nat) := [[],[],[0],[0,2],[0,2,3],[],[],[5],[5,7],[5,7,8],[0,2,3,5,7,8],[0,2,3,5,7,8],[0,2,3,5,7,8],[0,2,3,5,7,8],[0,2,3,5,7,8,12],[0,2,3,5,7,8,12,14],[0,2,3,5,7,8,12,14,15],[0,2,3,5,7,8],[0,2,3,5,7,8],[0,2,3,5,7,8,17],[0,2,3,5,7,8,17,19],[0,2,3,5,7,8,17,19,20],[0,2,3,5,7,8,12,14,15,17,19,20],[0,2,3,5,7,8,12,14,15,17,19,20],[0,2,3,5,7,8,12,14,15,17,19,20],[0,2,3,5,7,8,12,14,15,17,19,20],[0,2,3,5,7,8,12,14,15,17,19,20],[0,2,3,5,7,8,12,14,15,17,19,20,25],[0,2,3,5,7,8,12,14,15,17,19,20,25,27],[0,2,3,5,7,8,12,14,15,17,19,20,25,27,28],[0,2,3,5,7,8,12,14,15,17,19,20],[0,2,3,5,7,8,12,14,15,17,19,20],[0,2,3,5,7,8,12,14,15,17,19,20,30],[0,2,3,5,7,8,12,14,15,17,19,20,30,32],[0,2,3,5,7,8,12,14,15,17,19,20,30,32,33],[0,2,3,5,7,8,12,14,15,17,19,20,25,27,28,30,32,33],[0,2,3,5,7,8,12,14,15,17,19,20,25,27,28,30,32,33],[0,2,3,5,7,8,12,14,15,17,19,20,25,27,28,30,32,33],[0,2,3,5,7,8,12,14,15,17,19,20,25,27,28,30,32,33],[0,2,3,5,7,8,12,14,15,17,19,20,25,27,28,30,32,33],[0,2,3,5,7,8,12,14,15,17,19,20,25,27,28,30,32,33],[0,2,3,5,7,8,12,14,15,17,19,20,25,27,28,30,32,33],[0,2,3,5,7,8,12,14,15,17,19,20,25,27,28,30,32,33,40],[0,2,3,5,7,8,12,14,15,17,19,20,25,27,28,30,32,33,40,42],[0,2,3,5,7,8,12,14,15,17,19,20,25,27,28,30,32,33,40,42,43],[0,2,3,5,7,8,12,14,15,17,19,20,25,27,28,30,32,33],[0,2,3,5,7,8,12,14,15,17,19,20,25,27,28,30,32,33],[0,2,3,5,7,8,12,14,15,17,19,20,25,27,28,30,32,33,45],[0,2,3,5,7,8,12,14,15,17,19,20,25,27,28,30,32,33,45,47],[0,2,3,5,7,8,12,14,15,17,19,20,25,27,28,30,32,33,45,47,48],[0,2,3,5,7,8,12,14,15,17,19,20,25,27,28,30,32,33,40,42,43,45,47,48],[0,2,3,5,7,8,12,14,15,17,19,20,25,27,28,30,32,33,40,42,43,45,47,48],[0,2,3,5,7,8,12,14,15,17,19,20,25,27,28,30,32,33,40,42,43,45,47,48],[0,2,3,5,7,8,12,14,15,17,19,20,25,27,28,30,32,33,40,42,43,45,47,48],[0,2,3,5,7,8,12,14,15,17,19,20,25,27,28,30,32,33,40,42,43,45,47,48],[0,2,3,5,7,8,12,14,15,17,19,20,25,27,28,30,32,33,40,42,43,45,47,48],[0,2,3,5,7,8,12,14,15,17,19,20,25,27,28,30,32,33,40,42,43,45,47,48],[0,2,3,5,7,8,12,14,15,17,19,20,25,27,28,30,32,33,40,42,43,45,47,48],[0,2,3,5,7,8,12,14,15,17,19,20,25,27,28,30,32,33,40,42,43,45,47,48],[0,2,3,5,7,8,12,14,15,17,19,20,25,27,28,30,32,33,40,42,43,45,47,48],[0,2,3,5,7,8,12,14,15,17,19,20,25,27,28,30,32,33,40,42,43,45,47,48],[0,2,3,5,7,8,12,14,15,17,19,20,25,27,28,30,32,33,40,42,43,45,47,48],[0,2,3,5,7,8,12,14,15,17,19,20,25,27,28,30,32,33,40,42,43,45,47,48],[0,2,3,5,7,8,12,14,15,17,19,20,25,27,28,30,32,33,40,42,43,45,47,48],[0,2,3,5,7,8,12,14,15,17,19,20,25,27,28,30,32,33,40,42,43,45,47,48]]
abbrev nlCh1_6 : List (List Nat) := [[],[],[0],[0,2],[0,2,3],[],[],[5],[5,7],[5,7,8],[0,2,3,5,7,8],[0,2,3,5,7,8],[0,2,3,5,7,8],[0,2,3,5,7,8],[0,2,3,5,7,8,12],[0,2,3,5,7,8,12,14],[0,2,3,5,7,8,12,14,15],[0,2,3,5,7,8],[0,2,3,5,7,8],[0,2,3,5,7,8,17],[0,2,3,5,7,8,17,19],[0,2,3,5,7,8,17,19,20],[0,2,3,5,7,8,12,14,15,17,19,20],[0,2,3,5,7,8,12,14,15,17,19,20],[0,2,3,5,7,8,12,14,15,17,19,20],[0,2,3,5,7,8,12,14,15,17,19,20],[0,2,3,5,7,8,12,14,15,17,19,20],[0,2,3,5,7,8,12,14,15,17,19,20,25],[0,2,3,5,7,8,12,14,15,17,19,20,25,27],[0,2,3,5,7,8,12,14,15,17,19,20,25,27,28],[0,2,3,5,7,8,12,14,15,17,19,20],[0,2,3,5,7,8,12,14,15,17,19,20],[0,2,3,5,7,8,12,14,15,17,19,20,30],[0,2,3,5,7,8,12,14,15,17,19,20,30,32],[0,2,3,5,7,8,12,14,15,17,19,20,30,32,33],[0,2,3,5,7,8,12,14,15,17,19,20,25,27,28,30,32,33],[0,2,3,5,7,8,12,14,15,17,19,20,25,27,28,30,32,33],[0,2,3,5,7,8,12,14,15,17,19,20,25,27,28,30,32,33],[0,2,3,5,7,8,12,14,15,17,19,20,25,27,28,30,32,33],[0,2,3,5,7,8,12,14,15,17,19,20,25,27,28,30,32,33],[0,2,3,5,7,8,12,14,15,17,19,20,25,27,28,30,32,33],[0,2,3,5,7,8,12,14,15,17,19,20,25,27,28,30,32,33],[0,2,3,5,7,8,12,14,15,17,19,20,25,27,28,30,32,33,40],[0,2,3,5,7,8,12,14,15,17,19,20,25,27,28,30,32,33,40,42],[0,2,3,5,7,8,12,14,15,17,19,20,25,27,28,30,32,33,40,42,43],[0,2,3,5,7,8,12,14,15,17,19,20,25,27,28,30,32,33],[0,2,3,5,7,8,12,14,15,17,19,20,25,27,28,30,32,33],[0,2,3,5,7,8,12,14,15,17,19,20,25,27,28,30,32,33,45],[0,2,3,5,7,8,12,14,15,17,19,20,25,27,28,30,32,33,45,47],[0,2,3,5,7,8,12,14,15,17,19,20,25,27,28,30,32,33,45,47,48],[0,2,3,5,7,8,12,14,15,17,19,20,25,27,28,30,32,33,40,42,43,45,47,48],[0,2,3,5,7,8,12,14,15,17,19,20,25,27,28,30,32,33,40,42,43,45,47,48],[0,2,3,5,7,8,12,14,15,17,19,20,25,27,28,30,32,33,40,42,43,45,47,48],[0,2,3,5,7,8,12,14,15,17,19,20,25,27,28,30,32,33,40,42,43,45,47,48],[0,2,3,5,7,8,12,14,15,17,19,20,25,27,28,30,32,33,40,42,43,45,47,48],[0,2,3,5,7,8,12,14,15,17,19,20,25,27,28,30,32,33,40,42,43,45,47,48],[0,2,3,5,7,8,12,14,15,17,19,20,25,27,28,30,32,33,40,42,43,45,47,48,54],[0,2,3,5,7,8,12,14,15,17,19,20,25,27,28,30,32,33,40,42,43,45,47,48,54,56],[0,2,3,5,7,8,12,14,15,17,19,20,25,27,28,30,32,33,40,42,43,45,47,48,54,56,57],[0,2,3,5,7,8,12,14,15,17,19,20,25,27,28,30,32,33,40,42,43,45,47,48],[0,2,3,5,7,8,12,14,15,17,19,20,25,27,28,30,32,33,40,42,43,45,47,48],[0,2,3,5,7,8,12,14,15,17,19,20,25,27,28,30,32,33,40,42,43,45,47,48,59],[0,2,3,5,7,8,12,14,15,17,19,20,25,27,28,30,32,33,40,42,43,45,47,48,59,61],[0,2,3,5,7,8,12,14,15,17,19,20,25,27,28,30,32,33,40,42,43,45,47,48,59,61,62],[0,2,3,5,7,8,12,14,15,17,19,20,25,27,28,30,32,33,40,42,43,45,47,48]]
abbrev nlCh1_7 : List (List Nat) := [[],[],[0],[0,2],[0,2,3],[],[],[5],[5,7],[5,7,8],[0,2,3,5,7,8],[0,2,3,5,7,8],[0,2,3,5,7,8],[0,2,3,5,7,8],[0,2,3,5,7,8,12],[0,2,3,5,7,8,12,14],[0,2,3,5,7,8,12,14,15],[0,2,3,5,7,8],[0,2,3,5,7,8],[0,2,3,5,7,8,17],[0,2,3,5,7,8,17,19],[0,2,3,5,7,8,17,19,20],[0,2,3,5,7,8,12,14,15,17,19,20],[0,2,3,5,7,8,12,14,15,17,19,20],[0,2,3,5,7,8,12,14,15,17,19,20],[0,2,3,5,7,8,12,14,15,17,19,20],[0,2,3,5,7,8,12,14,15,17,19,20],[0,2,3,5,7,8,12,14,15,17,19,20,25],[0,2,3,5,7,8,12,14,15,17,19,20,25,27],[0,2,3,5,7,8,12,14,15,17,19,20,25,27,28],[0,2,3,5,7,8,12,14,15,17,19,20],[0,2,3,5,7,8,12,14,15,17,19,20],[0,2,3,5,7,8,12,14,15,17,19,20,30],[0,2,3,5,7,8,12,14,15,17,19,20,30,32],[0,2,3,5,7,8,12,14,15,17,19,20,30,32,33],[0,2,3,5,7,8,12,14,15,17,19,20,25,27,28,30,32,33],[0,2,3,5,7,8,12,14,15,17,19,20,25,27,28,30,32,33],[0,2,3,5,7,8,12,14,15,17,19,20,25,27,28,30,32,33],[0,2,3,5,7,8,12,14,15,17,19,20,25,27,28,30,32,33],[0,2,3,5,7,8,12,14,15,17,19,20,25,27,28,30,32,33],[0,2,3,5,7,8,12,14,15,17,19,20,25,27,28,30,32,33],[0,2,3,5,7,8,12,14,15,17,19,20,25,27,28,30,32,33],[0,2,3,5,7,8,12,14,15,17,19,20,25,27,28,30,32,33],[0,2,3,5,7,8,12,14,15,17,19,20,25,27,28,30,32,33],[0,2,3,5,7,8,12,14,15,17,19,20,25,27,28,30,32,33],[0,2,3,5,7,8,12,14,15,17,19,20,25,27,28,30,32,33],[0,2,3,5,7,8,12,14,15,17,19,20,25,27,28,30,32,33],[0,2,3,5,7,8,12,14,15,17,19,20,25,27,28,30,32,33],[0,2,3,5,7,8,12,14,15,17,19,20,25,27,28,30,32,33],[0,2,3,5,7,8,12,14,15,17,19,20,25,27,28,30,32,33],[0,2,3,5,7,8,12,14,15,17,19,20,25,27,28,30,32,33],[0,2,3,5,7,8,12,14,15,17,19,20,25,27,28,30,32,33],[0,2,3,5,7,8,12,14,15,17,19,20,25,27,28,30,32,33],[0,2,3,5,7,8,12,14,15,17,19,20,25,27,28,30,32,33],[0,2,3,5,7,8,12,14,15,17,19,20,25,27,28,30,32,33],[0,2,3,5,7,8,12,14,15,17,19,20,25,27,28,30,32,33],[0,2,3,5,7,8,12,14,15,17,19,20,25,27,28,30,32,33,54],[0,2,3,5,7,8,12,14,15,17,19,20,25,27,28,30,32,33,54,56],[0,2,3,5,7,8,12,14,15,17,19,20,25,27,28,30,32,33,54,56,57],[0,2,3,5,7,8,12,14,15,17,19,20,25,27,28,30,32,33],[0,2,3,5,7,8,12,14,15,17,19,20,25,27,28,30,32,33],[0,2,3,5,7,8,12,14,15,17,19,20,25,27,28,30,32,33,59],[0,2,3,5,7,8,12,14,15,17,19,20,25,27,28,30,32,33,59,61],[0,2,3,5,7,8,12,14,15,17,19,20,25,27,28,30,32,33,59,61,62],[0,2,3,5,7,8,12,14,15,17,19,20,25,27,28,30,32,33]]
noncomputable def r11_Exps_b (g0 : (List TApiExpr) → (List TApiExpr) → (Bool) → Option (Bool)) (a0 : List TApiExpr) (a1 : List TApiExpr) (a2 : Bool) : Option (Bool) :=
  (bif ((a0.length : Int) != (a1.length : Int)) then some false else (Option.bind (α := (Unit) ⊕ (Bool)) (loopM (fun (s132 : Int) => (bif (decide (s132 < (a0.length : Int))) then (Option.bind (α := Bool) ((idx a0 s132).bind fun x238 => ((idx a1 s132).bind fun x239 => (bif (x238.gOp != x239.gOp) then some true else ((idx a0 s132).bind fun x241 => ((idx a1 s132).bind fun x242 => (bif (x241.gN != x242.gN) then some true else ((idx a0 s132).bind fun x244 => ((idx a1 s132).bind fun x245 => (bif (!decide (x244.gName = x245.gName)) then some true else (bif a2 then ((idx a0 s132).bind fun x248 => ((idx a1 s132).bind fun x249 => (bif (x248.gAt != x249.gAt) then some true else ((idx a0 s132).bind fun x251 => ((idx a1 s132).bind fun x252 => ((g0 x251.gKids x252.gKids a2).bind fun x253 => some (!x253))))))) else ((idx a0 s132).bind fun x254 => ((idx a1 s132).bind fun x255 => ((g0 x254.gKids x255.gKids a2).bind fun x256 => some (!x256)))))))))))))) fun y237 => (bif y237 then some (.done (.inr false)) else some (.next (IntKind.i64.wrap (s132 + (1 : Int)))))) else some (.done (.inl ())))) (0 : Int)) (Sum.elim (fun y131 => some true) (fun r => some r))))
set_option maxRecDepth 100000 in
set_option maxHeartbeats 2000000 in
theorem r11_Exps_b_ok (g0 : (List TApiExpr) → (List TApiExpr) → (Bool) → Option (Bool)) (hg0 : ∀ (a0 : List TApiExpr) (a1 : List TApiExpr) (a2 : Bool) (r : Bool) (h0 : g0 a0 a1 a2 = some r), CallsD Try.prog 69 [.lst 5 (a0.map eTApiExpr) .no, .lst 5 (a1.map eTApiExpr) .no, .v (.bool a2)] [] [] (fun d h k => d = .v (.bool r) ∧ h = [] ∧ k = [])) (a0 : List TApiExpr) (a1 : List TApiExpr) (a2 : Bool) (r : Bool) (h0 : r11_Exps_b g0 a0 a1 a2 = some r) : CallsD Try.prog 69 [.lst 5 (a0.map eTApiExpr) .no, .lst 5 (a1.map eTApiExpr) .no, .v (.bool a2)] [] [] (fun d h k => d = .v (.bool r) ∧ h = [] ∧ k = []) := by
  have hm := yes_of h0
  unfold r11_Exps_b at hm
  clear h0
  refine enterX htab Try.func69 rfl rfl rfl rfl rfl (fun C => ?_)
  refine wpD_seq ?_
  refine wpD_region ?_
  refine p_pure htab rfl rfl rfl rfl ?_
  refine ops_nil ?_
  refine then_normal ?_
  refine wpD_seq ?_
  refine wpD_seq ?_
  refine wpD_region ?_
  refine p_pure htab rfl rfl rfl rfl ?_
  refine p_lenL htab rfl rfl rfl rfl rfl rfl rfl (by first | exact map_len | rfl) ?_
  refine p_pure htab rfl rfl rfl rfl ?_
  refine p_lenL htab rfl rfl rfl rfl rfl rfl rfl (by first | exact map_len | rfl) ?_
  refine p_pure htab rfl rfl rfl rfl ?_
  refine ops_nil ?_
  refine then_normal ?_
  refine wpD_cond rfl (fun hc2 => ?_) (fun hc2 => ?_)
  · replace hm := yes_t hc2 hm
    refine wpD_seq ?_
    refine wpD_region ?_
    refine p_pure htab rfl rfl rfl rfl ?_
    refine ops_nil ?_
    refine then_normal ?_
    refine wpD_ret ?_
    refine then_ret ?_
    have er3 := yes_eq hm; subst er3
    refine retX.of (s' := ⟨[(6, .v (.bool false))], [], []⟩) (WkS.perm (WkS.cons rfl (Wk.refl _) (WkS.nil)) (List.Perm.refl _) (List.Perm.refl _)) (retD_mk (hh := []) (.inl rfl) (resL_cons (resOne_tmp rfl) (resL_nil)) (List.nil_sublist _) (List.Sublist.refl _) ?_)
    exact ⟨rfl, rfl, rfl⟩
  · replace hm := yes_f hc2 hm
    refine wpD_skip ?_
    refine then_normal ?_
    refine wpD_seq ?_
    refine wpD_seq ?_
    refine wpD_region ?_
    refine p_pure htab rfl rfl rfl rfl ?_
    refine ops_nil ?_
    refine then_normal ?_
    obtain ⟨x131, q131, ho131⟩ := yes_bind hm
    refine wpD_midX (τ := Unit) (Y := Unit) (fun y131 z131 => (⟨[], [], []⟩ : S)) x131 ?_ ?_
    · clear hm; have hm := yes_of q131
      refine wpD_block ?_
      obtain ⟨u132, hl132, hq132⟩ := yes_m hm
      refine loop_M (Y := Unit) hl132 (fun s132 z132 => (⟨[(0, .lst 5 (a0.map eTApiExpr) .no), (1, .lst 5 (a1.map eTApiExpr) .no), (2, .v (.bool a2)), (7, .v (.int .i64 s132))], [], []⟩ : S)) ?_ ?_
      · skip
        exact WkX.of () (WkS.perm (WkS.cons rfl (Wk.refl _) (WkS.cons rfl (Wk.refl _) (WkS.cons rfl (Wk.refl _) (WkS.cons rfl (Wk.refl _) (WkS.nil))))) (List.Perm.refl _) (List.Perm.refl _))
      · intro G132 s132 z132 hm
        refine wpD_seq ?_
        refine wpD_seq ?_
        refine wpD_region ?_
        refine p_pure htab rfl rfl rfl rfl ?_
        refine p_pure htab rfl rfl rfl rfl ?_
        refine p_lenL htab rfl rfl rfl rfl rfl rfl rfl (by first | exact map_len | rfl) ?_
        refine p_pure htab rfl rfl rfl rfl ?_
        refine ops_nil ?_
        refine then_normal ?_
        refine wpD_cond rfl (fun hc217 => ?_) (fun hc217 => ?_)
        · replace hm := yes_t hc217 hm
          refine wpD_skip ?_
          refine then_normal ?_
          refine wpD_seq ?_
          refine wpD_block ?_
          refine wpD_seq ?_
          obtain ⟨y237, q237, ho237⟩ := yes_bind hm
          refine wpD_mid (Y := Unit) (fun z237 => (⟨[(0, .lst 5 (a0.map eTApiExpr) .no), (1, .lst 5 (a1.map eTApiExpr) .no), (2, .v (.bool a2)), (7, .v (.int .i64 s132)), (86, .v (.bool y237))], [], []⟩ : S)) ?_ ?_
          · clear hm; have hm := yes_of q237
            obtain ⟨x238, q238, hm⟩ := yes_bind hm
            obtain ⟨x239, q239, hm⟩ := yes_bind hm
            refine bycB (x238.gOp != x239.gOp) (fun hs240 => ?_) (fun hs240 => ?_)
            · replace hm := yes_t hs240 hm
              refine wpD_draws 65 [] nlCh1_1 [0,2,3,5,7,8] nlCh1_2 (by kernel_rfl) (by kernel_rfl) (by kernel_rfl) (by rfl) (by rfl) (by kernel_rfl) ?_
              apply Exists.intro
              apply Exists.intro
              apply Exists.intro
              apply Exists.intro
              apply Exists.intro
              apply Exists.intro
              intro bs
              refine z_e rfl rfl (ex_pure htab rfl) rfl rfl rfl rfl rfl rfl ?_
              refine z_q rfl rfl (ex_pure htab rfl) rfl rfl rfl rfl rfl rfl ?_
              refine z_e rfl rfl (Ex.wk (x_elem htab rfl rfl rfl rfl rfl rfl rfl (idx_nonneg q238) (idx_map q238)) (Wk.of_eq (congrArg D.el (eTApiExpr_eq x238)))) rfl rfl rfl rfl rfl rfl ?_
              refine z_e rfl rfl (ex_pure htab rfl) rfl rfl rfl rfl rfl rfl ?_
              refine z_qM rfl rfl (xm_loadEl htab rfl rfl rfl rfl rfl) rfl rfl rfl rfl rfl rfl ?_
              refine z_e rfl rfl (ex_pure htab rfl) rfl rfl rfl rfl rfl rfl ?_
              refine z_q rfl rfl (ex_pure htab rfl) rfl rfl rfl rfl rfl rfl ?_
              refine z_e rfl rfl (Ex.wk (x_elem htab rfl rfl rfl rfl rfl rfl rfl (idx_nonneg q239) (idx_map q239)) (Wk.of_eq (congrArg D.el (eTApiExpr_eq x239)))) rfl rfl rfl rfl rfl rfl ?_
              refine z_e rfl rfl (ex_pure htab rfl) rfl rfl rfl rfl rfl rfl ?_
              refine z_qM rfl rfl (xm_loadEl htab rfl rfl rfl rfl rfl) rfl rfl rfl rfl rfl rfl ?_
              refine z_q rfl rfl (ex_pure htab rfl) rfl rfl rfl rfl rfl rfl ?_
              refine z_q rfl rfl (ex_pure htab rfl) rfl rfl rfl rfl rfl rfl ?_
              refine z_known (j := 30) (b' := true) rfl hs240 ?_
              refine z_skip rfl rfl rfl rfl ?_
              refine z_skip rfl rfl rfl rfl ?_
              refine z_skip rfl rfl rfl rfl ?_
              refine z_skip rfl rfl rfl rfl ?_
              refine z_skip rfl rfl rfl rfl ?_
              refine z_skip rfl rfl rfl rfl ?_
              refine z_skip rfl rfl rfl rfl ?_
              refine z_skip rfl rfl rfl rfl ?_
              refine z_skip rfl rfl rfl rfl ?_
              refine z_skip rfl rfl rfl rfl ?_
              refine z_skip rfl rfl rfl rfl ?_
              refine z_q rfl rfl (x_pickT rfl rfl rfl) rfl rfl rfl rfl rfl rfl ?_
              refine z_q rfl rfl (ex_pure htab rfl) rfl rfl rfl rfl rfl rfl ?_
              refine z_skip rfl rfl rfl rfl ?_
              refine z_skip rfl rfl rfl rfl ?_
              refine z_skip rfl rfl rfl rfl ?_
              refine z_skip rfl rfl rfl rfl ?_
              refine z_skip rfl rfl rfl rfl ?_
              refine z_skip rfl rfl rfl rfl ?_
              refine z_skip rfl rfl rfl rfl ?_
              refine z_skip rfl rfl rfl rfl ?_
              refine z_skip rfl rfl rfl rfl ?_
              refine z_skip rfl rfl rfl rfl ?_
              refine z_skip rfl rfl rfl rfl ?_
              refine z_q rfl rfl (x_pickT rfl rfl rfl) rfl rfl rfl rfl rfl rfl ?_
              refine z_q rfl rfl (ex_pure htab rfl) rfl rfl rfl rfl rfl rfl ?_
              refine z_skip rfl rfl rfl rfl ?_
              refine z_skip rfl rfl rfl rfl ?_
              refine z_skip rfl rfl rfl rfl ?_
              refine z_skip rfl rfl rfl rfl ?_
              refine z_skip rfl rfl rfl rfl ?_
              refine z_skip rfl rfl rfl rfl ?_
              refine z_skip rfl rfl rfl rfl ?_
              refine z_skip rfl rfl rfl rfl ?_
              refine z_skip rfl rfl rfl rfl ?_
              refine z_skip rfl rfl rfl rfl ?_
              refine z_skip rfl rfl rfl rfl ?_
              refine z_skip rfl rfl rfl rfl ?_
              refine z_skip rfl rfl rfl rfl ?_
              refine z_skip rfl rfl rfl rfl ?_
              refine z_q rfl rfl (x_pickT rfl rfl rfl) rfl rfl rfl rfl rfl rfl ?_
              refine z_q rfl rfl (ex_pure htab rfl) rfl rfl rfl rfl rfl rfl ?_
              refine z_skip rfl rfl rfl rfl ?_
              refine z_skip rfl rfl rfl rfl ?_
              refine z_skip rfl rfl rfl rfl ?_
              refine z_skip rfl rfl rfl rfl ?_
              refine z_skip rfl rfl rfl rfl ?_
              refine z_skip rfl rfl rfl rfl ?_
              refine z_skip rfl rfl rfl rfl ?_
              refine z_skip rfl rfl rfl rfl ?_
              refine z_skip rfl rfl rfl rfl ?_
              refine z_skip rfl rfl rfl rfl ?_
              refine z_skip rfl rfl rfl rfl ?_
              refine z_nil rfl rfl (fun e he => by simp [isAl] at he) ?_
              refine p_skip rfl rfl rfl ?_
              refine p_skip rfl rfl rfl ?_
              refine p_pickT rfl rfl rfl rfl rfl rfl ?_
              refine ops_nil ?_
              have e237 := yes_eq hm; subst e237
              refine ⟨rfl, ?_⟩
              exact WkX.of () (WkS.perm (WkS.cons rfl (Wk.refl _) (WkS.cons rfl (Wk.refl _) (WkS.cons rfl (Wk.refl _) (WkS.cons rfl (Wk.refl _) (WkS.cons rfl (Wk.refl _) (WkS.nil)))))) (List.Perm.refl _) (List.Perm.refl _))
            · replace hm := yes_f hs240 hm
              obtain ⟨x241, q241, hm⟩ := yes_bind hm
              obtain ⟨x242, q242, hm⟩ := yes_bind hm
              refine bycB (x241.gN != x242.gN) (fun hs243 => ?_) (fun hs243 => ?_)
              · replace hm := yes_t hs243 hm
                refine wpD_draws 65 [] nlCh1_3 [0,2,3,5,7,8,12,14,15,17,19,20] nlCh1_2 (by kernel_rfl) (by kernel_rfl) (by kernel_rfl) (by rfl) (by rfl) (by kernel_rfl) ?_
                apply Exists.intro
                apply Exists.intro
                apply Exists.intro
                apply Exists.intro
                apply Exists.intro
                apply Exists.intro
                apply Exists.intro
                apply Exists.intro
                apply Exists.intro
                apply Exists.intro
                apply Exists.intro
                apply Exists.intro
                intro bs
                refine z_e rfl rfl (ex_pure htab rfl) rfl rfl rfl rfl rfl rfl ?_
                refine z_q rfl rfl (ex_pure htab rfl) rfl rfl rfl rfl rfl rfl ?_
                refine z_e rfl rfl (Ex.wk (x_elem htab rfl rfl rfl rfl rfl rfl rfl (idx_nonneg q238) (idx_map q238)) (Wk.of_eq (congrArg D.el (eTApiExpr_eq x238)))) rfl rfl rfl rfl rfl rfl ?_
                refine z_e rfl rfl (ex_pure htab rfl) rfl rfl rfl rfl rfl rfl ?_
                refine z_qM rfl rfl (xm_loadEl htab rfl rfl rfl rfl rfl) rfl rfl rfl rfl rfl rfl ?_
                refine z_e rfl rfl (ex_pure htab rfl) rfl rfl rfl rfl rfl rfl ?_
                refine z_q rfl rfl (ex_pure htab rfl) rfl rfl rfl rfl rfl rfl ?_
                refine z_e rfl rfl (Ex.wk (x_elem htab rfl rfl rfl rfl rfl rfl rfl (idx_nonneg q239) (idx_map q239)) (Wk.of_eq (congrArg D.el (eTApiExpr_eq x239)))) rfl rfl rfl rfl rfl rfl ?_
                refine z_e rfl rfl (ex_pure htab rfl) rfl rfl rfl rfl rfl rfl ?_
                refine z_qM rfl rfl (xm_loadEl htab rfl rfl rfl rfl rfl) rfl rfl rfl rfl rfl rfl ?_
                refine z_q rfl rfl (ex_pure htab rfl) rfl rfl rfl rfl rfl rfl ?_
                refine z_q rfl rfl (ex_pure htab rfl) rfl rfl rfl rfl rfl rfl ?_
                refine z_known (j := 30) (b' := false) rfl hs240 ?_
                refine z_e rfl rfl (ex_pure htab rfl) rfl rfl rfl rfl rfl rfl ?_
                refine z_q rfl rfl (ex_pure htab rfl) rfl rfl rfl rfl rfl rfl ?_
                refine z_e rfl rfl (Ex.wk (x_elem htab rfl rfl rfl rfl rfl rfl rfl (idx_nonneg q241) (idx_map q241)) (Wk.of_eq (congrArg D.el (eTApiExpr_eq x241)))) rfl rfl rfl rfl rfl rfl ?_
                refine z_e rfl rfl (ex_pure htab rfl) rfl rfl rfl rfl rfl rfl ?_
                refine z_qM rfl rfl (xm_loadEl htab rfl rfl rfl rfl rfl) rfl rfl rfl rfl rfl rfl ?_
                refine z_e rfl rfl (ex_pure htab rfl) rfl rfl rfl rfl rfl rfl ?_
                refine z_q rfl rfl (ex_pure htab rfl) rfl rfl rfl rfl rfl rfl ?_
                refine z_e rfl rfl (Ex.wk (x_elem htab rfl rfl rfl rfl rfl rfl rfl (idx_nonneg q242) (idx_map q242)) (Wk.of_eq (congrArg D.el (eTApiExpr_eq x242)))) rfl rfl rfl rfl rfl rfl ?_
                refine z_e rfl rfl (ex_pure htab rfl) rfl rfl rfl rfl rfl rfl ?_
                refine z_qM rfl rfl (xm_loadEl htab rfl rfl rfl rfl rfl) rfl rfl rfl rfl rfl rfl ?_
                refine z_q rfl rfl (ex_pure htab rfl) rfl rfl rfl rfl rfl rfl ?_
                refine z_q rfl rfl (x_pickF rfl rfl rfl) rfl rfl rfl rfl rfl rfl ?_
                refine z_q rfl rfl (ex_pure htab rfl) rfl rfl rfl rfl rfl rfl ?_
                refine z_known (j := 43) (b' := true) rfl hs243 ?_
                refine z_skip rfl rfl rfl rfl ?_
                refine z_skip rfl rfl rfl rfl ?_
                refine z_skip rfl rfl rfl rfl ?_
                refine z_skip rfl rfl rfl rfl ?_
                refine z_skip rfl rfl rfl rfl ?_
                refine z_skip rfl rfl rfl rfl ?_
                refine z_skip rfl rfl rfl rfl ?_
                refine z_skip rfl rfl rfl rfl ?_
                refine z_skip rfl rfl rfl rfl ?_
                refine z_skip rfl rfl rfl rfl ?_
                refine z_skip rfl rfl rfl rfl ?_
                refine z_q rfl rfl (x_pickT rfl rfl rfl) rfl rfl rfl rfl rfl rfl ?_
                refine z_q rfl rfl (ex_pure htab rfl) rfl rfl rfl rfl rfl rfl ?_
                refine z_skip rfl rfl rfl rfl ?_
                refine z_skip rfl rfl rfl rfl ?_
                refine z_skip rfl rfl rfl rfl ?_
                refine z_skip rfl rfl rfl rfl ?_
                refine z_skip rfl rfl rfl rfl ?_
                refine z_skip rfl rfl rfl rfl ?_
                refine z_skip rfl rfl rfl rfl ?_
                refine z_skip rfl rfl rfl rfl ?_
                refine z_skip rfl rfl rfl rfl ?_
                refine z_skip rfl rfl rfl rfl ?_
                refine z_skip rfl rfl rfl rfl ?_
                refine z_skip rfl rfl rfl rfl ?_
                refine z_skip rfl rfl rfl rfl ?_
                refine z_skip rfl rfl rfl rfl ?_
                refine z_q rfl rfl (x_pickT rfl rfl rfl) rfl rfl rfl rfl rfl rfl ?_
                refine z_q rfl rfl (ex_pure htab rfl) rfl rfl rfl rfl rfl rfl ?_
                refine z_skip rfl rfl rfl rfl ?_
                refine z_skip rfl rfl rfl rfl ?_
                refine z_skip rfl rfl rfl rfl ?_
                refine z_skip rfl rfl rfl rfl ?_
                refine z_skip rfl rfl rfl rfl ?_
                refine z_skip rfl rfl rfl rfl ?_
                refine z_skip rfl rfl rfl rfl ?_
                refine z_skip rfl rfl rfl rfl ?_
                refine z_skip rfl rfl rfl rfl ?_
                refine z_skip rfl rfl rfl rfl ?_
                refine z_skip rfl rfl rfl rfl ?_
                refine z_nil rfl rfl (fun e he => by simp [isAl] at he) ?_
                refine p_skip rfl rfl rfl ?_
                refine p_skip rfl rfl rfl ?_
                refine p_pickT rfl rfl rfl rfl rfl rfl ?_
                refine ops_nil ?_
                have e237 := yes_eq hm; subst e237
                refine ⟨rfl, ?_⟩
                exact WkX.of () (WkS.perm (WkS.cons rfl (Wk.refl _) (WkS.cons rfl (Wk.refl _) (WkS.cons rfl (Wk.refl _) (WkS.cons rfl (Wk.refl _) (WkS.cons rfl (Wk.refl _) (WkS.nil)))))) (List.Perm.refl _) (List.Perm.refl _))
              · replace hm := yes_f hs243 hm
                obtain ⟨x244, q244, hm⟩ := yes_bind hm
                obtain ⟨x245, q245, hm⟩ := yes_bind hm
                refine bycB (!decide (x244.gName = x245.gName)) (fun hs246 => ?_) (fun hs246 => ?_)
                · replace hm := yes_t hs246 hm
                  refine wpD_draws 65 [] nlCh1_4 [0,2,3,5,7,8,12,14,15,17,19,20,25,27,28,30,32,33] nlCh1_2 (by kernel_rfl) (by kernel_rfl) (by kernel_rfl) (by rfl) (by rfl) (by kernel_rfl) ?_
                  apply Exists.intro
                  apply Exists.intro
                  apply Exists.intro
                  apply Exists.intro
                  apply Exists.intro
                  apply Exists.intro
                  apply Exists.intro
                  apply Exists.intro
                  apply Exists.intro
                  apply Exists.intro
                  apply Exists.intro
                  apply Exists.intro
                  apply Exists.intro
                  apply Exists.intro
                  apply Exists.intro
                  apply Exists.intro
                  apply Exists.intro
                  apply Exists.intro
                  intro bs
                  refine z_e rfl rfl (ex_pure htab rfl) rfl rfl rfl rfl rfl rfl ?_
                  refine z_q rfl rfl (ex_pure htab rfl) rfl rfl rfl rfl rfl rfl ?_
                  refine z_e rfl rfl (Ex.wk (x_elem htab rfl rfl rfl rfl rfl rfl rfl (idx_nonneg q238) (idx_map q238)) (Wk.of_eq (congrArg D.el (eTApiExpr_eq x238)))) rfl rfl rfl rfl rfl rfl ?_
                  refine z_e rfl rfl (ex_pure htab rfl) rfl rfl rfl rfl rfl rfl ?_
                  refine z_qM rfl rfl (xm_loadEl htab rfl rfl rfl rfl rfl) rfl rfl rfl rfl rfl rfl ?_
                  refine z_e rfl rfl (ex_pure htab rfl) rfl rfl rfl rfl rfl rfl ?_
                  refine z_q rfl rfl (ex_pure htab rfl) rfl rfl rfl rfl rfl rfl ?_
                  refine z_e rfl rfl (Ex.wk (x_elem htab rfl rfl rfl rfl rfl rfl rfl (idx_nonneg q239) (idx_map q239)) (Wk.of_eq (congrArg D.el (eTApiExpr_eq x239)))) rfl rfl rfl rfl rfl rfl ?_
                  refine z_e rfl rfl (ex_pure htab rfl) rfl rfl rfl rfl rfl rfl ?_
                  refine z_qM rfl rfl (xm_loadEl htab rfl rfl rfl rfl rfl) rfl rfl rfl rfl rfl rfl ?_
                  refine z_q rfl rfl (ex_pure htab rfl) rfl rfl rfl rfl rfl rfl ?_
                  refine z_q rfl rfl (ex_pure htab rfl) rfl rfl rfl rfl rfl rfl ?_
                  refine z_known (j := 30) (b' := false) rfl hs240 ?_
                  refine z_e rfl rfl (ex_pure htab rfl) rfl rfl rfl rfl rfl rfl ?_
                  refine z_q rfl rfl (ex_pure htab rfl) rfl rfl rfl rfl rfl rfl ?_
                  refine z_e rfl rfl (Ex.wk (x_elem htab rfl rfl rfl rfl rfl rfl rfl (idx_nonneg q241) (idx_map q241)) (Wk.of_eq (congrArg D.el (eTApiExpr_eq x241)))) rfl rfl rfl rfl rfl rfl ?_
                  refine z_e rfl rfl (ex_pure htab rfl) rfl rfl rfl rfl rfl rfl ?_
                  refine z_qM rfl rfl (xm_loadEl htab rfl rfl rfl rfl rfl) rfl rfl rfl rfl rfl rfl ?_
                  refine z_e rfl rfl (ex_pure htab rfl) rfl rfl rfl rfl rfl rfl ?_
                  refine z_q rfl rfl (ex_pure htab rfl) rfl rfl rfl rfl rfl rfl ?_
                  refine z_e rfl rfl (Ex.wk (x_elem htab rfl rfl rfl rfl rfl rfl rfl (idx_nonneg q242) (idx_map q242)) (Wk.of_eq (congrArg D.el (eTApiExpr_eq x242)))) rfl rfl rfl rfl rfl rfl ?_
                  refine z_e rfl rfl (ex_pure htab rfl) rfl rfl rfl rfl rfl rfl ?_
                  refine z_qM rfl rfl (xm_loadEl htab rfl rfl rfl rfl rfl) rfl rfl rfl rfl rfl rfl ?_
                  refine z_q rfl rfl (ex_pure htab rfl) rfl rfl rfl rfl rfl rfl ?_
                  refine z_q rfl rfl (x_pickF rfl rfl rfl) rfl rfl rfl rfl rfl rfl ?_
                  refine z_q rfl rfl (ex_pure htab rfl) rfl rfl rfl rfl rfl rfl ?_
                  refine z_known (j := 43) (b' := false) rfl hs243 ?_
                  refine z_e rfl rfl (ex_pure htab rfl) rfl rfl rfl rfl rfl rfl ?_
                  refine z_q rfl rfl (ex_pure htab rfl) rfl rfl rfl rfl rfl rfl ?_
                  refine z_e rfl rfl (Ex.wk (x_elem htab rfl rfl rfl rfl rfl rfl rfl (idx_nonneg q244) (idx_map q244)) (Wk.of_eq (congrArg D.el (eTApiExpr_eq x244)))) rfl rfl rfl rfl rfl rfl ?_
                  refine z_e rfl rfl (ex_pure htab rfl) rfl rfl rfl rfl rfl rfl ?_
                  refine z_qM rfl rfl (xm_loadEl htab rfl rfl rfl rfl rfl) rfl rfl rfl rfl rfl rfl ?_
                  refine z_e rfl rfl (ex_pure htab rfl) rfl rfl rfl rfl rfl rfl ?_
                  refine z_q rfl rfl (ex_pure htab rfl) rfl rfl rfl rfl rfl rfl ?_
                  refine z_e rfl rfl (Ex.wk (x_elem htab rfl rfl rfl rfl rfl rfl rfl (idx_nonneg q245) (idx_map q245)) (Wk.of_eq (congrArg D.el (eTApiExpr_eq x245)))) rfl rfl rfl rfl rfl rfl ?_
                  refine z_e rfl rfl (ex_pure htab rfl) rfl rfl rfl rfl rfl rfl ?_
                  refine z_qM rfl rfl (xm_loadEl htab rfl rfl rfl rfl rfl) rfl rfl rfl rfl rfl rfl ?_
                  refine z_q rfl rfl (ex_pure htab rfl) rfl rfl rfl rfl rfl rfl ?_
                  refine z_q rfl rfl (x_pickF rfl rfl rfl) rfl rfl rfl rfl rfl rfl ?_
                  refine z_q rfl rfl (ex_pure htab rfl) rfl rfl rfl rfl rfl rfl ?_
                  refine z_known (j := 56) (b' := true) rfl hs246 ?_
                  refine z_skip rfl rfl rfl rfl ?_
                  refine z_skip rfl rfl rfl rfl ?_
                  refine z_skip rfl rfl rfl rfl ?_
                  refine z_skip rfl rfl rfl rfl ?_
                  refine z_skip rfl rfl rfl rfl ?_
                  refine z_skip rfl rfl rfl rfl ?_
                  refine z_skip rfl rfl rfl rfl ?_
                  refine z_skip rfl rfl rfl rfl ?_
                  refine z_skip rfl rfl rfl rfl ?_
                  refine z_skip rfl rfl rfl rfl ?_
                  refine z_skip rfl rfl rfl rfl ?_
                  refine z_skip rfl rfl rfl rfl ?_
                  refine z_skip rfl rfl rfl rfl ?_
                  refine z_skip rfl rfl rfl rfl ?_
                  refine z_q rfl rfl (x_pickT rfl rfl rfl) rfl rfl rfl rfl rfl rfl ?_
                  refine z_q rfl rfl (ex_pure htab rfl) rfl rfl rfl rfl rfl rfl ?_
                  refine z_skip rfl rfl rfl rfl ?_
                  refine z_skip rfl rfl rfl rfl ?_
                  refine z_skip rfl rfl rfl rfl ?_
                  refine z_skip rfl rfl rfl rfl ?_
                  refine z_skip rfl rfl rfl rfl ?_
                  refine z_skip rfl rfl rfl rfl ?_
                  refine z_skip rfl rfl rfl rfl ?_
                  refine z_skip rfl rfl rfl rfl ?_
                  refine z_skip rfl rfl rfl rfl ?_
                  refine z_skip rfl rfl rfl rfl ?_
                  refine z_skip rfl rfl rfl rfl ?_
                  refine z_nil rfl rfl (fun e he => by simp [isAl] at he) ?_
                  refine p_skip rfl rfl rfl ?_
                  refine p_skip rfl rfl rfl ?_
                  refine p_pickT rfl rfl rfl rfl rfl rfl ?_
                  refine ops_nil ?_
                  have e237 := yes_eq hm; subst e237
                  refine ⟨rfl, ?_⟩
                  exact WkX.of () (WkS.perm (WkS.cons rfl (Wk.refl _) (WkS.cons rfl (Wk.refl _) (WkS.cons rfl (Wk.refl _) (WkS.cons rfl (Wk.refl _) (WkS.cons rfl (Wk.refl _) (WkS.nil)))))) (List.Perm.refl _) (List.Perm.refl _))
                · replace hm := yes_f hs246 hm
                  refine bycB a2 (fun hs247 => ?_) (fun hs247 => ?_)
                  · replace hm := yes_t hs247 hm
                    obtain ⟨x248, q248, hm⟩ := yes_bind hm
                    obtain ⟨x249, q249, hm⟩ := yes_bind hm
                    refine bycB (x248.gAt != x249.gAt) (fun hs250 => ?_) (fun hs250 => ?_)
                    · replace hm := yes_t hs250 hm
                      refine wpD_draws 65 [] nlCh1_5 [0,2,3,5,7,8,12,14,15,17,19,20,25,27,28,30,32,33,40,42,43,45,47,48] nlCh1_2 (by kernel_rfl) (by kernel_rfl) (by kernel_rfl) (by rfl) (by rfl) (by kernel_rfl) ?_
                      apply Exists.intro
                      apply Exists.intro
                      apply Exists.intro
                      apply Exists.intro
                      apply Exists.intro
                      apply Exists.intro
                      apply Exists.intro
                      apply Exists.intro
                      apply Exists.intro
                      apply Exists.intro
                      apply Exists.intro
                      apply Exists.intro
                      apply Exists.intro
                      apply Exists.intro
                      apply Exists.intro
                      apply Exists.intro
                      apply Exists.intro
                      apply Exists.intro
                      apply Exists.intro
                      apply Exists.intro
                      apply Exists.intro
                      apply Exists.intro
                      apply Exists.intro
                      apply Exists.intro
                      intro bs
                      refine z_e rfl rfl (ex_pure htab rfl) rfl rfl rfl rfl rfl rfl ?_
                      refine z_q rfl rfl (ex_pure htab rfl) rfl rfl rfl rfl rfl rfl ?_
                      refine z_e rfl rfl (Ex.wk (x_elem htab rfl rfl rfl rfl rfl rfl rfl (idx_nonneg q238) (idx_map q238)) (Wk.of_eq (congrArg D.el (eTApiExpr_eq x238)))) rfl rfl rfl rfl rfl rfl ?_
                      refine z_e rfl rfl (ex_pure htab rfl) rfl rfl rfl rfl rfl rfl ?_
                      refine z_qM rfl rfl (xm_loadEl htab rfl rfl rfl rfl rfl) rfl rfl rfl rfl rfl rfl ?_
                      refine z_e rfl rfl (ex_pure htab rfl) rfl rfl rfl rfl rfl rfl ?_
                      refine z_q rfl rfl (ex_pure htab rfl) rfl rfl rfl rfl rfl rfl ?_
                      refine z_e rfl rfl (Ex.wk (x_elem htab rfl rfl rfl rfl rfl rfl rfl (idx_nonneg q239) (idx_map q239)) (Wk.of_eq (congrArg D.el (eTApiExpr_eq x239)))) rfl rfl rfl rfl rfl rfl ?_
                      refine z_e rfl rfl (ex_pure htab rfl) rfl rfl rfl rfl rfl rfl ?_
                      refine z_qM rfl rfl (xm_loadEl htab rfl rfl rfl rfl rfl) rfl rfl rfl rfl rfl rfl ?_
                      refine z_q rfl rfl (ex_pure htab rfl) rfl rfl rfl rfl rfl rfl ?_
                      refine z_q rfl rfl (ex_pure htab rfl) rfl rfl rfl rfl rfl rfl ?_
                      refine z_known (j := 30) (b' := false) rfl hs240 ?_
                      refine z_e rfl rfl (ex_pure htab rfl) rfl rfl rfl rfl rfl rfl ?_
                      refine z_q rfl rfl (ex_pure htab rfl) rfl rfl rfl rfl rfl rfl ?_
                      refine z_e rfl rfl (Ex.wk (x_elem htab rfl rfl rfl rfl rfl rfl rfl (idx_nonneg q241) (idx_map q241)) (Wk.of_eq (congrArg D.el (eTApiExpr_eq x241)))) rfl rfl rfl rfl rfl rfl ?_
                      refine z_e rfl rfl (ex_pure htab rfl) rfl rfl rfl rfl rfl rfl ?_
                      refine z_qM rfl rfl (xm_loadEl htab rfl rfl rfl rfl rfl) rfl rfl rfl rfl rfl rfl ?_
                      refine z_e rfl rfl (ex_pure htab rfl) rfl rfl rfl rfl rfl rfl ?_
                      refine z_q rfl rfl (ex_pure htab rfl) rfl rfl rfl rfl rfl rfl ?_
                      refine z_e rfl rfl (Ex.wk (x_elem htab rfl rfl rfl rfl rfl rfl rfl (idx_nonneg q242) (idx_map q242)) (Wk.of_eq (congrArg D.el (eTApiExpr_eq x242)))) rfl rfl rfl rfl rfl rfl ?_
                      refine z_e rfl rfl (ex_pure htab rfl) rfl rfl rfl rfl rfl rfl ?_
                      refine z_qM rfl rfl (xm_loadEl htab rfl rfl rfl rfl rfl) rfl rfl rfl rfl rfl rfl ?_
                      refine z_q rfl rfl (ex_pure htab rfl) rfl rfl rfl rfl rfl rfl ?_
                      refine z_q rfl rfl (x_pickF rfl rfl rfl) rfl rfl rfl rfl rfl rfl ?_
                      refine z_q rfl rfl (ex_pure htab rfl) rfl rfl rfl rfl rfl rfl ?_
                      refine z_known (j := 43) (b' := false) rfl hs243 ?_
                      refine z_e rfl rfl (ex_pure htab rfl) rfl rfl rfl rfl rfl rfl ?_
                      refine z_q rfl rfl (ex_pure htab rfl) rfl rfl rfl rfl rfl rfl ?_
                      refine z_e rfl rfl (Ex.wk (x_elem htab rfl rfl rfl rfl rfl rfl rfl (idx_nonneg q244) (idx_map q244)) (Wk.of_eq (congrArg D.el (eTApiExpr_eq x244)))) rfl rfl rfl rfl rfl rfl ?_
                      refine z_e rfl rfl (ex_pure htab rfl) rfl rfl rfl rfl rfl rfl ?_
                      refine z_qM rfl rfl (xm_loadEl htab rfl rfl rfl rfl rfl) rfl rfl rfl rfl rfl rfl ?_
                      refine z_e rfl rfl (ex_pure htab rfl) rfl rfl rfl rfl rfl rfl ?_
                      refine z_q rfl rfl (ex_pure htab rfl) rfl rfl rfl rfl rfl rfl ?_
                      refine z_e rfl rfl (Ex.wk (x_elem htab rfl rfl rfl rfl rfl rfl rfl (idx_nonneg q245) (idx_map q245)) (Wk.of_eq (congrArg D.el (eTApiExpr_eq x245)))) rfl rfl rfl rfl rfl rfl ?_
                      refine z_e rfl rfl (ex_pure htab rfl) rfl rfl rfl rfl rfl rfl ?_
                      refine z_qM rfl rfl (xm_loadEl htab rfl rfl rfl rfl rfl) rfl rfl rfl rfl rfl rfl ?_
                      refine z_q rfl rfl (ex_pure htab rfl) rfl rfl rfl rfl rfl rfl ?_
                      refine z_q rfl rfl (x_pickF rfl rfl rfl) rfl rfl rfl rfl rfl rfl ?_
                      refine z_q rfl rfl (ex_pure htab rfl) rfl rfl rfl rfl rfl rfl ?_
                      refine z_known (j := 56) (b' := false) rfl hs246 ?_
                      refine z_q rfl rfl (ex_pure htab rfl) rfl rfl rfl rfl rfl rfl ?_
                      refine z_q rfl rfl (ex_pure htab rfl) rfl rfl rfl rfl rfl rfl ?_
                      refine z_known (j := 58) (b' := true) rfl hs247 ?_
                      refine z_e rfl rfl (ex_pure htab rfl) rfl rfl rfl rfl rfl rfl ?_
                      refine z_q rfl rfl (ex_pure htab rfl) rfl rfl rfl rfl rfl rfl ?_
                      refine z_e rfl rfl (Ex.wk (x_elem htab rfl rfl rfl rfl rfl rfl rfl (idx_nonneg q248) (idx_map q248)) (Wk.of_eq (congrArg D.el (eTApiExpr_eq x248)))) rfl rfl rfl rfl rfl rfl ?_
                      refine z_e rfl rfl (ex_pure htab rfl) rfl rfl rfl rfl rfl rfl ?_
                      refine z_qM rfl rfl (xm_loadEl htab rfl rfl rfl rfl rfl) rfl rfl rfl rfl rfl rfl ?_
                      refine z_e rfl rfl (ex_pure htab rfl) rfl rfl rfl rfl rfl rfl ?_
                      refine z_q rfl rfl (ex_pure htab rfl) rfl rfl rfl rfl rfl rfl ?_
                      refine z_e rfl rfl (Ex.wk (x_elem htab rfl rfl rfl rfl rfl rfl rfl (idx_nonneg q249) (idx_map q249)) (Wk.of_eq (congrArg D.el (eTApiExpr_eq x249)))) rfl rfl rfl rfl rfl rfl ?_
                      refine z_e rfl rfl (ex_pure htab rfl) rfl rfl rfl rfl rfl rfl ?_
                      refine z_qM rfl rfl (xm_loadEl htab rfl rfl rfl rfl rfl) rfl rfl rfl rfl rfl rfl ?_
                      refine z_q rfl rfl (ex_pure htab rfl) rfl rfl rfl rfl rfl rfl ?_
                      refine z_q rfl rfl (x_pickT rfl rfl rfl) rfl rfl rfl rfl rfl rfl ?_
                      refine z_q rfl rfl (x_pickF rfl rfl rfl) rfl rfl rfl rfl rfl rfl ?_
                      refine z_q rfl rfl (ex_pure htab rfl) rfl rfl rfl rfl rfl rfl ?_
                      refine z_known (j := 72) (b' := true) rfl hs250 ?_
                      refine z_skip rfl rfl rfl rfl ?_
                      refine z_skip rfl rfl rfl rfl ?_
                      refine z_skip rfl rfl rfl rfl ?_
                      refine z_skip rfl rfl rfl rfl ?_
                      refine z_skip rfl rfl rfl rfl ?_
                      refine z_skip rfl rfl rfl rfl ?_
                      refine z_skip rfl rfl rfl rfl ?_
                      refine z_skip rfl rfl rfl rfl ?_
                      refine z_skip rfl rfl rfl rfl ?_
                      refine z_skip rfl rfl rfl rfl ?_
                      refine z_skip rfl rfl rfl rfl ?_
                      refine z_nil rfl rfl (fun e he => by simp [isAl] at he) ?_
                      refine p_skip rfl rfl rfl ?_
                      refine p_skip rfl rfl rfl ?_
                      refine p_pickT rfl rfl rfl rfl rfl rfl ?_
                      refine ops_nil ?_
                      have e237 := yes_eq hm; subst e237
                      refine ⟨rfl, ?_⟩
                      exact WkX.of () (WkS.perm (WkS.cons rfl (Wk.refl _) (WkS.cons rfl (Wk.refl _) (WkS.cons rfl (Wk.refl _) (WkS.cons rfl (Wk.refl _) (WkS.cons rfl (Wk.refl _) (WkS.nil)))))) (List.Perm.refl _) (List.Perm.refl _))
                    · replace hm := yes_f hs250 hm
                      obtain ⟨x251, q251, hm⟩ := yes_bind hm
                      obtain ⟨x252, q252, hm⟩ := yes_bind hm
                      refine wpD_draws 65 [] nlCh1_6 [0,2,3,5,7,8,12,14,15,17,19,20,25,27,28,30,32,33,40,42,43,45,47,48,54,56,57,58,59,61,62,63] nlCh1_2 (by kernel_rfl) (by kernel_rfl) (by kernel_rfl) (by rfl) (by rfl) (by kernel_rfl) ?_
                      apply Exists.intro
                      apply Exists.intro
                      apply Exists.intro
                      apply Exists.intro
                      apply Exists.intro
                      apply Exists.intro
                      apply Exists.intro
                      apply Exists.intro
                      apply Exists.intro
                      apply Exists.intro
                      apply Exists.intro
                      apply Exists.intro
                      apply Exists.intro
                      apply Exists.intro
                      apply Exists.intro
                      apply Exists.intro
                      apply Exists.intro
                      apply Exists.intro
                      apply Exists.intro
                      apply Exists.intro
                      apply Exists.intro
                      apply Exists.intro
                      apply Exists.intro
                      apply Exists.intro
                      apply Exists.intro
                      apply Exists.intro
                      apply Exists.intro
                      apply Exists.intro
                      apply Exists.intro
                      apply Exists.intro
                      apply Exists.intro
                      apply Exists.intro
                      intro bs
                      refine z_e rfl rfl (ex_pure htab rfl) rfl rfl rfl rfl rfl rfl ?_
                      refine z_q rfl rfl (ex_pure htab rfl) rfl rfl rfl rfl rfl rfl ?_
                      refine z_e rfl rfl (Ex.wk (x_elem htab rfl rfl rfl rfl rfl rfl rfl (idx_nonneg q238) (idx_map q238)) (Wk.of_eq (congrArg D.el (eTApiExpr_eq x238)))) rfl rfl rfl rfl rfl rfl ?_
                      refine z_e rfl rfl (ex_pure htab rfl) rfl rfl rfl rfl rfl rfl ?_
                      refine z_qM rfl rfl (xm_loadEl htab rfl rfl rfl rfl rfl) rfl rfl rfl rfl rfl rfl ?_
                      refine z_e rfl rfl (ex_pure htab rfl) rfl rfl rfl rfl rfl rfl ?_
                      refine z_q rfl rfl (ex_pure htab rfl) rfl rfl rfl rfl rfl rfl ?_
                      refine z_e rfl rfl (Ex.wk (x_elem htab rfl rfl rfl rfl rfl rfl rfl (idx_nonneg q239) (idx_map q239)) (Wk.of_eq (congrArg D.el (eTApiExpr_eq x239)))) rfl rfl rfl rfl rfl rfl ?_
                      refine z_e rfl rfl (ex_pure htab rfl) rfl rfl rfl rfl rfl rfl ?_
                      refine z_qM rfl rfl (xm_loadEl htab rfl rfl rfl rfl rfl) rfl rfl rfl rfl rfl rfl ?_
                      refine z_q rfl rfl (ex_pure htab rfl) rfl rfl rfl rfl rfl rfl ?_
                      refine z_q rfl rfl (ex_pure htab rfl) rfl rfl rfl rfl rfl rfl ?_
                      refine z_known (j := 30) (b' := false) rfl hs240 ?_
                      refine z_e rfl rfl (ex_pure htab rfl) rfl rfl rfl rfl rfl rfl ?_
                      refine z_q rfl rfl (ex_pure htab rfl) rfl rfl rfl rfl rfl rfl ?_
                      refine z_e rfl rfl (Ex.wk (x_elem htab rfl rfl rfl rfl rfl rfl rfl (idx_nonneg q241) (idx_map q241)) (Wk.of_eq (congrArg D.el (eTApiExpr_eq x241)))) rfl rfl rfl rfl rfl rfl ?_
                      refine z_e rfl rfl (ex_pure htab rfl) rfl rfl rfl rfl rfl rfl ?_
                      refine z_qM rfl rfl (xm_loadEl htab rfl rfl rfl rfl rfl) rfl rfl rfl rfl rfl rfl ?_
                      refine z_e rfl rfl (ex_pure htab rfl) rfl rfl rfl rfl rfl rfl ?_
                      refine z_q rfl rfl (ex_pure htab rfl) rfl rfl rfl rfl rfl rfl ?_
                      refine z_e rfl rfl (Ex.wk (x_elem htab rfl rfl rfl rfl rfl rfl rfl (idx_nonneg q242) (idx_map q242)) (Wk.of_eq (congrArg D.el (eTApiExpr_eq x242)))) rfl rfl rfl rfl rfl rfl ?_
                      refine z_e rfl rfl (ex_pure htab rfl) rfl rfl rfl rfl rfl rfl ?_
                      refine z_qM rfl rfl (xm_loadEl htab rfl rfl rfl rfl rfl) rfl rfl rfl rfl rfl rfl ?_
                      refine z_q rfl rfl (ex_pure htab rfl) rfl rfl rfl rfl rfl rfl ?_
                      refine z_q rfl rfl (x_pickF rfl rfl rfl) rfl rfl rfl rfl rfl rfl ?_
                      refine z_q rfl rfl (ex_pure htab rfl) rfl rfl rfl rfl rfl rfl ?_
                      refine z_known (j := 43) (b' := false) rfl hs243 ?_
                      refine z_e rfl rfl (ex_pure htab rfl) rfl rfl rfl rfl rfl rfl ?_
                      refine z_q rfl rfl (ex_pure htab rfl) rfl rfl rfl rfl rfl rfl ?_
                      refine z_e rfl rfl (Ex.wk (x_elem htab rfl rfl rfl rfl rfl rfl rfl (idx_nonneg q244) (idx_map q244)) (Wk.of_eq (congrArg D.el (eTApiExpr_eq x244)))) rfl rfl rfl rfl rfl rfl ?_
                      refine z_e rfl rfl (ex_pure htab rfl) rfl rfl rfl rfl rfl rfl ?_
                      refine z_qM rfl rfl (xm_loadEl htab rfl rfl rfl rfl rfl) rfl rfl rfl rfl rfl rfl ?_
                      refine z_e rfl rfl (ex_pure htab rfl) rfl rfl rfl rfl rfl rfl ?_
                      refine z_q rfl rfl (ex_pure htab rfl) rfl rfl rfl rfl rfl rfl ?_
                      refine z_e rfl rfl (Ex.wk (x_elem htab rfl rfl rfl rfl rfl rfl rfl (idx_nonneg q245) (idx_map q245)) (Wk.of_eq (congrArg D.el (eTApiExpr_eq x245)))) rfl rfl rfl rfl rfl rfl ?_
                      refine z_e rfl rfl (ex_pure htab rfl) rfl rfl rfl rfl rfl rfl ?_
                      refine z_qM rfl rfl (xm_loadEl htab rfl rfl rfl rfl rfl) rfl rfl rfl rfl rfl rfl ?_
                      refine z_q rfl rfl (ex_pure htab rfl) rfl rfl rfl rfl rfl rfl ?_
                      refine z_q rfl rfl (x_pickF rfl rfl rfl) rfl rfl rfl rfl rfl rfl ?_
                      refine z_q rfl rfl (ex_pure htab rfl) rfl rfl rfl rfl rfl rfl ?_
                      refine z_known (j := 56) (b' := false) rfl hs246 ?_
                      refine z_q rfl rfl (ex_pure htab rfl) rfl rfl rfl rfl rfl rfl ?_
                      refine z_q rfl rfl (ex_pure htab rfl) rfl rfl rfl rfl rfl rfl ?_
                      refine z_known (j := 58) (b' := true) rfl hs247 ?_
                      refine z_e rfl rfl (ex_pure htab rfl) rfl rfl rfl rfl rfl rfl ?_
                      refine z_q rfl rfl (ex_pure htab rfl) rfl rfl rfl rfl rfl rfl ?_
                      refine z_e rfl rfl (Ex.wk (x_elem htab rfl rfl rfl rfl rfl rfl rfl (idx_nonneg q248) (idx_map q248)) (Wk.of_eq (congrArg D.el (eTApiExpr_eq x248)))) rfl rfl rfl rfl rfl rfl ?_
                      refine z_e rfl rfl (ex_pure htab rfl) rfl rfl rfl rfl rfl rfl ?_
                      refine z_qM rfl rfl (xm_loadEl htab rfl rfl rfl rfl rfl) rfl rfl rfl rfl rfl rfl ?_
                      refine z_e rfl rfl (ex_pure htab rfl) rfl rfl rfl rfl rfl rfl ?_
                      refine z_q rfl rfl (ex_pure htab rfl) rfl rfl rfl rfl rfl rfl ?_
                      refine z_e rfl rfl (Ex.wk (x_elem htab rfl rfl rfl rfl rfl rfl rfl (idx_nonneg q249) (idx_map q249)) (Wk.of_eq (congrArg D.el (eTApiExpr_eq x249)))) rfl rfl rfl rfl rfl rfl ?_
                      refine z_e rfl rfl (ex_pure htab rfl) rfl rfl rfl rfl rfl rfl ?_
                      refine z_qM rfl rfl (xm_loadEl htab rfl rfl rfl rfl rfl) rfl rfl rfl rfl rfl rfl ?_
                      refine z_q rfl rfl (ex_pure htab rfl) rfl rfl rfl rfl rfl rfl ?_
                      refine z_q rfl rfl (x_pickT rfl rfl rfl) rfl rfl rfl rfl rfl rfl ?_
                      refine z_q rfl rfl (x_pickF rfl rfl rfl) rfl rfl rfl rfl rfl rfl ?_
                      refine z_q rfl rfl (ex_pure htab rfl) rfl rfl rfl rfl rfl rfl ?_
                      refine z_known (j := 72) (b' := false) rfl hs250 ?_
                      refine z_e rfl rfl (ex_pure htab rfl) rfl rfl rfl rfl rfl rfl ?_
                      refine z_q rfl rfl (ex_pure htab rfl) rfl rfl rfl rfl rfl rfl ?_
                      refine z_e rfl rfl (Ex.wk (x_elem htab rfl rfl rfl rfl rfl rfl rfl (idx_nonneg q251) (idx_map q251)) (Wk.of_eq (congrArg D.el (eTApiExpr_eq x251)))) rfl rfl rfl rfl rfl rfl ?_
                      refine z_e rfl rfl (ex_pure htab rfl) rfl rfl rfl rfl rfl rfl ?_
                      refine z_eM rfl rfl (xm_loadEl htab rfl rfl rfl rfl rfl) rfl rfl rfl rfl rfl rfl ?_
                      refine z_e rfl rfl (ex_pure htab rfl) rfl rfl rfl rfl rfl rfl ?_
                      refine z_q rfl rfl (ex_pure htab rfl) rfl rfl rfl rfl rfl rfl ?_
                      refine z_e rfl rfl (Ex.wk (x_elem htab rfl rfl rfl rfl rfl rfl rfl (idx_nonneg q252) (idx_map q252)) (Wk.of_eq (congrArg D.el (eTApiExpr_eq x252)))) rfl rfl rfl rfl rfl rfl ?_
                      refine z_e rfl rfl (ex_pure htab rfl) rfl rfl rfl rfl rfl rfl ?_
                      refine z_eM rfl rfl (xm_loadEl htab rfl rfl rfl rfl rfl) rfl rfl rfl rfl rfl rfl ?_
                      refine z_q rfl rfl (ex_pure htab rfl) rfl rfl rfl rfl rfl rfl ?_
                      refine z_nil rfl rfl (fun e he => by simp [isAl] at he) ?_
                      obtain ⟨x253, q253, hm⟩ := yes_bind hm
                      refine p_call0 (hg0 x251.gKids x252.gKids a2 x253 q253) rfl rfl rfl rfl rfl (WkL.refl _) ?_
                      rintro _ rfl
                      refine p_pure htab rfl rfl rfl rfl ?_
                      refine p_pickF rfl rfl rfl rfl rfl rfl ?_
                      refine ops_nil ?_
                      have e237 := yes_eq hm; subst e237
                      refine ⟨rfl, ?_⟩
                      exact WkX.of () (WkS.perm (WkS.cons rfl (Wk.refl _) (WkS.cons rfl (Wk.refl _) (WkS.cons rfl (Wk.refl _) (WkS.cons rfl (Wk.refl _) (WkS.cons rfl (Wk.refl _) (WkS.nil)))))) (List.Perm.refl _) (List.Perm.refl _))
                  · replace hm := yes_f hs247 hm
                    obtain ⟨x254, q254, hm⟩ := yes_bind hm
                    obtain ⟨x255, q255, hm⟩ := yes_bind hm
                    refine wpD_draws 65 [] nlCh1_7 [0,2,3,5,7,8,12,14,15,17,19,20,25,27,28,30,32,33,54,56,57,58,59,61,62,63] nlCh1_2 (by kernel_rfl) (by kernel_rfl) (by kernel_rfl) (by rfl) (by rfl) (by kernel_rfl) ?_
                    apply Exists.intro
                    apply Exists.intro
                    apply Exists.intro
                    apply Exists.intro
                    apply Exists.intro
                    apply Exists.intro
                    apply Exists.intro
                    apply Exists.intro
                    apply Exists.intro
                    apply Exists.intro
                    apply Exists.intro
                    apply Exists.intro
                    apply Exists.intro
                    apply Exists.intro
                    apply Exists.intro
                    apply Exists.intro
                    apply Exists.intro
                    apply Exists.intro
                    apply Exists.intro
                    apply Exists.intro
                    apply Exists.intro
                    apply Exists.intro
                    apply Exists.intro
                    apply Exists.intro
                    apply Exists.intro
                    apply Exists.intro
                    intro bs
                    refine z_e rfl rfl (ex_pure htab rfl) rfl rfl rfl rfl rfl rfl ?_
                    refine z_q rfl rfl (ex_pure htab rfl) rfl rfl rfl rfl rfl rfl ?_
                    refine z_e rfl rfl (Ex.wk (x_elem htab rfl rfl rfl rfl rfl rfl rfl (idx_nonneg q238) (idx_map q238)) (Wk.of_eq (congrArg D.el (eTApiExpr_eq x238)))) rfl rfl rfl rfl rfl rfl ?_
                    refine z_e rfl rfl (ex_pure htab rfl) rfl rfl rfl rfl rfl rfl ?_
                    refine z_qM rfl rfl (xm_loadEl htab rfl rfl rfl rfl rfl) rfl rfl rfl rfl rfl rfl ?_
                    refine z_e rfl rfl (ex_pure htab rfl) rfl rfl rfl rfl rfl rfl ?_
                    refine z_q rfl rfl (ex_pure htab rfl) rfl rfl rfl rfl rfl rfl ?_
                    refine z_e rfl rfl (Ex.wk (x_elem htab rfl rfl rfl rfl rfl rfl rfl (idx_nonneg q239) (idx_map q239)) (Wk.of_eq (congrArg D.el (eTApiExpr_eq x239)))) rfl rfl rfl rfl rfl rfl ?_
                    refine z_e rfl rfl (ex_pure htab rfl) rfl rfl rfl rfl rfl rfl ?_
                    refine z_qM rfl rfl (xm_loadEl htab rfl rfl rfl rfl rfl) rfl rfl rfl rfl rfl rfl ?_
                    refine z_q rfl rfl (ex_pure htab rfl) rfl rfl rfl rfl rfl rfl ?_
                    refine z_q rfl rfl (ex_pure htab rfl) rfl rfl rfl rfl rfl rfl ?_
                    refine z_known (j := 30) (b' := false) rfl hs240 ?_
                    refine z_e rfl rfl (ex_pure htab rfl) rfl rfl rfl rfl rfl rfl ?_
                    refine z_q rfl rfl (ex_pure htab rfl) rfl rfl rfl rfl rfl rfl ?_
                    refine z_e rfl rfl (Ex.wk (x_elem htab rfl rfl rfl rfl rfl rfl rfl (idx_nonneg q241) (idx_map q241)) (Wk.of_eq (congrArg D.el (eTApiExpr_eq x241)))) rfl rfl rfl rfl rfl rfl ?_
                    refine z_e rfl rfl (ex_pure htab rfl) rfl rfl rfl rfl rfl rfl ?_
                    refine z_qM rfl rfl (xm_loadEl htab rfl rfl rfl rfl rfl) rfl rfl rfl rfl rfl rfl ?_
                    refine z_e rfl rfl (ex_pure htab rfl) rfl rfl rfl rfl rfl rfl ?_
                    refine z_q rfl rfl (ex_pure htab rfl) rfl rfl rfl rfl rfl rfl ?_
                    refine z_e rfl rfl (Ex.wk (x_elem htab rfl rfl rfl rfl rfl rfl rfl (idx_nonneg q242) (idx_map q242)) (Wk.of_eq (congrArg D.el (eTApiExpr_eq x242)))) rfl rfl rfl rfl rfl rfl ?_
                    refine z_e rfl rfl (ex_pure htab rfl) rfl rfl rfl rfl rfl rfl ?_
                    refine z_qM rfl rfl (xm_loadEl htab rfl rfl rfl rfl rfl) rfl rfl rfl rfl rfl rfl ?_
                    refine z_q rfl rfl (ex_pure htab rfl) rfl rfl rfl rfl rfl rfl ?_
                    refine z_q rfl rfl (x_pickF rfl rfl rfl) rfl rfl rfl rfl rfl rfl ?_
                    refine z_q rfl rfl (ex_pure htab rfl) rfl rfl rfl rfl rfl rfl ?_
                    refine z_known (j := 43) (b' := false) rfl hs243 ?_
                    refine z_e rfl rfl (ex_pure htab rfl) rfl rfl rfl rfl rfl rfl ?_
                    refine z_q rfl rfl (ex_pure htab rfl) rfl rfl rfl rfl rfl rfl ?_
                    refine z_e rfl rfl (Ex.wk (x_elem htab rfl rfl rfl rfl rfl rfl rfl (idx_nonneg q244) (idx_map q244)) (Wk.of_eq (congrArg D.el (eTApiExpr_eq x244)))) rfl rfl rfl rfl rfl rfl ?_
                    refine z_e rfl rfl (ex_pure htab rfl) rfl rfl rfl rfl rfl rfl ?_
                    refine z_qM rfl rfl (xm_loadEl htab rfl rfl rfl rfl rfl) rfl rfl rfl rfl rfl rfl ?_
                    refine z_e rfl rfl (ex_pure htab rfl) rfl rfl rfl rfl rfl rfl ?_
                    refine z_q rfl rfl (ex_pure htab rfl) rfl rfl rfl rfl rfl rfl ?_
                    refine z_e rfl rfl (Ex.wk (x_elem htab rfl rfl rfl rfl rfl rfl rfl (idx_nonneg q245) (idx_map q245)) (Wk.of_eq (congrArg D.el (eTApiExpr_eq x245)))) rfl rfl rfl rfl rfl rfl ?_
                    refine z_e rfl rfl (ex_pure htab rfl) rfl rfl rfl rfl rfl rfl ?_
                    refine z_qM rfl rfl (xm_loadEl htab rfl rfl rfl rfl rfl) rfl rfl rfl rfl rfl rfl ?_
                    refine z_q rfl rfl (ex_pure htab rfl) rfl rfl rfl rfl rfl rfl ?_
                    refine z_q rfl rfl (x_pickF rfl rfl rfl) rfl rfl rfl rfl rfl rfl ?_
                    refine z_q rfl rfl (ex_pure htab rfl) rfl rfl rfl rfl rfl rfl ?_
                    refine z_known (j := 56) (b' := false) rfl hs246 ?_
                    refine z_q rfl rfl (ex_pure htab rfl) rfl rfl rfl rfl rfl rfl ?_
                    refine z_q rfl rfl (ex_pure htab rfl) rfl rfl rfl rfl rfl rfl ?_
                    refine z_known (j := 58) (b' := false) rfl hs247 ?_
                    refine z_skip rfl rfl rfl rfl ?_
                    refine z_skip rfl rfl rfl rfl ?_
                    refine z_skip rfl rfl rfl rfl ?_
                    refine z_skip rfl rfl rfl rfl ?_
                    refine z_skip rfl rfl rfl rfl ?_
                    refine z_skip rfl rfl rfl rfl ?_
                    refine z_skip rfl rfl rfl rfl ?_
                    refine z_skip rfl rfl rfl rfl ?_
                    refine z_skip rfl rfl rfl rfl ?_
                    refine z_skip rfl rfl rfl rfl ?_
                    refine z_skip rfl rfl rfl rfl ?_
                    refine z_q rfl rfl (x_pickF rfl rfl rfl) rfl rfl rfl rfl rfl rfl ?_
                    refine z_q rfl rfl (x_pickF rfl rfl rfl) rfl rfl rfl rfl rfl rfl ?_
                    refine z_q rfl rfl (ex_pure htab rfl) rfl rfl rfl rfl rfl rfl ?_
                    refine z_e rfl rfl (ex_pure htab rfl) rfl rfl rfl rfl rfl rfl ?_
                    refine z_q rfl rfl (ex_pure htab rfl) rfl rfl rfl rfl rfl rfl ?_
                    refine z_e rfl rfl (Ex.wk (x_elem htab rfl rfl rfl rfl rfl rfl rfl (idx_nonneg q254) (idx_map q254)) (Wk.of_eq (congrArg D.el (eTApiExpr_eq x254)))) rfl rfl rfl rfl rfl rfl ?_
                    refine z_e rfl rfl (ex_pure htab rfl) rfl rfl rfl rfl rfl rfl ?_
                    refine z_eM rfl rfl (xm_loadEl htab rfl rfl rfl rfl rfl) rfl rfl rfl rfl rfl rfl ?_
                    refine z_e rfl rfl (ex_pure htab rfl) rfl rfl rfl rfl rfl rfl ?_
                    refine z_q rfl rfl (ex_pure htab rfl) rfl rfl rfl rfl rfl rfl ?_
                    refine z_e rfl rfl (Ex.wk (x_elem htab rfl rfl rfl rfl rfl rfl rfl (idx_nonneg q255) (idx_map q255)) (Wk.of_eq (congrArg D.el (eTApiExpr_eq x255)))) rfl rfl rfl rfl rfl rfl ?_
                    refine z_e rfl rfl (ex_pure htab rfl) rfl rfl rfl rfl rfl rfl ?_
                    refine z_eM rfl rfl (xm_loadEl htab rfl rfl rfl rfl rfl) rfl rfl rfl rfl rfl rfl ?_
                    refine z_q rfl rfl (ex_pure htab rfl) rfl rfl rfl rfl rfl rfl ?_
                    refine z_nil rfl rfl (fun e he => by simp [isAl] at he) ?_
                    obtain ⟨x256, q256, hm⟩ := yes_bind hm
                    refine p_call0 (hg0 x254.gKids x255.gKids a2 x256 q256) rfl rfl rfl rfl rfl (WkL.refl _) ?_
                    rintro _ rfl
                    refine p_pure htab rfl rfl rfl rfl ?_
                    refine p_pickF rfl rfl rfl rfl rfl rfl ?_
                    refine ops_nil ?_
                    have e237 := yes_eq hm; subst e237
                    refine ⟨rfl, ?_⟩
                    exact WkX.of () (WkS.perm (WkS.cons rfl (Wk.refl _) (WkS.cons rfl (Wk.refl _) (WkS.cons rfl (Wk.refl _) (WkS.cons rfl (Wk.refl _) (WkS.cons rfl (Wk.refl _) (WkS.nil)))))) (List.Perm.refl _) (List.Perm.refl _))
          · intro s237 hw237; clear hm; have hm := ho237; clear q237 ho237
            refine then_normal ?_
            refine wpD_wkX hw237 (fun z237 => ?_)
            refine wpD_cond rfl (fun hc257 => ?_) (fun hc257 => ?_)
            · replace hm := yes_t hc257 hm
              refine wpD_seq ?_
              refine wpD_region ?_
              refine p_pure htab rfl rfl rfl rfl ?_
              refine ops_nil ?_
              refine then_normal ?_
              refine wpD_ret ?_
              refine block_ret ?_
              refine then_ret ?_
              have e132 := lp_done hm; subst e132; clear hm; have hm := hq132
              refine then_ret ?_
              refine block_ret ?_
              have e131 := yes_eq hm; subst e131; refine midX_inr ?_; clear hm; have hm := ho131; simp only [Sum.elim_inr] at hm
              refine then_ret ?_
              have er258 := yes_eq hm; subst er258
              refine retX.of (s' := ⟨[(6, .v (.bool false))], [], []⟩) (WkS.perm (WkS.cons rfl (Wk.refl _) (WkS.nil)) (List.Perm.refl _) (List.Perm.refl _)) (retD_mk (hh := []) (.inl rfl) (resL_cons (resOne_tmp rfl) (resL_nil)) (List.nil_sublist _) (List.Sublist.refl _) ?_)
              exact ⟨rfl, rfl, rfl⟩
            · replace hm := yes_f hc257 hm
              refine wpD_skip ?_
              refine block_normal ?_
              refine then_normal ?_
              refine wpD_region ?_
              refine p_pure htab rfl rfl rfl rfl ?_
              refine p_pure htab rfl rfl rfl rfl ?_
              refine p_pure htab rfl rfl rfl rfl ?_
              refine ops_nil ?_
              refine then_normal ⟨_, lp_next hm, ?_⟩
              exact WkX.of () (WkS.perm (WkS.cons rfl (Wk.refl _) (WkS.cons rfl (Wk.refl _) (WkS.cons rfl (Wk.refl _) (WkS.cons rfl (Wk.refl _) (WkS.nil))))) (List.Perm.refl _) (List.Perm.refl _))
        · replace hm := yes_f hc217 hm
          refine wpD_exit ?_
          refine then_exit ?_
          have e132 := lp_done hm; subst e132; clear hm; have hm := hq132
          refine then_exit ?_
          refine block_hit ?_
          have e131 := yes_eq hm; subst e131
          refine midX_inl ?_
          exact WkX.of () (WkS.perm (WkS.nil) (List.Perm.refl _) (List.Perm.refl _))
    · intro y131 s131 hx131 hw131; subst hx131; clear hm; have hm := ho131; simp only [Sum.elim_inl] at hm; clear q131 ho131
      refine then_normal ?_
      refine wpD_wkX hw131 (fun z131 => ?_)
      refine wpD_seq ?_
      refine wpD_region ?_
      refine p_pure htab rfl rfl rfl rfl ?_
      refine ops_nil ?_
      refine then_normal ?_
      refine wpD_ret ?_
      have er259 := yes_eq hm; subst er259
      refine retX.of (s' := ⟨[(6, .v (.bool true))], [], []⟩) (WkS.perm (WkS.cons rfl (Wk.refl _) (WkS.nil)) (List.Perm.refl _) (List.Perm.refl _)) (retD_mk (hh := []) (.inl rfl) (resL_cons (resOne_tmp rfl) (resL_nil)) (List.nil_sublist _) (List.Sublist.refl _) ?_)
      exact ⟨rfl, rfl, rfl⟩
noncomputable def r11_Exps_g : Nat → ((List TApiExpr) → (List TApiExpr) → (Bool) → Option (Bool))
  | 0 => (fun _ _ _ => none)
  | n + 1 => (r11_Exps_b ((r11_Exps_g n)))
theorem r11_Exps_g_ok : ∀ n, (∀ (a0 : List TApiExpr) (a1 : List TApiExpr) (a2 : Bool) (r : Bool) (h0 : (r11_Exps_g n) a0 a1 a2 = some r), CallsD Try.prog 69 [.lst 5 (a0.map eTApiExpr) .no, .lst 5 (a1.map eTApiExpr) .no, .v (.bool a2)] [] [] (fun d h k => d = .v (.bool r) ∧ h = [] ∧ k = []))
  | 0 => fun _ _ _ _ h0 => by cases h0
  | n + 1 => by
    have ih := r11_Exps_g_ok n
    exact r11_Exps_b_ok (r11_Exps_g n) ih
theorem r11_Exps_g_le : ∀ n, (∀ (a0 : List TApiExpr) (a1 : List TApiExpr) (a2 : Bool), Le ((r11_Exps_g n) a0 a1 a2) ((r11_Exps_g (n + 1)) a0 a1 a2))
  | 0 => fun _ _ _ => Le.none _
  | n + 1 => by
    have ih := r11_Exps_g_le n
    exact fun a0 a1 a2 => by show Le (r11_Exps_b ((r11_Exps_g n)) a0 a1 a2) (r11_Exps_b ((r11_Exps_g (n + 1))) a0 a1 a2); unfold r11_Exps_b; repeat (first | exact Le.refl _ | exact ih _ _ _ | assumption | (refine Le.bind ?_ (fun _ => ?_)) | (refine Le.cond ?_ ?_) | (refine Le.loop (fun _ => ?_)) | (refine Le.elim (fun _ => ?_) (fun _ => ?_)))
noncomputable def r11_Exps (a0 : List TApiExpr) (a1 : List TApiExpr) (a2 : Bool) : Option (Bool) := anyN fun n => (r11_Exps_g n) a0 a1 a2
theorem r11_Exps_of (a0 : List TApiExpr) (a1 : List TApiExpr) (a2 : Bool) {r : Bool} (n : Nat) (h : (r11_Exps_g n) a0 a1 a2 = some r) : r11_Exps a0 a1 a2 = some r := anyN_of (fun m => (r11_Exps_g_le m) a0 a1 a2) h
theorem r11_Exps_ok (a0 : List TApiExpr) (a1 : List TApiExpr) (a2 : Bool) (r : Bool) (h0 : r11_Exps a0 a1 a2 = some r) : CallsD Try.prog 69 [.lst 5 (a0.map eTApiExpr) .no, .lst 5 (a1.map eTApiExpr) .no, .v (.bool a2)] [] [] (fun d h k => d = .v (.bool r) ∧ h = [] ∧ k = []) :=
  let ⟨n, hn⟩ := anyN_inv h0; (r11_Exps_g_ok n) a0 a1 a2  r hn
end Go.Proofs.Ytpeimfcmhedjmaa.Ab
