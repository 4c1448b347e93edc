/- Layer 17: what the functions compute. -/
import Derived.Test.YtpapooaaccmnpaaFl3b
namespace Go.Proofs.Ytpapooaaccmnpaa.Ab
open Go
set_option linter.all false
noncomputable def l17_FlowShapes (a0 : TApiFunc) : Option (Bool) :=
  ((flow_Graph a0).bind fun x3 => ((r11_Stmts a0.gBody).bind fun x6 => (Option.bind (α := Bool) (bif (decide (x3.gNodes < (2 : Int))) then some true else (bif (decide ((IntKind.i64.wrap ((2 : Int) + (IntKind.i64.wrap ((3 : Int) * (x6.length : Int))))) < x3.gNodes)) then some true else ((flow_Places a0).bind fun x15 => some (decide ((x6.length : Int) < (x15.length : Int)))))) fun y11 => (bif y11 then some false else ((need (mkOK 8 x3.gNodes x3.gNodes)).bind fun x19 => (Option.bind (α := (List Int) ⊕ (Bool)) (loopM (fun (s89 : Int × List Int) => (bif (decide (s89.1 < (x3.gEdges.length : Int))) then ((idx x3.gEdges s89.1).bind fun x135 => (Option.bind (α := Bool) (bif (decide (x135.gFrom < (0 : Int))) then some true else (bif (decide (x3.gNodes ≤ x135.gFrom)) then some true else (bif (decide (x135.gTo < (1 : Int))) then some true else (bif (decide (x3.gNodes ≤ x135.gTo)) then some true else some (x135.gFrom == (1 : Int)))))) fun y141 => (bif y141 then some (.done (.inr false)) else (bif (x135.gKind == (6 : Int)) then ((idx s89.2 x135.gFrom).bind fun x149 => ((idx s89.2 x135.gFrom).bind fun x150 => some (.next ((IntKind.i64.wrap (s89.1 + (1 : Int))), (s89.2.set x135.gFrom.toNat (IntKind.i64.wrap (x149 + (2 : Int)))))))) else (bif (x135.gKind == (7 : Int)) then ((idx s89.2 x135.gFrom).bind fun x152 => ((idx s89.2 x135.gFrom).bind fun x153 => some (.next ((IntKind.i64.wrap (s89.1 + (1 : Int))), (s89.2.set x135.gFrom.toNat (IntKind.i64.wrap (x152 + (3 : Int)))))))) else ((idx s89.2 x135.gFrom).bind fun x154 => ((idx s89.2 x135.gFrom).bind fun x155 => some (.next ((IntKind.i64.wrap (s89.1 + (1 : Int))), (s89.2.set x135.gFrom.toNat (IntKind.i64.wrap (x154 + (5 : Int))))))))))))) else some (.done (.inl s89.2)))) ((0 : Int), (List.replicate x3.gNodes.toNat (0 : Int)))) (Sum.elim (fun y88 => (Option.bind (α := (Unit) ⊕ (Bool)) (loopM (fun (s212 : Int) => (bif (decide (s212 < (y88.length : Int))) then (Option.bind (α := Bool) (bif (s212 == (1 : Int)) then ((idx y88 s212).bind fun x259 => (bif (x259 != (0 : Int)) then some true else (bif (s212 != (1 : Int)) then ((idx y88 s212).bind fun x262 => some (x262 != (5 : Int))) else some false))) else (bif (s212 != (1 : Int)) then ((idx y88 s212).bind fun x264 => some (x264 != (5 : Int))) else some false)) fun y257 => (bif y257 then some (.done (.inr false)) else some (.next (IntKind.i64.wrap (s212 + (1 : Int)))))) else some (.done (.inl ())))) (0 : Int)) (Sum.elim (fun y211 => (l17_lives.bind fun x267 => some x267)) (fun r => some r)))) (fun r => some r))))))))
set_option maxRecDepth 100000 in
set_option maxHeartbeats 2000000 in
theorem l17_FlowShapes_ok (a0 : TApiFunc) (r : Bool) (h0 : l17_FlowShapes a0 = some r) : CallsD Try.prog 4 [eTApiFunc a0] [] [] (fun d h k => d = .v (.bool r) ∧ h = [] ∧ k = []) := by
  have hm := yes_of h0
  unfold l17_FlowShapes at hm
  clear h0
  refine enterX htab Try.func4 rfl rfl rfl rfl rfl (fun C => ?_)
  refine wpD_seq ?_
  refine wpD_region ?_
  refine p_box rfl rfl rfl rfl rfl rfl rfl (fun b1 => ?_)
  refine p_pure htab rfl rfl rfl rfl ?_
  refine ops_nil ?_
  refine then_normal ?_
  refine wpD_seq ?_
  refine wpD_region ?_
  refine p_load (d := eTApiFunc a0) 0 htab rfl rfl rfl rfl rfl rfl rfl rfl ?_
  obtain ⟨x3, q3, hm⟩ := yes_bind hm
  refine p_callG (flow_Graph_ok a0 x3 q3) rfl rfl rfl rfl rfl (WkL.refl _) (List.Perm.refl _) (List.Perm.refl _) ?_
  rintro _ _ _ ⟨w2, rfl, rfl, rfl⟩
  refine p_alloc htab rfl rfl rfl rfl rfl rfl rfl (fun b4 => ?_)
  refine p_store (ds' := [.v (.string x3.gFunc), .v (.int .i64 x3.gNodes), .lst 6 (x3.gEdges.map eTApiEdge) (.cur w2), .lst 2 (x3.gVars.map eTApiVar) .no, .v (.int .i64 x3.gMany)]) (h' := [(b1, Blk.cells [.v (.string a0.gName), .lst 2 (a0.gParams.map eTApiVar) .no, .lst 2 (a0.gLocals.map eTApiVar) .no, .lst 7 (a0.gBody.map eTApiStmt) .no, .v (.int .i64 a0.gAt)] 25), (b4, Blk.cells [.v (.string x3.gFunc), .v (.int .i64 x3.gNodes), .lst 6 (x3.gEdges.map eTApiEdge) (.cur w2), .lst 2 (x3.gVars.map eTApiVar) .no, .v (.int .i64 x3.gMany)] 28)]) 1 htab rfl rfl rfl rfl rfl rfl rfl rfl rfl rfl rfl rfl ?_
  refine ops_nil ?_
  refine then_normal ?_
  refine wpD_seq ?_
  refine wpD_region ?_
  refine p_pure htab rfl rfl rfl rfl ?_
  refine p_load 0 htab rfl rfl rfl rfl rfl rfl rfl rfl ?_
  obtain ⟨x6, q6, hm⟩ := yes_bind hm
  refine p_callG (r11_Stmts_ok a0.gBody x6 q6) rfl rfl rfl rfl rfl (WkL.refl _) (List.Perm.refl _) (List.Perm.refl _) ?_
  rintro _ _ _ ⟨w5, rfl, rfl, rfl⟩
  refine p_lenL htab rfl rfl rfl rfl rfl rfl rfl (by first | exact map_len | rfl) ?_
  refine p_pure htab rfl rfl rfl rfl ?_
  refine ops_nil ?_
  refine then_normal ?_
  refine wpD_seq ?_
  refine wpD_seq ?_
  obtain ⟨y11, q11, ho11⟩ := yes_bind hm
  refine wpD_mid (Y := Unit) (fun z11 => (⟨[(3, .ptr b4 0), (32, .v (.bool y11))], [(b1, Blk.cells [.v (.string a0.gName), .lst 2 (a0.gParams.map eTApiVar) .no, .lst 2 (a0.gLocals.map eTApiVar) .no, .lst 7 (a0.gBody.map eTApiStmt) .no, .v (.int .i64 a0.gAt)] 25), (b4, Blk.cells [.v (.string x3.gFunc), .v (.int .i64 x3.gNodes), .lst 6 (x3.gEdges.map eTApiEdge) (.cur w2), .lst 2 (x3.gVars.map eTApiVar) .no, .v (.int .i64 x3.gMany)] 28)], [(6, w2)]⟩ : S)) ?_ ?_
  · clear hm; have hm := yes_of q11
    refine wpD_region ?_
    refine p_pure htab rfl rfl rfl rfl ?_
    refine p_load 1 htab rfl rfl rfl rfl rfl rfl rfl rfl ?_
    refine p_pure htab rfl rfl rfl rfl ?_
    refine p_pure htab rfl rfl rfl rfl ?_
    refine p_split (i := 18) rfl (fun hg12 => ?_) (fun hg12 => ?_)
    · replace hm := yes_t hg12 hm
      refine p_skip rfl rfl rfl ?_
      refine p_skip rfl rfl rfl ?_
      refine p_skip rfl rfl rfl ?_
      refine p_skip rfl rfl rfl ?_
      refine p_skip rfl rfl rfl ?_
      refine p_skip rfl rfl rfl ?_
      refine p_pickT rfl rfl rfl rfl rfl rfl ?_
      refine p_pure htab rfl rfl rfl rfl ?_
      refine p_skip rfl rfl rfl ?_
      refine p_skip rfl rfl rfl ?_
      refine p_skip rfl rfl rfl ?_
      refine p_skip rfl rfl rfl ?_
      refine p_skip rfl rfl rfl ?_
      refine p_pickT rfl rfl rfl rfl rfl rfl ?_
      refine ops_nil ?_
      have e11 := yes_eq hm; subst e11
      refine ⟨rfl, ?_⟩
      exact WkX.of () (WkS.perm (WkS.cons rfl (Wk.refl _) (WkS.cons rfl (Wk.refl _) (WkS.nil))) (List.Perm.refl _) ((perm_at (j := 1) rfl).trans (List.Perm.cons _ (List.Perm.refl _))))
    · replace hm := yes_f hg12 hm
      refine p_pure htab rfl rfl rfl rfl ?_
      refine p_load 1 htab rfl rfl rfl rfl rfl rfl rfl rfl ?_
      refine p_pure htab rfl rfl rfl rfl ?_
      refine p_pure htab rfl rfl rfl rfl ?_
      refine p_pure htab rfl rfl rfl rfl ?_
      refine p_pure htab rfl rfl rfl rfl ?_
      refine p_pickF rfl rfl rfl rfl rfl rfl ?_
      refine p_pure htab rfl rfl rfl rfl ?_
      refine p_split (i := 26) rfl (fun hg13 => ?_) (fun hg13 => ?_)
      · replace hm := yes_t hg13 hm
        refine p_skip rfl rfl rfl ?_
        refine p_skip rfl rfl rfl ?_
        refine p_skip rfl rfl rfl ?_
        refine p_skip rfl rfl rfl ?_
        refine p_skip rfl rfl rfl ?_
        refine p_pickT rfl rfl rfl rfl rfl rfl ?_
        refine ops_nil ?_
        have e11 := yes_eq hm; subst e11
        refine ⟨rfl, ?_⟩
        exact WkX.of () (WkS.perm (WkS.cons rfl (Wk.refl _) (WkS.cons rfl (Wk.refl _) (WkS.nil))) (List.Perm.refl _) ((perm_at (j := 1) rfl).trans (List.Perm.cons _ (List.Perm.refl _))))
      · replace hm := yes_f hg13 hm
        refine p_load (d := eTApiFunc a0) 0 htab rfl rfl rfl rfl rfl rfl rfl rfl ?_
        obtain ⟨x15, q15, hm⟩ := yes_bind hm
        refine p_callG (flow_Places_ok a0 x15 q15) rfl rfl rfl rfl rfl (WkL.refl _) (List.Perm.refl _) (List.Perm.refl _) ?_
        rintro _ _ _ ⟨w14, rfl, rfl, rfl⟩
        refine p_lenL htab rfl rfl rfl rfl rfl rfl rfl (by first | exact map_len | rfl) ?_
        refine p_pure htab rfl rfl rfl rfl ?_
        refine p_pure htab rfl rfl rfl rfl ?_
        refine p_pickF rfl rfl rfl rfl rfl rfl ?_
        refine ops_nil ?_
        have e11 := yes_eq hm; subst e11
        refine ⟨rfl, ?_⟩
        exact WkX.of () (WkS.perm (WkS.cons rfl (Wk.refl _) (WkS.cons rfl (Wk.refl _) (WkS.nil))) (List.Perm.refl _) ((perm_at (j := 2) rfl).trans (List.Perm.cons _ (List.Perm.refl _))))
  · intro s11 hw11; clear hm; have hm := ho11; clear q11 ho11
    refine then_normal ?_
    refine wpD_wkX hw11 (fun z11 => ?_)
    refine wpD_cond rfl (fun hc17 => ?_) (fun hc17 => ?_)
    · replace hm := yes_t hc17 hm
      refine wpD_seq ?_
      refine wpD_region ?_
      refine p_pure htab rfl rfl rfl rfl ?_
      refine ops_nil ?_
      refine then_normal ?_
      refine wpD_ret ?_
      refine then_ret ?_
      have er18 := yes_eq hm; subst er18
      refine retX.of (s' := ⟨[(2, .v (.bool false))], [], []⟩) (WkS.perm (WkS.cons rfl (Wk.refl _) (WkS.nil)) (List.Perm.refl _) (List.Perm.refl _)) (retD_mk (hh := []) (.inl rfl) (resL_cons (resOne_tmp rfl) (resL_nil)) (List.nil_sublist _) (List.Sublist.refl _) ?_)
      exact ⟨rfl, rfl, rfl⟩
    · replace hm := yes_f hc17 hm
      refine wpD_skip ?_
      refine then_normal ?_
      refine wpD_seq ?_
      refine wpD_region ?_
      refine p_pure htab rfl rfl rfl rfl ?_
      refine p_load 1 htab rfl rfl rfl rfl rfl rfl rfl rfl ?_
      obtain ⟨x19, q19, hm⟩ := yes_bind hm
      refine p_makeR2 (x0 := eI64 (0 : Int)) htab rfl rfl rfl rfl rfl rfl rfl rfl rfl rfl rfl rfl rfl rfl rfl (need_ok q19) (fun H => by simp [RepC, Reps, eI64]) (List.map_replicate (f := eI64)).symm (fun v19 => ?_)
      refine p_pure htab rfl rfl rfl rfl ?_
      refine ops_nil ?_
      refine then_normal ?_
      refine wpD_seq ?_
      refine wpD_seq ?_
      refine wpD_region ?_
      refine p_pure htab rfl rfl rfl rfl ?_
      refine ops_nil ?_
      refine then_normal ?_
      obtain ⟨x88, q88, ho88⟩ := yes_bind hm
      refine wpD_midX (τ := List Int) (Y := Unit) (fun y88 z88 => (⟨[(5, .v (SL v19))], [(0, Blk.row 1 (y88.map eI64) (SL v19)), (b1, Blk.cells [.v (.string a0.gName), .lst 2 (a0.gParams.map eTApiVar) .no, .lst 2 (a0.gLocals.map eTApiVar) .no, .lst 7 (a0.gBody.map eTApiStmt) .no, .v (.int .i64 a0.gAt)] 25), (b4, Blk.cells [.v (.string x3.gFunc), .v (.int .i64 x3.gNodes), .lst 6 (x3.gEdges.map eTApiEdge) (.cur w2), .lst 2 (x3.gVars.map eTApiVar) .no, .v (.int .i64 x3.gMany)] 28)], [(6, w2)]⟩ : S)) x88 ?_ ?_
      · clear hm; have hm := yes_of q88
        refine wpD_block ?_
        obtain ⟨u89, hl89, hq89⟩ := yes_m hm
        refine loop_M (Y := Unit) hl89 (fun s89 z89 => (⟨[(3, .ptr b4 0), (5, .v (SL v19)), (6, .v (.int .i64 s89.1))], [(0, Blk.row 1 (s89.2.map eI64) (SL v19)), (b1, Blk.cells [.v (.string a0.gName), .lst 2 (a0.gParams.map eTApiVar) .no, .lst 2 (a0.gLocals.map eTApiVar) .no, .lst 7 (a0.gBody.map eTApiStmt) .no, .v (.int .i64 a0.gAt)] 25), (b4, Blk.cells [.v (.string x3.gFunc), .v (.int .i64 x3.gNodes), .lst 6 (x3.gEdges.map eTApiEdge) (.cur w2), .lst 2 (x3.gVars.map eTApiVar) .no, .v (.int .i64 x3.gMany)] 28)], [(6, w2)]⟩ : S)) ?_ ?_
        · skip
          exact WkX.of () (WkS.perm (WkS.cons rfl (Wk.refl _) (WkS.cons rfl (Wk.refl _) (WkS.cons rfl (Wk.refl _) (WkS.nil)))) (List.Perm.refl _) (List.Perm.refl _))
        · intro G89 s89 z89 hm
          refine wpD_seq ?_
          refine wpD_seq ?_
          refine wpD_region ?_
          refine p_pure htab rfl rfl rfl rfl ?_
          refine p_pure htab rfl rfl rfl rfl ?_
          refine p_load 2 htab rfl rfl rfl rfl rfl rfl rfl rfl ?_
          refine p_lenL htab rfl rfl rfl rfl rfl rfl rfl (by first | exact map_len | rfl) ?_
          refine p_pure htab rfl rfl rfl rfl ?_
          refine ops_nil ?_
          refine then_normal ?_
          refine wpD_cond rfl (fun hc134 => ?_) (fun hc134 => ?_)
          · replace hm := yes_t hc134 hm
            refine wpD_skip ?_
            refine then_normal ?_
            refine wpD_seq ?_
            refine wpD_block ?_
            refine wpD_seq ?_
            refine wpD_region ?_
            refine p_pure htab rfl rfl rfl rfl ?_
            refine p_load 2 htab rfl rfl rfl rfl rfl rfl rfl rfl ?_
            refine p_pure htab rfl rfl rfl rfl ?_
            obtain ⟨x135, q135, hm⟩ := yes_bind hm
            refine p_elem htab rfl rfl rfl rfl rfl rfl rfl rfl rfl rfl (idx_nonneg q135) (idx_map q135) ?_
            refine p_loadEl (d := eTApiEdge x135) htab rfl rfl rfl rfl rfl rfl rfl rfl ?_
            refine p_alloc htab rfl rfl rfl rfl rfl rfl rfl (fun b136 => ?_)
            refine p_store (ds' := [.v (.int .i64 x135.gFrom), .v (.int .i64 x135.gTo), .v (.int .i64 x135.gKind), .v (.string x135.gName), .v (.string x135.gFunc), .lst 5 (x135.gExps.map eTApiExpr) .no]) (h' := [(0, Blk.row 1 (s89.2.map eI64) (SL v19)), (b1, Blk.cells [.v (.string a0.gName), .lst 2 (a0.gParams.map eTApiVar) .no, .lst 2 (a0.gLocals.map eTApiVar) .no, .lst 7 (a0.gBody.map eTApiStmt) .no, .v (.int .i64 a0.gAt)] 25), (b4, Blk.cells [.v (.string x3.gFunc), .v (.int .i64 x3.gNodes), .lst 6 (x3.gEdges.map eTApiEdge) (.cur w2), .lst 2 (x3.gVars.map eTApiVar) .no, .v (.int .i64 x3.gMany)] 28), (b136, Blk.cells [.v (.int .i64 x135.gFrom), .v (.int .i64 x135.gTo), .v (.int .i64 x135.gKind), .v (.string x135.gName), .v (.string x135.gFunc), .lst 5 (x135.gExps.map eTApiExpr) .no] 41)]) 3 htab rfl rfl rfl rfl rfl rfl rfl rfl rfl rfl rfl rfl ?_
            refine ops_nil ?_
            refine then_normal ?_
            refine wpD_seq ?_
            refine wpD_seq ?_
            obtain ⟨y141, q141, ho141⟩ := yes_bind hm
            refine wpD_mid (Y := Unit) (fun z141 => (⟨[(3, .ptr b4 0), (5, .v (SL v19)), (6, .v (.int .i64 s89.1)), (7, .ptr b136 0), (74, .v (.bool y141))], [(0, Blk.row 1 (s89.2.map eI64) (SL v19)), (b1, Blk.cells [.v (.string a0.gName), .lst 2 (a0.gParams.map eTApiVar) .no, .lst 2 (a0.gLocals.map eTApiVar) .no, .lst 7 (a0.gBody.map eTApiStmt) .no, .v (.int .i64 a0.gAt)] 25), (b4, Blk.cells [.v (.string x3.gFunc), .v (.int .i64 x3.gNodes), .lst 6 (x3.gEdges.map eTApiEdge) (.cur w2), .lst 2 (x3.gVars.map eTApiVar) .no, .v (.int .i64 x3.gMany)] 28), (b136, Blk.cells [.v (.int .i64 x135.gFrom), .v (.int .i64 x135.gTo), .v (.int .i64 x135.gKind), .v (.string x135.gName), .v (.string x135.gFunc), .lst 5 (x135.gExps.map eTApiExpr) .no] 41)], [(6, w2)]⟩ : S)) ?_ ?_
            · clear hm; have hm := yes_of q141
              refine wpD_region ?_
              refine p_pure htab rfl rfl rfl rfl ?_
              refine p_load 3 htab rfl rfl rfl rfl rfl rfl rfl rfl ?_
              refine p_pure htab rfl rfl rfl rfl ?_
              refine p_pure htab rfl rfl rfl rfl ?_
              refine p_split (i := 51) rfl (fun hg142 => ?_) (fun hg142 => ?_)
              · replace hm := yes_t hg142 hm
                refine p_skip rfl rfl rfl ?_
                refine p_skip rfl rfl rfl ?_
                refine p_skip rfl rfl rfl ?_
                refine p_skip rfl rfl rfl ?_
                refine p_skip rfl rfl rfl ?_
                refine p_pickT rfl rfl rfl rfl rfl rfl ?_
                refine p_pure htab rfl rfl rfl rfl ?_
                refine p_skip rfl rfl rfl ?_
                refine p_skip rfl rfl rfl ?_
                refine p_skip rfl rfl rfl ?_
                refine p_pickT rfl rfl rfl rfl rfl rfl ?_
                refine p_pure htab rfl rfl rfl rfl ?_
                refine p_skip rfl rfl rfl ?_
                refine p_skip rfl rfl rfl ?_
                refine p_skip rfl rfl rfl ?_
                refine p_skip rfl rfl rfl ?_
                refine p_skip rfl rfl rfl ?_
                refine p_pickT rfl rfl rfl rfl rfl rfl ?_
                refine p_pure htab rfl rfl rfl rfl ?_
                refine p_skip rfl rfl rfl ?_
                refine p_skip rfl rfl rfl ?_
                refine p_skip rfl rfl rfl ?_
                refine p_pickT rfl rfl rfl rfl rfl rfl ?_
                refine ops_nil ?_
                have e141 := yes_eq hm; subst e141
                refine ⟨rfl, ?_⟩
                exact WkX.of () (WkS.perm (WkS.cons rfl (Wk.refl _) (WkS.cons rfl (Wk.refl _) (WkS.cons rfl (Wk.refl _) (WkS.cons rfl (Wk.refl _) (WkS.cons rfl (Wk.refl _) (WkS.nil)))))) (List.Perm.refl _) (List.Perm.refl _))
              · replace hm := yes_f hg142 hm
                refine p_pure htab rfl rfl rfl rfl ?_
                refine p_load 3 htab rfl rfl rfl rfl rfl rfl rfl rfl ?_
                refine p_pure htab rfl rfl rfl rfl ?_
                refine p_load 2 htab rfl rfl rfl rfl rfl rfl rfl rfl ?_
                refine p_pure htab rfl rfl rfl rfl ?_
                refine p_pickF rfl rfl rfl rfl rfl rfl ?_
                refine p_pure htab rfl rfl rfl rfl ?_
                refine p_split (i := 58) rfl (fun hg143 => ?_) (fun hg143 => ?_)
                · replace hm := yes_t hg143 hm
                  refine p_skip rfl rfl rfl ?_
                  refine p_skip rfl rfl rfl ?_
                  refine p_skip rfl rfl rfl ?_
                  refine p_pickT rfl rfl rfl rfl rfl rfl ?_
                  refine p_pure htab rfl rfl rfl rfl ?_
                  refine p_skip rfl rfl rfl ?_
                  refine p_skip rfl rfl rfl ?_
                  refine p_skip rfl rfl rfl ?_
                  refine p_skip rfl rfl rfl ?_
                  refine p_skip rfl rfl rfl ?_
                  refine p_pickT rfl rfl rfl rfl rfl rfl ?_
                  refine p_pure htab rfl rfl rfl rfl ?_
                  refine p_skip rfl rfl rfl ?_
                  refine p_skip rfl rfl rfl ?_
                  refine p_skip rfl rfl rfl ?_
                  refine p_pickT rfl rfl rfl rfl rfl rfl ?_
                  refine ops_nil ?_
                  have e141 := yes_eq hm; subst e141
                  refine ⟨rfl, ?_⟩
                  exact WkX.of () (WkS.perm (WkS.cons rfl (Wk.refl _) (WkS.cons rfl (Wk.refl _) (WkS.cons rfl (Wk.refl _) (WkS.cons rfl (Wk.refl _) (WkS.cons rfl (Wk.refl _) (WkS.nil)))))) (List.Perm.refl _) (List.Perm.refl _))
                · replace hm := yes_f hg143 hm
                  refine p_pure htab rfl rfl rfl rfl ?_
                  refine p_load 3 htab rfl rfl rfl rfl rfl rfl rfl rfl ?_
                  refine p_pure htab rfl rfl rfl rfl ?_
                  refine p_pickF rfl rfl rfl rfl rfl rfl ?_
                  refine p_pure htab rfl rfl rfl rfl ?_
                  refine p_split (i := 63) rfl (fun hg144 => ?_) (fun hg144 => ?_)
                  · replace hm := yes_t hg144 hm
                    refine p_skip rfl rfl rfl ?_
                    refine p_skip rfl rfl rfl ?_
                    refine p_skip rfl rfl rfl ?_
                    refine p_skip rfl rfl rfl ?_
                    refine p_skip rfl rfl rfl ?_
                    refine p_pickT rfl rfl rfl rfl rfl rfl ?_
                    refine p_pure htab rfl rfl rfl rfl ?_
                    refine p_skip rfl rfl rfl ?_
                    refine p_skip rfl rfl rfl ?_
                    refine p_skip rfl rfl rfl ?_
                    refine p_pickT rfl rfl rfl rfl rfl rfl ?_
                    refine ops_nil ?_
                    have e141 := yes_eq hm; subst e141
                    refine ⟨rfl, ?_⟩
                    exact WkX.of () (WkS.perm (WkS.cons rfl (Wk.refl _) (WkS.cons rfl (Wk.refl _) (WkS.cons rfl (Wk.refl _) (WkS.cons rfl (Wk.refl _) (WkS.cons rfl (Wk.refl _) (WkS.nil)))))) (List.Perm.refl _) (List.Perm.refl _))
                  · replace hm := yes_f hg144 hm
                    refine p_pure htab rfl rfl rfl rfl ?_
                    refine p_load 3 htab rfl rfl rfl rfl rfl rfl rfl rfl ?_
                    refine p_pure htab rfl rfl rfl rfl ?_
                    refine p_load 2 htab rfl rfl rfl rfl rfl rfl rfl rfl ?_
                    refine p_pure htab rfl rfl rfl rfl ?_
                    refine p_pickF rfl rfl rfl rfl rfl rfl ?_
                    refine p_pure htab rfl rfl rfl rfl ?_
                    refine p_split (i := 70) rfl (fun hg145 => ?_) (fun hg145 => ?_)
                    · replace hm := yes_t hg145 hm
                      refine p_skip rfl rfl rfl ?_
                      refine p_skip rfl rfl rfl ?_
                      refine p_skip rfl rfl rfl ?_
                      refine p_pickT rfl rfl rfl rfl rfl rfl ?_
                      refine ops_nil ?_
                      have e141 := yes_eq hm; subst e141
                      refine ⟨rfl, ?_⟩
                      exact WkX.of () (WkS.perm (WkS.cons rfl (Wk.refl _) (WkS.cons rfl (Wk.refl _) (WkS.cons rfl (Wk.refl _) (WkS.cons rfl (Wk.refl _) (WkS.cons rfl (Wk.refl _) (WkS.nil)))))) (List.Perm.refl _) (List.Perm.refl _))
                    · replace hm := yes_f hg145 hm
                      refine p_pure htab rfl rfl rfl rfl ?_
                      refine p_load 3 htab rfl rfl rfl rfl rfl rfl rfl rfl ?_
                      refine p_pure htab rfl rfl rfl rfl ?_
                      refine p_pickF rfl rfl rfl rfl rfl rfl ?_
                      refine ops_nil ?_
                      have e141 := yes_eq hm; subst e141
                      refine ⟨rfl, ?_⟩
                      exact WkX.of () (WkS.perm (WkS.cons rfl (Wk.refl _) (WkS.cons rfl (Wk.refl _) (WkS.cons rfl (Wk.refl _) (WkS.cons rfl (Wk.refl _) (WkS.cons rfl (Wk.refl _) (WkS.nil)))))) (List.Perm.refl _) (List.Perm.refl _))
            · intro s141 hw141; clear hm; have hm := ho141; clear q141 ho141
              refine then_normal ?_
              refine wpD_wkX hw141 (fun z141 => ?_)
              refine wpD_cond rfl (fun hc146 => ?_) (fun hc146 => ?_)
              · replace hm := yes_t hc146 hm
                refine wpD_seq ?_
                refine wpD_region ?_
                refine p_pure htab rfl rfl rfl rfl ?_
                refine ops_nil ?_
                refine then_normal ?_
                refine wpD_ret ?_
                refine then_ret ?_
                refine block_ret ?_
                refine then_ret ?_
                have e89 := lp_done hm; subst e89; clear hm; have hm := hq89
                refine then_ret ?_
                refine block_ret ?_
                have e88 := yes_eq hm; subst e88; refine midX_inr ?_; clear hm; have hm := ho88; simp only [Sum.elim_inr] at hm
                refine then_ret ?_
                have er147 := yes_eq hm; subst er147
                refine retX.of (s' := ⟨[(2, .v (.bool false))], [], []⟩) (WkS.perm (WkS.cons rfl (Wk.refl _) (WkS.nil)) (List.Perm.refl _) (List.Perm.refl _)) (retD_mk (hh := []) (.inl rfl) (resL_cons (resOne_tmp rfl) (resL_nil)) (List.nil_sublist _) (List.Sublist.refl _) ?_)
                exact ⟨rfl, rfl, rfl⟩
              · replace hm := yes_f hc146 hm
                refine wpD_skip ?_
                refine then_normal ?_
                refine wpD_seq ?_
                refine wpD_region ?_
                refine p_pure htab rfl rfl rfl rfl ?_
                refine p_load 3 htab rfl rfl rfl rfl rfl rfl rfl rfl ?_
                refine ops_nil ?_
                refine then_normal ?_
                refine wpD_block ?_
                refine wpD_seq ?_
                refine wpD_region ?_
                refine p_pure htab rfl rfl rfl rfl ?_
                refine p_pure htab rfl rfl rfl rfl ?_
                refine ops_nil ?_
                refine then_normal ?_
                refine wpD_cond rfl (fun hc148 => ?_) (fun hc148 => ?_)
                · replace hm := yes_t hc148 hm
                  refine wpD_region ?_
                  refine p_pure htab rfl rfl rfl rfl ?_
                  refine p_pure htab rfl rfl rfl rfl ?_
                  refine p_load 3 htab rfl rfl rfl rfl rfl rfl rfl rfl ?_
                  obtain ⟨x149, q149, hm⟩ := yes_bind hm
                  refine p_elemR 0 htab rfl rfl rfl rfl rfl rfl rfl rfl rfl rfl rfl (idx_nonneg q149) (idx_map q149) ?_
                  refine p_loadR (d := .v (.int .i64 x149)) (d0 := eI64 x149) 0 htab rfl rfl rfl rfl rfl rfl rfl (idx_map q149) rfl (by simp [dcells, eI64]) ?_
                  refine p_pure htab rfl rfl rfl rfl ?_
                  obtain ⟨x150, q150, hm⟩ := yes_bind hm
                  refine p_elemR 0 htab rfl rfl rfl rfl rfl rfl rfl rfl rfl rfl rfl (idx_nonneg q150) (idx_map q150) ?_
                  refine p_storeR (d := eI64 (IntKind.i64.wrap (x149 + (2 : Int)))) 0 htab rfl rfl rfl rfl rfl rfl rfl rfl rfl rfl (idx_mlt q150) (set_map (e := eI64)) ?_
                  refine ops_nil ?_
                  refine block_normal ?_
                  refine block_normal ?_
                  refine then_normal ?_
                  refine wpD_region ?_
                  refine p_pure htab rfl rfl rfl rfl ?_
                  refine p_pure htab rfl rfl rfl rfl ?_
                  refine p_pure htab rfl rfl rfl rfl ?_
                  refine ops_nil ?_
                  refine then_normal ⟨_, lp_next hm, ?_⟩
                  exact WkX.of () (WkS.perm (WkS.cons rfl (Wk.refl _) (WkS.cons rfl (Wk.refl _) (WkS.cons rfl (Wk.refl _) (WkS.nil)))) (List.Perm.refl _) (List.Perm.refl _))
                · replace hm := yes_f hc148 hm
                  refine wpD_seq ?_
                  refine wpD_region ?_
                  refine p_pure htab rfl rfl rfl rfl ?_
                  refine p_pure htab rfl rfl rfl rfl ?_
                  refine ops_nil ?_
                  refine then_normal ?_
                  refine wpD_cond rfl (fun hc151 => ?_) (fun hc151 => ?_)
                  · replace hm := yes_t hc151 hm
                    refine wpD_region ?_
                    refine p_pure htab rfl rfl rfl rfl ?_
                    refine p_pure htab rfl rfl rfl rfl ?_
                    refine p_load 3 htab rfl rfl rfl rfl rfl rfl rfl rfl ?_
                    obtain ⟨x152, q152, hm⟩ := yes_bind hm
                    refine p_elemR 0 htab rfl rfl rfl rfl rfl rfl rfl rfl rfl rfl rfl (idx_nonneg q152) (idx_map q152) ?_
                    refine p_loadR (d := .v (.int .i64 x152)) (d0 := eI64 x152) 0 htab rfl rfl rfl rfl rfl rfl rfl (idx_map q152) rfl (by simp [dcells, eI64]) ?_
                    refine p_pure htab rfl rfl rfl rfl ?_
                    obtain ⟨x153, q153, hm⟩ := yes_bind hm
                    refine p_elemR 0 htab rfl rfl rfl rfl rfl rfl rfl rfl rfl rfl rfl (idx_nonneg q153) (idx_map q153) ?_
                    refine p_storeR (d := eI64 (IntKind.i64.wrap (x152 + (3 : Int)))) 0 htab rfl rfl rfl rfl rfl rfl rfl rfl rfl rfl (idx_mlt q153) (set_map (e := eI64)) ?_
                    refine ops_nil ?_
                    refine block_normal ?_
                    refine block_normal ?_
                    refine then_normal ?_
                    refine wpD_region ?_
                    refine p_pure htab rfl rfl rfl rfl ?_
                    refine p_pure htab rfl rfl rfl rfl ?_
                    refine p_pure htab rfl rfl rfl rfl ?_
                    refine ops_nil ?_
                    refine then_normal ⟨_, lp_next hm, ?_⟩
                    exact WkX.of () (WkS.perm (WkS.cons rfl (Wk.refl _) (WkS.cons rfl (Wk.refl _) (WkS.cons rfl (Wk.refl _) (WkS.nil)))) (List.Perm.refl _) (List.Perm.refl _))
                  · replace hm := yes_f hc151 hm
                    refine wpD_region ?_
                    refine p_pure htab rfl rfl rfl rfl ?_
                    refine p_pure htab rfl rfl rfl rfl ?_
                    refine p_load 3 htab rfl rfl rfl rfl rfl rfl rfl rfl ?_
                    obtain ⟨x154, q154, hm⟩ := yes_bind hm
                    refine p_elemR 0 htab rfl rfl rfl rfl rfl rfl rfl rfl rfl rfl rfl (idx_nonneg q154) (idx_map q154) ?_
                    refine p_loadR (d := .v (.int .i64 x154)) (d0 := eI64 x154) 0 htab rfl rfl rfl rfl rfl rfl rfl (idx_map q154) rfl (by simp [dcells, eI64]) ?_
                    refine p_pure htab rfl rfl rfl rfl ?_
                    obtain ⟨x155, q155, hm⟩ := yes_bind hm
                    refine p_elemR 0 htab rfl rfl rfl rfl rfl rfl rfl rfl rfl rfl rfl (idx_nonneg q155) (idx_map q155) ?_
                    refine p_storeR (d := eI64 (IntKind.i64.wrap (x154 + (5 : Int)))) 0 htab rfl rfl rfl rfl rfl rfl rfl rfl rfl rfl (idx_mlt q155) (set_map (e := eI64)) ?_
                    refine ops_nil ?_
                    refine block_normal ?_
                    refine block_normal ?_
                    refine then_normal ?_
                    refine wpD_region ?_
                    refine p_pure htab rfl rfl rfl rfl ?_
                    refine p_pure htab rfl rfl rfl rfl ?_
                    refine p_pure htab rfl rfl rfl rfl ?_
                    refine ops_nil ?_
                    refine then_normal ⟨_, lp_next hm, ?_⟩
                    exact WkX.of () (WkS.perm (WkS.cons rfl (Wk.refl _) (WkS.cons rfl (Wk.refl _) (WkS.cons rfl (Wk.refl _) (WkS.nil)))) (List.Perm.refl _) (List.Perm.refl _))
          · replace hm := yes_f hc134 hm
            refine wpD_exit ?_
            refine then_exit ?_
            have e89 := lp_done hm; subst e89; clear hm; have hm := hq89
            refine then_exit ?_
            refine block_hit ?_
            have e88 := yes_eq hm; subst e88
            refine midX_inl ?_
            exact WkX.of () (WkS.perm (WkS.cons rfl (Wk.refl _) (WkS.nil)) (List.Perm.refl _) (List.Perm.refl _))
      · intro y88 s88 hx88 hw88; subst hx88; clear hm; have hm := ho88; simp only [Sum.elim_inl] at hm; clear q88 ho88
        refine then_normal ?_
        refine wpD_wkX hw88 (fun z88 => ?_)
        refine wpD_seq ?_
        refine wpD_seq ?_
        refine wpD_region ?_
        refine p_pure htab rfl rfl rfl rfl ?_
        refine ops_nil ?_
        refine then_normal ?_
        obtain ⟨x211, q211, ho211⟩ := yes_bind hm
        refine wpD_midX (τ := Unit) (Y := Unit) (fun y211 z211 => (⟨[], [(b1, Blk.cells [.v (.string a0.gName), .lst 2 (a0.gParams.map eTApiVar) .no, .lst 2 (a0.gLocals.map eTApiVar) .no, .lst 7 (a0.gBody.map eTApiStmt) .no, .v (.int .i64 a0.gAt)] 25), (b4, Blk.cells [.v (.string x3.gFunc), .v (.int .i64 x3.gNodes), .lst 6 (x3.gEdges.map eTApiEdge) (.cur w2), .lst 2 (x3.gVars.map eTApiVar) .no, .v (.int .i64 x3.gMany)] 28)], [(6, w2)]⟩ : S)) x211 ?_ ?_
        · clear hm; have hm := yes_of q211
          refine wpD_block ?_
          obtain ⟨u212, hl212, hq212⟩ := yes_m hm
          refine loop_M (Y := Unit) hl212 (fun s212 z212 => (⟨[(5, .v (SL v19)), (8, .v (.int .i64 s212))], [(0, Blk.row 1 (y88.map eI64) (SL v19)), (b1, Blk.cells [.v (.string a0.gName), .lst 2 (a0.gParams.map eTApiVar) .no, .lst 2 (a0.gLocals.map eTApiVar) .no, .lst 7 (a0.gBody.map eTApiStmt) .no, .v (.int .i64 a0.gAt)] 25), (b4, Blk.cells [.v (.string x3.gFunc), .v (.int .i64 x3.gNodes), .lst 6 (x3.gEdges.map eTApiEdge) (.cur w2), .lst 2 (x3.gVars.map eTApiVar) .no, .v (.int .i64 x3.gMany)] 28)], [(6, w2)]⟩ : S)) ?_ ?_
          · skip
            exact WkX.of () (WkS.perm (WkS.cons rfl (Wk.refl _) (WkS.cons rfl (Wk.refl _) (WkS.nil))) (List.Perm.refl _) (List.Perm.refl _))
          · intro G212 s212 z212 hm
            refine wpD_seq ?_
            refine wpD_seq ?_
            refine wpD_region ?_
            refine p_pure htab rfl rfl rfl rfl ?_
            refine p_pure htab rfl rfl rfl rfl ?_
            refine p_lenR 0 htab rfl rfl rfl rfl rfl rfl rfl rfl (by first | exact map_len | rfl) ?_
            refine p_pure htab rfl rfl rfl rfl ?_
            refine ops_nil ?_
            refine then_normal ?_
            refine wpD_cond rfl (fun hc249 => ?_) (fun hc249 => ?_)
            · replace hm := yes_t hc249 hm
              refine wpD_skip ?_
              refine then_normal ?_
              refine wpD_seq ?_
              refine wpD_block ?_
              refine wpD_seq ?_
              obtain ⟨y257, q257, ho257⟩ := yes_bind hm
              refine wpD_mid (Y := Unit) (fun z257 => (⟨[(5, .v (SL v19)), (8, .v (.int .i64 s212)), (127, .v (.bool y257))], [(0, Blk.row 1 (y88.map eI64) (SL v19)), (b1, Blk.cells [.v (.string a0.gName), .lst 2 (a0.gParams.map eTApiVar) .no, .lst 2 (a0.gLocals.map eTApiVar) .no, .lst 7 (a0.gBody.map eTApiStmt) .no, .v (.int .i64 a0.gAt)] 25), (b4, Blk.cells [.v (.string x3.gFunc), .v (.int .i64 x3.gNodes), .lst 6 (x3.gEdges.map eTApiEdge) (.cur w2), .lst 2 (x3.gVars.map eTApiVar) .no, .v (.int .i64 x3.gMany)] 28)], [(6, w2)]⟩ : S)) ?_ ?_
              · clear hm; have hm := yes_of q257
                refine wpD_region ?_
                refine p_pure htab rfl rfl rfl rfl ?_
                refine p_pure htab rfl rfl rfl rfl ?_
                refine p_pure htab rfl rfl rfl rfl ?_
                refine p_split (i := 110) rfl (fun hg258 => ?_) (fun hg258 => ?_)
                · replace hm := yes_t hg258 hm
                  refine p_pure htab rfl rfl rfl rfl ?_
                  refine p_pure htab rfl rfl rfl rfl ?_
                  obtain ⟨x259, q259, hm⟩ := yes_bind hm
                  refine p_elemR 0 htab rfl rfl rfl rfl rfl rfl rfl rfl rfl rfl rfl (idx_nonneg q259) (idx_map q259) ?_
                  refine p_loadR (d := .v (.int .i64 x259)) (d0 := eI64 x259) 0 htab rfl rfl rfl rfl rfl rfl rfl (idx_map q259) rfl (by simp [dcells, eI64]) ?_
                  refine p_pure htab rfl rfl rfl rfl ?_
                  refine p_pickT rfl rfl rfl rfl rfl rfl ?_
                  refine p_pure htab rfl rfl rfl rfl ?_
                  refine p_split (i := 117) rfl (fun hg260 => ?_) (fun hg260 => ?_)
                  · replace hm := yes_t hg260 hm
                    refine p_skip rfl rfl rfl ?_
                    refine p_skip rfl rfl rfl ?_
                    refine p_skip rfl rfl rfl ?_
                    refine p_skip rfl rfl rfl ?_
                    refine p_skip rfl rfl rfl ?_
                    refine p_skip rfl rfl rfl ?_
                    refine p_skip rfl rfl rfl ?_
                    refine p_skip rfl rfl rfl ?_
                    refine p_skip rfl rfl rfl ?_
                    refine p_pickT rfl rfl rfl rfl rfl rfl ?_
                    refine ops_nil ?_
                    have e257 := yes_eq hm; subst e257
                    refine ⟨rfl, ?_⟩
                    exact WkX.of () (WkS.perm (WkS.cons rfl (Wk.refl _) (WkS.cons rfl (Wk.refl _) (WkS.cons rfl (Wk.refl _) (WkS.nil)))) (List.Perm.refl _) (List.Perm.refl _))
                  · replace hm := yes_f hg260 hm
                    refine p_pure htab rfl rfl rfl rfl ?_
                    refine p_pure htab rfl rfl rfl rfl ?_
                    refine p_pure htab rfl rfl rfl rfl ?_
                    refine p_split (i := 120) rfl (fun hg261 => ?_) (fun hg261 => ?_)
                    · replace hm := yes_t hg261 hm
                      refine p_pure htab rfl rfl rfl rfl ?_
                      refine p_pure htab rfl rfl rfl rfl ?_
                      obtain ⟨x262, q262, hm⟩ := yes_bind hm
                      refine p_elemR 0 htab rfl rfl rfl rfl rfl rfl rfl rfl rfl rfl rfl (idx_nonneg q262) (idx_map q262) ?_
                      refine p_loadR (d := .v (.int .i64 x262)) (d0 := eI64 x262) 0 htab rfl rfl rfl rfl rfl rfl rfl (idx_map q262) rfl (by simp [dcells, eI64]) ?_
                      refine p_pure htab rfl rfl rfl rfl ?_
                      refine p_pickT rfl rfl rfl rfl rfl rfl ?_
                      refine p_pickF rfl rfl rfl rfl rfl rfl ?_
                      refine ops_nil ?_
                      have e257 := yes_eq hm; subst e257
                      refine ⟨rfl, ?_⟩
                      exact WkX.of () (WkS.perm (WkS.cons rfl (Wk.refl _) (WkS.cons rfl (Wk.refl _) (WkS.cons rfl (Wk.refl _) (WkS.nil)))) (List.Perm.refl _) (List.Perm.refl _))
                    · replace hm := yes_f hg261 hm
                      refine p_skip rfl rfl rfl ?_
                      refine p_skip rfl rfl rfl ?_
                      refine p_skip rfl rfl rfl ?_
                      refine p_skip rfl rfl rfl ?_
                      refine p_skip rfl rfl rfl ?_
                      refine p_pickF rfl rfl rfl rfl rfl rfl ?_
                      refine p_pickF rfl rfl rfl rfl rfl rfl ?_
                      refine ops_nil ?_
                      have e257 := yes_eq hm; subst e257
                      refine ⟨rfl, ?_⟩
                      exact WkX.of () (WkS.perm (WkS.cons rfl (Wk.refl _) (WkS.cons rfl (Wk.refl _) (WkS.cons rfl (Wk.refl _) (WkS.nil)))) (List.Perm.refl _) (List.Perm.refl _))
                · replace hm := yes_f hg258 hm
                  refine p_skip rfl rfl rfl ?_
                  refine p_skip rfl rfl rfl ?_
                  refine p_skip rfl rfl rfl ?_
                  refine p_skip rfl rfl rfl ?_
                  refine p_skip rfl rfl rfl ?_
                  refine p_pickF rfl rfl rfl rfl rfl rfl ?_
                  refine p_pure htab rfl rfl rfl rfl ?_
                  refine p_pure htab rfl rfl rfl rfl ?_
                  refine p_pure htab rfl rfl rfl rfl ?_
                  refine p_pure htab rfl rfl rfl rfl ?_
                  refine p_split (i := 120) rfl (fun hg263 => ?_) (fun hg263 => ?_)
                  · replace hm := yes_t hg263 hm
                    refine p_pure htab rfl rfl rfl rfl ?_
                    refine p_pure htab rfl rfl rfl rfl ?_
                    obtain ⟨x264, q264, hm⟩ := yes_bind hm
                    refine p_elemR 0 htab rfl rfl rfl rfl rfl rfl rfl rfl rfl rfl rfl (idx_nonneg q264) (idx_map q264) ?_
                    refine p_loadR (d := .v (.int .i64 x264)) (d0 := eI64 x264) 0 htab rfl rfl rfl rfl rfl rfl rfl (idx_map q264) rfl (by simp [dcells, eI64]) ?_
                    refine p_pure htab rfl rfl rfl rfl ?_
                    refine p_pickT rfl rfl rfl rfl rfl rfl ?_
                    refine p_pickF rfl rfl rfl rfl rfl rfl ?_
                    refine ops_nil ?_
                    have e257 := yes_eq hm; subst e257
                    refine ⟨rfl, ?_⟩
                    exact WkX.of () (WkS.perm (WkS.cons rfl (Wk.refl _) (WkS.cons rfl (Wk.refl _) (WkS.cons rfl (Wk.refl _) (WkS.nil)))) (List.Perm.refl _) (List.Perm.refl _))
                  · replace hm := yes_f hg263 hm
                    refine p_skip rfl rfl rfl ?_
                    refine p_skip rfl rfl rfl ?_
                    refine p_skip rfl rfl rfl ?_
                    refine p_skip rfl rfl rfl ?_
                    refine p_skip rfl rfl rfl ?_
                    refine p_pickF rfl rfl rfl rfl rfl rfl ?_
                    refine p_pickF rfl rfl rfl rfl rfl rfl ?_
                    refine ops_nil ?_
                    have e257 := yes_eq hm; subst e257
                    refine ⟨rfl, ?_⟩
                    exact WkX.of () (WkS.perm (WkS.cons rfl (Wk.refl _) (WkS.cons rfl (Wk.refl _) (WkS.cons rfl (Wk.refl _) (WkS.nil)))) (List.Perm.refl _) (List.Perm.refl _))
              · intro s257 hw257; clear hm; have hm := ho257; clear q257 ho257
                refine then_normal ?_
                refine wpD_wkX hw257 (fun z257 => ?_)
                refine wpD_cond rfl (fun hc265 => ?_) (fun hc265 => ?_)
                · replace hm := yes_t hc265 hm
                  refine wpD_seq ?_
                  refine wpD_region ?_
                  refine p_pure htab rfl rfl rfl rfl ?_
                  refine ops_nil ?_
                  refine then_normal ?_
                  refine wpD_ret ?_
                  refine block_ret ?_
                  refine then_ret ?_
                  have e212 := lp_done hm; subst e212; clear hm; have hm := hq212
                  refine then_ret ?_
                  refine block_ret ?_
                  have e211 := yes_eq hm; subst e211; refine midX_inr ?_; clear hm; have hm := ho211; simp only [Sum.elim_inr] at hm
                  refine then_ret ?_
                  have er266 := yes_eq hm; subst er266
                  refine retX.of (s' := ⟨[(2, .v (.bool false))], [], []⟩) (WkS.perm (WkS.cons rfl (Wk.refl _) (WkS.nil)) (List.Perm.refl _) (List.Perm.refl _)) (retD_mk (hh := []) (.inl rfl) (resL_cons (resOne_tmp rfl) (resL_nil)) (List.nil_sublist _) (List.Sublist.refl _) ?_)
                  exact ⟨rfl, rfl, rfl⟩
                · replace hm := yes_f hc265 hm
                  refine wpD_skip ?_
                  refine block_normal ?_
                  refine then_normal ?_
                  refine wpD_region ?_
                  refine p_pure htab rfl rfl rfl rfl ?_
                  refine p_pure htab rfl rfl rfl rfl ?_
                  refine p_pure htab rfl rfl rfl rfl ?_
                  refine ops_nil ?_
                  refine then_normal ⟨_, lp_next hm, ?_⟩
                  exact WkX.of () (WkS.perm (WkS.cons rfl (Wk.refl _) (WkS.cons rfl (Wk.refl _) (WkS.nil))) (List.Perm.refl _) (List.Perm.refl _))
            · replace hm := yes_f hc249 hm
              refine wpD_exit ?_
              refine then_exit ?_
              have e212 := lp_done hm; subst e212; clear hm; have hm := hq212
              refine then_exit ?_
              refine block_hit ?_
              have e211 := yes_eq hm; subst e211
              refine midX_inl ?_
              exact WkX.of () (WkS.perm (WkS.nil) ((perm_at (j := 1) rfl).trans (List.Perm.cons _ ((perm_at (j := 1) rfl).trans (List.Perm.cons _ (List.Perm.refl _))))) (List.Perm.refl _))
        · intro y211 s211 hx211 hw211; subst hx211; clear hm; have hm := ho211; simp only [Sum.elim_inl] at hm; clear q211 ho211
          refine then_normal ?_
          refine wpD_wkX hw211 (fun z211 => ?_)
          refine wpD_seq ?_
          refine wpD_region ?_
          obtain ⟨x267, q267, hm⟩ := yes_bind hm
          refine p_call0 (l17_lives_ok x267 q267) rfl rfl rfl rfl rfl (WkL.refl _) ?_
          rintro _ rfl
          refine p_pure htab rfl rfl rfl rfl ?_
          refine ops_nil ?_
          refine then_normal ?_
          refine wpD_ret ?_
          have er268 := yes_eq hm; subst er268
          refine retX.of (s' := ⟨[(2, .v (.bool x267))], [], []⟩) (WkS.perm (WkS.cons rfl (Wk.refl _) (WkS.nil)) (List.Perm.refl _) (List.Perm.refl _)) (retD_mk (hh := []) (.inl rfl) (resL_cons (resOne_tmp rfl) (resL_nil)) (List.nil_sublist _) (List.Sublist.refl _) ?_)
          exact ⟨rfl, rfl, rfl⟩
end Go.Proofs.Ytpapooaaccmnpaa.Ab
