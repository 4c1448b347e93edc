/- The texts that changeTouchesUpto_holds leans on, part 6. -/
import Derived.Test.YtpeimfcmhedjmaaCt5
namespace Go.Proofs.Ytpeimfcmhedjmaa.Ab
open Go
set_option linter.all false
noncomputable def r07_Put (a0 : List ByteArray) (a1 : ByteArray) : Option (List ByteArray) :=
  (Option.bind (α := List ByteArray × Bool) (loopM (fun (s64 : List ByteArray × Bool × Int) => (bif (decide (s64.2.2 < (a0.length : Int))) then (bif (!s64.2.1) then ((idx a0 s64.2.2).bind fun x107 => (Option.bind (α := List ByteArray × Bool) (bif (ltB a1 x107 || a1.toList == x107.toList) then ((idx a0 s64.2.2).bind fun x114 => (Option.bind (α := List ByteArray) (bif (ltB a1 x114) then ((app 16 s64.1 ([a1] : List ByteArray)).bind fun x119 => some x119) else some s64.1) fun y117 => some (y117, true))) else some (s64.1, s64.2.1)) fun y112 => ((idx a0 s64.2.2).bind fun x120 => ((app 16 y112.1 ([x120] : List ByteArray)).bind fun x121 => some (.next (x121, y112.2, (IntKind.i64.wrap (s64.2.2 + (1 : Int))))))))) else ((idx a0 s64.2.2).bind fun x122 => ((app 16 s64.1 ([x122] : List ByteArray)).bind fun x123 => some (.next (x123, s64.2.1, (IntKind.i64.wrap (s64.2.2 + (1 : Int)))))))) else some (.done (s64.1, s64.2.1)))) (([] : List ByteArray), false, (0 : Int))) fun y63 => (bif (!y63.2) then ((app 16 y63.1 ([a1] : List ByteArray)).bind fun x125 => some x125) else some y63.1))
set_option maxRecDepth 100000 in
set_option maxHeartbeats 2000000 in
theorem r07_Put_ok (a0 : List ByteArray) (a1 : ByteArray) (r : List ByteArray) (h0 : r07_Put a0 a1 = some r) : CallsD Try.prog 21 [.lst 1 (a0.map eStr) .no, .v (.string a1)] [] [] (fun d h k => ∃ y0, d = .lst 1 (r.map eStr) (.cur y0) ∧ h = [] ∧ k = [(1, y0)]) := by
  have hm := yes_of h0
  unfold r07_Put at hm
  clear h0
  refine enterX htab Try.func21 rfl rfl rfl rfl rfl (fun C => ?_)
  refine wpD_sr ?_
  refine pu ?_
  refine ops_n2 ?_
  refine pu ?_
  refine ops_n2 ?_
  refine pu ?_
  refine ops_nt ?_
  refine wpD_seq ?_
  refine wpD_sr ?_
  refine pu ?_
  refine ops_nt ?_
  obtain ⟨y63, q63, ho63⟩ := yes_bind hm
  refine wpD_mid (Y := Value) (fun z63 => (⟨[(1, .v (.string a1)), (5, .lst 1 (y63.1.map eStr) (.cur z63)), (6, .v (.bool y63.2))], [], [(1, z63)]⟩ : S)) ?_ ?_
  ·clear hm; have hm := yes_of q63
   refine wpD_block ?_
   obtain ⟨u64, hl64, hq64⟩ := yes_m hm
   refine loop_M (Y := Value) hl64 (fun s64 z64 => (⟨[(0, .lst 1 (a0.map eStr) .no), (1, .v (.string a1)), (5, .lst 1 (s64.1.map eStr) (.cur z64)), (6, .v (.bool s64.2.1)), (7, .v (.int .i64 s64.2.2))], [], [(1, z64)]⟩ : S)) ?_ ?_
   ·skip
    refine WkX.tokN (i := 5) 1 rfl (fun w104 => ?_)
    exact WkX.of w104 (WkS.perm (WkS.cons rfl (Wk.refl _) (WkS.cons rfl (Wk.refl _) (WkS.cons rfl (Wk.refl _) (WkS.cons rfl (Wk.refl _) (WkS.cons rfl (Wk.refl _) (WkS.nil)))))) Pf Pf)
   ·intro G64 s64 z64 hm
    refine wpD_seq ?_
    refine wpD_sr ?_
    refine pu ?_
    refine pu ?_
    refine p_lenL htab rfl rfl rfl rfl rfl rfl rfl (by first | exact map_len | rfl) ?_
    refine pu ?_
    refine ops_nt ?_
    refine wpD_cond rfl (fun hc105 => ?_) (fun hc105 => ?_)
    ·replace hm := yes_t hc105 hm
     refine wpD_skip ?_
     refine then_normal ?_
     refine wpD_seq ?_
     refine wpD_block ?_
     refine wpD_seq ?_
     refine wpD_sr ?_
     iterate 3 refine pu ?_
     refine p_split (i := 16) rfl (fun hg106 => ?_) (fun hg106 => ?_)
     ·replace hm := yes_t hg106 hm
      iterate 3 refine pu ?_
      obtain ⟨x107, q107, hm⟩ := yes_bind hm
      refine p_elem htab rfl rfl rfl rfl rfl rfl rfl rfl rfl rfl (idx_nonneg q107) (idx_map q107) ?_
      refine p_loadEl htab rfl rfl rfl rfl rfl rfl rfl rfl ?_
      refine p_ltS rfl rfl rfl rfl rfl rfl rfl ?_
      refine p_pickT rfl rfl rfl rfl rfl rfl ?_
      refine ops_nt ?_
      obtain ⟨y112, q112, ho112⟩ := yes_bind hm
      refine wpD_mid (Y := Value) (fun z112 => (⟨[(0, .lst 1 (a0.map eStr) .no), (1, .v (.string a1)), (5, .lst 1 (y112.1.map eStr) (.cur z112)), (6, .v (.bool y112.2)), (7, .v (.int .i64 s64.2.2))], [], [(1, z112)]⟩ : S)) ?_ ?_
      ·clear hm; have hm := yes_of q112
       refine wpD_cond rfl (fun hc113 => ?_) (fun hc113 => ?_)
       ·replace hm := yes_t hc113 hm
        refine wpD_seq ?_
        refine wpD_sr ?_
        iterate 3 refine pu ?_
        obtain ⟨x114, q114, hm⟩ := yes_bind hm
        refine p_elem htab rfl rfl rfl rfl rfl rfl rfl rfl rfl rfl (idx_nonneg q114) (idx_map q114) ?_
        refine p_loadEl htab rfl rfl rfl rfl rfl rfl rfl rfl ?_
        refine p_ltS rfl rfl rfl rfl rfl rfl rfl ?_
        refine ops_nt ?_
        obtain ⟨y117, q117, ho117⟩ := yes_bind hm
        refine wpD_mid (Y := Value) (fun z117 => (⟨[(0, .lst 1 (a0.map eStr) .no), (1, .v (.string a1)), (5, .lst 1 (y117.map eStr) (.cur z117)), (7, .v (.int .i64 s64.2.2))], [], [(1, z117)]⟩ : S)) ?_ ?_
        ·clear hm; have hm := yes_of q117
         refine wpD_cond rfl (fun hc118 => ?_) (fun hc118 => ?_)
         ·replace hm := yes_t hc118 hm
          refine wpD_region ?_
          refine pu ?_
          refine pu ?_
          refine p_lit htab rfl rfl rfl rfl rfl rfl rfl rfl rfl rfl rfl rfl rfl rfl ?_
          refine p_eq (i := 32) (d' := .lst 1 (([a1] : List ByteArray).map eStr) .full) rfl (Wk.lst0 (.cons (WkC.refl _) (.nil))) ?_
          obtain ⟨x119, q119, hm⟩ := yes_bind hm
          refine p_appC 0 htab rfl rfl rfl rfl rfl rfl rfl rfl rfl rfl rfl rfl rfl rfl rfl rfl rfl (app_bound q119) (fun v119 => ?_)
          refine p_mapD (i := 33) q119 rfl ?_
          refine pu ?_
          refine ops_nil ?_
          have e117 := yes_eq hm; subst e117
          refine ⟨rfl, ?_⟩
          exact WkX.of v119 (WkS.perm (WkS.cons rfl (Wk.refl _) (WkS.cons rfl (Wk.refl _) (WkS.cons rfl (Wk.refl _) (WkS.cons rfl (Wk.refl _) (WkS.nil))))) Pf Pf)
         ·replace hm := yes_f hc118 hm
          refine wpD_skip ?_
          have e117 := yes_eq hm; subst e117
          refine ⟨rfl, ?_⟩
          exact WkX.of z64 (WkS.perm (WkS.cons rfl (Wk.refl _) (WkS.cons rfl (Wk.refl _) (WkS.cons rfl (Wk.refl _) (WkS.cons rfl (Wk.refl _) (WkS.nil))))) Pf Pf)
        ·intro s117 hw117; clear hm; have hm := ho117; clear q117 ho117
         refine then_normal ?_
         refine wpD_wkX hw117 (fun z117 => ?_)
         refine wpD_region ?_
         refine pu ?_
         refine ops_nil ?_
         have e112 := yes_eq hm; subst e112
         refine ⟨rfl, ?_⟩
         exact WkX.of z117 (WkS.perm (WkS.cons rfl (Wk.refl _) (WkS.cons rfl (Wk.refl _) (WkS.cons rfl (Wk.refl _) (WkS.cons rfl (Wk.refl _) (WkS.cons rfl (Wk.refl _) (WkS.nil)))))) Pf Pf)
       ·replace hm := yes_f hc113 hm
        refine wpD_skip ?_
        have e112 := yes_eq hm; subst e112
        refine ⟨rfl, ?_⟩
        exact WkX.of z64 (WkS.perm (WkS.cons rfl (Wk.refl _) (WkS.cons rfl (Wk.refl _) (WkS.cons rfl (Wk.refl _) (WkS.cons rfl (Wk.refl _) (WkS.cons rfl (Wk.refl _) (WkS.nil)))))) Pf Pf)
      ·intro s112 hw112; clear hm; have hm := ho112; clear q112 ho112
       refine then_normal ?_
       refine wpD_wkX hw112 (fun z112 => ?_)
       refine wpD_region ?_
       iterate 3 refine pu ?_
       obtain ⟨x120, q120, hm⟩ := yes_bind hm
       refine p_elem htab rfl rfl rfl rfl rfl rfl rfl rfl rfl rfl (idx_nonneg q120) (idx_map q120) ?_
       refine p_loadEl htab rfl rfl rfl rfl rfl rfl rfl rfl ?_
       refine p_lit htab rfl rfl rfl rfl rfl rfl rfl rfl rfl rfl rfl rfl rfl rfl ?_
       refine p_eq (i := 39) (d' := .lst 1 (([x120] : List ByteArray).map eStr) .full) rfl (Wk.lst0 (.cons (WkC.refl _) (.nil))) ?_
       obtain ⟨x121, q121, hm⟩ := yes_bind hm
       refine p_appC 0 htab rfl rfl rfl rfl rfl rfl rfl rfl rfl rfl rfl rfl rfl rfl rfl rfl rfl (app_bound q121) (fun v121 => ?_)
       refine p_mapD (i := 40) q121 rfl ?_
       refine pu ?_
       refine ops_nil ?_
       refine block_normal ?_
       refine then_normal ?_
       refine wpD_region ?_
       iterate 3 refine pu ?_
       refine ops_nil ?_
       refine then_normal ⟨_, lp_next hm, ?_⟩
       exact WkX.of v121 (WkS.perm (WkS.cons rfl (Wk.refl _) (WkS.cons rfl (Wk.refl _) (WkS.cons rfl (Wk.refl _) (WkS.cons rfl (Wk.refl _) (WkS.cons rfl (Wk.refl _) (WkS.nil)))))) Pf Pf)
     ·replace hm := yes_f hg106 hm
      iterate 6 refine pK ?_
      refine p_pickF rfl rfl rfl rfl rfl rfl ?_
      refine ops_nt ?_
      refine wpD_false rfl ?_
      refine wpD_skip ?_
      refine then_normal ?_
      refine wpD_region ?_
      iterate 3 refine pu ?_
      obtain ⟨x122, q122, hm⟩ := yes_bind hm
      refine p_elem htab rfl rfl rfl rfl rfl rfl rfl rfl rfl rfl (idx_nonneg q122) (idx_map q122) ?_
      refine p_loadEl htab rfl rfl rfl rfl rfl rfl rfl rfl ?_
      refine p_lit htab rfl rfl rfl rfl rfl rfl rfl rfl rfl rfl rfl rfl rfl rfl ?_
      refine p_eq (i := 39) (d' := .lst 1 (([x122] : List ByteArray).map eStr) .full) rfl (Wk.lst0 (.cons (WkC.refl _) (.nil))) ?_
      obtain ⟨x123, q123, hm⟩ := yes_bind hm
      refine p_appC 0 htab rfl rfl rfl rfl rfl rfl rfl rfl rfl rfl rfl rfl rfl rfl rfl rfl rfl (app_bound q123) (fun v123 => ?_)
      refine p_mapD (i := 40) q123 rfl ?_
      refine pu ?_
      refine ops_nil ?_
      refine block_normal ?_
      refine then_normal ?_
      refine wpD_region ?_
      iterate 3 refine pu ?_
      refine ops_nil ?_
      refine then_normal ⟨_, lp_next hm, ?_⟩
      exact WkX.of v123 (WkS.perm (WkS.cons rfl (Wk.refl _) (WkS.cons rfl (Wk.refl _) (WkS.cons rfl (Wk.refl _) (WkS.cons rfl (Wk.refl _) (WkS.cons rfl (Wk.refl _) (WkS.nil)))))) Pf Pf)
    ·replace hm := yes_f hc105 hm
     refine wpD_exit ?_
     refine then_exit ?_
     have e64 := lp_done hm; subst e64; clear hm; have hm := hq64
     refine then_exit ?_
     refine block_hit ?_
     have e63 := yes_eq hm; subst e63
     refine ⟨rfl, ?_⟩
     exact WkX.of z64 (WkS.perm (WkS.cons rfl (Wk.refl _) (WkS.cons rfl (Wk.refl _) (WkS.cons rfl (Wk.refl _) (WkS.nil)))) Pf Pf)
  ·intro s63 hw63; clear hm; have hm := ho63; clear q63 ho63
   refine then_normal ?_
   refine wpD_wkX hw63 (fun z63 => ?_)
   refine wpD_seq ?_
   refine wpD_sr ?_
   refine pu ?_
   refine pu ?_
   refine ops_nt ?_
   refine wpD_cond rfl (fun hc124 => ?_) (fun hc124 => ?_)
   ·replace hm := yes_t hc124 hm
    refine wpD_region ?_
    refine pu ?_
    refine pu ?_
    refine p_lit htab rfl rfl rfl rfl rfl rfl rfl rfl rfl rfl rfl rfl rfl rfl ?_
    refine p_eq (i := 45) (d' := .lst 1 (([a1] : List ByteArray).map eStr) .full) rfl (Wk.lst0 (.cons (WkC.refl _) (.nil))) ?_
    obtain ⟨x125, q125, hm⟩ := yes_bind hm
    refine p_appC 0 htab rfl rfl rfl rfl rfl rfl rfl rfl rfl rfl rfl rfl rfl rfl rfl rfl rfl (app_bound q125) (fun v125 => ?_)
    refine p_mapD (i := 46) q125 rfl ?_
    refine pu ?_
    refine ops_n2 ?_
    refine pu ?_
    refine pu ?_
    refine ops_nt ?_
    refine wpD_ret ?_
    have er126 := yes_eq hm; subst er126
    refine rP (t' := [(4, .lst 1 (x125.map eStr) (.cur v125))]) [] [0] 0 (wC wN) (lT lN) ?_
    exact ⟨v125, rfl, rfl, rfl⟩
   ·replace hm := yes_f hc124 hm
    refine wpD_skip ?_
    refine then_normal ?_
    refine wpD_sr ?_
    refine pu ?_
    refine pu ?_
    refine ops_nt ?_
    refine wpD_ret ?_
    have er127 := yes_eq hm; subst er127
    refine rP (t' := [(4, .lst 1 (y63.1.map eStr) (.cur z63))]) [] [0] 0 (wC wN) (lT lN) ?_
    exact ⟨z63, rfl, rfl, rfl⟩
noncomputable def r18_Of (a0 : TApiProgram) (a1 : TApiProgram) (a2 : Bool) : Option (List ByteArray) :=
  ((r18_all a0 a2).bind fun x4 => ((r18_all a1 a2).bind fun x10 => ((app 16 x4 x10).bind fun x11 => (Option.bind (α := List ByteArray) (loopM (fun (s39 : List ByteArray × Int) => (bif (decide (s39.2 < (x11.length : Int))) then ((idx x11 s39.2).bind fun x58 => ((r18_other a0 a1 x58 a2).bind fun x59 => (bif x59 then ((idx x11 s39.2).bind fun x61 => ((r07_Put s39.1 x61).bind fun x63 => some (.next (x63, (IntKind.i64.wrap (s39.2 + (1 : Int))))))) else some (.next (s39.1, (IntKind.i64.wrap (s39.2 + (1 : Int)))))))) else some (.done s39.1))) (([] : List ByteArray), (0 : Int))) fun y38 => some y38))))
set_option maxRecDepth 100000 in
set_option maxHeartbeats 2000000 in
theorem r18_Of_ok (a0 : TApiProgram) (a1 : TApiProgram) (a2 : Bool) (r : List ByteArray) (h0 : r18_Of a0 a1 a2 = some r) : CallsD Try.prog 10 [eTApiProgram a0, eTApiProgram a1, .v (.bool a2)] [] [] (fun d h k => ∃ y0, d = .lst 1 (r.map eStr) (.cur y0) ∧ h = [] ∧ k = [(1, y0)]) := by
  have hm := yes_of h0
  unfold r18_Of at hm
  clear h0
  refine enterX htab Try.func10 rfl rfl rfl rfl rfl (fun C => ?_)
  refine wpD_sr ?_
  refine p_box rfl rfl rfl rfl rfl rfl rfl (fun b1 => ?_)
  refine p_box rfl rfl rfl rfl rfl rfl rfl (fun b2 => ?_)
  refine pu ?_
  refine ops_n2 ?_
  refine pu ?_
  refine ops_nt ?_
  refine wpD_seq ?_
  obtain ⟨x4, q4, hm⟩ := yes_bind hm
  refine wpD_drawsT 5 [] [(2, 1)] [[],[],[0],[],[]] [0,2,3] [[],[],[0,1],[],[],[0,1,2,3,4],[0,1,2,3,4,5],[0,1,2,3,4,5,6]] (by kernel_rfl) (by kernel_rfl) (by kernel_rfl) (by rfl) (by rfl) (by kernel_rfl) ?_
  iterate 3 apply Exists.intro
  intro bs
  refine zt_eM rfl rfl (xm_load (d := eTApiProgram a0) 0 htab rfl rfl rfl rfl rfl) rfl rfl rfl rfl rfl rfl rfl ?_
  refine zt_q rfl rfl (ex_pure htab rfl) rfl rfl rfl rfl rfl rfl ?_
  refine zt_callT rfl rfl (r18_all_ok a0 a2 x4 q4) rfl rfl Wl rfl rfl rfl rfl rfl (by simp) (by decide) rfl ?_
  refine zt_eM rfl rfl (xm_load (d := eTApiProgram a1) 1 htab rfl rfl rfl rfl rfl) rfl rfl rfl rfl rfl rfl rfl ?_
  refine zt_q rfl rfl (ex_pure htab rfl) rfl rfl rfl rfl rfl rfl ?_
  refine zt_nil (k' := [(1, (bs 2))]) rfl (fun e he => by simp [isT] at he; subst he; rfl) rfl rfl (fun e he => by simp [isAl] at he) ?_
  obtain ⟨w8, hw8⟩ : ∃ y, bs 2 = y := ⟨_, rfl⟩
  simp only [hw8]
  clear hw8
  obtain ⟨x10, q10, hm⟩ := yes_bind hm
  refine pG (r18_all_ok a1 a2 x10 q10) Wl Pf Pf ?_
  rintro _ _ _ ⟨w9, rfl, rfl, rfl⟩
  obtain ⟨x11, q11, hm⟩ := yes_bind hm
  refine p_appC 1 htab rfl rfl rfl rfl rfl rfl rfl rfl rfl rfl rfl rfl rfl rfl rfl rfl rfl (app_bound q11) (fun v11 => ?_)
  refine p_mapD (i := 16) q11 rfl ?_
  refine pu ?_
  refine ops_nt ?_
  refine wpD_seq ?_
  refine wpD_sr ?_
  refine pu ?_
  refine ops_nt ?_
  obtain ⟨y38, q38, ho38⟩ := yes_bind hm
  refine wpD_mid (Y := Value) (fun z38 => (⟨[(7, .lst 1 (y38.map eStr) (.cur z38))], [], [(1, z38)]⟩ : S)) ?_ ?_
  ·clear hm; have hm := yes_of q38
   refine wpD_block ?_
   obtain ⟨u39, hl39, hq39⟩ := yes_m hm
   refine loop_M (Y := Value) hl39 (fun s39 z39 => (⟨[(2, .v (.bool a2)), (3, .ptr b1 0), (4, .ptr b2 0), (7, .lst 1 (s39.1.map eStr) (.cur z39)), (8, .lst 1 (x11.map eStr) (.cur v11)), (9, .v (.int .i64 s39.2))], [(b1, Blk.cells [.lst 4 (a0.gGlobals.map eTApiGlobal) .no, .lst 5 (a0.gFuncs.map eTApiFunc) .no] 25), (b2, Blk.cells [.lst 4 (a1.gGlobals.map eTApiGlobal) .no, .lst 5 (a1.gFuncs.map eTApiFunc) .no] 25)], [(1, z39), (1, v11)]⟩ : S)) ?_ ?_
   ·skip
    refine WkX.tokN (i := 7) 1 rfl (fun w56 => ?_)
    exact WkX.of w56 (WkS.perm (WkS.cons rfl (Wk.refl _) (WkS.cons rfl (Wk.refl _) (WkS.cons rfl (Wk.refl _) (WkS.cons rfl (Wk.refl _) (WkS.cons rfl (Wk.refl _) (WkS.cons rfl (Wk.refl _) (WkS.nil))))))) Pf Pf)
   ·intro G39 s39 z39 hm
    refine wpD_seq ?_
    refine wpD_sr ?_
    refine pu ?_
    refine pu ?_
    refine p_lenL htab rfl rfl rfl rfl rfl rfl rfl (by first | exact map_len | rfl) ?_
    refine pu ?_
    refine ops_nt ?_
    refine wpD_cond rfl (fun hc57 => ?_) (fun hc57 => ?_)
    ·replace hm := yes_t hc57 hm
     refine wpD_skip ?_
     refine then_normal ?_
     refine wpD_seq ?_
     refine wpD_block ?_
     refine wpD_seq ?_
     obtain ⟨x58, q58, hm⟩ := yes_bind hm
     refine wpD_draws 7 [] [[],[],[],[],[2],[2,4],[]] [0,1,2,4] [[],[],[],[],[2,3],[2,3,4],[],[0,1,2,3,4,5,6]] (by kernel_rfl) (by kernel_rfl) (by kernel_rfl) (by rfl) (by rfl) (by kernel_rfl) ?_
     iterate 4 apply Exists.intro
     intro bs
     refine z_eM rfl rfl (xm_load (d := eTApiProgram a0) 0 htab rfl rfl rfl rfl rfl) rfl rfl rfl rfl rfl rfl ?_
     refine z_eM rfl rfl (xm_load (d := eTApiProgram a1) 1 htab rfl rfl rfl rfl rfl) rfl rfl rfl rfl rfl rfl ?_
     refine zep ?_
     refine zqp ?_
     refine z_e rfl rfl (x_elem htab rfl rfl rfl rfl rfl rfl rfl (idx_nonneg q58) (idx_map q58)) rfl rfl rfl rfl rfl rfl ?_
     refine z_qM rfl rfl (xm_loadEl htab rfl rfl rfl rfl rfl) rfl rfl rfl rfl rfl rfl ?_
     refine zqp ?_
     refine z_nil rfl rfl (fun e he => by simp [isAl] at he) ?_
     obtain ⟨x59, q59, hm⟩ := yes_bind hm
     refine p_call0 (r18_other_ok a0 a1 x58 a2 x59 q59) rfl rfl rfl rfl rfl Wl ?_
     rintro _ rfl
     refine ops_nt ?_
     refine wpD_cond rfl (fun hc60 => ?_) (fun hc60 => ?_)
     ·replace hm := yes_t hc60 hm
      refine wpD_region ?_
      iterate 3 refine pu ?_
      obtain ⟨x61, q61, hm⟩ := yes_bind hm
      refine p_elem htab rfl rfl rfl rfl rfl rfl rfl rfl rfl rfl (idx_nonneg q61) (idx_map q61) ?_
      refine p_loadEl htab rfl rfl rfl rfl rfl rfl rfl rfl ?_
      obtain ⟨x63, q63, hm⟩ := yes_bind hm
      refine p_callG (r07_Put_ok s39.1 x61 x63 q63) rfl rfl rfl rfl rfl (WkL.cons (Wk.no) (WkL.cons (Wk.refl _) Wl)) Pf Pf ?_
      rintro _ _ _ ⟨w62, rfl, rfl, rfl⟩
      refine pu ?_
      refine ops_nil ?_
      refine block_normal ?_
      refine then_normal ?_
      refine wpD_region ?_
      iterate 3 refine pu ?_
      refine ops_nil ?_
      refine then_normal ⟨_, lp_next hm, ?_⟩
      exact WkX.of w62 (WkS.perm (WkS.cons rfl (Wk.refl _) (WkS.cons rfl (Wk.refl _) (WkS.cons rfl (Wk.refl _) (WkS.cons rfl (Wk.refl _) (WkS.cons rfl (Wk.refl _) (WkS.cons rfl (Wk.refl _) (WkS.nil))))))) Pf ((perm_at (j := 0) rfl).trans (List.Perm.cons _ ((perm_at (j := 1) rfl).trans (List.Perm.cons _ Pf)))))
     ·replace hm := yes_f hc60 hm
      refine wpD_skip ?_
      refine block_normal ?_
      refine then_normal ?_
      refine wpD_region ?_
      iterate 3 refine pu ?_
      refine ops_nil ?_
      refine then_normal ⟨_, lp_next hm, ?_⟩
      exact WkX.of z39 (WkS.perm (WkS.cons rfl (Wk.refl _) (WkS.cons rfl (Wk.refl _) (WkS.cons rfl (Wk.refl _) (WkS.cons rfl (Wk.refl _) (WkS.cons rfl (Wk.refl _) (WkS.cons rfl (Wk.refl _) (WkS.nil))))))) Pf Pf)
    ·replace hm := yes_f hc57 hm
     refine wpD_exit ?_
     refine then_exit ?_
     have e39 := lp_done hm; subst e39; clear hm; have hm := hq39
     refine then_exit ?_
     refine block_hit ?_
     have e38 := yes_eq hm; subst e38
     refine ⟨rfl, ?_⟩
     exact WkX.of z39 (WkS.perm (WkS.cons rfl (Wk.refl _) (WkS.nil)) Pf Pf)
  ·intro s38 hw38; clear hm; have hm := ho38; clear q38 ho38
   refine then_normal ?_
   refine wpD_wkX hw38 (fun z38 => ?_)
   refine wpD_sr ?_
   refine pu ?_
   refine pu ?_
   refine ops_nt ?_
   refine wpD_ret ?_
   have er64 := yes_eq hm; subst er64
   refine rP (t' := [(6, .lst 1 (y38.map eStr) (.cur z38))]) [] [0] 0 (wC wN) (lT lN) ?_
   exact ⟨z38, rfl, rfl, rfl⟩
noncomputable def r11_Stmts_b (g0 : (List TApiStmt) → Option (List TApiStmt)) (a0 : List TApiStmt) : Option (List TApiStmt) :=
  (Option.bind (α := List TApiStmt) (loopM (fun (s40 : List TApiStmt × Int) => (bif (decide (s40.2 < (a0.length : Int))) then ((idx a0 s40.2).bind fun x67 => ((app 120 s40.1 ([x67] : List TApiStmt)).bind fun x68 => ((idx a0 s40.2).bind fun x69 => ((g0 x69.gKids).bind fun x71 => ((app 120 x68 x71).bind fun x72 => ((idx a0 s40.2).bind fun x73 => ((g0 x73.gElse).bind fun x75 => ((app 120 x72 x75).bind fun x76 => some (.next (x76, (IntKind.i64.wrap (s40.2 + (1 : Int))))))))))))) else some (.done s40.1))) (([] : List TApiStmt), (0 : Int))) fun y39 => some y39)
set_option maxRecDepth 100000 in
set_option maxHeartbeats 2000000 in
theorem r11_Stmts_b_ok (g0 : (List TApiStmt) → Option (List TApiStmt)) (hg0 : ∀ (a0 : List TApiStmt) (r : List TApiStmt) (h0 : g0 a0 = some r), CallsD Try.prog 49 [.lst 7 (a0.map eTApiStmt) .no] [] [] (fun d h k => ∃ y0, d = .lst 7 (r.map eTApiStmt) (.cur y0) ∧ h = [] ∧ k = [(7, y0)])) (a0 : List TApiStmt) (r : List TApiStmt) (h0 : r11_Stmts_b g0 a0 = some r) : CallsD Try.prog 49 [.lst 7 (a0.map eTApiStmt) .no] [] [] (fun d h k => ∃ y0, d = .lst 7 (r.map eTApiStmt) (.cur y0) ∧ h = [] ∧ k = [(7, y0)]) := by
  have hm := yes_of h0
  unfold r11_Stmts_b at hm
  clear h0
  refine enterX htab Try.func49 rfl rfl rfl rfl rfl (fun C => ?_)
  refine wpD_sr ?_
  refine pu ?_
  refine ops_n2 ?_
  refine pu ?_
  refine ops_nt ?_
  refine wpD_seq ?_
  refine wpD_sr ?_
  refine pu ?_
  refine ops_nt ?_
  obtain ⟨y39, q39, ho39⟩ := yes_bind hm
  refine wpD_mid (Y := Value) (fun z39 => (⟨[(3, .lst 7 (y39.map eTApiStmt) (.cur z39))], [], [(7, z39)]⟩ : S)) ?_ ?_
  ·clear hm; have hm := yes_of q39
   refine wpD_block ?_
   obtain ⟨u40, hl40, hq40⟩ := yes_m hm
   refine loop_M (Y := Value) hl40 (fun s40 z40 => (⟨[(0, .lst 7 (a0.map eTApiStmt) .no), (3, .lst 7 (s40.1.map eTApiStmt) (.cur z40)), (4, .v (.int .i64 s40.2))], [], [(7, z40)]⟩ : S)) ?_ ?_
   ·skip
    refine WkX.tokN (i := 3) 7 rfl (fun w65 => ?_)
    exact WkX.of w65 (WkS.perm (WkS.cons rfl (Wk.refl _) (WkS.cons rfl (Wk.refl _) (WkS.cons rfl (Wk.refl _) (WkS.nil)))) Pf Pf)
   ·intro G40 s40 z40 hm
    refine wpD_seq ?_
    refine wpD_sr ?_
    refine pu ?_
    refine pu ?_
    refine p_lenL htab rfl rfl rfl rfl rfl rfl rfl (by first | exact map_len | rfl) ?_
    refine pu ?_
    refine ops_nt ?_
    refine wpD_cond rfl (fun hc66 => ?_) (fun hc66 => ?_)
    ·replace hm := yes_t hc66 hm
     refine wpD_skip ?_
     refine then_normal ?_
     refine wpD_seq ?_
     refine wpD_block ?_
     refine wpD_sr ?_
     iterate 3 refine pu ?_
     obtain ⟨x67, q67, hm⟩ := yes_bind hm
     refine p_elem htab rfl rfl rfl rfl rfl rfl rfl rfl rfl rfl (idx_nonneg q67) (idx_map q67) ?_
     refine p_eq (i := 14) rfl (Wk.of_eq (congrArg D.el (eTApiStmt_eq x67))) ?_
     refine p_loadEl (d := .agg [.v (.int .i64 x67.gOp), .v (.string x67.gName), .v (.string x67.gFunc), .lst 5 (x67.gExps.map eTApiExpr) .no, .lst 7 (x67.gKids.map eTApiStmt) .no, .lst 7 (x67.gElse.map eTApiStmt) .no, .v (.int .i64 x67.gAt)]) htab rfl rfl rfl rfl rfl rfl rfl rfl ?_
     refine p_lit htab rfl rfl rfl rfl rfl rfl rfl rfl rfl rfl rfl rfl rfl rfl ?_
     refine p_eq (i := 16) (d' := .lst 7 (([x67] : List TApiStmt).map eTApiStmt) .full) rfl (Wk.lst0 (.cons (WkC.trans (WkC.agg (WkR.refl _)) (WkC.of_eq (eTApiStmt_eq x67).symm)) (.nil))) ?_
     obtain ⟨x68, q68, hm⟩ := yes_bind hm
     refine p_appC 0 htab rfl rfl rfl rfl rfl rfl rfl rfl rfl rfl rfl rfl rfl rfl rfl rfl rfl (app_bound q68) (fun v68 => ?_)
     refine p_mapD (i := 17) q68 rfl ?_
     refine pu ?_
     refine ops_n2 ?_
     iterate 3 refine pu ?_
     obtain ⟨x69, q69, hm⟩ := yes_bind hm
     refine p_elem htab rfl rfl rfl rfl rfl rfl rfl rfl rfl rfl (idx_nonneg q69) (idx_map q69) ?_
     refine p_eq (i := 21) rfl (Wk.of_eq (congrArg D.el (eTApiStmt_eq x69))) ?_
     refine pu ?_
     refine p_loadEl htab rfl rfl rfl rfl rfl rfl rfl rfl ?_
     obtain ⟨x71, q71, hm⟩ := yes_bind hm
     refine pG (hg0 x69.gKids x71 q71) Wl Pf Pf ?_
     rintro _ _ _ ⟨w70, rfl, rfl, rfl⟩
     obtain ⟨x72, q72, hm⟩ := yes_bind hm
     refine p_appC 1 htab rfl rfl rfl rfl rfl rfl rfl rfl rfl rfl rfl rfl rfl rfl rfl rfl rfl (app_bound q72) (fun v72 => ?_)
     refine p_mapD (i := 25) q72 rfl ?_
     refine pu ?_
     refine ops_nt ?_
     refine wpD_region ?_
     iterate 3 refine pu ?_
     obtain ⟨x73, q73, hm⟩ := yes_bind hm
     refine p_elem htab rfl rfl rfl rfl rfl rfl rfl rfl rfl rfl (idx_nonneg q73) (idx_map q73) ?_
     refine p_eq (i := 29) rfl (Wk.of_eq (congrArg D.el (eTApiStmt_eq x73))) ?_
     refine pu ?_
     refine p_loadEl htab rfl rfl rfl rfl rfl rfl rfl rfl ?_
     obtain ⟨x75, q75, hm⟩ := yes_bind hm
     refine pG (hg0 x73.gElse x75 q75) Wl Pf Pf ?_
     rintro _ _ _ ⟨w74, rfl, rfl, rfl⟩
     obtain ⟨x76, q76, hm⟩ := yes_bind hm
     refine p_appC 1 htab rfl rfl rfl rfl rfl rfl rfl rfl rfl rfl rfl rfl rfl rfl rfl rfl rfl (app_bound q76) (fun v76 => ?_)
     refine p_mapD (i := 33) q76 rfl ?_
     refine pu ?_
     refine ops_nil ?_
     refine block_normal ?_
     refine then_normal ?_
     refine wpD_region ?_
     iterate 3 refine pu ?_
     refine ops_nil ?_
     refine then_normal ⟨_, lp_next hm, ?_⟩
     exact WkX.of v76 (WkS.perm (WkS.cons rfl (Wk.refl _) (WkS.cons rfl (Wk.refl _) (WkS.cons rfl (Wk.refl _) (WkS.nil)))) Pf Pf)
    ·replace hm := yes_f hc66 hm
     refine wpD_exit ?_
     refine then_exit ?_
     have e40 := lp_done hm; subst e40; clear hm; have hm := hq40
     refine then_exit ?_
     refine block_hit ?_
     have e39 := yes_eq hm; subst e39
     refine ⟨rfl, ?_⟩
     exact WkX.of z40 (WkS.perm (WkS.cons rfl (Wk.refl _) (WkS.nil)) Pf Pf)
  ·intro s39 hw39; clear hm; have hm := ho39; clear q39 ho39
   refine then_normal ?_
   refine wpD_wkX hw39 (fun z39 => ?_)
   refine wpD_sr ?_
   refine pu ?_
   refine pu ?_
   refine ops_nt ?_
   refine wpD_ret ?_
   have er77 := yes_eq hm; subst er77
   refine rP (t' := [(2, .lst 7 (y39.map eTApiStmt) (.cur z39))]) [] [0] 0 (wC wN) (lT lN) ?_
   exact ⟨z39, rfl, rfl, rfl⟩
noncomputable def r11_Stmts_g : Nat → ((List TApiStmt) → Option (List TApiStmt))
  | 0 => (fun _ => none)
  | n + 1 => (r11_Stmts_b ((r11_Stmts_g n)))
theorem r11_Stmts_g_ok : ∀ n, (∀ (a0 : List TApiStmt) (r : List TApiStmt) (h0 : (r11_Stmts_g n) a0 = some r), CallsD Try.prog 49 [.lst 7 (a0.map eTApiStmt) .no] [] [] (fun d h k => ∃ y0, d = .lst 7 (r.map eTApiStmt) (.cur y0) ∧ h = [] ∧ k = [(7, y0)]))
  | 0 => fun _ _ h0 => by cases h0
  | n + 1 => by
    have ih := r11_Stmts_g_ok n
    exact r11_Stmts_b_ok (r11_Stmts_g n) ih
theorem r11_Stmts_g_le : ∀ n, (∀ (a0 : List TApiStmt), Le ((r11_Stmts_g n) a0) ((r11_Stmts_g (n + 1)) a0))
  | 0 => fun _ => Le.none _
  | n + 1 => by
    have ih := r11_Stmts_g_le n
    exact fun a0 => by show Le (r11_Stmts_b ((r11_Stmts_g n)) a0) (r11_Stmts_b ((r11_Stmts_g (n + 1))) a0); unfold r11_Stmts_b; repeat (first | exact Le.refl _ | exact ih _ | assumption | (refine Le.bind ?_ (fun _ => ?_)) | (refine Le.cond ?_ ?_) | (refine Le.loop (fun _ => ?_)) | (refine Le.elim (fun _ => ?_) (fun _ => ?_)))
noncomputable def r11_Stmts (a0 : List TApiStmt) : Option (List TApiStmt) := anyN fun n => (r11_Stmts_g n) a0
theorem r11_Stmts_of (a0 : List TApiStmt) {r : List TApiStmt} (n : Nat) (h : (r11_Stmts_g n) a0 = some r) : r11_Stmts a0 = some r := anyN_of (fun m => (r11_Stmts_g_le m) a0) h
theorem r11_Stmts_ok (a0 : List TApiStmt) (r : List TApiStmt) (h0 : r11_Stmts a0 = some r) : CallsD Try.prog 49 [.lst 7 (a0.map eTApiStmt) .no] [] [] (fun d h k => ∃ y0, d = .lst 7 (r.map eTApiStmt) (.cur y0) ∧ h = [] ∧ k = [(7, y0)]) :=
  let ⟨n, hn⟩ := anyN_inv h0; (r11_Stmts_g_ok n) a0  r hn
noncomputable def r11_put (a0 : List ByteArray) (a1 : ByteArray) : Option (List ByteArray) :=
  (Option.bind (α := List ByteArray × Bool) (loopM (fun (s62 : List ByteArray × Bool × Int) => (bif (decide (s62.2.2 < (a0.length : Int))) then (bif (!s62.2.1) then ((idx a0 s62.2.2).bind fun x102 => (Option.bind (α := List ByteArray × Bool) (bif (ltB a1 x102) then ((app 16 s62.1 ([a1] : List ByteArray)).bind fun x107 => some (x107, true)) else some (s62.1, s62.2.1)) fun y105 => ((idx a0 s62.2.2).bind fun x108 => (Option.bind (α := Bool) (bif (decide (a1 = x108)) then some true else some y105.2) fun y110 => ((idx a0 s62.2.2).bind fun x112 => ((app 16 y105.1 ([x112] : List ByteArray)).bind fun x113 => some (.next (x113, y110, (IntKind.i64.wrap (s62.2.2 + (1 : Int))))))))))) else ((idx a0 s62.2.2).bind fun x114 => (Option.bind (α := Bool) (bif (decide (a1 = x114)) then some true else some s62.2.1) fun y116 => ((idx a0 s62.2.2).bind fun x118 => ((app 16 s62.1 ([x118] : List ByteArray)).bind fun x119 => some (.next (x119, y116, (IntKind.i64.wrap (s62.2.2 + (1 : Int)))))))))) else some (.done (s62.1, s62.2.1)))) (([] : List ByteArray), false, (0 : Int))) fun y61 => (bif (!y61.2) then ((app 16 y61.1 ([a1] : List ByteArray)).bind fun x121 => some x121) else some y61.1))
set_option maxRecDepth 100000 in
set_option maxHeartbeats 2000000 in
theorem r11_put_ok (a0 : List ByteArray) (a1 : ByteArray) (r : List ByteArray) (h0 : r11_put a0 a1 = some r) : CallsD Try.prog 50 [.lst 1 (a0.map eStr) .no, .v (.string a1)] [] [] (fun d h k => ∃ y0, d = .lst 1 (r.map eStr) (.cur y0) ∧ h = [] ∧ k = [(1, y0)]) := by
  have hm := yes_of h0
  unfold r11_put at hm
  clear h0
  refine enterX htab Try.func50 rfl rfl rfl rfl rfl (fun C => ?_)
  refine wpD_sr ?_
  refine pu ?_
  refine ops_n2 ?_
  refine pu ?_
  refine ops_n2 ?_
  refine pu ?_
  refine ops_nt ?_
  refine wpD_seq ?_
  refine wpD_sr ?_
  refine pu ?_
  refine ops_nt ?_
  obtain ⟨y61, q61, ho61⟩ := yes_bind hm
  refine wpD_mid (Y := Value) (fun z61 => (⟨[(1, .v (.string a1)), (5, .lst 1 (y61.1.map eStr) (.cur z61)), (6, .v (.bool y61.2))], [], [(1, z61)]⟩ : S)) ?_ ?_
  ·clear hm; have hm := yes_of q61
   refine wpD_block ?_
   obtain ⟨u62, hl62, hq62⟩ := yes_m hm
   refine loop_M (Y := Value) hl62 (fun s62 z62 => (⟨[(0, .lst 1 (a0.map eStr) .no), (1, .v (.string a1)), (5, .lst 1 (s62.1.map eStr) (.cur z62)), (6, .v (.bool s62.2.1)), (7, .v (.int .i64 s62.2.2))], [], [(1, z62)]⟩ : S)) ?_ ?_
   ·skip
    refine WkX.tokN (i := 5) 1 rfl (fun w99 => ?_)
    exact WkX.of w99 (WkS.perm (WkS.cons rfl (Wk.refl _) (WkS.cons rfl (Wk.refl _) (WkS.cons rfl (Wk.refl _) (WkS.cons rfl (Wk.refl _) (WkS.cons rfl (Wk.refl _) (WkS.nil)))))) Pf Pf)
   ·intro G62 s62 z62 hm
    refine wpD_seq ?_
    refine wpD_sr ?_
    refine pu ?_
    refine pu ?_
    refine p_lenL htab rfl rfl rfl rfl rfl rfl rfl (by first | exact map_len | rfl) ?_
    refine pu ?_
    refine ops_nt ?_
    refine wpD_cond rfl (fun hc100 => ?_) (fun hc100 => ?_)
    ·replace hm := yes_t hc100 hm
     refine wpD_skip ?_
     refine then_normal ?_
     refine wpD_seq ?_
     refine wpD_block ?_
     refine wpD_seq ?_
     refine wpD_sr ?_
     iterate 3 refine pu ?_
     refine p_split (i := 16) rfl (fun hg101 => ?_) (fun hg101 => ?_)
     ·replace hm := yes_t hg101 hm
      iterate 3 refine pu ?_
      obtain ⟨x102, q102, hm⟩ := yes_bind hm
      refine p_elem htab rfl rfl rfl rfl rfl rfl rfl rfl rfl rfl (idx_nonneg q102) (idx_map q102) ?_
      refine p_loadEl htab rfl rfl rfl rfl rfl rfl rfl rfl ?_
      refine p_ltS rfl rfl rfl rfl rfl rfl rfl ?_
      refine p_pickT rfl rfl rfl rfl rfl rfl ?_
      refine ops_nt ?_
      obtain ⟨y105, q105, ho105⟩ := yes_bind hm
      refine wpD_mid (Y := Value) (fun z105 => (⟨[(0, .lst 1 (a0.map eStr) .no), (1, .v (.string a1)), (5, .lst 1 (y105.1.map eStr) (.cur z105)), (6, .v (.bool y105.2)), (7, .v (.int .i64 s62.2.2))], [], [(1, z105)]⟩ : S)) ?_ ?_
      ·clear hm; have hm := yes_of q105
       refine wpD_cond rfl (fun hc106 => ?_) (fun hc106 => ?_)
       ·replace hm := yes_t hc106 hm
        refine wpD_sr ?_
        refine pu ?_
        refine pu ?_
        refine p_lit htab rfl rfl rfl rfl rfl rfl rfl rfl rfl rfl rfl rfl rfl rfl ?_
        refine p_eq (i := 26) (d' := .lst 1 (([a1] : List ByteArray).map eStr) .full) rfl (Wk.lst0 (.cons (WkC.refl _) (.nil))) ?_
        obtain ⟨x107, q107, hm⟩ := yes_bind hm
        refine p_appC 0 htab rfl rfl rfl rfl rfl rfl rfl rfl rfl rfl rfl rfl rfl rfl rfl rfl rfl (app_bound q107) (fun v107 => ?_)
        refine p_mapD (i := 27) q107 rfl ?_
        refine pu ?_
        refine ops_nt ?_
        refine wpD_region ?_
        refine pu ?_
        refine ops_nil ?_
        have e105 := yes_eq hm; subst e105
        refine ⟨rfl, ?_⟩
        exact WkX.of v107 (WkS.perm (WkS.cons rfl (Wk.refl _) (WkS.cons rfl (Wk.refl _) (WkS.cons rfl (Wk.refl _) (WkS.cons rfl (Wk.refl _) (WkS.cons rfl (Wk.refl _) (WkS.nil)))))) Pf Pf)
       ·replace hm := yes_f hc106 hm
        refine wpD_skip ?_
        have e105 := yes_eq hm; subst e105
        refine ⟨rfl, ?_⟩
        exact WkX.of z62 (WkS.perm (WkS.cons rfl (Wk.refl _) (WkS.cons rfl (Wk.refl _) (WkS.cons rfl (Wk.refl _) (WkS.cons rfl (Wk.refl _) (WkS.cons rfl (Wk.refl _) (WkS.nil)))))) Pf Pf)
      ·intro s105 hw105; clear hm; have hm := ho105; clear q105 ho105
       refine then_normal ?_
       refine wpD_wkX hw105 (fun z105 => ?_)
       refine wpD_seq ?_
       refine wpD_sr ?_
       iterate 3 refine pu ?_
       obtain ⟨x108, q108, hm⟩ := yes_bind hm
       refine p_elem htab rfl rfl rfl rfl rfl rfl rfl rfl rfl rfl (idx_nonneg q108) (idx_map q108) ?_
       refine p_loadEl htab rfl rfl rfl rfl rfl rfl rfl rfl ?_
       refine pu ?_
       refine ops_nt ?_
       obtain ⟨y110, q110, ho110⟩ := yes_bind hm
       refine wpD_mid (Y := Unit) (fun z110 => (⟨[(0, .lst 1 (a0.map eStr) .no), (1, .v (.string a1)), (5, .lst 1 (y105.1.map eStr) (.cur z105)), (6, .v (.bool y110)), (7, .v (.int .i64 s62.2.2))], [], [(1, z105)]⟩ : S)) ?_ ?_
       ·clear hm; have hm := yes_of q110
        refine wpD_cond rfl (fun hc111 => ?_) (fun hc111 => ?_)
        ·replace hm := yes_t hc111 hm
         refine wpD_region ?_
         refine pu ?_
         refine ops_nil ?_
         have e110 := yes_eq hm; subst e110
         refine ⟨rfl, ?_⟩
         exact WkX.of () (WkS.perm (WkS.cons rfl (Wk.refl _) (WkS.cons rfl (Wk.refl _) (WkS.cons rfl (Wk.refl _) (WkS.cons rfl (Wk.refl _) (WkS.cons rfl (Wk.refl _) (WkS.nil)))))) Pf Pf)
        ·replace hm := yes_f hc111 hm
         refine wpD_skip ?_
         have e110 := yes_eq hm; subst e110
         refine ⟨rfl, ?_⟩
         exact WkX.of () (WkS.perm (WkS.cons rfl (Wk.refl _) (WkS.cons rfl (Wk.refl _) (WkS.cons rfl (Wk.refl _) (WkS.cons rfl (Wk.refl _) (WkS.cons rfl (Wk.refl _) (WkS.nil)))))) Pf Pf)
       ·intro s110 hw110; clear hm; have hm := ho110; clear q110 ho110
        refine then_normal ?_
        refine wpD_wkX hw110 (fun z110 => ?_)
        refine wpD_region ?_
        iterate 3 refine pu ?_
        obtain ⟨x112, q112, hm⟩ := yes_bind hm
        refine p_elem htab rfl rfl rfl rfl rfl rfl rfl rfl rfl rfl (idx_nonneg q112) (idx_map q112) ?_
        refine p_loadEl htab rfl rfl rfl rfl rfl rfl rfl rfl ?_
        refine p_lit htab rfl rfl rfl rfl rfl rfl rfl rfl rfl rfl rfl rfl rfl rfl ?_
        refine p_eq (i := 39) (d' := .lst 1 (([x112] : List ByteArray).map eStr) .full) rfl (Wk.lst0 (.cons (WkC.refl _) (.nil))) ?_
        obtain ⟨x113, q113, hm⟩ := yes_bind hm
        refine p_appC 0 htab rfl rfl rfl rfl rfl rfl rfl rfl rfl rfl rfl rfl rfl rfl rfl rfl rfl (app_bound q113) (fun v113 => ?_)
        refine p_mapD (i := 40) q113 rfl ?_
        refine pu ?_
        refine ops_nil ?_
        refine block_normal ?_
        refine then_normal ?_
        refine wpD_region ?_
        iterate 3 refine pu ?_
        refine ops_nil ?_
        refine then_normal ⟨_, lp_next hm, ?_⟩
        exact WkX.of v113 (WkS.perm (WkS.cons rfl (Wk.refl _) (WkS.cons rfl (Wk.refl _) (WkS.cons rfl (Wk.refl _) (WkS.cons rfl (Wk.refl _) (WkS.cons rfl (Wk.refl _) (WkS.nil)))))) Pf Pf)
     ·replace hm := yes_f hg101 hm
      iterate 6 refine pK ?_
      refine p_pickF rfl rfl rfl rfl rfl rfl ?_
      refine ops_nt ?_
      refine wpD_false rfl ?_
      refine wpD_skip ?_
      refine then_normal ?_
      refine wpD_seq ?_
      refine wpD_sr ?_
      iterate 3 refine pu ?_
      obtain ⟨x114, q114, hm⟩ := yes_bind hm
      refine p_elem htab rfl rfl rfl rfl rfl rfl rfl rfl rfl rfl (idx_nonneg q114) (idx_map q114) ?_
      refine p_loadEl htab rfl rfl rfl rfl rfl rfl rfl rfl ?_
      refine pu ?_
      refine ops_nt ?_
      obtain ⟨y116, q116, ho116⟩ := yes_bind hm
      refine wpD_mid (Y := Unit) (fun z116 => (⟨[(0, .lst 1 (a0.map eStr) .no), (1, .v (.string a1)), (5, .lst 1 (s62.1.map eStr) (.cur z62)), (6, .v (.bool y116)), (7, .v (.int .i64 s62.2.2))], [], [(1, z62)]⟩ : S)) ?_ ?_
      ·clear hm; have hm := yes_of q116
       refine wpD_cond rfl (fun hc117 => ?_) (fun hc117 => ?_)
       ·replace hm := yes_t hc117 hm
        refine wpD_region ?_
        refine pu ?_
        refine ops_nil ?_
        have e116 := yes_eq hm; subst e116
        refine ⟨rfl, ?_⟩
        exact WkX.of () (WkS.perm (WkS.cons rfl (Wk.refl _) (WkS.cons rfl (Wk.refl _) (WkS.cons rfl (Wk.refl _) (WkS.cons rfl (Wk.refl _) (WkS.cons rfl (Wk.refl _) (WkS.nil)))))) Pf Pf)
       ·replace hm := yes_f hc117 hm
        refine wpD_skip ?_
        have e116 := yes_eq hm; subst e116
        refine ⟨rfl, ?_⟩
        exact WkX.of () (WkS.perm (WkS.cons rfl (Wk.refl _) (WkS.cons rfl (Wk.refl _) (WkS.cons rfl (Wk.refl _) (WkS.cons rfl (Wk.refl _) (WkS.cons rfl (Wk.refl _) (WkS.nil)))))) Pf Pf)
      ·intro s116 hw116; clear hm; have hm := ho116; clear q116 ho116
       refine then_normal ?_
       refine wpD_wkX hw116 (fun z116 => ?_)
       refine wpD_region ?_
       iterate 3 refine pu ?_
       obtain ⟨x118, q118, hm⟩ := yes_bind hm
       refine p_elem htab rfl rfl rfl rfl rfl rfl rfl rfl rfl rfl (idx_nonneg q118) (idx_map q118) ?_
       refine p_loadEl htab rfl rfl rfl rfl rfl rfl rfl rfl ?_
       refine p_lit htab rfl rfl rfl rfl rfl rfl rfl rfl rfl rfl rfl rfl rfl rfl ?_
       refine p_eq (i := 39) (d' := .lst 1 (([x118] : List ByteArray).map eStr) .full) rfl (Wk.lst0 (.cons (WkC.refl _) (.nil))) ?_
       obtain ⟨x119, q119, hm⟩ := yes_bind hm
       refine p_appC 0 htab rfl rfl rfl rfl rfl rfl rfl rfl rfl rfl rfl rfl rfl rfl rfl rfl rfl (app_bound q119) (fun v119 => ?_)
       refine p_mapD (i := 40) q119 rfl ?_
       refine pu ?_
       refine ops_nil ?_
       refine block_normal ?_
       refine then_normal ?_
       refine wpD_region ?_
       iterate 3 refine pu ?_
       refine ops_nil ?_
       refine then_normal ⟨_, lp_next hm, ?_⟩
       exact WkX.of v119 (WkS.perm (WkS.cons rfl (Wk.refl _) (WkS.cons rfl (Wk.refl _) (WkS.cons rfl (Wk.refl _) (WkS.cons rfl (Wk.refl _) (WkS.cons rfl (Wk.refl _) (WkS.nil)))))) Pf Pf)
    ·replace hm := yes_f hc100 hm
     refine wpD_exit ?_
     refine then_exit ?_
     have e62 := lp_done hm; subst e62; clear hm; have hm := hq62
     refine then_exit ?_
     refine block_hit ?_
     have e61 := yes_eq hm; subst e61
     refine ⟨rfl, ?_⟩
     exact WkX.of z62 (WkS.perm (WkS.cons rfl (Wk.refl _) (WkS.cons rfl (Wk.refl _) (WkS.cons rfl (Wk.refl _) (WkS.nil)))) Pf Pf)
  ·intro s61 hw61; clear hm; have hm := ho61; clear q61 ho61
   refine then_normal ?_
   refine wpD_wkX hw61 (fun z61 => ?_)
   refine wpD_seq ?_
   refine wpD_sr ?_
   refine pu ?_
   refine pu ?_
   refine ops_nt ?_
   refine wpD_cond rfl (fun hc120 => ?_) (fun hc120 => ?_)
   ·replace hm := yes_t hc120 hm
    refine wpD_region ?_
    refine pu ?_
    refine pu ?_
    refine p_lit htab rfl rfl rfl rfl rfl rfl rfl rfl rfl rfl rfl rfl rfl rfl ?_
    refine p_eq (i := 45) (d' := .lst 1 (([a1] : List ByteArray).map eStr) .full) rfl (Wk.lst0 (.cons (WkC.refl _) (.nil))) ?_
    obtain ⟨x121, q121, hm⟩ := yes_bind hm
    refine p_appC 0 htab rfl rfl rfl rfl rfl rfl rfl rfl rfl rfl rfl rfl rfl rfl rfl rfl rfl (app_bound q121) (fun v121 => ?_)
    refine p_mapD (i := 46) q121 rfl ?_
    refine pu ?_
    refine ops_n2 ?_
    refine pu ?_
    refine pu ?_
    refine ops_nt ?_
    refine wpD_ret ?_
    have er122 := yes_eq hm; subst er122
    refine rP (t' := [(4, .lst 1 (x121.map eStr) (.cur v121))]) [] [0] 0 (wC wN) (lT lN) ?_
    exact ⟨v121, rfl, rfl, rfl⟩
   ·replace hm := yes_f hc120 hm
    refine wpD_skip ?_
    refine then_normal ?_
    refine wpD_sr ?_
    refine pu ?_
    refine pu ?_
    refine ops_nt ?_
    refine wpD_ret ?_
    have er123 := yes_eq hm; subst er123
    refine rP (t' := [(4, .lst 1 (y61.1.map eStr) (.cur z61))]) [] [0] 0 (wC wN) (lT lN) ?_
    exact ⟨z61, rfl, rfl, rfl⟩
noncomputable def r11_All_b (g0 : (TApiExpr) → Option (List TApiExpr)) (a0 : TApiExpr) : Option (List TApiExpr) :=
  (Option.bind (α := List TApiExpr) (loopM (fun (s23 : List TApiExpr × Int) => (bif (decide (s23.2 < (a0.gKids.length : Int))) then ((idx a0.gKids s23.2).bind fun x38 => ((g0 x38).bind fun x40 => ((app 64 s23.1 x40).bind fun x41 => some (.next (x41, (IntKind.i64.wrap (s23.2 + (1 : Int)))))))) else some (.done s23.1))) (([a0] : List TApiExpr), (0 : Int))) fun y22 => some y22)
set_option maxRecDepth 100000 in
set_option maxHeartbeats 2000000 in
theorem r11_All_b_ok (g0 : (TApiExpr) → Option (List TApiExpr)) (hg0 : ∀ (a0 : TApiExpr) (r : List TApiExpr) (h0 : g0 a0 = some r), CallsD Try.prog 66 [eTApiExpr a0] [] [] (fun d h k => ∃ y0, d = .lst 5 (r.map eTApiExpr) (.cur y0) ∧ h = [] ∧ k = [(5, y0)])) (a0 : TApiExpr) (r : List TApiExpr) (h0 : r11_All_b g0 a0 = some r) : CallsD Try.prog 66 [eTApiExpr a0] [] [] (fun d h k => ∃ y0, d = .lst 5 (r.map eTApiExpr) (.cur y0) ∧ h = [] ∧ k = [(5, y0)]) := by
  have hm := yes_of h0
  unfold r11_All_b at hm
  clear h0
  refine enterX htab Try.func66 rfl rfl rfl rfl rfl (fun C => ?_)
  refine w_eq (i := 0) rfl (Wk.of_eq (eTApiExpr_eq a0)) ?_
  refine wpD_sr ?_
  refine p_box rfl rfl rfl rfl rfl rfl rfl (fun b1 => ?_)
  refine pu ?_
  refine ops_n2 ?_
  refine p_load (d := .agg [.v (.int .i64 a0.gOp), .v (.int .i64 a0.gN), .v (.string a0.gName), .lst 5 (a0.gKids.map eTApiExpr) .no, .v (.int .i64 a0.gAt)]) 0 htab rfl rfl rfl rfl rfl rfl rfl rfl ?_
  refine p_lit htab rfl rfl rfl rfl rfl rfl rfl rfl rfl rfl rfl rfl rfl rfl ?_
  refine p_eq (i := 6) (d' := .lst 5 (([a0] : List TApiExpr).map eTApiExpr) .full) rfl (Wk.lst0 (.cons (WkC.trans (WkC.agg (WkR.refl _)) (WkC.of_eq (eTApiExpr_eq a0).symm)) (.nil))) ?_
  refine pu ?_
  refine ops_nt ?_
  refine wpD_seq ?_
  refine wpD_sr ?_
  refine pu ?_
  refine ops_nt ?_
  obtain ⟨y22, q22, ho22⟩ := yes_bind hm
  refine wpD_mid (Y := Value) (fun z22 => (⟨[(3, .lst 5 (y22.map eTApiExpr) (.cur z22))], [], [(5, z22)]⟩ : S)) ?_ ?_
  ·clear hm; have hm := yes_of q22
   refine wpD_block ?_
   obtain ⟨u23, hl23, hq23⟩ := yes_m hm
   refine loop_M (Y := Value) hl23 (fun s23 z23 => (⟨[(1, .ptr b1 0), (3, .lst 5 (s23.1.map eTApiExpr) (.cur z23)), (4, .v (.int .i64 s23.2))], [(b1, Blk.cells [.v (.int .i64 a0.gOp), .v (.int .i64 a0.gN), .v (.string a0.gName), .lst 5 (a0.gKids.map eTApiExpr) .no, .v (.int .i64 a0.gAt)] 76)], [(5, z23)]⟩ : S)) ?_ ?_
   ·skip
    refine WkX.tokF (i := 3) rfl (fun w36 => ?_)
    exact WkX.of w36 (WkS.perm (WkS.cons rfl (Wk.refl _) (WkS.cons rfl (Wk.refl _) (WkS.cons rfl (Wk.refl _) (WkS.nil)))) Pf Pf)
   ·intro G23 s23 z23 hm
    refine wpD_seq ?_
    refine wpD_sr ?_
    refine pu ?_
    refine pu ?_
    refine pL 0 ?_
    refine p_lenL htab rfl rfl rfl rfl rfl rfl rfl (by first | exact map_len | rfl) ?_
    refine pu ?_
    refine ops_nt ?_
    refine wpD_cond rfl (fun hc37 => ?_) (fun hc37 => ?_)
    ·replace hm := yes_t hc37 hm
     refine wpD_skip ?_
     refine then_normal ?_
     refine wpD_seq ?_
     refine wpD_block ?_
     refine wpD_region ?_
     refine pu ?_
     refine pu ?_
     refine pL 0 ?_
     refine pu ?_
     obtain ⟨x38, q38, hm⟩ := yes_bind hm
     refine p_elem htab rfl rfl rfl rfl rfl rfl rfl rfl rfl rfl (idx_nonneg q38) (idx_map q38) ?_
     refine p_eq (i := 18) rfl (Wk.of_eq (congrArg D.el (eTApiExpr_eq x38))) ?_
     refine p_loadEl (d := .agg [.v (.int .i64 x38.gOp), .v (.int .i64 x38.gN), .v (.string x38.gName), .lst 5 (x38.gKids.map eTApiExpr) .no, .v (.int .i64 x38.gAt)]) htab rfl rfl rfl rfl rfl rfl rfl rfl ?_
     obtain ⟨x40, q40, hm⟩ := yes_bind hm
     refine p_callG (hg0 x38 x40 q40) rfl rfl rfl rfl rfl (WkL.cons (Wk.trans (Wk.agg (WkR.refl _)) (Wk.of_eq (eTApiExpr_eq x38).symm)) Wl) Pf Pf ?_
     rintro _ _ _ ⟨w39, rfl, rfl, rfl⟩
     obtain ⟨x41, q41, hm⟩ := yes_bind hm
     refine p_appC 1 htab rfl rfl rfl rfl rfl rfl rfl rfl rfl rfl rfl rfl rfl rfl rfl rfl rfl (app_bound q41) (fun v41 => ?_)
     refine p_mapD (i := 21) q41 rfl ?_
     refine pu ?_
     refine ops_nil ?_
     refine block_normal ?_
     refine then_normal ?_
     refine wpD_region ?_
     iterate 3 refine pu ?_
     refine ops_nil ?_
     refine then_normal ⟨_, lp_next hm, ?_⟩
     exact WkX.of v41 (WkS.perm (WkS.cons rfl (Wk.refl _) (WkS.cons rfl (Wk.refl _) (WkS.cons rfl (Wk.refl _) (WkS.nil)))) Pf Pf)
    ·replace hm := yes_f hc37 hm
     refine wpD_exit ?_
     refine then_exit ?_
     have e23 := lp_done hm; subst e23; clear hm; have hm := hq23
     refine then_exit ?_
     refine block_hit ?_
     have e22 := yes_eq hm; subst e22
     refine ⟨rfl, ?_⟩
     exact WkX.of z23 (WkS.perm (WkS.cons rfl (Wk.refl _) (WkS.nil)) Pf Pf)
  ·intro s22 hw22; clear hm; have hm := ho22; clear q22 ho22
   refine then_normal ?_
   refine wpD_wkX hw22 (fun z22 => ?_)
   refine wpD_sr ?_
   refine pu ?_
   refine pu ?_
   refine ops_nt ?_
   refine wpD_ret ?_
   have er42 := yes_eq hm; subst er42
   refine rP (t' := [(2, .lst 5 (y22.map eTApiExpr) (.cur z22))]) [] [0] 0 (wC wN) (lT lN) ?_
   exact ⟨z22, rfl, rfl, rfl⟩
noncomputable def r11_All_g : Nat → ((TApiExpr) → Option (List TApiExpr))
  | 0 => (fun _ => none)
  | n + 1 => (r11_All_b ((r11_All_g n)))
theorem r11_All_g_ok : ∀ n, (∀ (a0 : TApiExpr) (r : List TApiExpr) (h0 : (r11_All_g n) a0 = some r), CallsD Try.prog 66 [eTApiExpr a0] [] [] (fun d h k => ∃ y0, d = .lst 5 (r.map eTApiExpr) (.cur y0) ∧ h = [] ∧ k = [(5, y0)]))
  | 0 => fun _ _ h0 => by cases h0
  | n + 1 => by
    have ih := r11_All_g_ok n
    exact r11_All_b_ok (r11_All_g n) ih
theorem r11_All_g_le : ∀ n, (∀ (a0 : TApiExpr), Le ((r11_All_g n) a0) ((r11_All_g (n + 1)) a0))
  | 0 => fun _ => Le.none _
  | n + 1 => by
    have ih := r11_All_g_le n
    exact fun a0 => by show Le (r11_All_b ((r11_All_g n)) a0) (r11_All_b ((r11_All_g (n + 1))) a0); unfold r11_All_b; repeat (first | exact Le.refl _ | exact ih _ | assumption | (refine Le.bind ?_ (fun _ => ?_)) | (refine Le.cond ?_ ?_) | (refine Le.loop (fun _ => ?_)) | (refine Le.elim (fun _ => ?_) (fun _ => ?_)))
noncomputable def r11_All (a0 : TApiExpr) : Option (List TApiExpr) := anyN fun n => (r11_All_g n) a0
theorem r11_All_of (a0 : TApiExpr) {r : List TApiExpr} (n : Nat) (h : (r11_All_g n) a0 = some r) : r11_All a0 = some r := anyN_of (fun m => (r11_All_g_le m) a0) h
theorem r11_All_ok (a0 : TApiExpr) (r : List TApiExpr) (h0 : r11_All a0 = some r) : CallsD Try.prog 66 [eTApiExpr a0] [] [] (fun d h k => ∃ y0, d = .lst 5 (r.map eTApiExpr) (.cur y0) ∧ h = [] ∧ k = [(5, y0)]) :=
  let ⟨n, hn⟩ := anyN_inv h0; (r11_All_g_ok n) a0  r hn
noncomputable def r11_Exprs (a0 : List TApiStmt) : Option (List TApiExpr) :=
  ((r11_Stmts a0).bind fun x2 => (Option.bind (α := List TApiExpr) (loopM (fun (s162 : List TApiExpr × Int) => (bif (decide (s162.2 < (x2.length : Int))) then (Option.bind (α := List TApiExpr) (loopM (fun (s294 : List TApiExpr × Int) => ((idx x2 s162.2).bind fun x311 => (bif (decide (s294.2 < (x311.gExps.length : Int))) then ((idx x2 s162.2).bind fun x313 => ((idx x313.gExps s294.2).bind fun x314 => ((r11_All x314).bind fun x316 => ((app 64 s294.1 x316).bind fun x317 => some (.next (x317, (IntKind.i64.wrap (s294.2 + (1 : Int))))))))) else some (.done s294.1)))) (s162.1, (0 : Int))) fun y293 => some (.next (y293, (IntKind.i64.wrap (s162.2 + (1 : Int)))))) else some (.done s162.1))) (([] : List TApiExpr), (0 : Int))) fun y161 => some y161))
set_option maxRecDepth 100000 in
set_option maxHeartbeats 2000000 in
theorem r11_Exprs_ok (a0 : List TApiStmt) (r : List TApiExpr) (h0 : r11_Exprs a0 = some r) : CallsD Try.prog 51 [.lst 7 (a0.map eTApiStmt) .no] [] [] (fun d h k => ∃ y0, d = .lst 5 (r.map eTApiExpr) (.cur y0) ∧ h = [] ∧ k = [(5, y0)]) := by
  have hm := yes_of h0
  unfold r11_Exprs at hm
  clear h0
  refine enterX htab Try.func51 rfl rfl rfl rfl rfl (fun C => ?_)
  refine wpD_sr ?_
  refine pu ?_
  refine ops_n2 ?_
  refine pu ?_
  refine ops_n2 ?_
  refine pu ?_
  obtain ⟨x2, q2, hm⟩ := yes_bind hm
  refine pG (r11_Stmts_ok a0 x2 q2) Wl Pf Pf ?_
  rintro _ _ _ ⟨w1, rfl, rfl, rfl⟩
  refine pu ?_
  refine ops_nt ?_
  refine wpD_seq ?_
  refine wpD_sr ?_
  refine pu ?_
  refine ops_nt ?_
  obtain ⟨y161, q161, ho161⟩ := yes_bind hm
  refine wpD_mid (Y := Value) (fun z161 => (⟨[(3, .lst 5 (y161.map eTApiExpr) (.cur z161))], [], [(5, z161)]⟩ : S)) ?_ ?_
  ·clear hm; have hm := yes_of q161
   refine wpD_block ?_
   obtain ⟨u162, hl162, hq162⟩ := yes_m hm
   refine loop_M (Y := Value) hl162 (fun s162 z162 => (⟨[(3, .lst 5 (s162.1.map eTApiExpr) (.cur z162)), (4, .lst 7 (x2.map eTApiStmt) (.cur w1)), (5, .v (.int .i64 s162.2))], [], [(5, z162), (7, w1)]⟩ : S)) ?_ ?_
   ·skip
    refine WkX.tokN (i := 3) 5 rfl (fun w267 => ?_)
    exact WkX.of w267 (WkS.perm (WkS.cons rfl (Wk.refl _) (WkS.cons rfl (Wk.refl _) (WkS.cons rfl (Wk.refl _) (WkS.nil)))) Pf Pf)
   ·intro G162 s162 z162 hm
    refine wpD_seq ?_
    refine wpD_sr ?_
    refine pu ?_
    refine pu ?_
    refine p_lenL htab rfl rfl rfl rfl rfl rfl rfl (by first | exact map_len | rfl) ?_
    refine pu ?_
    refine ops_nt ?_
    refine wpD_cond rfl (fun hc268 => ?_) (fun hc268 => ?_)
    ·replace hm := yes_t hc268 hm
     refine wpD_skip ?_
     refine then_normal ?_
     refine wpD_seq ?_
     refine wpD_block ?_
     refine wpD_sr ?_
     refine pu ?_
     refine ops_nt ?_
     obtain ⟨y293, q293, ho293⟩ := yes_bind hm
     refine wpD_mid (Y := Value) (fun z293 => (⟨[(3, .lst 5 (y293.map eTApiExpr) (.cur z293)), (4, .lst 7 (x2.map eTApiStmt) (.cur w1)), (5, .v (.int .i64 s162.2))], [], [(5, z293), (7, w1)]⟩ : S)) ?_ ?_
     ·clear hm; have hm := yes_of q293
      refine wpD_block ?_
      obtain ⟨u294, hl294, hq294⟩ := yes_m hm
      refine loop_M (Y := Value) hl294 (fun s294 z294 => (⟨[(3, .lst 5 (s294.1.map eTApiExpr) (.cur z294)), (4, .lst 7 (x2.map eTApiStmt) (.cur w1)), (5, .v (.int .i64 s162.2)), (6, .v (.int .i64 s294.2))], [], [(5, z294), (7, w1)]⟩ : S)) ?_ ?_
      ·skip
       exact WkX.of z162 (WkS.perm (WkS.cons rfl (Wk.refl _) (WkS.cons rfl (Wk.refl _) (WkS.cons rfl (Wk.refl _) (WkS.cons rfl (Wk.refl _) (WkS.nil))))) Pf Pf)
      ·intro G294 s294 z294 hm
       refine wpD_seq ?_
       refine wpD_sr ?_
       iterate 3 refine pu ?_
       obtain ⟨x311, q311, hm⟩ := yes_bind hm
       refine p_elem htab rfl rfl rfl rfl rfl rfl rfl rfl rfl rfl (idx_nonneg q311) (idx_map q311) ?_
       refine p_eq (i := 18) rfl (Wk.of_eq (congrArg D.el (eTApiStmt_eq x311))) ?_
       refine pu ?_
       refine p_loadEl htab rfl rfl rfl rfl rfl rfl rfl rfl ?_
       refine p_lenL htab rfl rfl rfl rfl rfl rfl rfl (by first | exact map_len | rfl) ?_
       refine pu ?_
       refine ops_nt ?_
       refine wpD_cond rfl (fun hc312 => ?_) (fun hc312 => ?_)
       ·replace hm := yes_t hc312 hm
        refine wpD_skip ?_
        refine then_normal ?_
        refine wpD_seq ?_
        refine wpD_block ?_
        refine wpD_region ?_
        iterate 3 refine pu ?_
        obtain ⟨x313, q313, hm⟩ := yes_bind hm
        refine p_elem htab rfl rfl rfl rfl rfl rfl rfl rfl rfl rfl (idx_nonneg q313) (idx_map q313) ?_
        refine p_eq (i := 28) rfl (Wk.of_eq (congrArg D.el (eTApiStmt_eq x313))) ?_
        refine pu ?_
        refine p_loadEl htab rfl rfl rfl rfl rfl rfl rfl rfl ?_
        refine pu ?_
        obtain ⟨x314, q314, hm⟩ := yes_bind hm
        refine p_elem htab rfl rfl rfl rfl rfl rfl rfl rfl rfl rfl (idx_nonneg q314) (idx_map q314) ?_
        refine p_eq (i := 32) rfl (Wk.of_eq (congrArg D.el (eTApiExpr_eq x314))) ?_
        refine p_loadEl (d := .agg [.v (.int .i64 x314.gOp), .v (.int .i64 x314.gN), .v (.string x314.gName), .lst 5 (x314.gKids.map eTApiExpr) .no, .v (.int .i64 x314.gAt)]) htab rfl rfl rfl rfl rfl rfl rfl rfl ?_
        obtain ⟨x316, q316, hm⟩ := yes_bind hm
        refine p_callG (r11_All_ok x314 x316 q316) rfl rfl rfl rfl rfl (WkL.cons (Wk.trans (Wk.agg (WkR.refl _)) (Wk.of_eq (eTApiExpr_eq x314).symm)) Wl) Pf Pf ?_
        rintro _ _ _ ⟨w315, rfl, rfl, rfl⟩
        obtain ⟨x317, q317, hm⟩ := yes_bind hm
        refine p_appC 1 htab rfl rfl rfl rfl rfl rfl rfl rfl rfl rfl rfl rfl rfl rfl rfl rfl rfl (app_bound q317) (fun v317 => ?_)
        refine p_mapD (i := 35) q317 rfl ?_
        refine pu ?_
        refine ops_nil ?_
        refine block_normal ?_
        refine then_normal ?_
        refine wpD_region ?_
        iterate 3 refine pu ?_
        refine ops_nil ?_
        refine then_normal ⟨_, lp_next hm, ?_⟩
        exact WkX.of v317 (WkS.perm (WkS.cons rfl (Wk.refl _) (WkS.cons rfl (Wk.refl _) (WkS.cons rfl (Wk.refl _) (WkS.cons rfl (Wk.refl _) (WkS.nil))))) Pf ((perm_at (j := 0) rfl).trans (List.Perm.cons _ ((perm_at (j := 1) rfl).trans (List.Perm.cons _ Pf)))))
       ·replace hm := yes_f hc312 hm
        refine wpD_exit ?_
        refine then_exit ?_
        have e294 := lp_done hm; subst e294; clear hm; have hm := hq294
        refine then_exit ?_
        refine block_hit ?_
        have e293 := yes_eq hm; subst e293
        refine ⟨rfl, ?_⟩
        exact WkX.of z294 (WkS.perm (WkS.cons rfl (Wk.refl _) (WkS.cons rfl (Wk.refl _) (WkS.cons rfl (Wk.refl _) (WkS.nil)))) Pf Pf)
     ·intro s293 hw293; clear hm; have hm := ho293; clear q293 ho293
      refine block_normal ?_
      refine then_normal ?_
      refine wpD_wkX hw293 (fun z293 => ?_)
      refine wpD_region ?_
      iterate 3 refine pu ?_
      refine ops_nil ?_
      refine then_normal ⟨_, lp_next hm, ?_⟩
      exact WkX.of z293 (WkS.perm (WkS.cons rfl (Wk.refl _) (WkS.cons rfl (Wk.refl _) (WkS.cons rfl (Wk.refl _) (WkS.nil)))) Pf Pf)
    ·replace hm := yes_f hc268 hm
     refine wpD_exit ?_
     refine then_exit ?_
     have e162 := lp_done hm; subst e162; clear hm; have hm := hq162
     refine then_exit ?_
     refine block_hit ?_
     have e161 := yes_eq hm; subst e161
     refine ⟨rfl, ?_⟩
     exact WkX.of z162 (WkS.perm (WkS.cons rfl (Wk.refl _) (WkS.nil)) Pf Pf)
  ·intro s161 hw161; clear hm; have hm := ho161; clear q161 ho161
   refine then_normal ?_
   refine wpD_wkX hw161 (fun z161 => ?_)
   refine wpD_sr ?_
   refine pu ?_
   refine pu ?_
   refine ops_nt ?_
   refine wpD_ret ?_
   have er318 := yes_eq hm; subst er318
   refine rP (t' := [(2, .lst 5 (y161.map eTApiExpr) (.cur z161))]) [] [0] 0 (wC wN) (lT lN) ?_
   exact ⟨z161, rfl, rfl, rfl⟩
noncomputable def r11_Names (a0 : List TApiStmt) (a1 : Bool) : Option (List ByteArray) :=
  ((r11_Stmts a0).bind fun x2 => (Option.bind (α := List ByteArray) (loopM (fun (s39 : List ByteArray × Int) => (bif (decide (s39.2 < (x2.length : Int))) then ((idx x2 s39.2).bind fun x64 => (Option.bind (α := ByteArray) (bif a1 then ((idx x2 s39.2).bind fun x69 => some x69.gFunc) else some x64.gName) fun y67 => (bif (!decide (y67 = (ByteArray.mk #[]))) then ((r11_put s39.1 y67).bind fun x72 => some (.next (x72, (IntKind.i64.wrap (s39.2 + (1 : Int)))))) else some (.next (s39.1, (IntKind.i64.wrap (s39.2 + (1 : Int)))))))) else some (.done s39.1))) (([] : List ByteArray), (0 : Int))) fun y38 => ((r11_Exprs a0).bind fun x74 => (Option.bind (α := List ByteArray) (loopM (fun (s107 : List ByteArray × Int) => (Option.bind (α := Bool) (bif (decide (s107.2 < (x74.length : Int))) then some (!a1) else some false) fun y129 => (bif y129 then ((idx x74 s107.2).bind fun x132 => (bif (!decide (x132.gName = (ByteArray.mk #[]))) then ((idx x74 s107.2).bind fun x134 => ((r11_put s107.1 x134.gName).bind fun x136 => some (.next (x136, (IntKind.i64.wrap (s107.2 + (1 : Int))))))) else some (.next (s107.1, (IntKind.i64.wrap (s107.2 + (1 : Int))))))) else some (.done s107.1)))) (y38, (0 : Int))) fun y106 => some y106))))
set_option maxRecDepth 100000 in
set_option maxHeartbeats 2000000 in
theorem r11_Names_ok (a0 : List TApiStmt) (a1 : Bool) (r : List ByteArray) (h0 : r11_Names a0 a1 = some r) : CallsD Try.prog 28 [.lst 7 (a0.map eTApiStmt) .no, .v (.bool a1)] [] [] (fun d h k => ∃ y0, d = .lst 1 (r.map eStr) (.cur y0) ∧ h = [] ∧ k = [(1, y0)]) := by
  have hm := yes_of h0
  unfold r11_Names at hm
  clear h0
  refine enterX htab Try.func28 rfl rfl rfl rfl rfl (fun C => ?_)
  refine wpD_sr ?_
  refine pu ?_
  refine ops_n2 ?_
  refine pu ?_
  refine ops_n2 ?_
  refine pu ?_
  obtain ⟨x2, q2, hm⟩ := yes_bind hm
  refine pG (r11_Stmts_ok a0 x2 q2) Wl Pf Pf ?_
  rintro _ _ _ ⟨w1, rfl, rfl, rfl⟩
  refine pu ?_
  refine ops_nt ?_
  refine wpD_seq ?_
  refine wpD_sr ?_
  refine pu ?_
  refine ops_nt ?_
  obtain ⟨y38, q38, ho38⟩ := yes_bind hm
  refine wpD_mid (Y := Value) (fun z38 => (⟨[(0, .lst 7 (a0.map eTApiStmt) .no), (1, .v (.bool a1)), (5, .lst 1 (y38.map eStr) (.cur z38))], [], [(1, z38)]⟩ : S)) ?_ ?_
  ·clear hm; have hm := yes_of q38
   refine wpD_block ?_
   obtain ⟨u39, hl39, hq39⟩ := yes_m hm
   refine loop_M (Y := Value) hl39 (fun s39 z39 => (⟨[(0, .lst 7 (a0.map eTApiStmt) .no), (1, .v (.bool a1)), (5, .lst 1 (s39.1.map eStr) (.cur z39)), (6, .lst 7 (x2.map eTApiStmt) (.cur w1)), (7, .v (.int .i64 s39.2))], [], [(1, z39), (7, w1)]⟩ : S)) ?_ ?_
   ·skip
    refine WkX.tokN (i := 5) 1 rfl (fun w62 => ?_)
    exact WkX.of w62 (WkS.perm (WkS.cons rfl (Wk.refl _) (WkS.cons rfl (Wk.refl _) (WkS.cons rfl (Wk.refl _) (WkS.cons rfl (Wk.refl _) (WkS.cons rfl (Wk.refl _) (WkS.nil)))))) Pf Pf)
   ·intro G39 s39 z39 hm
    refine wpD_seq ?_
    refine wpD_sr ?_
    refine pu ?_
    refine pu ?_
    refine p_lenL htab rfl rfl rfl rfl rfl rfl rfl (by first | exact map_len | rfl) ?_
    refine pu ?_
    refine ops_nt ?_
    refine wpD_cond rfl (fun hc63 => ?_) (fun hc63 => ?_)
    ·replace hm := yes_t hc63 hm
     refine wpD_skip ?_
     refine then_normal ?_
     refine wpD_seq ?_
     refine wpD_block ?_
     refine wpD_sr ?_
     refine pu ?_
     refine pu ?_
     obtain ⟨x64, q64, hm⟩ := yes_bind hm
     refine p_elem htab rfl rfl rfl rfl rfl rfl rfl rfl rfl rfl (idx_nonneg q64) (idx_map q64) ?_
     refine p_eq (i := 21) rfl (Wk.of_eq (congrArg D.el (eTApiStmt_eq x64))) ?_
     refine pu ?_
     refine p_loadEl htab rfl rfl rfl rfl rfl rfl rfl rfl ?_
     refine pu ?_
     refine ops_nt ?_
     refine wpD_seq ?_
     refine wpD_sr ?_
     refine pu ?_
     refine ops_nt ?_
     obtain ⟨y67, q67, ho67⟩ := yes_bind hm
     refine wpD_mid (Y := Unit) (fun z67 => (⟨[(0, .lst 7 (a0.map eTApiStmt) .no), (1, .v (.bool a1)), (5, .lst 1 (s39.1.map eStr) (.cur z39)), (6, .lst 7 (x2.map eTApiStmt) (.cur w1)), (7, .v (.int .i64 s39.2)), (8, .v (.string y67))], [], [(1, z39), (7, w1)]⟩ : S)) ?_ ?_
     ·clear hm; have hm := yes_of q67
      refine wpD_cond rfl (fun hc68 => ?_) (fun hc68 => ?_)
      ·replace hm := yes_t hc68 hm
       refine wpD_region ?_
       refine pu ?_
       refine pu ?_
       obtain ⟨x69, q69, hm⟩ := yes_bind hm
       refine p_elem htab rfl rfl rfl rfl rfl rfl rfl rfl rfl rfl (idx_nonneg q69) (idx_map q69) ?_
       refine p_eq (i := 27) rfl (Wk.of_eq (congrArg D.el (eTApiStmt_eq x69))) ?_
       refine pu ?_
       refine p_loadEl htab rfl rfl rfl rfl rfl rfl rfl rfl ?_
       refine pu ?_
       refine ops_nil ?_
       have e67 := yes_eq hm; subst e67
       refine ⟨rfl, ?_⟩
       exact WkX.of () (WkS.perm (WkS.cons rfl (Wk.refl _) (WkS.cons rfl (Wk.refl _) (WkS.cons rfl (Wk.refl _) (WkS.cons rfl (Wk.refl _) (WkS.cons rfl (Wk.refl _) (WkS.cons rfl (Wk.refl _) (WkS.nil))))))) Pf Pf)
      ·replace hm := yes_f hc68 hm
       refine wpD_skip ?_
       have e67 := yes_eq hm; subst e67
       refine ⟨rfl, ?_⟩
       exact WkX.of () (WkS.perm (WkS.cons rfl (Wk.refl _) (WkS.cons rfl (Wk.refl _) (WkS.cons rfl (Wk.refl _) (WkS.cons rfl (Wk.refl _) (WkS.cons rfl (Wk.refl _) (WkS.cons rfl (Wk.refl _) (WkS.nil))))))) Pf Pf)
     ·intro s67 hw67; clear hm; have hm := ho67; clear q67 ho67
      refine then_normal ?_
      refine wpD_wkX hw67 (fun z67 => ?_)
      refine wpD_sr ?_
      refine pu ?_
      refine pu ?_
      refine ops_nt ?_
      refine wpD_cond rfl (fun hc70 => ?_) (fun hc70 => ?_)
      ·replace hm := yes_t hc70 hm
       refine wpD_region ?_
       refine pu ?_
       refine pu ?_
       obtain ⟨x72, q72, hm⟩ := yes_bind hm
       refine p_callG (r11_put_ok s39.1 y67 x72 q72) rfl rfl rfl rfl rfl (WkL.cons (Wk.no) (WkL.cons (Wk.refl _) Wl)) Pf Pf ?_
       rintro _ _ _ ⟨w71, rfl, rfl, rfl⟩
       refine pu ?_
       refine ops_nil ?_
       refine block_normal ?_
       refine then_normal ?_
       refine wpD_region ?_
       iterate 3 refine pu ?_
       refine ops_nil ?_
       refine then_normal ⟨_, lp_next hm, ?_⟩
       exact WkX.of w71 (WkS.perm (WkS.cons rfl (Wk.refl _) (WkS.cons rfl (Wk.refl _) (WkS.cons rfl (Wk.refl _) (WkS.cons rfl (Wk.refl _) (WkS.cons rfl (Wk.refl _) (WkS.nil)))))) Pf ((perm_at (j := 0) rfl).trans (List.Perm.cons _ ((perm_at (j := 1) rfl).trans (List.Perm.cons _ Pf)))))
      ·replace hm := yes_f hc70 hm
       refine wpD_skip ?_
       refine block_normal ?_
       refine then_normal ?_
       refine wpD_region ?_
       iterate 3 refine pu ?_
       refine ops_nil ?_
       refine then_normal ⟨_, lp_next hm, ?_⟩
       exact WkX.of z39 (WkS.perm (WkS.cons rfl (Wk.refl _) (WkS.cons rfl (Wk.refl _) (WkS.cons rfl (Wk.refl _) (WkS.cons rfl (Wk.refl _) (WkS.cons rfl (Wk.refl _) (WkS.nil)))))) Pf Pf)
    ·replace hm := yes_f hc63 hm
     refine wpD_exit ?_
     refine then_exit ?_
     have e39 := lp_done hm; subst e39; clear hm; have hm := hq39
     refine then_exit ?_
     refine block_hit ?_
     have e38 := yes_eq hm; subst e38
     refine ⟨rfl, ?_⟩
     exact WkX.of z39 (WkS.perm (WkS.cons rfl (Wk.refl _) (WkS.cons rfl (Wk.refl _) (WkS.cons rfl (Wk.refl _) (WkS.nil)))) Pf Pf)
  ·intro s38 hw38; clear hm; have hm := ho38; clear q38 ho38
   refine then_normal ?_
   refine wpD_wkX hw38 (fun z38 => ?_)
   refine wpD_sr ?_
   refine pu ?_
   obtain ⟨x74, q74, hm⟩ := yes_bind hm
   refine pG (r11_Exprs_ok a0 x74 q74) Wl Pf Pf ?_
   rintro _ _ _ ⟨w73, rfl, rfl, rfl⟩
   refine pu ?_
   refine ops_nt ?_
   refine wpD_seq ?_
   refine wpD_sr ?_
   refine pu ?_
   refine ops_nt ?_
   obtain ⟨y106, q106, ho106⟩ := yes_bind hm
   refine wpD_mid (Y := Value) (fun z106 => (⟨[(5, .lst 1 (y106.map eStr) (.cur z106))], [], [(1, z106)]⟩ : S)) ?_ ?_
   ·clear hm; have hm := yes_of q106
    refine wpD_block ?_
    obtain ⟨u107, hl107, hq107⟩ := yes_m hm
    refine loop_M (Y := Value) hl107 (fun s107 z107 => (⟨[(1, .v (.bool a1)), (5, .lst 1 (s107.1.map eStr) (.cur z107)), (9, .lst 5 (x74.map eTApiExpr) (.cur w73)), (10, .v (.int .i64 s107.2))], [], [(1, z107), (5, w73)]⟩ : S)) ?_ ?_
    ·skip
     exact WkX.of z38 (WkS.perm (WkS.cons rfl (Wk.refl _) (WkS.cons rfl (Wk.refl _) (WkS.cons rfl (Wk.refl _) (WkS.cons rfl (Wk.refl _) (WkS.nil))))) Pf ((perm_at (j := 1) rfl).trans (List.Perm.cons _ ((perm_at (j := 0) rfl).trans (List.Perm.cons _ Pf)))))
    ·intro G107 s107 z107 hm
     refine wpD_seq ?_
     refine wpD_seq ?_
     obtain ⟨y129, q129, ho129⟩ := yes_bind hm
     refine wpD_mid (Y := Unit) (fun z129 => (⟨[(1, .v (.bool a1)), (5, .lst 1 (s107.1.map eStr) (.cur z107)), (9, .lst 5 (x74.map eTApiExpr) (.cur w73)), (10, .v (.int .i64 s107.2)), (44, .v (.bool y129))], [], [(1, z107), (5, w73)]⟩ : S)) ?_ ?_
     ·clear hm; have hm := yes_of q129
      refine wpD_region ?_
      refine pu ?_
      refine pu ?_
      refine p_lenL htab rfl rfl rfl rfl rfl rfl rfl (by first | exact map_len | rfl) ?_
      refine pu ?_
      refine pu ?_
      refine p_split (i := 41) rfl (fun hg130 => ?_) (fun hg130 => ?_)
      ·replace hm := yes_t hg130 hm
       refine pu ?_
       refine pu ?_
       refine p_pickT rfl rfl rfl rfl rfl rfl ?_
       refine ops_nil ?_
       have e129 := yes_eq hm; subst e129
       refine ⟨rfl, ?_⟩
       exact WkX.of () (WkS.perm (WkS.cons rfl (Wk.refl _) (WkS.cons rfl (Wk.refl _) (WkS.cons rfl (Wk.refl _) (WkS.cons rfl (Wk.refl _) (WkS.cons rfl (Wk.refl _) (WkS.nil)))))) Pf Pf)
      ·replace hm := yes_f hg130 hm
       refine pK ?_
       refine pK ?_
       refine p_pickF rfl rfl rfl rfl rfl rfl ?_
       refine ops_nil ?_
       have e129 := yes_eq hm; subst e129
       refine ⟨rfl, ?_⟩
       exact WkX.of () (WkS.perm (WkS.cons rfl (Wk.refl _) (WkS.cons rfl (Wk.refl _) (WkS.cons rfl (Wk.refl _) (WkS.cons rfl (Wk.refl _) (WkS.cons rfl (Wk.refl _) (WkS.nil)))))) Pf Pf)
     ·intro s129 hw129; clear hm; have hm := ho129; clear q129 ho129
      refine then_normal ?_
      refine wpD_wkX hw129 (fun z129 => ?_)
      refine wpD_cond rfl (fun hc131 => ?_) (fun hc131 => ?_)
      ·replace hm := yes_t hc131 hm
       refine wpD_skip ?_
       refine then_normal ?_
       refine wpD_seq ?_
       refine wpD_block ?_
       refine wpD_sr ?_
       refine pu ?_
       refine pu ?_
       obtain ⟨x132, q132, hm⟩ := yes_bind hm
       refine p_elem htab rfl rfl rfl rfl rfl rfl rfl rfl rfl rfl (idx_nonneg q132) (idx_map q132) ?_
       refine p_eq (i := 49) rfl (Wk.of_eq (congrArg D.el (eTApiExpr_eq x132))) ?_
       refine pu ?_
       refine p_loadEl htab rfl rfl rfl rfl rfl rfl rfl rfl ?_
       refine pu ?_
       refine ops_nt ?_
       refine wpD_cond rfl (fun hc133 => ?_) (fun hc133 => ?_)
       ·replace hm := yes_t hc133 hm
        refine wpD_region ?_
        iterate 3 refine pu ?_
        obtain ⟨x134, q134, hm⟩ := yes_bind hm
        refine p_elem htab rfl rfl rfl rfl rfl rfl rfl rfl rfl rfl (idx_nonneg q134) (idx_map q134) ?_
        refine p_eq (i := 56) rfl (Wk.of_eq (congrArg D.el (eTApiExpr_eq x134))) ?_
        refine pu ?_
        refine p_loadEl htab rfl rfl rfl rfl rfl rfl rfl rfl ?_
        obtain ⟨x136, q136, hm⟩ := yes_bind hm
        refine p_callG (r11_put_ok s107.1 x134.gName x136 q136) rfl rfl rfl rfl rfl (WkL.cons (Wk.no) (WkL.cons (Wk.refl _) Wl)) Pf Pf ?_
        rintro _ _ _ ⟨w135, rfl, rfl, rfl⟩
        refine pu ?_
        refine ops_nil ?_
        refine block_normal ?_
        refine then_normal ?_
        refine wpD_region ?_
        iterate 3 refine pu ?_
        refine ops_nil ?_
        refine then_normal ⟨_, lp_next hm, ?_⟩
        exact WkX.of w135 (WkS.perm (WkS.cons rfl (Wk.refl _) (WkS.cons rfl (Wk.refl _) (WkS.cons rfl (Wk.refl _) (WkS.cons rfl (Wk.refl _) (WkS.nil))))) Pf ((perm_at (j := 0) rfl).trans (List.Perm.cons _ ((perm_at (j := 1) rfl).trans (List.Perm.cons _ Pf)))))
       ·replace hm := yes_f hc133 hm
        refine wpD_skip ?_
        refine block_normal ?_
        refine then_normal ?_
        refine wpD_region ?_
        iterate 3 refine pu ?_
        refine ops_nil ?_
        refine then_normal ⟨_, lp_next hm, ?_⟩
        exact WkX.of z107 (WkS.perm (WkS.cons rfl (Wk.refl _) (WkS.cons rfl (Wk.refl _) (WkS.cons rfl (Wk.refl _) (WkS.cons rfl (Wk.refl _) (WkS.nil))))) Pf Pf)
      ·replace hm := yes_f hc131 hm
       refine wpD_exit ?_
       refine then_exit ?_
       have e107 := lp_done hm; subst e107; clear hm; have hm := hq107
       refine then_exit ?_
       refine block_hit ?_
       have e106 := yes_eq hm; subst e106
       refine ⟨rfl, ?_⟩
       exact WkX.of z107 (WkS.perm (WkS.cons rfl (Wk.refl _) (WkS.nil)) Pf Pf)
   ·intro s106 hw106; clear hm; have hm := ho106; clear q106 ho106
    refine then_normal ?_
    refine wpD_wkX hw106 (fun z106 => ?_)
    refine wpD_sr ?_
    refine pu ?_
    refine pu ?_
    refine ops_nt ?_
    refine wpD_ret ?_
    have er137 := yes_eq hm; subst er137
    refine rP (t' := [(4, .lst 1 (y106.map eStr) (.cur z106))]) [] [0] 0 (wC wN) (lT lN) ?_
    exact ⟨z106, rfl, rfl, rfl⟩
noncomputable def r07_In (a0 : List ByteArray) (a1 : ByteArray) : Option (Bool) :=
  (Option.bind (α := (Unit) ⊕ (Bool)) (loopM (fun (s15 : Int) => (bif (decide (s15 < (a0.length : Int))) then ((idx a0 s15).bind fun x25 => (bif (decide (x25 = a1)) then some (.done (.inr true)) else some (.next (IntKind.i64.wrap (s15 + (1 : Int)))))) else some (.done (.inl ())))) (0 : Int)) (Sum.elim (fun y14 => some false) (fun r => some r)))
set_option maxRecDepth 100000 in
set_option maxHeartbeats 2000000 in
theorem r07_In_ok (a0 : List ByteArray) (a1 : ByteArray) (r : Bool) (h0 : r07_In a0 a1 = some r) : CallsD Try.prog 29 [.lst 1 (a0.map eStr) .no, .v (.string a1)] [] [] (fun d h k => d = .v (.bool r) ∧ h = [] ∧ k = []) := by
  have hm := yes_of h0
  unfold r07_In at hm
  clear h0
  refine enterX htab Try.func29 rfl rfl rfl rfl rfl (fun C => ?_)
  refine wpD_sr ?_
  refine pu ?_
  refine ops_nt ?_
  refine wpD_seq ?_
  refine wpD_sr ?_
  refine pu ?_
  refine ops_nt ?_
  obtain ⟨x14, q14, ho14⟩ := yes_bind hm
  refine wpD_midX (τ := Unit) (Y := Unit) (fun y14 z14 => (⟨[], [], []⟩ : S)) x14 ?_ ?_
  ·clear hm; have hm := yes_of q14
   refine wpD_block ?_
   obtain ⟨u15, hl15, hq15⟩ := yes_m hm
   refine loop_M (Y := Unit) hl15 (fun s15 z15 => (⟨[(0, .lst 1 (a0.map eStr) .no), (1, .v (.string a1)), (5, .v (.int .i64 s15))], [], []⟩ : S)) ?_ ?_
   ·skip
    exact WkX.of () (WkS.perm (WkS.cons rfl (Wk.refl _) (WkS.cons rfl (Wk.refl _) (WkS.cons rfl (Wk.refl _) (WkS.nil)))) Pf Pf)
   ·intro G15 s15 z15 hm
    refine wpD_seq ?_
    refine wpD_sr ?_
    refine pu ?_
    refine pu ?_
    refine p_lenL htab rfl rfl rfl rfl rfl rfl rfl (by first | exact map_len | rfl) ?_
    refine pu ?_
    refine ops_nt ?_
    refine wpD_cond rfl (fun hc24 => ?_) (fun hc24 => ?_)
    ·replace hm := yes_t hc24 hm
     refine wpD_skip ?_
     refine then_normal ?_
     refine wpD_seq ?_
     refine wpD_block ?_
     refine wpD_sr ?_
     refine pu ?_
     refine pu ?_
     obtain ⟨x25, q25, hm⟩ := yes_bind hm
     refine p_elem htab rfl rfl rfl rfl rfl rfl rfl rfl rfl rfl (idx_nonneg q25) (idx_map q25) ?_
     refine p_loadEl htab rfl rfl rfl rfl rfl rfl rfl rfl ?_
     refine pu ?_
     refine pu ?_
     refine ops_nt ?_
     refine wpD_cond rfl (fun hc26 => ?_) (fun hc26 => ?_)
     ·replace hm := yes_t hc26 hm
      refine wpD_sr ?_
      refine pu ?_
      refine ops_nt ?_
      refine wpD_ret ?_
      refine block_ret ?_
      refine then_ret ?_
      have e15 := lp_done hm; subst e15; clear hm; have hm := hq15
      refine then_ret ?_
      refine block_ret ?_
      have e14 := yes_eq hm; subst e14; refine midX_inr ?_; clear hm; have hm := ho14; simp only [Sum.elim_inr] at hm
      refine then_ret ?_
      have er27 := yes_eq hm; subst er27
      refine rP (t' := [(4, .v (.bool true))]) [] [] 0 (wC wN) (lT lN) ?_
      exact ⟨rfl, rfl, rfl⟩
     ·replace hm := yes_f hc26 hm
      refine wpD_skip ?_
      refine block_normal ?_
      refine then_normal ?_
      refine wpD_region ?_
      iterate 3 refine pu ?_
      refine ops_nil ?_
      refine then_normal ⟨_, lp_next hm, ?_⟩
      exact WkX.of () (WkS.perm (WkS.cons rfl (Wk.refl _) (WkS.cons rfl (Wk.refl _) (WkS.cons rfl (Wk.refl _) (WkS.nil)))) Pf Pf)
    ·replace hm := yes_f hc24 hm
     refine wpD_exit ?_
     refine then_exit ?_
     have e15 := lp_done hm; subst e15; clear hm; have hm := hq15
     refine then_exit ?_
     refine block_hit ?_
     have e14 := yes_eq hm; subst e14
     refine midX_inl ?_
     exact WkX.of () (WkS.perm (WkS.nil) Pf Pf)
  ·intro y14 s14 hx14 hw14; subst hx14; clear hm; have hm := ho14; simp only [Sum.elim_inl] at hm; clear q14 ho14
   refine then_normal ?_
   refine wpD_wkX hw14 (fun z14 => ?_)
   refine wpD_sr ?_
   refine pu ?_
   refine ops_nt ?_
   refine wpD_ret ?_
   have er28 := yes_eq hm; subst er28
   refine rP (t' := [(4, .v (.bool false))]) [] [] 0 (wC wN) (lT lN) ?_
   exact ⟨rfl, rfl, rfl⟩
noncomputable def r18_Touched (a0 : TApiProgram) (a1 : TApiProgram) : Option (List ByteArray) :=
  ((r18_Of a0 a1 true).bind fun x4 => ((r18_Of a0 a1 false).bind fun x6 => ((app 96 ([] : List TApiFunc) a0.gFuncs).bind fun x7 => ((app 96 x7 a1.gFuncs).bind fun x8 => (Option.bind (α := List ByteArray) (loopM (fun (s174 : List ByteArray × Int) => (bif (decide (s174.2 < (x8.length : Int))) then ((idx x8 s174.2).bind fun x284 => ((r11_Names x284.gBody false).bind fun x286 => (Option.bind (α := List ByteArray) (loopM (fun (s312 : List ByteArray × Int) => (bif (decide (s312.2 < (x6.length : Int))) then ((idx x6 s312.2).bind fun x330 => ((r07_In x286 x330).bind fun x331 => (bif x331 then ((idx x8 s174.2).bind fun x333 => ((r07_Put s312.1 x333.gName).bind fun x335 => some (.next (x335, (IntKind.i64.wrap (s312.2 + (1 : Int))))))) else some (.next (s312.1, (IntKind.i64.wrap (s312.2 + (1 : Int)))))))) else some (.done s312.1))) (s174.1, (0 : Int))) fun y311 => some (.next (y311, (IntKind.i64.wrap (s174.2 + (1 : Int)))))))) else some (.done s174.1))) (x4, (0 : Int))) fun y173 => some y173)))))
set_option maxRecDepth 100000 in
set_option maxHeartbeats 2000000 in
theorem r18_Touched_ok (a0 : TApiProgram) (a1 : TApiProgram) (r : List ByteArray) (h0 : r18_Touched a0 a1 = some r) : CallsD Try.prog 12 [eTApiProgram a0, eTApiProgram a1] [] [] (fun d h k => ∃ y0, d = .lst 1 (r.map eStr) (.cur y0) ∧ h = [] ∧ k = [(1, y0)]) := by
  have hm := yes_of h0
  unfold r18_Touched at hm
  clear h0
  refine enterX htab Try.func12 rfl rfl rfl rfl rfl (fun C => ?_)
  refine wpD_sr ?_
  refine p_box rfl rfl rfl rfl rfl rfl rfl (fun b1 => ?_)
  refine p_box rfl rfl rfl rfl rfl rfl rfl (fun b2 => ?_)
  refine pu ?_
  refine ops_n2 ?_
  refine p_load (d := eTApiProgram a0) 0 htab rfl rfl rfl rfl rfl rfl rfl rfl ?_
  refine p_load (d := eTApiProgram a1) 1 htab rfl rfl rfl rfl rfl rfl rfl rfl ?_
  obtain ⟨x4, q4, hm⟩ := yes_bind hm
  refine pG (r18_Of_ok a0 a1 true x4 q4) Wl Pf Pf ?_
  rintro _ _ _ ⟨w3, rfl, rfl, rfl⟩
  refine pu ?_
  refine ops_n2 ?_
  refine p_load (d := eTApiProgram a0) 0 htab rfl rfl rfl rfl rfl rfl rfl rfl ?_
  refine p_load (d := eTApiProgram a1) 1 htab rfl rfl rfl rfl rfl rfl rfl rfl ?_
  obtain ⟨x6, q6, hm⟩ := yes_bind hm
  refine pG (r18_Of_ok a0 a1 false x6 q6) Wl Pf Pf ?_
  rintro _ _ _ ⟨w5, rfl, rfl, rfl⟩
  refine pu ?_
  refine ops_n2 ?_
  refine pu ?_
  refine ops_n2 ?_
  refine pu ?_
  refine pu ?_
  refine pL 0 ?_
  obtain ⟨x7, q7, hm⟩ := yes_bind hm
  refine p_app0 htab rfl rfl rfl rfl rfl rfl rfl rfl rfl rfl rfl rfl rfl rfl rfl (by simpa using app_bound (e := eTApiFunc) q7) (fun v7 => ?_)
  refine p_mapD0 (i := 20) q7 rfl ?_
  refine pu ?_
  refine ops_n2 ?_
  refine pu ?_
  refine pu ?_
  refine pL 1 ?_
  obtain ⟨x8, q8, hm⟩ := yes_bind hm
  refine p_appC 0 htab rfl rfl rfl rfl rfl rfl rfl rfl rfl rfl rfl rfl rfl rfl rfl rfl rfl (app_bound q8) (fun v8 => ?_)
  refine p_mapD (i := 24) q8 rfl ?_
  refine pu ?_
  refine ops_nt ?_
  refine wpD_seq ?_
  refine wpD_sr ?_
  refine pu ?_
  refine ops_nt ?_
  obtain ⟨y173, q173, ho173⟩ := yes_bind hm
  refine wpD_mid (Y := Value) (fun z173 => (⟨[(5, .lst 1 (y173.map eStr) (.cur z173))], [], [(1, z173)]⟩ : S)) ?_ ?_
  ·clear hm; have hm := yes_of q173
   refine wpD_block ?_
   obtain ⟨u174, hl174, hq174⟩ := yes_m hm
   refine loop_M (Y := Value) hl174 (fun s174 z174 => (⟨[(5, .lst 1 (s174.1.map eStr) (.cur z174)), (6, .lst 1 (x6.map eStr) (.cur w5)), (7, .lst 5 (x8.map eTApiFunc) (.cur v8)), (8, .v (.int .i64 s174.2))], [], [(1, z174), (5, v8), (1, w5)]⟩ : S)) ?_ ?_
   ·skip
    exact WkX.of w3 (WkS.perm (WkS.cons rfl (Wk.refl _) (WkS.cons rfl (Wk.refl _) (WkS.cons rfl (Wk.refl _) (WkS.cons rfl (Wk.refl _) (WkS.nil))))) Pf ((perm_at (j := 2) rfl).trans (List.Perm.cons _ ((perm_at (j := 0) rfl).trans (List.Perm.cons _ ((perm_at (j := 0) rfl).trans (List.Perm.cons _ Pf)))))))
   ·intro G174 s174 z174 hm
    refine wpD_seq ?_
    refine wpD_sr ?_
    refine pu ?_
    refine pu ?_
    refine p_lenL htab rfl rfl rfl rfl rfl rfl rfl (by first | exact map_len | rfl) ?_
    refine pu ?_
    refine ops_nt ?_
    refine wpD_cond rfl (fun hc283 => ?_) (fun hc283 => ?_)
    ·replace hm := yes_t hc283 hm
     refine wpD_skip ?_
     refine then_normal ?_
     refine wpD_seq ?_
     refine wpD_block ?_
     refine wpD_sr ?_
     refine pu ?_
     refine pu ?_
     obtain ⟨x284, q284, hm⟩ := yes_bind hm
     refine p_elem htab rfl rfl rfl rfl rfl rfl rfl rfl rfl rfl (idx_nonneg q284) (idx_map q284) ?_
     refine pu ?_
     refine p_loadEl htab rfl rfl rfl rfl rfl rfl rfl rfl ?_
     obtain ⟨x286, q286, hm⟩ := yes_bind hm
     refine pG (r11_Names_ok x284.gBody false x286 q286) Wl Pf Pf ?_
     rintro _ _ _ ⟨w285, rfl, rfl, rfl⟩
     refine pu ?_
     refine ops_n2 ?_
     refine pu ?_
     refine ops_nt ?_
     obtain ⟨y311, q311, ho311⟩ := yes_bind hm
     refine wpD_mid (Y := Value) (fun z311 => (⟨[(5, .lst 1 (y311.map eStr) (.cur z311)), (6, .lst 1 (x6.map eStr) (.cur w5)), (7, .lst 5 (x8.map eTApiFunc) (.cur v8)), (8, .v (.int .i64 s174.2))], [], [(1, z311), (5, v8), (1, w5)]⟩ : S)) ?_ ?_
     ·clear hm; have hm := yes_of q311
      refine wpD_block ?_
      obtain ⟨u312, hl312, hq312⟩ := yes_m hm
      refine loop_M (Y := Value) hl312 (fun s312 z312 => (⟨[(5, .lst 1 (s312.1.map eStr) (.cur z312)), (6, .lst 1 (x6.map eStr) (.cur w5)), (7, .lst 5 (x8.map eTApiFunc) (.cur v8)), (8, .v (.int .i64 s174.2)), (9, .lst 1 (x286.map eStr) (.cur w285)), (10, .v (.int .i64 s312.2))], [], [(1, z312), (1, w285), (5, v8), (1, w5)]⟩ : S)) ?_ ?_
      ·skip
       exact WkX.of z174 (WkS.perm (WkS.cons rfl (Wk.refl _) (WkS.cons rfl (Wk.refl _) (WkS.cons rfl (Wk.refl _) (WkS.cons rfl (Wk.refl _) (WkS.cons rfl (Wk.refl _) (WkS.cons rfl (Wk.refl _) (WkS.nil))))))) Pf ((perm_at (j := 1) rfl).trans (List.Perm.cons _ ((perm_at (j := 0) rfl).trans (List.Perm.cons _ ((perm_at (j := 0) rfl).trans (List.Perm.cons _ ((perm_at (j := 0) rfl).trans (List.Perm.cons _ Pf)))))))))
      ·intro G312 s312 z312 hm
       refine wpD_seq ?_
       refine wpD_sr ?_
       refine pu ?_
       refine pu ?_
       refine p_lenL htab rfl rfl rfl rfl rfl rfl rfl (by first | exact map_len | rfl) ?_
       refine pu ?_
       refine ops_nt ?_
       refine wpD_cond rfl (fun hc329 => ?_) (fun hc329 => ?_)
       ·replace hm := yes_t hc329 hm
        refine wpD_skip ?_
        refine then_normal ?_
        refine wpD_seq ?_
        refine wpD_block ?_
        refine wpD_sr ?_
        iterate 3 refine pu ?_
        obtain ⟨x330, q330, hm⟩ := yes_bind hm
        refine p_elem htab rfl rfl rfl rfl rfl rfl rfl rfl rfl rfl (idx_nonneg q330) (idx_map q330) ?_
        refine p_loadEl htab rfl rfl rfl rfl rfl rfl rfl rfl ?_
        obtain ⟨x331, q331, hm⟩ := yes_bind hm
        refine p_call0 (r07_In_ok x286 x330 x331 q331) rfl rfl rfl rfl rfl (WkL.cons (Wk.no) (WkL.cons (Wk.refl _) Wl)) ?_
        rintro _ rfl
        refine ops_nt ?_
        refine wpD_cond rfl (fun hc332 => ?_) (fun hc332 => ?_)
        ·replace hm := yes_t hc332 hm
         refine wpD_region ?_
         iterate 3 refine pu ?_
         obtain ⟨x333, q333, hm⟩ := yes_bind hm
         refine p_elem htab rfl rfl rfl rfl rfl rfl rfl rfl rfl rfl (idx_nonneg q333) (idx_map q333) ?_
         refine pu ?_
         refine p_loadEl htab rfl rfl rfl rfl rfl rfl rfl rfl ?_
         obtain ⟨x335, q335, hm⟩ := yes_bind hm
         refine p_callG (r07_Put_ok s312.1 x333.gName x335 q335) rfl rfl rfl rfl rfl (WkL.cons (Wk.no) (WkL.cons (Wk.refl _) Wl)) Pf Pf ?_
         rintro _ _ _ ⟨w334, rfl, rfl, rfl⟩
         refine pu ?_
         refine ops_nil ?_
         refine block_normal ?_
         refine then_normal ?_
         refine wpD_region ?_
         iterate 3 refine pu ?_
         refine ops_nil ?_
         refine then_normal ⟨_, lp_next hm, ?_⟩
         exact WkX.of w334 (WkS.perm (WkS.cons rfl (Wk.refl _) (WkS.cons rfl (Wk.refl _) (WkS.cons rfl (Wk.refl _) (WkS.cons rfl (Wk.refl _) (WkS.cons rfl (Wk.refl _) (WkS.cons rfl (Wk.refl _) (WkS.nil))))))) Pf ((perm_at (j := 0) rfl).trans (List.Perm.cons _ ((perm_at (j := 1) rfl).trans (List.Perm.cons _ ((perm_at (j := 1) rfl).trans (List.Perm.cons _ ((perm_at (j := 1) rfl).trans (List.Perm.cons _ Pf)))))))))
        ·replace hm := yes_f hc332 hm
         refine wpD_skip ?_
         refine block_normal ?_
         refine then_normal ?_
         refine wpD_region ?_
         iterate 3 refine pu ?_
         refine ops_nil ?_
         refine then_normal ⟨_, lp_next hm, ?_⟩
         exact WkX.of z312 (WkS.perm (WkS.cons rfl (Wk.refl _) (WkS.cons rfl (Wk.refl _) (WkS.cons rfl (Wk.refl _) (WkS.cons rfl (Wk.refl _) (WkS.cons rfl (Wk.refl _) (WkS.cons rfl (Wk.refl _) (WkS.nil))))))) Pf Pf)
       ·replace hm := yes_f hc329 hm
        refine wpD_exit ?_
        refine then_exit ?_
        have e312 := lp_done hm; subst e312; clear hm; have hm := hq312
        refine then_exit ?_
        refine block_hit ?_
        have e311 := yes_eq hm; subst e311
        refine ⟨rfl, ?_⟩
        exact WkX.of z312 (WkS.perm (WkS.cons rfl (Wk.refl _) (WkS.cons rfl (Wk.refl _) (WkS.cons rfl (Wk.refl _) (WkS.cons rfl (Wk.refl _) (WkS.nil))))) Pf ((perm_at (j := 0) rfl).trans (List.Perm.cons _ ((perm_at (j := 1) rfl).trans (List.Perm.cons _ ((perm_at (j := 1) rfl).trans (List.Perm.cons _ Pf)))))))
     ·intro s311 hw311; clear hm; have hm := ho311; clear q311 ho311
      refine block_normal ?_
      refine then_normal ?_
      refine wpD_wkX hw311 (fun z311 => ?_)
      refine wpD_region ?_
      iterate 3 refine pu ?_
      refine ops_nil ?_
      refine then_normal ⟨_, lp_next hm, ?_⟩
      exact WkX.of z311 (WkS.perm (WkS.cons rfl (Wk.refl _) (WkS.cons rfl (Wk.refl _) (WkS.cons rfl (Wk.refl _) (WkS.cons rfl (Wk.refl _) (WkS.nil))))) Pf Pf)
    ·replace hm := yes_f hc283 hm
     refine wpD_exit ?_
     refine then_exit ?_
     have e174 := lp_done hm; subst e174; clear hm; have hm := hq174
     refine then_exit ?_
     refine block_hit ?_
     have e173 := yes_eq hm; subst e173
     refine ⟨rfl, ?_⟩
     exact WkX.of z174 (WkS.perm (WkS.cons rfl (Wk.refl _) (WkS.nil)) Pf Pf)
  ·intro s173 hw173; clear hm; have hm := ho173; clear q173 ho173
   refine then_normal ?_
   refine wpD_wkX hw173 (fun z173 => ?_)
   refine wpD_sr ?_
   refine pu ?_
   refine pu ?_
   refine ops_nt ?_
   refine wpD_ret ?_
   have er336 := yes_eq hm; subst er336
   refine rP (t' := [(4, .lst 1 (y173.map eStr) (.cur z173))]) [] [0] 0 (wC wN) (lT lN) ?_
   exact ⟨z173, rfl, rfl, rfl⟩
noncomputable def tree_Calls_2 (a0 : TApiExpr) : Option (Unit) :=
  some ()
set_option maxRecDepth 100000 in
set_option maxHeartbeats 2000000 in
theorem tree_Calls_2_ok (a0 : TApiExpr) (r : Unit) (h0 : tree_Calls_2 a0 = some r) : CallsD Try.prog 53 [eTApiExpr a0] [] [] (fun d h k => d = .tup [] ∧ h = [] ∧ k = []) := by
  have hm := yes_of h0
  unfold tree_Calls_2 at hm
  clear h0
  refine enterX htab Try.func53 rfl rfl rfl rfl rfl (fun C => ?_)
  refine w_eq (i := 0) rfl (Wk.of_eq (eTApiExpr_eq a0)) ?_
  refine wpD_region ?_
  refine p_box rfl rfl rfl rfl rfl rfl rfl (fun b1 => ?_)
  refine ops_nil ?_
  have er2 := yes_eq hm; subst er2
  refine rP (t' := []) [] [] 0 wN lN ?_
  exact ⟨rfl, rfl, rfl⟩
noncomputable def tree_walk_12_b (g0 : (TApiExpr) → Option (Unit)) (a0 : TApiExpr) : Option (Unit) :=
  ((tree_Calls_2 a0).bind fun x2 => (Option.bind (α := Unit) (loopM (fun (s20 : Int) => (bif (decide (s20 < (a0.gKids.length : Int))) then ((idx a0.gKids s20).bind fun x32 => ((g0 x32).bind fun x34 => some (.next (IntKind.i64.wrap (s20 + (1 : Int)))))) else some (.done ()))) (0 : Int)) fun y19 => some ()))
set_option maxRecDepth 100000 in
set_option maxHeartbeats 2000000 in
theorem tree_walk_12_b_ok (g0 : (TApiExpr) → Option (Unit)) (hg0 : ∀ (a0 : TApiExpr) (o0 : Nat) (T0 : TypeId) (o1 : Nat) (T1 : TypeId) (r : Unit) (h0 : g0 a0 = some r), CallsD Try.prog 63 [eTApiExpr a0, .ptr o0 0, .ptr o1 0] [(o0, Blk.cells [.fn (.func 53) [] []] T0), (o1, Blk.cells [.fn (.func 63) [] [.ptr o0 0, .ptr o1 0]] T1)] [] (fun d h k => d = .tup [] ∧ h = [(o0, Blk.cells [.fn (.func 53) [] []] T0), (o1, Blk.cells [.fn (.func 63) [] [.ptr o0 0, .ptr o1 0]] T1)] ∧ k = [])) (a0 : TApiExpr) (o0 : Nat) (T0 : TypeId) (o1 : Nat) (T1 : TypeId) (r : Unit) (h0 : tree_walk_12_b g0 a0 = some r) : CallsD Try.prog 63 [eTApiExpr a0, .ptr o0 0, .ptr o1 0] [(o0, Blk.cells [.fn (.func 53) [] []] T0), (o1, Blk.cells [.fn (.func 63) [] [.ptr o0 0, .ptr o1 0]] T1)] [] (fun d h k => d = .tup [] ∧ h = [(o0, Blk.cells [.fn (.func 53) [] []] T0), (o1, Blk.cells [.fn (.func 63) [] [.ptr o0 0, .ptr o1 0]] T1)] ∧ k = []) := by
  have hm := yes_of h0
  unfold tree_walk_12_b at hm
  clear h0
  refine enterX htab Try.func63 rfl rfl rfl rfl rfl (fun C => ?_)
  refine w_eq (i := 0) rfl (Wk.of_eq (eTApiExpr_eq a0)) ?_
  refine wpD_sr ?_
  refine p_box rfl rfl rfl rfl rfl rfl rfl (fun b1 => ?_)
  refine ops_n2 ?_
  refine pL 0 ?_
  refine p_load (d := .agg [.v (.int .i64 a0.gOp), .v (.int .i64 a0.gN), .v (.string a0.gName), .lst 5 (a0.gKids.map eTApiExpr) .no, .v (.int .i64 a0.gAt)]) 2 htab rfl rfl rfl rfl rfl rfl rfl rfl ?_
  obtain ⟨x2, q2, hm⟩ := yes_bind hm
  refine p_callV0 (tree_Calls_2_ok a0 x2 q2) rfl rfl rfl rfl rfl rfl rfl (WkL.cons (Wk.trans (Wk.agg (WkR.refl _)) (Wk.of_eq (eTApiExpr_eq a0).symm)) Wl) ?_
  rintro _ rfl
  refine ops_n2 ?_
  refine pu ?_
  refine pL 2 ?_
  refine p_lenL htab rfl rfl rfl rfl rfl rfl rfl (by first | exact map_len | rfl) ?_
  refine pu ?_
  refine ops_nt ?_
  obtain ⟨y19, q19, ho19⟩ := yes_bind hm
  refine wpD_mid (Y := Unit) (fun z19 => (⟨[], [(o0, Blk.cells [.fn (.func 53) [] []] T0), (o1, Blk.cells [.fn (.func 63) [] [.ptr o0 0, .ptr o1 0]] T1)], []⟩ : S)) ?_ ?_
  ·clear hm; have hm := yes_of q19
   refine wpD_block ?_
   obtain ⟨u20, hl20, hq20⟩ := yes_m hm
   refine loop_M (Y := Unit) hl20 (fun s20 z20 => (⟨[(2, .ptr o1 0), (10, .lst 5 (a0.gKids.map eTApiExpr) .no), (11, .v (.int .i64 (a0.gKids.length : Int))), (12, .v (.int .i64 s20))], [(o0, Blk.cells [.fn (.func 53) [] []] T0), (o1, Blk.cells [.fn (.func 63) [] [.ptr o0 0, .ptr o1 0]] T1)], []⟩ : S)) ?_ ?_
   ·skip
    exact WkX.of () (WkS.perm (WkS.cons rfl (Wk.refl _) (WkS.cons rfl (Wk.refl _) (WkS.cons rfl (Wk.refl _) (WkS.cons rfl (Wk.refl _) (WkS.nil))))) Pf Pf)
   ·intro G20 s20 z20 hm
    refine wpD_sr ?_
    refine pu ?_
    refine ops_nt ?_
    refine wpD_seq ?_
    refine wpD_cond rfl (fun hc31 => ?_) (fun hc31 => ?_)
    ·replace hm := yes_t hc31 hm
     refine wpD_skip ?_
     refine then_normal ?_
     refine wpD_seq ?_
     refine wpD_block ?_
     refine wpD_sr ?_
     obtain ⟨x32, q32, hm⟩ := yes_bind hm
     refine p_elem htab rfl rfl rfl rfl rfl rfl rfl rfl rfl rfl (idx_nonneg q32) (idx_map q32) ?_
     refine p_eq (i := 14) rfl (Wk.of_eq (congrArg D.el (eTApiExpr_eq x32))) ?_
     refine p_loadEl (d := .agg [.v (.int .i64 x32.gOp), .v (.int .i64 x32.gN), .v (.string x32.gName), .lst 5 (x32.gKids.map eTApiExpr) .no, .v (.int .i64 x32.gAt)]) htab rfl rfl rfl rfl rfl rfl rfl rfl ?_
     refine p_alloc htab rfl rfl rfl rfl rfl rfl rfl (fun b33 => ?_)
     refine pS2 (ds' := [.v (.int .i64 x32.gOp), .v (.int .i64 x32.gN), .v (.string x32.gName), .lst 5 (x32.gKids.map eTApiExpr) .no, .v (.int .i64 x32.gAt)]) ?_
     refine ops_nt ?_
     refine wpD_region ?_
     refine pL 1 ?_
     refine p_load (d := .agg [.v (.int .i64 x32.gOp), .v (.int .i64 x32.gN), .v (.string x32.gName), .lst 5 (x32.gKids.map eTApiExpr) .no, .v (.int .i64 x32.gAt)]) 2 htab rfl rfl rfl rfl rfl rfl rfl rfl ?_
     obtain ⟨x34, q34, hm⟩ := yes_bind hm
     refine p_callV (hg0 x32 o0 T0 o1 T1 x34 q34) rfl rfl rfl rfl rfl rfl rfl (WkL.cons (Wk.trans (Wk.agg (WkR.refl _)) (Wk.of_eq (eTApiExpr_eq x32).symm)) (WkL.cons (Wk.refl _) (WkL.cons (Wk.refl _) Wl))) Pf Pf ?_
     rintro _ _ _ ⟨rfl, rfl, rfl⟩
     refine ops_nil ?_
     refine block_normal ?_
     refine then_normal ?_
     refine wpD_region ?_
     refine pu ?_
     refine pu ?_
     refine ops_nil ?_
     refine then_normal ⟨_, lp_next hm, ?_⟩
     exact WkX.of () (WkS.perm (WkS.cons rfl (Wk.refl _) (WkS.cons rfl (Wk.refl _) (WkS.cons rfl (Wk.refl _) (WkS.cons rfl (Wk.refl _) (WkS.nil))))) Pf Pf)
    ·replace hm := yes_f hc31 hm
     refine wpD_exit ?_
     refine then_exit ?_
     have e20 := lp_done hm; subst e20; clear hm; have hm := hq20
     refine then_exit ?_
     refine block_hit ?_
     have e19 := yes_eq hm; subst e19
     refine ⟨rfl, ?_⟩
     exact WkX.of () (WkS.perm (WkS.nil) Pf Pf)
  ·intro s19 hw19; clear hm; have hm := ho19; clear q19 ho19
   refine retX.wkX hw19 (fun z19 => ?_)
   have er35 := yes_eq hm; subst er35
   refine rP (t' := []) [0,0] [] 2 wN lN ?_
   exact ⟨rfl, rfl, rfl⟩
noncomputable def tree_walk_12_g : Nat → ((TApiExpr) → Option (Unit))
  | 0 => (fun _ => none)
  | n + 1 => (tree_walk_12_b ((tree_walk_12_g n)))
theorem tree_walk_12_g_ok : ∀ n, (∀ (a0 : TApiExpr) (o0 : Nat) (T0 : TypeId) (o1 : Nat) (T1 : TypeId) (r : Unit) (h0 : (tree_walk_12_g n) a0 = some r), CallsD Try.prog 63 [eTApiExpr a0, .ptr o0 0, .ptr o1 0] [(o0, Blk.cells [.fn (.func 53) [] []] T0), (o1, Blk.cells [.fn (.func 63) [] [.ptr o0 0, .ptr o1 0]] T1)] [] (fun d h k => d = .tup [] ∧ h = [(o0, Blk.cells [.fn (.func 53) [] []] T0), (o1, Blk.cells [.fn (.func 63) [] [.ptr o0 0, .ptr o1 0]] T1)] ∧ k = []))
  | 0 => fun _ _ _ _ _ _ h0 => by cases h0
  | n + 1 => by
    have ih := tree_walk_12_g_ok n
    exact tree_walk_12_b_ok (tree_walk_12_g n) ih
theorem tree_walk_12_g_le : ∀ n, (∀ (a0 : TApiExpr), Le ((tree_walk_12_g n) a0) ((tree_walk_12_g (n + 1)) a0))
  | 0 => fun _ => Le.none _
  | n + 1 => by
    have ih := tree_walk_12_g_le n
    exact fun a0 => by show Le (tree_walk_12_b ((tree_walk_12_g n)) a0) (tree_walk_12_b ((tree_walk_12_g (n + 1))) a0); unfold tree_walk_12_b; repeat (first | exact Le.refl _ | exact ih _ | assumption | (refine Le.bind ?_ (fun _ => ?_)) | (refine Le.cond ?_ ?_) | (refine Le.loop (fun _ => ?_)) | (refine Le.elim (fun _ => ?_) (fun _ => ?_)))
noncomputable def tree_walk_12 (a0 : TApiExpr) : Option (Unit) := anyN fun n => (tree_walk_12_g n) a0
theorem tree_walk_12_of (a0 : TApiExpr) {r : Unit} (n : Nat) (h : (tree_walk_12_g n) a0 = some r) : tree_walk_12 a0 = some r := anyN_of (fun m => (tree_walk_12_g_le m) a0) h
theorem tree_walk_12_ok (a0 : TApiExpr) (o0 : Nat) (T0 : TypeId) (o1 : Nat) (T1 : TypeId) (r : Unit) (h0 : tree_walk_12 a0 = some r) : CallsD Try.prog 63 [eTApiExpr a0, .ptr o0 0, .ptr o1 0] [(o0, Blk.cells [.fn (.func 53) [] []] T0), (o1, Blk.cells [.fn (.func 63) [] [.ptr o0 0, .ptr o1 0]] T1)] [] (fun d h k => d = .tup [] ∧ h = [(o0, Blk.cells [.fn (.func 53) [] []] T0), (o1, Blk.cells [.fn (.func 63) [] [.ptr o0 0, .ptr o1 0]] T1)] ∧ k = []) :=
  let ⟨n, hn⟩ := anyN_inv h0; (tree_walk_12_g_ok n) a0 o0 T0 o1 T1 r hn
noncomputable def tree_Calls_1_r (a0 : TApiStmt) (m0 : TTreeBagString) : Option (TTreeBagString) :=
  (bif (!decide (a0.gFunc = (ByteArray.mk #[]))) then ((tree_bag_string_add_r m0 a0.gFunc).bind fun x4 => some x4) else some m0)
set_option maxRecDepth 100000 in
set_option maxHeartbeats 2000000 in
theorem tree_Calls_1_r_ok (a0 : TApiStmt) (m0 : TTreeBagString) (o0 : Nat) (T0 : TypeId) (z0_0 : Z3) (r : TTreeBagString) (h0 : tree_Calls_1_r a0 m0 = some r) : CallsD Try.prog 52 [eTApiStmt a0, .ptr o0 0] [(o0, Blk.cells [.v (SL z0_0)] T0), (0, Blk.row 1 (m0.gL.map eStr) (SL z0_0))] [] (fun d h k => ∃ y0, d = .tup [] ∧ h = [(o0, Blk.cells [.v (SL y0)] T0), (0, Blk.row 1 (r.gL.map eStr) (SL y0))] ∧ k = []) := by
  have hm := yes_of h0
  unfold tree_Calls_1_r at hm
  clear h0
  refine enterX htab Try.func52 rfl rfl rfl rfl rfl (fun C => ?_)
  refine w_eq (i := 0) rfl (Wk.of_eq (eTApiStmt_eq a0)) ?_
  refine wpD_sr ?_
  refine p_box rfl rfl rfl rfl rfl rfl rfl (fun b1 => ?_)
  refine ops_n2 ?_
  refine pu ?_
  refine pL 2 ?_
  refine pu ?_
  refine ops_nt ?_
  refine wpD_cond rfl (fun hc2 => ?_) (fun hc2 => ?_)
  ·replace hm := yes_t hc2 hm
   refine wpD_region ?_
   refine pu ?_
   refine pL 2 ?_
   obtain ⟨x4, q4, hm⟩ := yes_bind hm
   refine pG (tree_bag_string_add_r_ok m0 a0.gFunc o0 T0 z0_0 x4 q4) Wl Pf Pf ?_
   rintro _ _ _ ⟨w3, rfl, rfl, rfl⟩
   refine ops_nil ?_
   have er5 := yes_eq hm; subst er5
   refine rP (t' := []) [0,0] [] 2 wN lN ?_
   exact ⟨w3, rfl, rfl, rfl⟩
  ·replace hm := yes_f hc2 hm
   refine wpD_skip ?_
   have er6 := yes_eq hm; subst er6
   refine rP (t' := []) [0,0] [] 2 wN lN ?_
   exact ⟨z0_0, rfl, rfl, rfl⟩
noncomputable def tree_walk_r2_b (g0 : (List TApiStmt) → (TTreeBagString) → Option (TTreeBagString)) (a0 : List TApiStmt) (m0 : TTreeBagString) : Option (TTreeBagString) :=
  (Option.bind (α := List ByteArray) (loopM (fun (s210 : Int × List ByteArray) => (bif (decide (s210.1 < (a0.length : Int))) then ((idx a0 s210.1).bind fun x365 => ((tree_Calls_1_r x365 (⟨s210.2⟩ : TTreeBagString)).bind fun x368 => (Option.bind (α := Unit) (loopM (fun (s390 : Int) => (bif (decide (s390 < (x365.gExps.length : Int))) then ((idx x365.gExps s390).bind fun x407 => ((tree_walk_12 x407).bind fun x409 => some (.next (IntKind.i64.wrap (s390 + (1 : Int)))))) else some (.done ()))) (0 : Int)) fun y389 => ((g0 x365.gKids x368).bind fun x411 => ((g0 x365.gElse x411).bind fun x413 => some (.next ((IntKind.i64.wrap (s210.1 + (1 : Int))), x413.gL))))))) else some (.done s210.2))) ((0 : Int), m0.gL)) fun y209 => some (⟨y209⟩ : TTreeBagString))
set_option maxRecDepth 100000 in
set_option maxHeartbeats 2000000 in
theorem tree_walk_r2_b_ok (g0 : (List TApiStmt) → (TTreeBagString) → Option (TTreeBagString)) (hg0 : ∀ (a0 : List TApiStmt) (m0 : TTreeBagString) (o0 : Nat) (T0 : TypeId) (z0_0 : Z3) (r : TTreeBagString) (h0 : g0 a0 m0 = some r), CallsD Try.prog 41 [.lst 7 (a0.map eTApiStmt) .no, .fn (.func 52) [] [.ptr o0 0], .fn (.func 53) [] []] [(o0, Blk.cells [.v (SL z0_0)] T0), (0, Blk.row 1 (m0.gL.map eStr) (SL z0_0))] [] (fun d h k => ∃ y0, d = .tup [] ∧ h = [(o0, Blk.cells [.v (SL y0)] T0), (0, Blk.row 1 (r.gL.map eStr) (SL y0))] ∧ k = [])) (a0 : List TApiStmt) (m0 : TTreeBagString) (o0 : Nat) (T0 : TypeId) (z0_0 : Z3) (r : TTreeBagString) (h0 : tree_walk_r2_b g0 a0 m0 = some r) : CallsD Try.prog 41 [.lst 7 (a0.map eTApiStmt) .no, .fn (.func 52) [] [.ptr o0 0], .fn (.func 53) [] []] [(o0, Blk.cells [.v (SL z0_0)] T0), (0, Blk.row 1 (m0.gL.map eStr) (SL z0_0))] [] (fun d h k => ∃ y0, d = .tup [] ∧ h = [(o0, Blk.cells [.v (SL y0)] T0), (0, Blk.row 1 (r.gL.map eStr) (SL y0))] ∧ k = []) := by
  have hm := yes_of h0
  unfold tree_walk_r2_b at hm
  clear h0
  refine enterX htab Try.func41 rfl rfl rfl rfl rfl (fun C => ?_)
  refine wpD_sr ?_
  refine p_box rfl rfl rfl rfl rfl rfl rfl (fun b1 => ?_)
  refine ops_n2 ?_
  refine p_alloc htab rfl rfl rfl rfl rfl rfl rfl (fun b2 => ?_)
  refine ops_n2 ?_
  refine pu ?_
  refine pS3 (ds' := [.fn (.func 63) [] [.ptr b1 0, .ptr b2 0]]) ?_
  refine ops_n2 ?_
  refine pu ?_
  refine p_lenL htab rfl rfl rfl rfl rfl rfl rfl (by first | exact map_len | rfl) ?_
  refine pu ?_
  refine ops_nt ?_
  obtain ⟨y209, q209, ho209⟩ := yes_bind hm
  refine wpD_mid (Y := Z3) (fun z209 => (⟨[], [(0, Blk.row 1 (y209.map eStr) (SL z209)), (o0, Blk.cells [.v (SL z209)] T0)], []⟩ : S)) ?_ ?_
  ·clear hm; have hm := yes_of q209
   refine wpD_block ?_
   obtain ⟨u210, hl210, hq210⟩ := yes_m hm
   refine loop_M (Y := Z3) hl210 (fun s210 z210 => (⟨[(1, .fn (.func 52) [] [.ptr o0 0]), (5, .ptr b1 0), (6, .ptr b2 0), (12, .lst 7 (a0.map eTApiStmt) .no), (13, .v (.int .i64 (a0.length : Int))), (14, .v (.int .i64 s210.1))], [(0, Blk.row 1 (s210.2.map eStr) (SL z210)), (o0, Blk.cells [.v (SL z210)] T0), (b1, Blk.cells [.fn (.func 53) [] []] 77), (b2, Blk.cells [.fn (.func 63) [] [.ptr b1 0, .ptr b2 0]] 77)], []⟩ : S)) ?_ ?_
   ·skip
    exact WkX.of z0_0 (WkS.perm (WkS.cons rfl (Wk.refl _) (WkS.cons rfl (Wk.refl _) (WkS.cons rfl (Wk.refl _) (WkS.cons rfl (Wk.refl _) (WkS.cons rfl (Wk.refl _) (WkS.cons rfl (Wk.refl _) (WkS.nil))))))) ((perm_at (j := 1) rfl).trans (List.Perm.cons _ ((perm_at (j := 0) rfl).trans (List.Perm.cons _ ((perm_at (j := 0) rfl).trans (List.Perm.cons _ ((perm_at (j := 0) rfl).trans (List.Perm.cons _ Pf)))))))) Pf)
   ·intro G210 s210 z210 hm
    refine wpD_sr ?_
    refine pu ?_
    refine ops_nt ?_
    refine wpD_seq ?_
    refine wpD_cond rfl (fun hc364 => ?_) (fun hc364 => ?_)
    ·replace hm := yes_t hc364 hm
     refine wpD_skip ?_
     refine then_normal ?_
     refine wpD_seq ?_
     refine wpD_block ?_
     refine wpD_sr ?_
     obtain ⟨x365, q365, hm⟩ := yes_bind hm
     refine p_elem htab rfl rfl rfl rfl rfl rfl rfl rfl rfl rfl (idx_nonneg q365) (idx_map q365) ?_
     refine p_eq (i := 16) rfl (Wk.of_eq (congrArg D.el (eTApiStmt_eq x365))) ?_
     refine p_loadEl (d := .agg [.v (.int .i64 x365.gOp), .v (.string x365.gName), .v (.string x365.gFunc), .lst 5 (x365.gExps.map eTApiExpr) .no, .lst 7 (x365.gKids.map eTApiStmt) .no, .lst 7 (x365.gElse.map eTApiStmt) .no, .v (.int .i64 x365.gAt)]) htab rfl rfl rfl rfl rfl rfl rfl rfl ?_
     refine p_alloc htab rfl rfl rfl rfl rfl rfl rfl (fun b366 => ?_)
     refine pS4 (ds' := [.v (.int .i64 x365.gOp), .v (.string x365.gName), .v (.string x365.gFunc), .lst 5 (x365.gExps.map eTApiExpr) .no, .lst 7 (x365.gKids.map eTApiStmt) .no, .lst 7 (x365.gElse.map eTApiStmt) .no, .v (.int .i64 x365.gAt)]) ?_
     refine ops_n2 ?_
     refine pu ?_
     refine p_load (d := .agg [.v (.int .i64 x365.gOp), .v (.string x365.gName), .v (.string x365.gFunc), .lst 5 (x365.gExps.map eTApiExpr) .no, .lst 7 (x365.gKids.map eTApiStmt) .no, .lst 7 (x365.gElse.map eTApiStmt) .no, .v (.int .i64 x365.gAt)]) 4 htab rfl rfl rfl rfl rfl rfl rfl rfl ?_
     obtain ⟨x368, q368, hm⟩ := yes_bind hm
     refine p_callV (tree_Calls_1_r_ok x365 (⟨s210.2⟩ : TTreeBagString) o0 T0 z210 x368 q368) rfl rfl rfl rfl rfl rfl rfl (WkL.cons (Wk.trans (Wk.agg (WkR.refl _)) (Wk.of_eq (eTApiStmt_eq x365).symm)) (WkL.cons (Wk.refl _) Wl)) ((perm_at (j := 1) rfl).trans (List.Perm.cons _ ((perm_at (j := 0) rfl).trans (List.Perm.cons _ Pf)))) Pf ?_
     rintro _ _ _ ⟨w367, rfl, rfl, rfl⟩
     refine ops_nt ?_
     refine wpD_seq ?_
     refine wpD_sr ?_
     refine pu ?_
     refine pL 4 ?_
     refine p_lenL htab rfl rfl rfl rfl rfl rfl rfl (by first | exact map_len | rfl) ?_
     refine pu ?_
     refine ops_nt ?_
     obtain ⟨y389, q389, ho389⟩ := yes_bind hm
     refine wpD_mid (Y := Unit) (fun z389 => (⟨[(1, .fn (.func 52) [] [.ptr o0 0]), (5, .ptr b1 0), (6, .ptr b2 0), (8, .ptr b366 0), (12, .lst 7 (a0.map eTApiStmt) .no), (13, .v (.int .i64 (a0.length : Int))), (14, .v (.int .i64 s210.1))], [(o0, Blk.cells [.v (SL w367)] T0), (0, Blk.row 1 (x368.gL.map eStr) (SL w367)), (b1, Blk.cells [.fn (.func 53) [] []] 77), (b2, Blk.cells [.fn (.func 63) [] [.ptr b1 0, .ptr b2 0]] 77), (b366, Blk.cells [.v (.int .i64 x365.gOp), .v (.string x365.gName), .v (.string x365.gFunc), .lst 5 (x365.gExps.map eTApiExpr) .no, .lst 7 (x365.gKids.map eTApiStmt) .no, .lst 7 (x365.gElse.map eTApiStmt) .no, .v (.int .i64 x365.gAt)] 73)], []⟩ : S)) ?_ ?_
     ·clear hm; have hm := yes_of q389
      refine wpD_block ?_
      obtain ⟨u390, hl390, hq390⟩ := yes_m hm
      refine loop_M (Y := Unit) hl390 (fun s390 z390 => (⟨[(1, .fn (.func 52) [] [.ptr o0 0]), (5, .ptr b1 0), (6, .ptr b2 0), (8, .ptr b366 0), (12, .lst 7 (a0.map eTApiStmt) .no), (13, .v (.int .i64 (a0.length : Int))), (14, .v (.int .i64 s210.1)), (22, .lst 5 (x365.gExps.map eTApiExpr) .no), (23, .v (.int .i64 (x365.gExps.length : Int))), (24, .v (.int .i64 s390))], [(o0, Blk.cells [.v (SL w367)] T0), (0, Blk.row 1 (x368.gL.map eStr) (SL w367)), (b1, Blk.cells [.fn (.func 53) [] []] 77), (b2, Blk.cells [.fn (.func 63) [] [.ptr b1 0, .ptr b2 0]] 77), (b366, Blk.cells [.v (.int .i64 x365.gOp), .v (.string x365.gName), .v (.string x365.gFunc), .lst 5 (x365.gExps.map eTApiExpr) .no, .lst 7 (x365.gKids.map eTApiStmt) .no, .lst 7 (x365.gElse.map eTApiStmt) .no, .v (.int .i64 x365.gAt)] 73)], []⟩ : S)) ?_ ?_
      ·skip
       exact WkX.of () (WkS.perm (WkS.cons rfl (Wk.refl _) (WkS.cons rfl (Wk.refl _) (WkS.cons rfl (Wk.refl _) (WkS.cons rfl (Wk.refl _) (WkS.cons rfl (Wk.refl _) (WkS.cons rfl (Wk.refl _) (WkS.cons rfl (Wk.refl _) (WkS.cons rfl (Wk.refl _) (WkS.cons rfl (Wk.refl _) (WkS.cons rfl (Wk.refl _) (WkS.nil))))))))))) Pf Pf)
      ·intro G390 s390 z390 hm
       refine wpD_sr ?_
       refine pu ?_
       refine ops_nt ?_
       refine wpD_seq ?_
       refine wpD_cond rfl (fun hc406 => ?_) (fun hc406 => ?_)
       ·replace hm := yes_t hc406 hm
        refine wpD_skip ?_
        refine then_normal ?_
        refine wpD_seq ?_
        refine wpD_block ?_
        refine wpD_sr ?_
        obtain ⟨x407, q407, hm⟩ := yes_bind hm
        refine p_elem htab rfl rfl rfl rfl rfl rfl rfl rfl rfl rfl (idx_nonneg q407) (idx_map q407) ?_
        refine p_eq (i := 26) rfl (Wk.of_eq (congrArg D.el (eTApiExpr_eq x407))) ?_
        refine p_loadEl (d := .agg [.v (.int .i64 x407.gOp), .v (.int .i64 x407.gN), .v (.string x407.gName), .lst 5 (x407.gKids.map eTApiExpr) .no, .v (.int .i64 x407.gAt)]) htab rfl rfl rfl rfl rfl rfl rfl rfl ?_
        refine p_alloc htab rfl rfl rfl rfl rfl rfl rfl (fun b408 => ?_)
        refine pS5 (ds' := [.v (.int .i64 x407.gOp), .v (.int .i64 x407.gN), .v (.string x407.gName), .lst 5 (x407.gKids.map eTApiExpr) .no, .v (.int .i64 x407.gAt)]) ?_
        refine ops_nt ?_
        refine wpD_region ?_
        refine pL 3 ?_
        refine p_load (d := .agg [.v (.int .i64 x407.gOp), .v (.int .i64 x407.gN), .v (.string x407.gName), .lst 5 (x407.gKids.map eTApiExpr) .no, .v (.int .i64 x407.gAt)]) 5 htab rfl rfl rfl rfl rfl rfl rfl rfl ?_
        obtain ⟨x409, q409, hm⟩ := yes_bind hm
        refine p_callV (tree_walk_12_ok x407 b1 77 b2 77 x409 q409) rfl rfl rfl rfl rfl rfl rfl (WkL.cons (Wk.trans (Wk.agg (WkR.refl _)) (Wk.of_eq (eTApiExpr_eq x407).symm)) (WkL.cons (Wk.refl _) (WkL.cons (Wk.refl _) Wl))) ((perm_at (j := 2) rfl).trans (List.Perm.cons _ ((perm_at (j := 2) rfl).trans (List.Perm.cons _ Pf)))) Pf ?_
        rintro _ _ _ ⟨rfl, rfl, rfl⟩
        refine ops_nil ?_
        refine block_normal ?_
        refine then_normal ?_
        refine wpD_region ?_
        refine pu ?_
        refine pu ?_
        refine ops_nil ?_
        refine then_normal ⟨_, lp_next hm, ?_⟩
        exact WkX.of () (WkS.perm (WkS.cons rfl (Wk.refl _) (WkS.cons rfl (Wk.refl _) (WkS.cons rfl (Wk.refl _) (WkS.cons rfl (Wk.refl _) (WkS.cons rfl (Wk.refl _) (WkS.cons rfl (Wk.refl _) (WkS.cons rfl (Wk.refl _) (WkS.cons rfl (Wk.refl _) (WkS.cons rfl (Wk.refl _) (WkS.cons rfl (Wk.refl _) (WkS.nil))))))))))) ((perm_at (j := 2) rfl).trans (List.Perm.cons _ ((perm_at (j := 2) rfl).trans (List.Perm.cons _ ((perm_at (j := 0) rfl).trans (List.Perm.cons _ ((perm_at (j := 0) rfl).trans (List.Perm.cons _ ((perm_at (j := 0) rfl).trans (List.Perm.cons _ Pf)))))))))) Pf)
       ·replace hm := yes_f hc406 hm
        refine wpD_exit ?_
        refine then_exit ?_
        have e390 := lp_done hm; subst e390; clear hm; have hm := hq390
        refine then_exit ?_
        refine block_hit ?_
        have e389 := yes_eq hm; subst e389
        refine ⟨rfl, ?_⟩
        exact WkX.of () (WkS.perm (WkS.cons rfl (Wk.refl _) (WkS.cons rfl (Wk.refl _) (WkS.cons rfl (Wk.refl _) (WkS.cons rfl (Wk.refl _) (WkS.cons rfl (Wk.refl _) (WkS.cons rfl (Wk.refl _) (WkS.cons rfl (Wk.refl _) (WkS.nil)))))))) Pf Pf)
     ·intro s389 hw389; clear hm; have hm := ho389; clear q389 ho389
      refine then_normal ?_
      refine wpD_wkX hw389 (fun z389 => ?_)
      refine wpD_sr ?_
      refine pu ?_
      refine pL 4 ?_
      refine pu ?_
      refine pL 2 ?_
      obtain ⟨x411, q411, hm⟩ := yes_bind hm
      refine pG (hg0 x365.gKids x368 o0 T0 w367 x411 q411) Wl Pf Pf ?_
      rintro _ _ _ ⟨w410, rfl, rfl, rfl⟩
      refine ops_nt ?_
      refine wpD_region ?_
      refine pu ?_
      refine pL 4 ?_
      refine pu ?_
      refine pL 2 ?_
      obtain ⟨x413, q413, hm⟩ := yes_bind hm
      refine pG (hg0 x365.gElse x411 o0 T0 w410 x413 q413) Wl Pf Pf ?_
      rintro _ _ _ ⟨w412, rfl, rfl, rfl⟩
      refine ops_nil ?_
      refine block_normal ?_
      refine then_normal ?_
      refine wpD_region ?_
      refine pu ?_
      refine pu ?_
      refine ops_nil ?_
      refine then_normal ⟨_, lp_next hm, ?_⟩
      exact WkX.of w412 (WkS.perm (WkS.cons rfl (Wk.refl _) (WkS.cons rfl (Wk.refl _) (WkS.cons rfl (Wk.refl _) (WkS.cons rfl (Wk.refl _) (WkS.cons rfl (Wk.refl _) (WkS.cons rfl (Wk.refl _) (WkS.nil))))))) ((perm_at (j := 1) rfl).trans (List.Perm.cons _ ((perm_at (j := 0) rfl).trans (List.Perm.cons _ ((perm_at (j := 0) rfl).trans (List.Perm.cons _ ((perm_at (j := 0) rfl).trans (List.Perm.cons _ Pf)))))))) Pf)
    ·replace hm := yes_f hc364 hm
     refine wpD_exit ?_
     refine then_exit ?_
     have e210 := lp_done hm; subst e210; clear hm; have hm := hq210
     refine then_exit ?_
     refine block_hit ?_
     have e209 := yes_eq hm; subst e209
     refine ⟨rfl, ?_⟩
     exact WkX.of z210 (WkS.perm (WkS.nil) Pf Pf)
  ·intro s209 hw209; clear hm; have hm := ho209; clear q209 ho209
   refine retX.wkX hw209 (fun z209 => ?_)
   have er414 := yes_eq hm; subst er414
   refine rP (t' := []) [1,0] [] 2 wN lN ?_
   exact ⟨z209, rfl, rfl, rfl⟩
noncomputable def tree_walk_r2_g : Nat → ((List TApiStmt) → (TTreeBagString) → Option (TTreeBagString))
  | 0 => (fun _ _ => none)
  | n + 1 => (tree_walk_r2_b ((tree_walk_r2_g n)))
theorem tree_walk_r2_g_ok : ∀ n, (∀ (a0 : List TApiStmt) (m0 : TTreeBagString) (o0 : Nat) (T0 : TypeId) (z0_0 : Z3) (r : TTreeBagString) (h0 : (tree_walk_r2_g n) a0 m0 = some r), CallsD Try.prog 41 [.lst 7 (a0.map eTApiStmt) .no, .fn (.func 52) [] [.ptr o0 0], .fn (.func 53) [] []] [(o0, Blk.cells [.v (SL z0_0)] T0), (0, Blk.row 1 (m0.gL.map eStr) (SL z0_0))] [] (fun d h k => ∃ y0, d = .tup [] ∧ h = [(o0, Blk.cells [.v (SL y0)] T0), (0, Blk.row 1 (r.gL.map eStr) (SL y0))] ∧ k = []))
  | 0 => fun _ _ _ _ _ _ h0 => by cases h0
  | n + 1 => by
    have ih := tree_walk_r2_g_ok n
    exact tree_walk_r2_b_ok (tree_walk_r2_g n) ih
theorem tree_walk_r2_g_le : ∀ n, (∀ (a0 : List TApiStmt) (m0 : TTreeBagString), Le ((tree_walk_r2_g n) a0 m0) ((tree_walk_r2_g (n + 1)) a0 m0))
  | 0 => fun _ _ => Le.none _
  | n + 1 => by
    have ih := tree_walk_r2_g_le n
    exact fun a0 m0 => by show Le (tree_walk_r2_b ((tree_walk_r2_g n)) a0 m0) (tree_walk_r2_b ((tree_walk_r2_g (n + 1))) a0 m0); unfold tree_walk_r2_b; repeat (first | exact Le.refl _ | exact ih _ _ | assumption | (refine Le.bind ?_ (fun _ => ?_)) | (refine Le.cond ?_ ?_) | (refine Le.loop (fun _ => ?_)) | (refine Le.elim (fun _ => ?_) (fun _ => ?_)))
noncomputable def tree_walk_r2 (a0 : List TApiStmt) (m0 : TTreeBagString) : Option (TTreeBagString) := anyN fun n => (tree_walk_r2_g n) a0 m0
theorem tree_walk_r2_of (a0 : List TApiStmt) (m0 : TTreeBagString) {r : TTreeBagString} (n : Nat) (h : (tree_walk_r2_g n) a0 m0 = some r) : tree_walk_r2 a0 m0 = some r := anyN_of (fun m => (tree_walk_r2_g_le m) a0 m0) h
theorem tree_walk_r2_ok (a0 : List TApiStmt) (m0 : TTreeBagString) (o0 : Nat) (T0 : TypeId) (z0_0 : Z3) (r : TTreeBagString) (h0 : tree_walk_r2 a0 m0 = some r) : CallsD Try.prog 41 [.lst 7 (a0.map eTApiStmt) .no, .fn (.func 52) [] [.ptr o0 0], .fn (.func 53) [] []] [(o0, Blk.cells [.v (SL z0_0)] T0), (0, Blk.row 1 (m0.gL.map eStr) (SL z0_0))] [] (fun d h k => ∃ y0, d = .tup [] ∧ h = [(o0, Blk.cells [.v (SL y0)] T0), (0, Blk.row 1 (r.gL.map eStr) (SL y0))] ∧ k = []) :=
  let ⟨n, hn⟩ := anyN_inv h0; (tree_walk_r2_g_ok n) a0 m0 o0 T0 z0_0 r hn
noncomputable def tree_Calls_r (a0 : List TApiStmt) : Option (List ByteArray) :=
  ((tree_walk_r2 a0 (⟨[]⟩ : TTreeBagString)).bind fun x4 => ((tree_bag_string_all_r x4).bind fun x6 => some x6.1))
set_option maxRecDepth 100000 in
set_option maxHeartbeats 2000000 in
theorem tree_Calls_r_ok (a0 : List TApiStmt) (r : List ByteArray) (h0 : tree_Calls_r a0 = some r) : CallsD Try.prog 30 [.lst 7 (a0.map eTApiStmt) .no] [] [] (fun d h k => ∃ y0, d = .v (SL y0) ∧ h = [(0, Blk.row 1 (r.map eStr) (SL y0))] ∧ k = []) := by
  have hm := yes_of h0
  unfold tree_Calls_r at hm
  clear h0
  refine enterX htab Try.func30 rfl rfl rfl rfl rfl (fun C => ?_)
  refine wpD_sr ?_
  refine pu ?_
  refine ops_n2 ?_
  refine p_alloc htab rfl rfl rfl rfl rfl rfl rfl (fun b1 => ?_)
  refine ops_n2 ?_
  refine pu ?_
  refine pu ?_
  refine o_rowC (off := 0) 1 0 rfl rfl (fun w2 => ?_)
  obtain ⟨x4, q4, hm⟩ := yes_bind hm
  refine pG (tree_walk_r2_ok a0 (⟨[]⟩ : TTreeBagString) b1 68 w2 x4 q4) Wl ((perm_at (j := 1) rfl).trans (List.Perm.cons _ ((perm_at (j := 0) rfl).trans (List.Perm.cons _ Pf)))) Pf ?_
  rintro _ _ _ ⟨w3, rfl, rfl, rfl⟩
  refine ops_n2 ?_
  obtain ⟨x6, q6, hm⟩ := yes_bind hm
  refine pG (tree_bag_string_all_r_ok x4 b1 68 w3 x6 q6) Wl Pf Pf ?_
  rintro _ _ _ ⟨w5, rfl, rfl, rfl⟩
  refine pu ?_
  refine ops_nt ?_
  refine wpD_ret ?_
  have er7 := yes_eq hm; subst er7
  refine rP (t' := [(2, .v (SL w5))]) [1] [] 1 (wC wN) (lT lN) ?_
  exact ⟨w5, rfl, rfl, rfl⟩
noncomputable def change_Callers (a0 : TApiProgram) (a1 : ByteArray) : Option (List ByteArray) :=
  (Option.bind (α := List ByteArray) (loopM (fun (s32 : List ByteArray × Int) => (bif (decide (s32.2 < (a0.gFuncs.length : Int))) then ((idx a0.gFuncs s32.2).bind fun x53 => ((tree_Calls_r x53.gBody).bind fun x56 => ((slices_Contains_string_string x56 a1).bind fun x57 => (bif x57 then ((app 16 s32.1 ([x53.gName] : List ByteArray)).bind fun x59 => some (.next (x59, (IntKind.i64.wrap (s32.2 + (1 : Int)))))) else some (.next (s32.1, (IntKind.i64.wrap (s32.2 + (1 : Int))))))))) else some (.done s32.1))) (([] : List ByteArray), (0 : Int))) fun y31 => ((change_row_r y31).bind fun x61 => some x61))
set_option maxRecDepth 100000 in
set_option maxHeartbeats 2000000 in
theorem change_Callers_ok (a0 : TApiProgram) (a1 : ByteArray) (r : List ByteArray) (h0 : change_Callers a0 a1 = some r) : CallsD Try.prog 13 [eTApiProgram a0, .v (.string a1)] [] [] (fun d h k => ∃ y0, d = .lst 1 (r.map eStr) (.cur y0) ∧ h = [] ∧ k = [(1, y0)]) := by
  have hm := yes_of h0
  unfold change_Callers at hm
  clear h0
  refine enterX htab Try.func13 rfl rfl rfl rfl rfl (fun C => ?_)
  refine wpD_sr ?_
  refine p_box rfl rfl rfl rfl rfl rfl rfl (fun b1 => ?_)
  refine pu ?_
  refine ops_n2 ?_
  refine pu ?_
  refine ops_nt ?_
  refine wpD_seq ?_
  refine wpD_sr ?_
  refine pu ?_
  refine pL 0 ?_
  refine p_lenL htab rfl rfl rfl rfl rfl rfl rfl (by first | exact map_len | rfl) ?_
  refine pu ?_
  refine ops_nt ?_
  obtain ⟨y31, q31, ho31⟩ := yes_bind hm
  refine wpD_mid (Y := Z3) (fun z31 => (⟨[(5, .v (SL z31))], [(0, Blk.row 1 (y31.map eStr) (SL z31))], []⟩ : S)) ?_ ?_
  ·clear hm; have hm := yes_of q31
   refine wpD_block ?_
   obtain ⟨u32, hl32, hq32⟩ := yes_m hm
   refine loop_M (Y := Z3) hl32 (fun s32 z32 => (⟨[(1, .v (.string a1)), (5, .v (SL z32)), (9, .lst 5 (a0.gFuncs.map eTApiFunc) .no), (10, .v (.int .i64 (a0.gFuncs.length : Int))), (11, .v (.int .i64 s32.2))], [(0, Blk.row 1 (s32.1.map eStr) (SL z32))], []⟩ : S)) ?_ ?_
   ·skip
    refine WkX.rowN (i := 5) 1 rfl (fun w51 => ?_)
    exact WkX.of w51 (WkS.perm (WkS.cons rfl (Wk.refl _) (WkS.cons rfl (Wk.refl _) (WkS.cons rfl (Wk.refl _) (WkS.cons rfl (Wk.refl _) (WkS.cons rfl (Wk.refl _) (WkS.nil)))))) Pf Pf)
   ·intro G32 s32 z32 hm
    refine wpD_sr ?_
    refine pu ?_
    refine ops_nt ?_
    refine wpD_seq ?_
    refine wpD_cond rfl (fun hc52 => ?_) (fun hc52 => ?_)
    ·replace hm := yes_t hc52 hm
     refine wpD_skip ?_
     refine then_normal ?_
     refine wpD_seq ?_
     refine wpD_block ?_
     refine wpD_sr ?_
     obtain ⟨x53, q53, hm⟩ := yes_bind hm
     refine p_elem htab rfl rfl rfl rfl rfl rfl rfl rfl rfl rfl (idx_nonneg q53) (idx_map q53) ?_
     refine p_loadEl (d := eTApiFunc x53) htab rfl rfl rfl rfl rfl rfl rfl rfl ?_
     refine p_alloc htab rfl rfl rfl rfl rfl rfl rfl (fun b54 => ?_)
     refine pS1 (ds' := [.v (.string x53.gName), .lst 2 (x53.gParams.map eTApiVar) .no, .lst 2 (x53.gLocals.map eTApiVar) .no, .lst 7 (x53.gBody.map eTApiStmt) .no, .v (.int .i64 x53.gAt)]) ?_
     refine ops_n2 ?_
     refine pu ?_
     refine pL 1 ?_
     obtain ⟨x56, q56, hm⟩ := yes_bind hm
     refine pG (tree_Calls_r_ok x53.gBody x56 q56) Wl Pf Pf ?_
     rintro _ _ _ ⟨w55, rfl, rfl, rfl⟩
     refine pu ?_
     refine o_norm (WkS.frz 0 rfl rfl) ?_
     refine o_norm (WkS.tld 17 0 rfl rfl) ?_
     refine o_norm (WkS.drop 0 rfl) ?_
     obtain ⟨x57, q57, hm⟩ := yes_bind hm
     refine p_call0 (slices_Contains_string_string_ok x56 a1 x57 q57) rfl rfl rfl rfl rfl (WkL.cons (Wk.no) (WkL.cons (Wk.refl _) Wl)) ?_
     rintro _ rfl
     refine ops_nt ?_
     refine wpD_cond rfl (fun hc58 => ?_) (fun hc58 => ?_)
     ·replace hm := yes_t hc58 hm
      refine wpD_region ?_
      refine pu ?_
      refine pu ?_
      refine pL 1 ?_
      refine p_lit htab rfl rfl rfl rfl rfl rfl rfl rfl rfl rfl rfl rfl rfl rfl ?_
      refine p_eq (i := 23) (d' := .lst 1 (([x53.gName] : List ByteArray).map eStr) .full) rfl (Wk.lst0 (.cons (WkC.refl _) (.nil))) ?_
      obtain ⟨x59, q59, hm⟩ := yes_bind hm
      refine p_appR2 0 htab rfl rfl rfl rfl rfl rfl rfl rfl rfl rfl rfl rfl rfl rfl rfl rfl (app_bound q59) (app_map q59) (fun v59 => ?_)
      refine pu ?_
      refine ops_nil ?_
      refine block_normal ?_
      refine then_normal ?_
      refine wpD_region ?_
      refine pu ?_
      refine pu ?_
      refine ops_nil ?_
      refine then_normal ⟨_, lp_next hm, ?_⟩
      exact WkX.of v59 (WkS.perm (WkS.cons rfl (Wk.refl _) (WkS.cons rfl (Wk.refl _) (WkS.cons rfl (Wk.refl _) (WkS.cons rfl (Wk.refl _) (WkS.cons rfl (Wk.refl _) (WkS.nil)))))) Pf Pf)
     ·replace hm := yes_f hc58 hm
      refine wpD_skip ?_
      refine block_normal ?_
      refine then_normal ?_
      refine wpD_region ?_
      refine pu ?_
      refine pu ?_
      refine ops_nil ?_
      refine then_normal ⟨_, lp_next hm, ?_⟩
      exact WkX.of z32 (WkS.perm (WkS.cons rfl (Wk.refl _) (WkS.cons rfl (Wk.refl _) (WkS.cons rfl (Wk.refl _) (WkS.cons rfl (Wk.refl _) (WkS.cons rfl (Wk.refl _) (WkS.nil)))))) Pf Pf)
    ·replace hm := yes_f hc52 hm
     refine wpD_exit ?_
     refine then_exit ?_
     have e32 := lp_done hm; subst e32; clear hm; have hm := hq32
     refine then_exit ?_
     refine block_hit ?_
     have e31 := yes_eq hm; subst e31
     refine ⟨rfl, ?_⟩
     exact WkX.of z32 (WkS.perm (WkS.cons rfl (Wk.refl _) (WkS.nil)) Pf Pf)
  ·intro s31 hw31; clear hm; have hm := ho31; clear q31 ho31
   refine then_normal ?_
   refine wpD_wkX hw31 (fun z31 => ?_)
   refine wpD_sr ?_
   refine pu ?_
   obtain ⟨x61, q61, hm⟩ := yes_bind hm
   refine pG (change_row_r_ok y31 z31 x61 q61) Wl Pf Pf ?_
   rintro _ _ _ ⟨w60, rfl, rfl, rfl⟩
   refine pu ?_
   refine ops_nt ?_
   refine wpD_ret ?_
   have er62 := yes_eq hm; subst er62
   refine retX.wk (WkS.frz 0 rfl rfl) ?_
   refine retX.wk (WkS.tld 4 0 rfl rfl) ?_
   refine retX.wk (WkS.tld 27 0 rfl rfl) ?_
   refine retX.wk (WkS.drop 0 rfl) ?_
   refine rP (t' := [(4, .lst 1 (x61.map eStr) (.cur (SL w60)))]) [] [0] 0 (wC wN) (lT lN) ?_
   exact ⟨(SL w60), rfl, rfl, rfl⟩
noncomputable def r18_Callers (a0 : TApiProgram) (a1 : ByteArray) : Option (List ByteArray) :=
  (Option.bind (α := List ByteArray) (loopM (fun (s35 : List ByteArray × Int) => (bif (decide (s35.2 < (a0.gFuncs.length : Int))) then ((idx a0.gFuncs s35.2).bind fun x58 => ((r11_Names x58.gBody true).bind fun x60 => ((r07_In x60 a1).bind fun x61 => (bif x61 then ((idx a0.gFuncs s35.2).bind fun x63 => ((r07_Put s35.1 x63.gName).bind fun x65 => some (.next (x65, (IntKind.i64.wrap (s35.2 + (1 : Int))))))) else some (.next (s35.1, (IntKind.i64.wrap (s35.2 + (1 : Int))))))))) else some (.done s35.1))) (([] : List ByteArray), (0 : Int))) fun y34 => some y34)
set_option maxRecDepth 100000 in
set_option maxHeartbeats 2000000 in
theorem r18_Callers_ok (a0 : TApiProgram) (a1 : ByteArray) (r : List ByteArray) (h0 : r18_Callers a0 a1 = some r) : CallsD Try.prog 14 [eTApiProgram a0, .v (.string a1)] [] [] (fun d h k => ∃ y0, d = .lst 1 (r.map eStr) (.cur y0) ∧ h = [] ∧ k = [(1, y0)]) := by
  have hm := yes_of h0
  unfold r18_Callers at hm
  clear h0
  refine enterX htab Try.func14 rfl rfl rfl rfl rfl (fun C => ?_)
  refine wpD_sr ?_
  refine p_box rfl rfl rfl rfl rfl rfl rfl (fun b1 => ?_)
  refine pu ?_
  refine ops_n2 ?_
  refine pu ?_
  refine ops_nt ?_
  refine wpD_seq ?_
  refine wpD_sr ?_
  refine pu ?_
  refine ops_nt ?_
  obtain ⟨y34, q34, ho34⟩ := yes_bind hm
  refine wpD_mid (Y := Value) (fun z34 => (⟨[(5, .lst 1 (y34.map eStr) (.cur z34))], [], [(1, z34)]⟩ : S)) ?_ ?_
  ·clear hm; have hm := yes_of q34
   refine wpD_block ?_
   obtain ⟨u35, hl35, hq35⟩ := yes_m hm
   refine loop_M (Y := Value) hl35 (fun s35 z35 => (⟨[(1, .v (.string a1)), (2, .ptr b1 0), (5, .lst 1 (s35.1.map eStr) (.cur z35)), (6, .v (.int .i64 s35.2))], [(b1, Blk.cells [.lst 4 (a0.gGlobals.map eTApiGlobal) .no, .lst 5 (a0.gFuncs.map eTApiFunc) .no] 25)], [(1, z35)]⟩ : S)) ?_ ?_
   ·skip
    refine WkX.tokN (i := 5) 1 rfl (fun w56 => ?_)
    exact WkX.of w56 (WkS.perm (WkS.cons rfl (Wk.refl _) (WkS.cons rfl (Wk.refl _) (WkS.cons rfl (Wk.refl _) (WkS.cons rfl (Wk.refl _) (WkS.nil))))) Pf Pf)
   ·intro G35 s35 z35 hm
    refine wpD_seq ?_
    refine wpD_sr ?_
    refine pu ?_
    refine pu ?_
    refine pL 0 ?_
    refine p_lenL htab rfl rfl rfl rfl rfl rfl rfl (by first | exact map_len | rfl) ?_
    refine pu ?_
    refine ops_nt ?_
    refine wpD_cond rfl (fun hc57 => ?_) (fun hc57 => ?_)
    ·replace hm := yes_t hc57 hm
     refine wpD_skip ?_
     refine then_normal ?_
     refine wpD_seq ?_
     refine wpD_block ?_
     refine wpD_sr ?_
     refine pu ?_
     refine pL 0 ?_
     refine pu ?_
     obtain ⟨x58, q58, hm⟩ := yes_bind hm
     refine p_elem htab rfl rfl rfl rfl rfl rfl rfl rfl rfl rfl (idx_nonneg q58) (idx_map q58) ?_
     refine pu ?_
     refine p_loadEl htab rfl rfl rfl rfl rfl rfl rfl rfl ?_
     obtain ⟨x60, q60, hm⟩ := yes_bind hm
     refine pG (r11_Names_ok x58.gBody true x60 q60) Wl Pf Pf ?_
     rintro _ _ _ ⟨w59, rfl, rfl, rfl⟩
     refine pu ?_
     obtain ⟨x61, q61, hm⟩ := yes_bind hm
     refine p_call0 (r07_In_ok x60 a1 x61 q61) rfl rfl rfl rfl rfl (WkL.cons (Wk.no) (WkL.cons (Wk.refl _) Wl)) ?_
     rintro _ rfl
     refine ops_nt ?_
     refine wpD_cond rfl (fun hc62 => ?_) (fun hc62 => ?_)
     ·replace hm := yes_t hc62 hm
      refine wpD_region ?_
      refine pu ?_
      refine pu ?_
      refine pL 0 ?_
      refine pu ?_
      obtain ⟨x63, q63, hm⟩ := yes_bind hm
      refine p_elem htab rfl rfl rfl rfl rfl rfl rfl rfl rfl rfl (idx_nonneg q63) (idx_map q63) ?_
      refine pu ?_
      refine p_loadEl htab rfl rfl rfl rfl rfl rfl rfl rfl ?_
      obtain ⟨x65, q65, hm⟩ := yes_bind hm
      refine p_callG (r07_Put_ok s35.1 x63.gName x65 q65) rfl rfl rfl rfl rfl (WkL.cons (Wk.no) (WkL.cons (Wk.refl _) Wl)) Pf Pf ?_
      rintro _ _ _ ⟨w64, rfl, rfl, rfl⟩
      refine pu ?_
      refine ops_nil ?_
      refine block_normal ?_
      refine then_normal ?_
      refine wpD_region ?_
      iterate 3 refine pu ?_
      refine ops_nil ?_
      refine then_normal ⟨_, lp_next hm, ?_⟩
      exact WkX.of w64 (WkS.perm (WkS.cons rfl (Wk.refl _) (WkS.cons rfl (Wk.refl _) (WkS.cons rfl (Wk.refl _) (WkS.cons rfl (Wk.refl _) (WkS.nil))))) Pf Pf)
     ·replace hm := yes_f hc62 hm
      refine wpD_skip ?_
      refine block_normal ?_
      refine then_normal ?_
      refine wpD_region ?_
      iterate 3 refine pu ?_
      refine ops_nil ?_
      refine then_normal ⟨_, lp_next hm, ?_⟩
      exact WkX.of z35 (WkS.perm (WkS.cons rfl (Wk.refl _) (WkS.cons rfl (Wk.refl _) (WkS.cons rfl (Wk.refl _) (WkS.cons rfl (Wk.refl _) (WkS.nil))))) Pf ((perm_at (j := 1) rfl).trans (List.Perm.cons _ Pf)))
    ·replace hm := yes_f hc57 hm
     refine wpD_exit ?_
     refine then_exit ?_
     have e35 := lp_done hm; subst e35; clear hm; have hm := hq35
     refine then_exit ?_
     refine block_hit ?_
     have e34 := yes_eq hm; subst e34
     refine ⟨rfl, ?_⟩
     exact WkX.of z35 (WkS.perm (WkS.cons rfl (Wk.refl _) (WkS.nil)) Pf Pf)
  ·intro s34 hw34; clear hm; have hm := ho34; clear q34 ho34
   refine then_normal ?_
   refine wpD_wkX hw34 (fun z34 => ?_)
   refine wpD_sr ?_
   refine pu ?_
   refine pu ?_
   refine ops_nt ?_
   refine wpD_ret ?_
   have er66 := yes_eq hm; subst er66
   refine rP (t' := [(4, .lst 1 (y34.map eStr) (.cur z34))]) [] [0] 0 (wC wN) (lT lN) ?_
   exact ⟨z34, rfl, rfl, rfl⟩
noncomputable def change_Reach (a0 : TApiProgram) (a1 : ByteArray) : Option (List ByteArray) :=
  (Option.bind (α := List ByteArray × List (ByteArray × Int)) (loopM (fun (s64 : List ByteArray × List ByteArray × List (ByteArray × Int)) => (bif (decide ((0 : Int) < (s64.2.1.length : Int))) then ((idx s64.2.1 (0 : Int)).bind fun x110 => ((cutL s64.2.1 (1 : Int) ((s64.2.1).length : Int)).bind fun x111 => ((change_funcOf a0 x110).bind fun x112 => (Option.bind (α := Bool) (bif (!x112.2) then some true else some (decide ((1 : Int) < (mgetD (mput s64.2.2 x110 (IntKind.i64.wrap ((mgetD s64.2.2 x110 (0 : Int)) + (1 : Int)))) x110 (0 : Int))))) fun y115 => (bif y115 then some (.next (s64.1, x111, (mput s64.2.2 x110 (IntKind.i64.wrap ((mgetD s64.2.2 x110 (0 : Int)) + (1 : Int)))))) else ((app 16 s64.1 ([x110] : List ByteArray)).bind fun x118 => ((tree_Calls_r x112.1.gBody).bind fun x120 => ((app 16 x111 x120).bind fun x121 => some (.next (x118, x121, (mput s64.2.2 x110 (IntKind.i64.wrap ((mgetD s64.2.2 x110 (0 : Int)) + (1 : Int)))))))))))))) else some (.done (s64.1, s64.2.2)))) (([] : List ByteArray), ([a1] : List ByteArray), ([] : List (ByteArray × Int)))) fun y63 => ((change_row_r y63.1).bind fun x123 => some x123))
set_option maxRecDepth 100000 in
set_option maxHeartbeats 2000000 in
theorem change_Reach_ok (a0 : TApiProgram) (a1 : ByteArray) (r : List ByteArray) (h0 : change_Reach a0 a1 = some r) : CallsD Try.prog 15 [eTApiProgram a0, .v (.string a1)] [] [] (fun d h k => ∃ y0, d = .lst 1 (r.map eStr) (.cur y0) ∧ h = [] ∧ k = [(1, y0)]) := by
  have hm := yes_of h0
  unfold change_Reach at hm
  clear h0
  refine enterX htab Try.func15 rfl rfl rfl rfl rfl (fun C => ?_)
  refine wpD_sr ?_
  refine p_box rfl rfl rfl rfl rfl rfl rfl (fun b1 => ?_)
  refine pu ?_
  refine ops_n2 ?_
  refine pu ?_
  refine ops_n2 ?_
  refine pu ?_
  refine p_lit htab rfl rfl rfl rfl rfl rfl rfl rfl rfl rfl rfl rfl rfl rfl ?_
  refine p_eq (i := 12) (d' := .lst 1 (([a1] : List ByteArray).map eStr) .full) rfl (Wk.lst0 (.cons (WkC.refl _) (.nil))) ?_
  refine pu ?_
  refine ops_n2 ?_
  refine p_makeMap rfl rfl rfl rfl (fun b2 => ?_)
  refine pu ?_
  refine ops_nt ?_
  refine wpD_seq ?_
  obtain ⟨y63, q63, ho63⟩ := yes_bind hm
  refine wpD_mid (Y := Z3) (fun z63 => (⟨[(5, .v (SL z63))], [(0, Blk.row 1 (y63.1.map eStr) (SL z63))], []⟩ : S)) ?_ ?_
  ·clear hm; have hm := yes_of q63
   refine wpD_block ?_
   obtain ⟨u64, hl64, hq64⟩ := yes_m hm
   refine loop_M (Y := Z3 × Value) hl64 (fun s64 z64 => (⟨[(2, .ptr b1 0), (5, .v (SL z64.1)), (6, .lst 1 (s64.2.1.map eStr) (.cur z64.2)), (7, .v (.map (some b2)))], [(0, Blk.row 1 (s64.1.map eStr) (SL z64.1)), (b2, Blk.mp (s64.2.2.map fun p => ((fun s : ByteArray => Value.string s) p.1, eI64 p.2))), (b1, Blk.cells [.lst 4 (a0.gGlobals.map eTApiGlobal) .no, .lst 5 (a0.gFuncs.map eTApiFunc) .no] 25)], [(1, z64.2)]⟩ : S)) ?_ ?_
   ·skip
    refine WkX.rowN (i := 5) 1 rfl (fun w107 => ?_)
    refine WkX.tokF (i := 6) rfl (fun w108 => ?_)
    exact WkX.of (w107, w108) (WkS.perm (WkS.cons rfl (Wk.refl _) (WkS.cons rfl (Wk.refl _) (WkS.cons rfl (Wk.refl _) (WkS.cons rfl (Wk.refl _) (WkS.nil))))) Pf Pf)
   ·intro G64 s64 z64 hm
    refine wpD_seq ?_
    refine wpD_sr ?_
    refine pu ?_
    refine p_lenL htab rfl rfl rfl rfl rfl rfl rfl (by first | exact map_len | rfl) ?_
    refine pu ?_
    refine ops_nt ?_
    refine wpD_cond rfl (fun hc109 => ?_) (fun hc109 => ?_)
    ·replace hm := yes_t hc109 hm
     refine wpD_skip ?_
     refine then_normal ?_
     refine wpD_block ?_
     refine wpD_sr ?_
     refine pu ?_
     obtain ⟨x110, q110, hm⟩ := yes_bind hm
     refine p_elem htab rfl rfl rfl rfl rfl rfl rfl rfl rfl rfl (idx_nonneg q110) (idx_map q110) ?_
     refine p_loadEl htab rfl rfl rfl rfl rfl rfl rfl rfl ?_
     refine pu ?_
     refine ops_n2 ?_
     refine pu ?_
     obtain ⟨x111, q111, hm⟩ := yes_bind hm
     refine p_dropT 0 q111 htab rfl rfl rfl rfl rfl rfl rfl rfl rfl rfl rfl rfl rfl (fun v111 => ?_)
     refine pu ?_
     refine ops_n2 ?_
     refine p_load (d := eTApiProgram a0) 2 htab rfl rfl rfl rfl rfl rfl rfl rfl ?_
     refine pu ?_
     obtain ⟨x112, q112, hm⟩ := yes_bind hm
     refine p_call0 (change_funcOf_ok a0 x110 x112 q112) rfl rfl rfl rfl rfl Wl ?_
     rintro _ rfl
     iterate 3 refine pu ?_
     refine p_alloc htab rfl rfl rfl rfl rfl rfl rfl (fun b113 => ?_)
     refine pS3 (ds' := [.v (.string x112.1.gName), .lst 2 (x112.1.gParams.map eTApiVar) .no, .lst 2 (x112.1.gLocals.map eTApiVar) .no, .lst 7 (x112.1.gBody.map eTApiStmt) .no, .v (.int .i64 x112.1.gAt)]) ?_
     refine pu ?_
     refine ops_nt ?_
     refine wpD_seq ?_
     refine wpD_sr ?_
     refine pu ?_
     refine pu ?_
     refine p_lookup (l := s64.2.2) (f := (fun s : ByteArray => Value.string s)) (e := eI64) (kk := x110) (z := (0 : Int)) (dr := .v (.int .i64 (mgetD s64.2.2 x110 (0 : Int)))) 1 htab rfl rfl rfl rfl rfl rfl rfl rfl rfl rfl mk54 (fun H v h => rep_v_inv h) mz54 mr54 rfl ?_
     refine pu ?_
     refine p_mapUpdate (l := s64.2.2) (f := (fun s : ByteArray => Value.string s)) (e := eI64) (kk := x110) (vv := (IntKind.i64.wrap ((mgetD s64.2.2 x110 (0 : Int)) + (1 : Int)))) (h' := [(0, Blk.row 1 (s64.1.map eStr) (SL z64.1)), (b2, Blk.mp ((mput s64.2.2 x110 (IntKind.i64.wrap ((mgetD s64.2.2 x110 (0 : Int)) + (1 : Int)))).map fun p => ((fun s : ByteArray => Value.string s) p.1, eI64 p.2))), (b1, Blk.cells [.lst 4 (a0.gGlobals.map eTApiGlobal) .no, .lst 5 (a0.gFuncs.map eTApiFunc) .no] 25), (b113, Blk.cells [.v (.string x112.1.gName), .lst 2 (x112.1.gParams.map eTApiVar) .no, .lst 2 (x112.1.gLocals.map eTApiVar) .no, .lst 7 (x112.1.gBody.map eTApiStmt) .no, .v (.int .i64 x112.1.gAt)] 41)]) 1 htab rfl rfl rfl rfl rfl rfl rfl rfl rfl rfl mk54 (fun H v h => rep_v_inv h) (Wk.refl _) rfl ?_
     refine ops_nt ?_
     refine wpD_seq ?_
     obtain ⟨y115, q115, ho115⟩ := yes_bind hm
     refine wpD_mid (Y := Unit) (fun z115 => (⟨[(2, .ptr b1 0), (5, .v (SL z64.1)), (6, .lst 1 (x111.map eStr) (.cur v111)), (7, .v (.map (some b2))), (8, .v (.string x110)), (9, .ptr b113 0), (39, .v (.bool y115))], [(0, Blk.row 1 (s64.1.map eStr) (SL z64.1)), (b2, Blk.mp ((mput s64.2.2 x110 (IntKind.i64.wrap ((mgetD s64.2.2 x110 (0 : Int)) + (1 : Int)))).map fun p => ((fun s : ByteArray => Value.string s) p.1, eI64 p.2))), (b1, Blk.cells [.lst 4 (a0.gGlobals.map eTApiGlobal) .no, .lst 5 (a0.gFuncs.map eTApiFunc) .no] 25), (b113, Blk.cells [.v (.string x112.1.gName), .lst 2 (x112.1.gParams.map eTApiVar) .no, .lst 2 (x112.1.gLocals.map eTApiVar) .no, .lst 7 (x112.1.gBody.map eTApiStmt) .no, .v (.int .i64 x112.1.gAt)] 41)], [(1, v111)]⟩ : S)) ?_ ?_
     ·clear hm; have hm := yes_of q115
      refine wpD_region ?_
      iterate 3 refine pu ?_
      refine p_split (i := 34) rfl (fun hg116 => ?_) (fun hg116 => ?_)
      ·replace hm := yes_t hg116 hm
       iterate 4 refine pK ?_
       refine p_pickT rfl rfl rfl rfl rfl rfl ?_
       refine ops_nil ?_
       have e115 := yes_eq hm; subst e115
       refine ⟨rfl, ?_⟩
       exact WkX.of () (WkS.perm (WkS.cons rfl (Wk.refl _) (WkS.cons rfl (Wk.refl _) (WkS.cons rfl (Wk.refl _) (WkS.cons rfl (Wk.refl _) (WkS.cons rfl (Wk.refl _) (WkS.cons rfl (Wk.refl _) (WkS.cons rfl (Wk.refl _) (WkS.nil)))))))) Pf Pf)
      ·replace hm := yes_f hg116 hm
       refine pu ?_
       refine pu ?_
       refine p_lookup (l := (mput s64.2.2 x110 (IntKind.i64.wrap ((mgetD s64.2.2 x110 (0 : Int)) + (1 : Int))))) (f := (fun s : ByteArray => Value.string s)) (e := eI64) (kk := x110) (z := (0 : Int)) (dr := .v (.int .i64 (mgetD (mput s64.2.2 x110 (IntKind.i64.wrap ((mgetD s64.2.2 x110 (0 : Int)) + (1 : Int)))) x110 (0 : Int)))) 1 htab rfl rfl rfl rfl rfl rfl rfl rfl rfl rfl mk54 (fun H v h => rep_v_inv h) mz54 mr54 rfl ?_
       refine pu ?_
       refine p_pickF rfl rfl rfl rfl rfl rfl ?_
       refine ops_nil ?_
       have e115 := yes_eq hm; subst e115
       refine ⟨rfl, ?_⟩
       exact WkX.of () (WkS.perm (WkS.cons rfl (Wk.refl _) (WkS.cons rfl (Wk.refl _) (WkS.cons rfl (Wk.refl _) (WkS.cons rfl (Wk.refl _) (WkS.cons rfl (Wk.refl _) (WkS.cons rfl (Wk.refl _) (WkS.cons rfl (Wk.refl _) (WkS.nil)))))))) Pf Pf)
     ·intro s115 hw115; clear hm; have hm := ho115; clear q115 ho115
      refine then_normal ?_
      refine wpD_wkX hw115 (fun z115 => ?_)
      refine wpD_cond rfl (fun hc117 => ?_) (fun hc117 => ?_)
      ·replace hm := yes_t hc117 hm
       refine wpD_exit ?_
       refine then_exit ?_
       refine block_hit ?_
       refine then_normal ⟨_, lp_next hm, ?_⟩
       exact WkX.of (z64.1, v111) (WkS.perm (WkS.cons rfl (Wk.refl _) (WkS.cons rfl (Wk.refl _) (WkS.cons rfl (Wk.refl _) (WkS.cons rfl (Wk.refl _) (WkS.nil))))) Pf Pf)
      ·replace hm := yes_f hc117 hm
       refine wpD_skip ?_
       refine then_normal ?_
       refine wpD_sr ?_
       refine pu ?_
       refine pu ?_
       refine p_lit htab rfl rfl rfl rfl rfl rfl rfl rfl rfl rfl rfl rfl rfl rfl ?_
       refine p_eq (i := 42) (d' := .lst 1 (([x110] : List ByteArray).map eStr) .full) rfl (Wk.lst0 (.cons (WkC.refl _) (.nil))) ?_
       obtain ⟨x118, q118, hm⟩ := yes_bind hm
       refine p_appR2 0 htab rfl rfl rfl rfl rfl rfl rfl rfl rfl rfl rfl rfl rfl rfl rfl rfl (app_bound q118) (app_map q118) (fun v118 => ?_)
       refine pu ?_
       refine ops_nt ?_
       refine wpD_region ?_
       refine pu ?_
       refine pu ?_
       refine pL 3 ?_
       obtain ⟨x120, q120, hm⟩ := yes_bind hm
       refine pG (tree_Calls_r_ok x112.1.gBody x120 q120) Wl Pf Pf ?_
       rintro _ _ _ ⟨w119, rfl, rfl, rfl⟩
       refine o_norm (WkS.frz 0 rfl rfl) ?_
       refine o_norm (WkS.tld 47 0 rfl rfl) ?_
       refine o_norm (WkS.drop 0 rfl) ?_
       obtain ⟨x121, q121, hm⟩ := yes_bind hm
       refine p_appC 1 htab rfl rfl rfl rfl rfl rfl rfl rfl rfl rfl rfl rfl rfl rfl rfl rfl rfl (app_bound q121) (fun v121 => ?_)
       refine p_mapD (i := 48) q121 rfl ?_
       refine pu ?_
       refine ops_nil ?_
       refine block_normal ?_
       refine then_normal ⟨_, lp_next hm, ?_⟩
       exact WkX.of (v118, v121) (WkS.perm (WkS.cons rfl (Wk.refl _) (WkS.cons rfl (Wk.refl _) (WkS.cons rfl (Wk.refl _) (WkS.cons rfl (Wk.refl _) (WkS.nil))))) Pf Pf)
    ·replace hm := yes_f hc109 hm
     refine wpD_exit ?_
     refine then_exit ?_
     have e64 := lp_done hm; subst e64; clear hm; have hm := hq64
     refine then_exit ?_
     refine block_hit ?_
     have e63 := yes_eq hm; subst e63
     refine ⟨rfl, ?_⟩
     exact WkX.of z64.1 (WkS.perm (WkS.cons rfl (Wk.refl _) (WkS.nil)) Pf Pf)
  ·intro s63 hw63; clear hm; have hm := ho63; clear q63 ho63
   refine then_normal ?_
   refine wpD_wkX hw63 (fun z63 => ?_)
   refine wpD_sr ?_
   refine pu ?_
   obtain ⟨x123, q123, hm⟩ := yes_bind hm
   refine pG (change_row_r_ok y63.1 z63 x123 q123) Wl Pf Pf ?_
   rintro _ _ _ ⟨w122, rfl, rfl, rfl⟩
   refine pu ?_
   refine ops_nt ?_
   refine wpD_ret ?_
   have er124 := yes_eq hm; subst er124
   refine retX.wk (WkS.frz 0 rfl rfl) ?_
   refine retX.wk (WkS.tld 4 0 rfl rfl) ?_
   refine retX.wk (WkS.tld 50 0 rfl rfl) ?_
   refine retX.wk (WkS.drop 0 rfl) ?_
   refine rP (t' := [(4, .lst 1 (x123.map eStr) (.cur (SL w122)))]) [] [0] 0 (wC wN) (lT lN) ?_
   exact ⟨(SL w122), rfl, rfl, rfl⟩
end Go.Proofs.Ytpeimfcmhedjmaa.Ab
namespace Go.Proofs.Ytpeimfcmhedjmaa.Ab
open Go
set_option linter.all false
noncomputable def r18_Reach (a0 : TApiProgram) (a1 : ByteArray) : Option (List ByteArray) :=
  ((r18_Func a0 a1).bind fun x2 => (bif (decide (x2 < (0 : Int))) then some ([] : List ByteArray) else (Option.bind (α := List ByteArray) (loopM (fun (s1035 : List ByteArray × Int) => (bif (decide (s1035.2 < (a0.gFuncs.length : Int))) then (Option.bind (α := List ByteArray) (loopM (fun (s1891 : List ByteArray × Int) => (bif (decide (s1891.2 < (s1891.1.length : Int))) then ((idx s1891.1 s1891.2).bind fun x2005 => ((r18_Func a0 x2005).bind fun x2006 => ((idx a0.gFuncs x2006).bind fun x2007 => ((r11_Names x2007.gBody true).bind fun x2009 => (Option.bind (α := List ByteArray) (loopM (fun (s2035 : List ByteArray × Int) => (bif (decide (s2035.2 < (x2009.length : Int))) then ((idx x2009 s2035.2).bind fun x2053 => ((r18_Func a0 x2053).bind fun x2054 => (bif (decide ((0 : Int) ≤ x2054)) then ((idx x2009 s2035.2).bind fun x2056 => ((r07_Put s2035.1 x2056).bind fun x2058 => some (.next (x2058, (IntKind.i64.wrap (s2035.2 + (1 : Int))))))) else some (.next (s2035.1, (IntKind.i64.wrap (s2035.2 + (1 : Int)))))))) else some (.done s2035.1))) (s1891.1, (0 : Int))) fun y2034 => some (.next (y2034, (IntKind.i64.wrap (s1891.2 + (1 : Int)))))))))) else some (.done s1891.1))) (s1035.1, (0 : Int))) fun y1890 => some (.next (y1890, (IntKind.i64.wrap (s1035.2 + (1 : Int)))))) else some (.done s1035.1))) (([a1] : List ByteArray), (0 : Int))) fun y1034 => some y1034)))
set_option maxRecDepth 100000 in
set_option maxHeartbeats 2000000 in
theorem r18_Reach_ok (a0 : TApiProgram) (a1 : ByteArray) (r : List ByteArray) (h0 : r18_Reach a0 a1 = some r) : CallsD Try.prog 16 [eTApiProgram a0, .v (.string a1)] [] [] (fun d h k => ∃ y0, d = .lst 1 (r.map eStr) (.cur y0) ∧ h = [] ∧ k = [(1, y0)]) := by
  have hm := yes_of h0
  unfold r18_Reach at hm
  clear h0
  refine enterX htab Try.func16 rfl rfl rfl rfl rfl (fun C => ?_)
  refine wpD_sr ?_
  refine p_box rfl rfl rfl rfl rfl rfl rfl (fun b1 => ?_)
  refine pu ?_
  refine ops_nt ?_
  refine wpD_seq ?_
  refine wpD_sr ?_
  refine p_load (d := eTApiProgram a0) 0 htab rfl rfl rfl rfl rfl rfl rfl rfl ?_
  refine pu ?_
  obtain ⟨x2, q2, hm⟩ := yes_bind hm
  refine p_call0 (r18_Func_ok a0 a1 x2 q2) rfl rfl rfl rfl rfl Wl ?_
  rintro _ rfl
  refine pu ?_
  refine ops_nt ?_
  refine wpD_cond rfl (fun hc4 => ?_) (fun hc4 => ?_)
  ·replace hm := yes_t hc4 hm
   refine wpD_sr ?_
   refine pu ?_
   refine ops_nt ?_
   refine wpD_ret ?_
   refine then_ret ?_
   have er5 := yes_eq hm; subst er5
   refine retX.tokN (i := 4) 1 rfl (fun w6 => ?_)
   refine rP (t' := [(4, .lst 1 (([] : List ByteArray).map eStr) (.cur w6))]) [] [0] 0 (wC wN) (lT lN) ?_
   exact ⟨w6, rfl, rfl, rfl⟩
  ·replace hm := yes_f hc4 hm
   refine wpD_skip ?_
   refine then_normal ?_
   refine wpD_sr ?_
   refine pu ?_
   refine p_lit htab rfl rfl rfl rfl rfl rfl rfl rfl rfl rfl rfl rfl rfl rfl ?_
   refine p_eq (i := 15) (d' := .lst 1 (([a1] : List ByteArray).map eStr) .full) rfl (Wk.lst0 (.cons (WkC.refl _) (.nil))) ?_
   refine pu ?_
   refine ops_nt ?_
   refine wpD_seq ?_
   refine wpD_sr ?_
   refine pu ?_
   refine ops_nt ?_
   obtain ⟨y1034, q1034, ho1034⟩ := yes_bind hm
   refine wpD_mid (Y := Value) (fun z1034 => (⟨[(5, .lst 1 (y1034.map eStr) (.cur z1034))], [], [(1, z1034)]⟩ : S)) ?_ ?_
   ·clear hm; have hm := yes_of q1034
    refine wpD_block ?_
    obtain ⟨u1035, hl1035, hq1035⟩ := yes_m hm
    refine loop_M (Y := Value) hl1035 (fun s1035 z1035 => (⟨[(2, .ptr b1 0), (5, .lst 1 (s1035.1.map eStr) (.cur z1035)), (6, .v (.int .i64 s1035.2))], [(b1, Blk.cells [.lst 4 (a0.gGlobals.map eTApiGlobal) .no, .lst 5 (a0.gFuncs.map eTApiFunc) .no] 25)], [(1, z1035)]⟩ : S)) ?_ ?_
    ·skip
     refine WkX.tokF (i := 5) rfl (fun w1720 => ?_)
     exact WkX.of w1720 (WkS.perm (WkS.cons rfl (Wk.refl _) (WkS.cons rfl (Wk.refl _) (WkS.cons rfl (Wk.refl _) (WkS.nil)))) Pf Pf)
    ·intro G1035 s1035 z1035 hm
     refine wpD_seq ?_
     refine wpD_sr ?_
     refine pu ?_
     refine pu ?_
     refine pL 0 ?_
     refine p_lenL htab rfl rfl rfl rfl rfl rfl rfl (by first | exact map_len | rfl) ?_
     refine pu ?_
     refine ops_nt ?_
     refine wpD_cond rfl (fun hc1721 => ?_) (fun hc1721 => ?_)
     ·replace hm := yes_t hc1721 hm
      refine wpD_skip ?_
      refine then_normal ?_
      refine wpD_seq ?_
      refine wpD_block ?_
      refine wpD_sr ?_
      refine pu ?_
      refine ops_nt ?_
      obtain ⟨y1890, q1890, ho1890⟩ := yes_bind hm
      refine wpD_mid (Y := Value) (fun z1890 => (⟨[(2, .ptr b1 0), (5, .lst 1 (y1890.map eStr) (.cur z1890)), (6, .v (.int .i64 s1035.2))], [(b1, Blk.cells [.lst 4 (a0.gGlobals.map eTApiGlobal) .no, .lst 5 (a0.gFuncs.map eTApiFunc) .no] 25)], [(1, z1890)]⟩ : S)) ?_ ?_
      ·clear hm; have hm := yes_of q1890
       refine wpD_block ?_
       obtain ⟨u1891, hl1891, hq1891⟩ := yes_m hm
       refine loop_M (Y := Value) hl1891 (fun s1891 z1891 => (⟨[(2, .ptr b1 0), (5, .lst 1 (s1891.1.map eStr) (.cur z1891)), (6, .v (.int .i64 s1035.2)), (7, .v (.int .i64 s1891.2))], [(b1, Blk.cells [.lst 4 (a0.gGlobals.map eTApiGlobal) .no, .lst 5 (a0.gFuncs.map eTApiFunc) .no] 25)], [(1, z1891)]⟩ : S)) ?_ ?_
       ·skip
        exact WkX.of z1035 (WkS.perm (WkS.cons rfl (Wk.refl _) (WkS.cons rfl (Wk.refl _) (WkS.cons rfl (Wk.refl _) (WkS.cons rfl (Wk.refl _) (WkS.nil))))) Pf Pf)
       ·intro G1891 s1891 z1891 hm
        refine wpD_seq ?_
        refine wpD_sr ?_
        refine pu ?_
        refine pu ?_
        refine p_lenL htab rfl rfl rfl rfl rfl rfl rfl (by first | exact map_len | rfl) ?_
        refine pu ?_
        refine ops_nt ?_
        refine wpD_cond rfl (fun hc2004 => ?_) (fun hc2004 => ?_)
        ·replace hm := yes_t hc2004 hm
         refine wpD_skip ?_
         refine then_normal ?_
         refine wpD_seq ?_
         refine wpD_block ?_
         refine wpD_seq ?_
         obtain ⟨x2005, q2005, hm⟩ := yes_bind hm
         obtain ⟨x2006, q2006, hm⟩ := yes_bind hm
         refine wpD_draws 8 [] [[],[0],[],[],[],[3],[3,5],[2,3,5]] [0,1,2,3,5,7] [[],[0],[],[],[],[3,4],[3,4,5],[2,3,4,5,6],[0,1,2,3,4,5,6,7],[0,1,2,3,4,5,6,7,8],[0,1,2,3,4,5,6,7,8,9],[0,1,2,3,4,5,6,7,8,9,10],[0,1,2,3,4,5,6,7,8,9,10,11]] (by kernel_rfl) (by kernel_rfl) (by kernel_rfl) (by rfl) (by rfl) (by kernel_rfl) ?_
         iterate 6 apply Exists.intro
         intro bs
         refine zep ?_
         refine z_eM rfl rfl (xm_load 0 htab rfl rfl rfl rfl rfl) rfl rfl rfl rfl rfl rfl ?_
         refine z_eM rfl rfl (xm_load (d := eTApiProgram a0) 0 htab rfl rfl rfl rfl rfl) rfl rfl rfl rfl rfl rfl ?_
         refine zep ?_
         refine zqp ?_
         refine z_e rfl rfl (x_elem htab rfl rfl rfl rfl rfl rfl rfl (idx_nonneg q2005) (idx_map q2005)) rfl rfl rfl rfl rfl rfl ?_
         refine z_qM rfl rfl (xm_loadEl htab rfl rfl rfl rfl rfl) rfl rfl rfl rfl rfl rfl ?_
         refine z_call rfl rfl (r18_Func_ok a0 x2005 x2006 q2006) rfl rfl Wl rfl rfl rfl rfl rfl rfl ?_
         refine z_nil rfl rfl (fun e he => by simp [isAl] at he) ?_
         obtain ⟨x2007, q2007, hm⟩ := yes_bind hm
         refine p_elem htab rfl rfl rfl rfl rfl rfl rfl rfl rfl rfl (idx_nonneg q2007) (idx_map q2007) ?_
         refine pu ?_
         refine p_loadEl htab rfl rfl rfl rfl rfl rfl rfl rfl ?_
         obtain ⟨x2009, q2009, hm⟩ := yes_bind hm
         refine pG (r11_Names_ok x2007.gBody true x2009 q2009) Wl Pf Pf ?_
         rintro _ _ _ ⟨w2008, rfl, rfl, rfl⟩
         refine pu ?_
         refine ops_n2 ?_
         refine pu ?_
         refine ops_nt ?_
         obtain ⟨y2034, q2034, ho2034⟩ := yes_bind hm
         refine wpD_mid (Y := Value) (fun z2034 => (⟨[(2, .ptr b1 0), (5, .lst 1 (y2034.map eStr) (.cur z2034)), (6, .v (.int .i64 s1035.2)), (7, .v (.int .i64 s1891.2))], [(b1, Blk.cells [.lst 4 (a0.gGlobals.map eTApiGlobal) .no, .lst 5 (a0.gFuncs.map eTApiFunc) .no] 25)], [(1, z2034)]⟩ : S)) ?_ ?_
         ·clear hm; have hm := yes_of q2034
          refine wpD_block ?_
          obtain ⟨u2035, hl2035, hq2035⟩ := yes_m hm
          refine loop_M (Y := Value) hl2035 (fun s2035 z2035 => (⟨[(2, .ptr b1 0), (5, .lst 1 (s2035.1.map eStr) (.cur z2035)), (6, .v (.int .i64 s1035.2)), (7, .v (.int .i64 s1891.2)), (8, .lst 1 (x2009.map eStr) (.cur w2008)), (9, .v (.int .i64 s2035.2))], [(b1, Blk.cells [.lst 4 (a0.gGlobals.map eTApiGlobal) .no, .lst 5 (a0.gFuncs.map eTApiFunc) .no] 25)], [(1, z2035), (1, w2008)]⟩ : S)) ?_ ?_
          ·skip
           exact WkX.of z1891 (WkS.perm (WkS.cons rfl (Wk.refl _) (WkS.cons rfl (Wk.refl _) (WkS.cons rfl (Wk.refl _) (WkS.cons rfl (Wk.refl _) (WkS.cons rfl (Wk.refl _) (WkS.cons rfl (Wk.refl _) (WkS.nil))))))) Pf ((perm_at (j := 1) rfl).trans (List.Perm.cons _ ((perm_at (j := 0) rfl).trans (List.Perm.cons _ Pf)))))
          ·intro G2035 s2035 z2035 hm
           refine wpD_seq ?_
           refine wpD_sr ?_
           refine pu ?_
           refine pu ?_
           refine p_lenL htab rfl rfl rfl rfl rfl rfl rfl (by first | exact map_len | rfl) ?_
           refine pu ?_
           refine ops_nt ?_
           refine wpD_cond rfl (fun hc2052 => ?_) (fun hc2052 => ?_)
           ·replace hm := yes_t hc2052 hm
            refine wpD_skip ?_
            refine then_normal ?_
            refine wpD_seq ?_
            refine wpD_block ?_
            refine wpD_seq ?_
            obtain ⟨x2053, q2053, hm⟩ := yes_bind hm
            refine wpD_draws 5 [] [[],[],[],[1],[1,3]] [0,1,3] [[],[],[],[1,2],[1,2,3],[0,1,2,3,4],[0,1,2,3,4,5]] (by kernel_rfl) (by kernel_rfl) (by kernel_rfl) (by rfl) (by rfl) (by kernel_rfl) ?_
            iterate 3 apply Exists.intro
            intro bs
            refine z_eM rfl rfl (xm_load (d := eTApiProgram a0) 0 htab rfl rfl rfl rfl rfl) rfl rfl rfl rfl rfl rfl ?_
            refine zep ?_
            refine zqp ?_
            refine z_e rfl rfl (x_elem htab rfl rfl rfl rfl rfl rfl rfl (idx_nonneg q2053) (idx_map q2053)) rfl rfl rfl rfl rfl rfl ?_
            refine z_qM rfl rfl (xm_loadEl htab rfl rfl rfl rfl rfl) rfl rfl rfl rfl rfl rfl ?_
            refine z_nil rfl rfl (fun e he => by simp [isAl] at he) ?_
            obtain ⟨x2054, q2054, hm⟩ := yes_bind hm
            refine p_call0 (r18_Func_ok a0 x2053 x2054 q2054) rfl rfl rfl rfl rfl Wl ?_
            rintro _ rfl
            refine pu ?_
            refine ops_nt ?_
            refine wpD_cond rfl (fun hc2055 => ?_) (fun hc2055 => ?_)
            ·replace hm := yes_t hc2055 hm
             refine wpD_region ?_
             iterate 3 refine pu ?_
             obtain ⟨x2056, q2056, hm⟩ := yes_bind hm
             refine p_elem htab rfl rfl rfl rfl rfl rfl rfl rfl rfl rfl (idx_nonneg q2056) (idx_map q2056) ?_
             refine p_loadEl htab rfl rfl rfl rfl rfl rfl rfl rfl ?_
             obtain ⟨x2058, q2058, hm⟩ := yes_bind hm
             refine p_callG (r07_Put_ok s2035.1 x2056 x2058 q2058) rfl rfl rfl rfl rfl (WkL.cons (Wk.no) (WkL.cons (Wk.refl _) Wl)) Pf Pf ?_
             rintro _ _ _ ⟨w2057, rfl, rfl, rfl⟩
             refine pu ?_
             refine ops_nil ?_
             refine block_normal ?_
             refine then_normal ?_
             refine wpD_region ?_
             iterate 3 refine pu ?_
             refine ops_nil ?_
             refine then_normal ⟨_, lp_next hm, ?_⟩
             exact WkX.of w2057 (WkS.perm (WkS.cons rfl (Wk.refl _) (WkS.cons rfl (Wk.refl _) (WkS.cons rfl (Wk.refl _) (WkS.cons rfl (Wk.refl _) (WkS.cons rfl (Wk.refl _) (WkS.cons rfl (Wk.refl _) (WkS.nil))))))) Pf ((perm_at (j := 0) rfl).trans (List.Perm.cons _ ((perm_at (j := 1) rfl).trans (List.Perm.cons _ Pf)))))
            ·replace hm := yes_f hc2055 hm
             refine wpD_skip ?_
             refine block_normal ?_
             refine then_normal ?_
             refine wpD_region ?_
             iterate 3 refine pu ?_
             refine ops_nil ?_
             refine then_normal ⟨_, lp_next hm, ?_⟩
             exact WkX.of z2035 (WkS.perm (WkS.cons rfl (Wk.refl _) (WkS.cons rfl (Wk.refl _) (WkS.cons rfl (Wk.refl _) (WkS.cons rfl (Wk.refl _) (WkS.cons rfl (Wk.refl _) (WkS.cons rfl (Wk.refl _) (WkS.nil))))))) Pf Pf)
           ·replace hm := yes_f hc2052 hm
            refine wpD_exit ?_
            refine then_exit ?_
            have e2035 := lp_done hm; subst e2035; clear hm; have hm := hq2035
            refine then_exit ?_
            refine block_hit ?_
            have e2034 := yes_eq hm; subst e2034
            refine ⟨rfl, ?_⟩
            exact WkX.of z2035 (WkS.perm (WkS.cons rfl (Wk.refl _) (WkS.cons rfl (Wk.refl _) (WkS.cons rfl (Wk.refl _) (WkS.cons rfl (Wk.refl _) (WkS.nil))))) Pf Pf)
         ·intro s2034 hw2034; clear hm; have hm := ho2034; clear q2034 ho2034
          refine block_normal ?_
          refine then_normal ?_
          refine wpD_wkX hw2034 (fun z2034 => ?_)
          refine wpD_region ?_
          iterate 3 refine pu ?_
          refine ops_nil ?_
          refine then_normal ⟨_, lp_next hm, ?_⟩
          exact WkX.of z2034 (WkS.perm (WkS.cons rfl (Wk.refl _) (WkS.cons rfl (Wk.refl _) (WkS.cons rfl (Wk.refl _) (WkS.cons rfl (Wk.refl _) (WkS.nil))))) Pf Pf)
        ·replace hm := yes_f hc2004 hm
         refine wpD_exit ?_
         refine then_exit ?_
         have e1891 := lp_done hm; subst e1891; clear hm; have hm := hq1891
         refine then_exit ?_
         refine block_hit ?_
         have e1890 := yes_eq hm; subst e1890
         refine ⟨rfl, ?_⟩
         exact WkX.of z1891 (WkS.perm (WkS.cons rfl (Wk.refl _) (WkS.cons rfl (Wk.refl _) (WkS.cons rfl (Wk.refl _) (WkS.nil)))) Pf Pf)
      ·intro s1890 hw1890; clear hm; have hm := ho1890; clear q1890 ho1890
       refine block_normal ?_
       refine then_normal ?_
       refine wpD_wkX hw1890 (fun z1890 => ?_)
       refine wpD_region ?_
       iterate 3 refine pu ?_
       refine ops_nil ?_
       refine then_normal ⟨_, lp_next hm, ?_⟩
       exact WkX.of z1890 (WkS.perm (WkS.cons rfl (Wk.refl _) (WkS.cons rfl (Wk.refl _) (WkS.cons rfl (Wk.refl _) (WkS.nil)))) Pf Pf)
     ·replace hm := yes_f hc1721 hm
      refine wpD_exit ?_
      refine then_exit ?_
      have e1035 := lp_done hm; subst e1035; clear hm; have hm := hq1035
      refine then_exit ?_
      refine block_hit ?_
      have e1034 := yes_eq hm; subst e1034
      refine ⟨rfl, ?_⟩
      exact WkX.of z1035 (WkS.perm (WkS.cons rfl (Wk.refl _) (WkS.nil)) Pf Pf)
   ·intro s1034 hw1034; clear hm; have hm := ho1034; clear q1034 ho1034
    refine then_normal ?_
    refine wpD_wkX hw1034 (fun z1034 => ?_)
    refine wpD_sr ?_
    refine pu ?_
    refine pu ?_
    refine ops_nt ?_
    refine wpD_ret ?_
    have er2059 := yes_eq hm; subst er2059
    refine rP (t' := [(4, .lst 1 (y1034.map eStr) (.cur z1034))]) [] [0] 0 (wC wN) (lT lN) ?_
    exact ⟨z1034, rfl, rfl, rfl⟩
abbrev nlCh2_23 : List (List Nat) := [[],[],[0,1],[],[],[0,1,2,3,4],[0,1,2,3,4,5],[0,1,2,3,4,5,6],[0,1,2,3,4,5,6],[0,1,2,3,4,5,6],[0,1,2,3,4,5,6,8],[0,1,2,3,4,5,6],[0,1,2,3,4,5,6],[0,1,2,3,4,5,6,8,10,11],[0,1,2,3,4,5,6,8,10,11,13],[0,1,2,3,4,5,6,8,10,11,13,14],[0,1,2,3,4,5,6,8,10,11,13,14],[0,1,2,3,4,5,6,8,10,11,13,14],[0,1,2,3,4,5,6,8,10,11,13,14],[0,1,2,3,4,5,6,8,10,11,13,14,17],[0,1,2,3,4,5,6,8,10,11,13,14],[0,1,2,3,4,5,6,8,10,11,13,14]]
abbrev nlCh2_24 : List (List Nat) := [[],[],[0,1],[],[],[0,1,2,3,4],[0,1,2,3,4,5],[0,1,2,3,4,5,6],[0,1,2,3,4,5,6,7],[0,1,2,3,4,5,6,7],[0,1,2,3,4,5,6,7,8,9],[0,1,2,3,4,5,6,7],[0,1,2,3,4,5,6,7],[0,1,2,3,4,5,6,7,8,9,10,11,12],[0,1,2,3,4,5,6,7,8,9,10,11,12,13],[0,1,2,3,4,5,6,7,8,9,10,11,12,13,14],[0,1,2,3,4,5,6,7,8,9,10,11,12,13,14,15],[0,1,2,3,4,5,6,7,8,9,10,11,12,13,14,15,16],[0,1,2,3,4,5,6,7,8,9,10,11,12,13,14,15,16],[0,1,2,3,4,5,6,7,8,9,10,11,12,13,14,15,16,17,18],[0,1,2,3,4,5,6,7,8,9,10,11,12,13,14,15,16],[0,1,2,3,4,5,6,7,8,9,10,11,12,13,14,15,16],[0,1,2,3,4,5,6,7,8,9,10,11,12,13,14,15,16,17,18,19,20,21],[0,1,2,3,4,5,6,7,8,9,10,11,12,13,14,15,16,17,18,19,20,21,22],[0,1,2,3,4,5,6,7,8,9,10,11,12,13,14,15,16,17,18,19,20,21,22,23],[0,1,2,3,4,5,6,7,8,9,10,11,12,13,14,15,16,17,18,19,20,21,22,23,24],[0,1,2,3,4,5,6,7,8,9,10,11,12,13,14,15,16,17,18,19,20,21,22,23,24,25],[0,1,2,3,4,5,6,7,8,9,10,11,12,13,14,15,16,17,18,19,20,21,22,23,24,25,26],[0,1,2,3,4,5,6,7,8,9,10,11,12,13,14,15,16,17,18,19,20,21,22,23,24,25,26,27]]
abbrev nlCh2_25 : List (List Nat) := [[],[],[0,1],[],[],[0,1,2,3,4],[0,1,2,3,4,5],[0,1,2,3,4,5,6],[0,1,2,3,4,5,6],[0,1,2,3,4,5,6],[0,1,2,3,4,5,6,8],[0,1,2,3,4,5,6],[0,1,2,3,4,5,6],[0,1,2,3,4,5,6,8,10,11],[0,1,2,3,4,5,6,8,10,11,13],[0,1,2,3,4,5,6,8,10,11,13,14],[0,1,2,3,4,5,6,8,10,11,13,14],[0,1,2,3,4,5,6,8,10,11,13,14],[0,1,2,3,4,5,6,8,10,11,13,14],[0,1,2,3,4,5,6,8,10,11,13,14],[0,1,2,3,4,5,6,8,10,11,13,14],[0,1,2,3,4,5,6,8,10,11,13,14]]
abbrev nlCh2_26 : List (List Nat) := [[],[],[0,1],[],[],[0,1,2,3,4],[0,1,2,3,4,5],[0,1,2,3,4,5,6],[0,1,2,3,4,5,6],[0,1,2,3,4,5,6],[0,1,2,3,4,5,6],[0,1,2,3,4,5,6],[0,1,2,3,4,5,6],[0,1,2,3,4,5,6],[0,1,2,3,4,5,6],[0,1,2,3,4,5,6],[0,1,2,3,4,5,6],[0,1,2,3,4,5,6],[0,1,2,3,4,5,6],[0,1,2,3,4,5,6],[0,1,2,3,4,5,6],[0,1,2,3,4,5,6]]
noncomputable def l18_ChangeTouches (a0 : TApiProgram) (a1 : TApiProgram) (a2 : ByteArray) : Option (Bool) :=
  (Option.bind (α := Bool) ((l18_few a0).bind fun x7 => (bif (!x7) then some true else ((l18_few a1).bind fun x9 => some (!x9)))) fun y6 => (bif y6 then (l18_lives.bind fun x13 => some x13) else ((change_Touched a0 a1).bind fun x16 => ((r18_Touched a0 a1).bind fun x18 => ((r11_Texts x16 x18).bind fun x19 => (bif x19 then ((change_Callers a0 a2).bind fun x24 => ((r18_Callers a0 a2).bind fun x26 => ((r11_Texts x24 x26).bind fun x27 => (bif x27 then ((change_Reach a0 a2).bind fun x34 => ((r18_Reach a0 a2).bind fun x56 => ((r11_Texts x34 x56).bind fun x57 => (bif x57 then (l18_lives.bind fun x59 => some x59) else some false)))) else some false)))) else some false))))))
set_option maxRecDepth 100000 in
set_option maxHeartbeats 2000000 in
theorem l18_ChangeTouches_ok (a0 : TApiProgram) (a1 : TApiProgram) (a2 : ByteArray) (r : Bool) (h0 : l18_ChangeTouches a0 a1 a2 = some r) : CallsD Try.prog 5 [eTApiProgram a0, eTApiProgram a1, .v (.string a2)] [] [] (fun d h k => d = .v (.bool r) ∧ h = [] ∧ k = []) := by
  have hm := yes_of h0
  unfold l18_ChangeTouches at hm
  clear h0
  refine enterX htab Try.func5 rfl rfl rfl rfl rfl (fun C => ?_)
  refine wpD_sr ?_
  refine p_box rfl rfl rfl rfl rfl rfl rfl (fun b1 => ?_)
  refine p_box rfl rfl rfl rfl rfl rfl rfl (fun b2 => ?_)
  refine pu ?_
  refine ops_nt ?_
  refine wpD_seq ?_
  refine wpD_seq ?_
  obtain ⟨y6, q6, ho6⟩ := yes_bind hm
  refine wpD_mid (Y := Unit) (fun z6 => (⟨[(2, .v (.string a2)), (3, .ptr b1 0), (4, .ptr b2 0), (14, .v (.bool y6))], [(b1, Blk.cells [.lst 4 (a0.gGlobals.map eTApiGlobal) .no, .lst 5 (a0.gFuncs.map eTApiFunc) .no] 25), (b2, Blk.cells [.lst 4 (a1.gGlobals.map eTApiGlobal) .no, .lst 5 (a1.gFuncs.map eTApiFunc) .no] 25)], []⟩ : S)) ?_ ?_
  ·clear hm; have hm := yes_of q6
   refine wpD_region ?_
   refine p_load (d := eTApiProgram a0) 0 htab rfl rfl rfl rfl rfl rfl rfl rfl ?_
   obtain ⟨x7, q7, hm⟩ := yes_bind hm
   refine p_call0 (l18_few_ok a0 x7 q7) rfl rfl rfl rfl rfl Wl ?_
   rintro _ rfl
   refine pu ?_
   refine pu ?_
   refine p_split (i := 10) rfl (fun hg8 => ?_) (fun hg8 => ?_)
   ·replace hm := yes_t hg8 hm
    iterate 3 refine pK ?_
    refine p_pickT rfl rfl rfl rfl rfl rfl ?_
    refine ops_nil ?_
    have e6 := yes_eq hm; subst e6
    refine ⟨rfl, ?_⟩
    exact WkX.of () (WkS.perm (WkS.cons rfl (Wk.refl _) (WkS.cons rfl (Wk.refl _) (WkS.cons rfl (Wk.refl _) (WkS.cons rfl (Wk.refl _) (WkS.nil))))) Pf Pf)
   ·replace hm := yes_f hg8 hm
    refine p_load (d := eTApiProgram a1) 1 htab rfl rfl rfl rfl rfl rfl rfl rfl ?_
    obtain ⟨x9, q9, hm⟩ := yes_bind hm
    refine p_call0 (l18_few_ok a1 x9 q9) rfl rfl rfl rfl rfl Wl ?_
    rintro _ rfl
    refine pu ?_
    refine p_pickF rfl rfl rfl rfl rfl rfl ?_
    refine ops_nil ?_
    have e6 := yes_eq hm; subst e6
    refine ⟨rfl, ?_⟩
    exact WkX.of () (WkS.perm (WkS.cons rfl (Wk.refl _) (WkS.cons rfl (Wk.refl _) (WkS.cons rfl (Wk.refl _) (WkS.cons rfl (Wk.refl _) (WkS.nil))))) Pf Pf)
  ·intro s6 hw6; clear hm; have hm := ho6; clear q6 ho6
   refine then_normal ?_
   refine wpD_wkX hw6 (fun z6 => ?_)
   refine wpD_cond rfl (fun hc12 => ?_) (fun hc12 => ?_)
   ·replace hm := yes_t hc12 hm
    refine wpD_sr ?_
    obtain ⟨x13, q13, hm⟩ := yes_bind hm
    refine p_call0 (l18_lives_ok x13 q13) rfl rfl rfl rfl rfl Wl ?_
    rintro _ rfl
    refine pu ?_
    refine ops_nt ?_
    refine wpD_ret ?_
    refine then_ret ?_
    have er14 := yes_eq hm; subst er14
    refine rP (t' := [(6, .v (.bool x13))]) [] [] 0 (wC wN) (lT lN) ?_
    exact ⟨rfl, rfl, rfl⟩
   ·replace hm := yes_f hc12 hm
    refine wpD_skip ?_
    refine then_normal ?_
    refine wpD_seq ?_
    obtain ⟨x16, q16, hm⟩ := yes_bind hm
    obtain ⟨x18, q18, hm⟩ := yes_bind hm
    obtain ⟨x19, q19, hm⟩ := yes_bind hm
    refine bycB x19 (fun hs20 => ?_) (fun hs20 => ?_)
    ·replace hm := yes_t hs20 hm
     obtain ⟨x24, q24, hm⟩ := yes_bind hm
     obtain ⟨x26, q26, hm⟩ := yes_bind hm
     obtain ⟨x27, q27, hm⟩ := yes_bind hm
     refine bycB x27 (fun hs28 => ?_) (fun hs28 => ?_)
     ·replace hm := yes_t hs28 hm
      obtain ⟨x34, q34, hm⟩ := yes_bind hm
      refine wpD_drawsT 22 [] [(2, 1), (5, 1), (10, 1), (13, 1), (19, 1)] nlCh2_23 [0,1,2,3,4,5,6,8,10,11,13,14,17,19,20] nlCh2_24 (by kernel_rfl) (by kernel_rfl) (by kernel_rfl) (by rfl) (by rfl) (by kernel_rfl) ?_
      iterate 15 apply Exists.intro
      intro bs
      refine zt_eM rfl rfl (xm_load (d := eTApiProgram a0) 0 htab rfl rfl rfl rfl rfl) rfl rfl rfl rfl rfl rfl rfl ?_
      refine zt_eM rfl rfl (xm_load (d := eTApiProgram a1) 1 htab rfl rfl rfl rfl rfl) rfl rfl rfl rfl rfl rfl rfl ?_
      refine zt_callT rfl rfl (change_Touched_ok a0 a1 x16 q16) rfl rfl Wl rfl rfl rfl rfl rfl (by simp) (by decide) rfl ?_
      refine zt_eM rfl rfl (xm_load (d := eTApiProgram a0) 0 htab rfl rfl rfl rfl rfl) rfl rfl rfl rfl rfl rfl rfl ?_
      refine zt_eM rfl rfl (xm_load (d := eTApiProgram a1) 1 htab rfl rfl rfl rfl rfl) rfl rfl rfl rfl rfl rfl rfl ?_
      refine zt_callT rfl rfl (r18_Touched_ok a0 a1 x18 q18) rfl rfl Wl rfl rfl rfl rfl rfl (by simp) (by decide) rfl ?_
      refine zt_call rfl rfl (r11_Texts_ok x16 x18 x19 q19) rfl rfl (WkL.cons (Wk.no) (WkL.cons (Wk.no) Wl)) rfl rfl rfl rfl rfl rfl rfl ?_
      refine zt_q rfl rfl (ex_pure htab rfl) rfl rfl rfl rfl rfl rfl ?_
      refine zt_known (j := 23) (b' := true) rfl hs20 ?_
      refine zt_eM rfl rfl (xm_load (d := eTApiProgram a0) 0 htab rfl rfl rfl rfl rfl) rfl rfl rfl rfl rfl rfl rfl ?_
      refine zt_q rfl rfl (ex_pure htab rfl) rfl rfl rfl rfl rfl rfl ?_
      refine zt_callT rfl rfl (change_Callers_ok a0 a2 x24 q24) rfl rfl Wl rfl rfl rfl rfl rfl (by simp) (by decide) rfl ?_
      refine zt_eM rfl rfl (xm_load (d := eTApiProgram a0) 0 htab rfl rfl rfl rfl rfl) rfl rfl rfl rfl rfl rfl rfl ?_
      refine zt_q rfl rfl (ex_pure htab rfl) rfl rfl rfl rfl rfl rfl ?_
      refine zt_callT rfl rfl (r18_Callers_ok a0 a2 x26 q26) rfl rfl Wl rfl rfl rfl rfl rfl (by simp) (by decide) rfl ?_
      refine zt_call rfl rfl (r11_Texts_ok x24 x26 x27 q27) rfl rfl (WkL.cons (Wk.no) (WkL.cons (Wk.no) Wl)) rfl rfl rfl rfl rfl rfl rfl ?_
      refine zt_q rfl rfl (x_pickT rfl rfl rfl) rfl rfl rfl rfl rfl rfl ?_
      refine zt_q rfl rfl (ex_pure htab rfl) rfl rfl rfl rfl rfl rfl ?_
      refine zt_known (j := 32) (b' := true) rfl hs28 ?_
      refine zt_eM rfl rfl (xm_load (d := eTApiProgram a0) 0 htab rfl rfl rfl rfl rfl) rfl rfl rfl rfl rfl rfl rfl ?_
      refine zt_q rfl rfl (ex_pure htab rfl) rfl rfl rfl rfl rfl rfl ?_
      refine zt_callT rfl rfl (change_Reach_ok a0 a2 x34 q34) rfl rfl Wl rfl rfl rfl rfl rfl (by simp) (by decide) rfl ?_
      refine zt_eM rfl rfl (xm_load (d := eTApiProgram a0) 0 htab rfl rfl rfl rfl rfl) rfl rfl rfl rfl rfl rfl rfl ?_
      refine zt_q rfl rfl (ex_pure htab rfl) rfl rfl rfl rfl rfl rfl ?_
      refine zt_nil (k' := [(1, (bs 2)), (1, (bs 5)), (1, (bs 10)), (1, (bs 13)), (1, (bs 19))]) rfl (fun e he => by simp [isT] at he; rcases he with rfl | rfl | rfl | rfl | rfl <;> rfl) rfl rfl (fun e he => by simp [isAl] at he) ?_
      obtain ⟨w50, hw50⟩ : ∃ y, bs 2 = y := ⟨_, rfl⟩
      obtain ⟨w51, hw51⟩ : ∃ y, bs 5 = y := ⟨_, rfl⟩
      obtain ⟨w52, hw52⟩ : ∃ y, bs 10 = y := ⟨_, rfl⟩
      obtain ⟨w53, hw53⟩ : ∃ y, bs 13 = y := ⟨_, rfl⟩
      obtain ⟨w54, hw54⟩ : ∃ y, bs 19 = y := ⟨_, rfl⟩
      simp only [hw50, hw51, hw52, hw53, hw54]
      clear hw50 hw51 hw52 hw53 hw54
      obtain ⟨x56, q56, hm⟩ := yes_bind hm
      refine pG (r18_Reach_ok a0 a2 x56 q56) Wl Pf Pf ?_
      rintro _ _ _ ⟨w55, rfl, rfl, rfl⟩
      obtain ⟨x57, q57, hm⟩ := yes_bind hm
      refine p_call0 (r11_Texts_ok x34 x56 x57 q57) rfl rfl rfl rfl rfl (WkL.cons (Wk.no) (WkL.cons (Wk.no) Wl)) ?_
      rintro _ rfl
      refine p_pickT rfl rfl rfl rfl rfl rfl ?_
      refine pu ?_
      refine p_split (i := 41) rfl (fun hg58 => ?_) (fun hg58 => ?_)
      ·replace hm := yes_t hg58 hm
       obtain ⟨x59, q59, hm⟩ := yes_bind hm
       refine p_call0 (l18_lives_ok x59 q59) rfl rfl rfl rfl rfl Wl ?_
       rintro _ rfl
       refine p_pickT rfl rfl rfl rfl rfl rfl ?_
       refine pu ?_
       refine ops_nt ?_
       refine wpD_ret ?_
       have er60 := yes_eq hm; subst er60
       refine rP (t' := [(6, .v (.bool x59))]) [] [] 0 (wC wN) (lT lN) ?_
       exact ⟨rfl, rfl, rfl⟩
      ·replace hm := yes_f hg58 hm
       refine pK ?_
       refine p_pickF rfl rfl rfl rfl rfl rfl ?_
       refine pu ?_
       refine ops_nt ?_
       refine wpD_ret ?_
       have er61 := yes_eq hm; subst er61
       refine rP (t' := [(6, .v (.bool false))]) [] [] 0 (wC wN) (lT lN) ?_
       exact ⟨rfl, rfl, rfl⟩
     ·replace hm := yes_f hs28 hm
      refine wpD_drawsT 22 [] [(2, 1), (5, 1), (10, 1), (13, 1)] nlCh2_25 [0,1,2,3,4,5,6,8,10,11,13,14] nlCh2_24 (by kernel_rfl) (by kernel_rfl) (by kernel_rfl) (by rfl) (by rfl) (by kernel_rfl) ?_
      iterate 12 apply Exists.intro
      intro bs
      refine zt_eM rfl rfl (xm_load (d := eTApiProgram a0) 0 htab rfl rfl rfl rfl rfl) rfl rfl rfl rfl rfl rfl rfl ?_
      refine zt_eM rfl rfl (xm_load (d := eTApiProgram a1) 1 htab rfl rfl rfl rfl rfl) rfl rfl rfl rfl rfl rfl rfl ?_
      refine zt_callT rfl rfl (change_Touched_ok a0 a1 x16 q16) rfl rfl Wl rfl rfl rfl rfl rfl (by simp) (by decide) rfl ?_
      refine zt_eM rfl rfl (xm_load (d := eTApiProgram a0) 0 htab rfl rfl rfl rfl rfl) rfl rfl rfl rfl rfl rfl rfl ?_
      refine zt_eM rfl rfl (xm_load (d := eTApiProgram a1) 1 htab rfl rfl rfl rfl rfl) rfl rfl rfl rfl rfl rfl rfl ?_
      refine zt_callT rfl rfl (r18_Touched_ok a0 a1 x18 q18) rfl rfl Wl rfl rfl rfl rfl rfl (by simp) (by decide) rfl ?_
      refine zt_call rfl rfl (r11_Texts_ok x16 x18 x19 q19) rfl rfl (WkL.cons (Wk.no) (WkL.cons (Wk.no) Wl)) rfl rfl rfl rfl rfl rfl rfl ?_
      refine zt_q rfl rfl (ex_pure htab rfl) rfl rfl rfl rfl rfl rfl ?_
      refine zt_known (j := 23) (b' := true) rfl hs20 ?_
      refine zt_eM rfl rfl (xm_load (d := eTApiProgram a0) 0 htab rfl rfl rfl rfl rfl) rfl rfl rfl rfl rfl rfl rfl ?_
      refine zt_q rfl rfl (ex_pure htab rfl) rfl rfl rfl rfl rfl rfl ?_
      refine zt_callT rfl rfl (change_Callers_ok a0 a2 x24 q24) rfl rfl Wl rfl rfl rfl rfl rfl (by simp) (by decide) rfl ?_
      refine zt_eM rfl rfl (xm_load (d := eTApiProgram a0) 0 htab rfl rfl rfl rfl rfl) rfl rfl rfl rfl rfl rfl rfl ?_
      refine zt_q rfl rfl (ex_pure htab rfl) rfl rfl rfl rfl rfl rfl ?_
      refine zt_callT rfl rfl (r18_Callers_ok a0 a2 x26 q26) rfl rfl Wl rfl rfl rfl rfl rfl (by simp) (by decide) rfl ?_
      refine zt_call rfl rfl (r11_Texts_ok x24 x26 x27 q27) rfl rfl (WkL.cons (Wk.no) (WkL.cons (Wk.no) Wl)) rfl rfl rfl rfl rfl rfl rfl ?_
      refine zt_q rfl rfl (x_pickT rfl rfl rfl) rfl rfl rfl rfl rfl rfl ?_
      refine zt_q rfl rfl (ex_pure htab rfl) rfl rfl rfl rfl rfl rfl ?_
      refine zt_known (j := 32) (b' := false) rfl hs28 ?_
      iterate 5 refine zt_skip rfl rfl rfl rfl ?_
      refine zt_nil (k' := [(1, (bs 2)), (1, (bs 5)), (1, (bs 10)), (1, (bs 13))]) rfl (fun e he => by simp [isT] at he; rcases he with rfl | rfl | rfl | rfl <;> rfl) rfl rfl (fun e he => by simp [isAl] at he) ?_
      obtain ⟨w78, hw78⟩ : ∃ y, bs 2 = y := ⟨_, rfl⟩
      obtain ⟨w79, hw79⟩ : ∃ y, bs 5 = y := ⟨_, rfl⟩
      obtain ⟨w80, hw80⟩ : ∃ y, bs 10 = y := ⟨_, rfl⟩
      obtain ⟨w81, hw81⟩ : ∃ y, bs 13 = y := ⟨_, rfl⟩
      simp only [hw78, hw79, hw80, hw81]
      clear hw78 hw79 hw80 hw81
      refine pK ?_
      refine pK ?_
      refine p_pickF rfl rfl rfl rfl rfl rfl ?_
      refine pu ?_
      refine pK ?_
      refine p_pickF rfl rfl rfl rfl rfl rfl ?_
      refine pu ?_
      refine ops_nt ?_
      refine wpD_ret ?_
      have er82 := yes_eq hm; subst er82
      refine rP (t' := [(6, .v (.bool false))]) [] [] 0 (wC wN) (lT lN) ?_
      exact ⟨rfl, rfl, rfl⟩
    ·replace hm := yes_f hs20 hm
     refine wpD_drawsT 22 [] [(2, 1), (5, 1)] nlCh2_26 [0,1,2,3,4,5,6] nlCh2_24 (by kernel_rfl) (by kernel_rfl) (by kernel_rfl) (by rfl) (by rfl) (by kernel_rfl) ?_
     iterate 7 apply Exists.intro
     intro bs
     refine zt_eM rfl rfl (xm_load (d := eTApiProgram a0) 0 htab rfl rfl rfl rfl rfl) rfl rfl rfl rfl rfl rfl rfl ?_
     refine zt_eM rfl rfl (xm_load (d := eTApiProgram a1) 1 htab rfl rfl rfl rfl rfl) rfl rfl rfl rfl rfl rfl rfl ?_
     refine zt_callT rfl rfl (change_Touched_ok a0 a1 x16 q16) rfl rfl Wl rfl rfl rfl rfl rfl (by simp) (by decide) rfl ?_
     refine zt_eM rfl rfl (xm_load (d := eTApiProgram a0) 0 htab rfl rfl rfl rfl rfl) rfl rfl rfl rfl rfl rfl rfl ?_
     refine zt_eM rfl rfl (xm_load (d := eTApiProgram a1) 1 htab rfl rfl rfl rfl rfl) rfl rfl rfl rfl rfl rfl rfl ?_
     refine zt_callT rfl rfl (r18_Touched_ok a0 a1 x18 q18) rfl rfl Wl rfl rfl rfl rfl rfl (by simp) (by decide) rfl ?_
     refine zt_call rfl rfl (r11_Texts_ok x16 x18 x19 q19) rfl rfl (WkL.cons (Wk.no) (WkL.cons (Wk.no) Wl)) rfl rfl rfl rfl rfl rfl rfl ?_
     refine zt_q rfl rfl (ex_pure htab rfl) rfl rfl rfl rfl rfl rfl ?_
     refine zt_known (j := 23) (b' := false) rfl hs20 ?_
     iterate 7 refine zt_skip rfl rfl rfl rfl ?_
     refine zt_q rfl rfl (x_pickF rfl rfl rfl) rfl rfl rfl rfl rfl rfl ?_
     refine zt_q rfl rfl (ex_pure htab rfl) rfl rfl rfl rfl rfl rfl ?_
     iterate 5 refine zt_skip rfl rfl rfl rfl ?_
     refine zt_nil (k' := [(1, (bs 2)), (1, (bs 5))]) rfl (fun e he => by simp [isT] at he; rcases he with rfl | rfl <;> rfl) rfl rfl (fun e he => by simp [isAl] at he) ?_
     obtain ⟨w91, hw91⟩ : ∃ y, bs 2 = y := ⟨_, rfl⟩
     obtain ⟨w92, hw92⟩ : ∃ y, bs 5 = y := ⟨_, rfl⟩
     simp only [hw91, hw92]
     clear hw91 hw92
     refine pK ?_
     refine pK ?_
     refine p_pickF rfl rfl rfl rfl rfl rfl ?_
     refine pu ?_
     refine pK ?_
     refine p_pickF rfl rfl rfl rfl rfl rfl ?_
     refine pu ?_
     refine ops_nt ?_
     refine wpD_ret ?_
     have er93 := yes_eq hm; subst er93
     refine rP (t' := [(6, .v (.bool false))]) [] [] 0 (wC wN) (lT lN) ?_
     exact ⟨rfl, rfl, rfl⟩
end Go.Proofs.Ytpeimfcmhedjmaa.Ab
namespace Go.Proofs.Ytpeimfcmhedjmaa.Ab
open Go
set_option linter.all false
mutual
def szE : TApiExpr → Nat
  | ⟨_, _, _, ks, _⟩ => 1 + szEs ks
def szEs : List TApiExpr → Nat
  | [] => 0
  | e :: l => szE e + szEs l
end
mutual
def dpE : TApiExpr → Nat
  | ⟨_, _, _, ks, _⟩ => 1 + dpEs ks
def dpEs : List TApiExpr → Nat
  | [] => 0
  | e :: l => max (dpE e) (dpEs l)
end
theorem szE_eq (e : TApiExpr) : szE e = 1 + szEs e.gKids := by cases e; simp only [szE]
theorem dpE_eq (e : TApiExpr) : dpE e = 1 + dpEs e.gKids := by cases e; simp only [dpE]
theorem szEs_append : ∀ l m, szEs (l ++ m) = szEs l + szEs m
  | [], m => by simp [szEs]
  | e :: l, m => by simp only [List.cons_append, szEs, szEs_append l m]; omega
theorem dpE_mem : ∀ {l : List TApiExpr} {e : TApiExpr}, e ∈ l → dpE e ≤ dpEs l
  | x :: l, e, h => by
    simp only [dpEs]
    rcases List.mem_cons.1 h with rfl | h
    · omega
    · have := dpE_mem h; omega
theorem szE_mem : ∀ {l : List TApiExpr} {e : TApiExpr}, e ∈ l → szE e ≤ szEs l
  | x :: l, e, h => by
    simp only [szEs]
    rcases List.mem_cons.1 h with rfl | h
    · omega
    · have := szE_mem h; omega
def wE (e : TApiExpr) : Nat := wt (eTApiExpr e)
def wEs (l : List TApiExpr) : Nat := wts (l.map eTApiExpr)
theorem wE_eq (e : TApiExpr) : wE e = e.gName.size + wEs e.gKids + 5 := by
  unfold wE wEs
  rw [eTApiExpr_eq]
  simp only [wt, wts, wtv]; omega
theorem wEs_cons (e : TApiExpr) (l : List TApiExpr) : wEs (e :: l) = wE e + wEs l := by unfold wEs wE; simp only [List.map_cons, wts]
mutual
theorem szE_le : ∀ e, szE e ≤ wE e
  | ⟨a, b, c, ks, d⟩ => by
    have := szEs_le ks
    rw [wE_eq]
    simp only [szE]; omega
theorem szEs_le : ∀ l, szEs l ≤ wEs l
  | [] => by simp [szEs]
  | e :: l => by
    have h1 := szE_le e
    have h2 := szEs_le l
    rw [wEs_cons]
    simp only [szEs]; omega
end
theorem szEs_len : ∀ l, l.length ≤ szEs l
  | [] => by simp
  | e :: l => by
    have := szEs_len l
    have h := szE_eq e
    simp only [szEs, List.length_cons]; omega
theorem kids_mem {e k : TApiExpr} (h : k ∈ e.gKids) : dpE k < dpE e ∧ szE k < szE e := by
  have h1 := dpE_mem h
  have h2 := szE_mem h
  rw [dpE_eq e, szE_eq e]; omega
theorem szEs_pre {l pre : List TApiExpr} {x : TApiExpr} {post : List TApiExpr} (h : l = pre ++ x :: post) : szEs pre + szE x ≤ szEs l := by
  subst h; rw [szEs_append]; simp only [szEs]; omega
mutual
def eqE (p : Bool) : TApiExpr → TApiExpr → Bool
  | ⟨a, b, c, ks, d⟩, f => a == f.gOp && (b == f.gN && (decide (c = f.gName) && ((!p || d == f.gAt) && eqEs p ks f.gKids)))
def eqEs (p : Bool) : List TApiExpr → List TApiExpr → Bool
  | [], m => m.isEmpty
  | e :: l, m => match m with
    | [] => false
    | f :: m => eqE p e f && eqEs p l m
end
theorem eqE_eq (p : Bool) (e f : TApiExpr) : eqE p e f = (e.gOp == f.gOp && (e.gN == f.gN && (decide (e.gName = f.gName) && ((!p || e.gAt == f.gAt) && eqEs p e.gKids f.gKids)))) := by cases e; simp only [eqE]
theorem eqEs_eq (p : Bool) : ∀ l m, eqEs p l m = all2 (eqE p) l m
  | [], [] => by simp [eqEs, all2]
  | [], _ :: _ => by simp [eqEs, all2]
  | _ :: _, [] => by simp [eqEs, all2]
  | x :: l, y :: m => by simp only [eqEs, all2, eqEs_eq p l m]
end Go.Proofs.Ytpeimfcmhedjmaa.Ab
namespace Go.Proofs.Ytpeimfcmhedjmaa.Ab
open Go
set_option linter.all false
mutual
def allE : TApiExpr → List TApiExpr
  | ⟨a, b, c, ks, d⟩ => ⟨a, b, c, ks, d⟩ :: allEs ks
def allEs : List TApiExpr → List TApiExpr
  | [] => []
  | e :: l => allE e ++ allEs l
end
theorem allE_eq (e : TApiExpr) : allE e = e :: allEs e.gKids := by cases e; simp only [allE]
theorem allEs_append : ∀ l m, allEs (l ++ m) = allEs l ++ allEs m
  | [], m => by simp [allEs]
  | e :: l, m => by simp only [List.cons_append, allEs, allEs_append l m, List.append_assoc]
mutual
theorem allE_len : ∀ e, (allE e).length = szE e
  | ⟨_, _, _, ks, _⟩ => by simp only [allE, szE, List.length_cons, allEs_len ks]; omega
theorem allEs_len : ∀ l, (allEs l).length = szEs l
  | [] => rfl
  | e :: l => by simp only [allEs, szEs, List.length_append, allE_len e, allEs_len l]
end
mutual
def flS : TApiStmt → List TApiStmt
  | ⟨a, b, c, es, ks, ls, d⟩ => ⟨a, b, c, es, ks, ls, d⟩ :: (flSs ks ++ flSs ls)
def flSs : List TApiStmt → List TApiStmt
  | [] => []
  | s :: l => flS s ++ flSs l
end
mutual
def szS : TApiStmt → Nat
  | ⟨_, _, _, es, ks, ls, _⟩ => 1 + szSs ks + szSs ls + szEs es
def szSs : List TApiStmt → Nat
  | [] => 0
  | s :: l => szS s + szSs l
end
mutual
def hS : TApiStmt → Nat
  | ⟨_, _, _, _, ks, ls, _⟩ => 1 + max (hSs ks) (hSs ls)
def hSs : List TApiStmt → Nat
  | [] => 1
  | s :: l => max (hS s) (hSs l)
end
def exOf (l : List TApiStmt) : List TApiExpr := l.flatMap fun s => allEs s.gExps
theorem flS_eq (s : TApiStmt) : flS s = s :: (flSs s.gKids ++ flSs s.gElse) := by cases s; simp only [flS]
theorem szS_eq (s : TApiStmt) : szS s = 1 + szSs s.gKids + szSs s.gElse + szEs s.gExps := by cases s; simp only [szS]
theorem hS_eq (s : TApiStmt) : hS s = 1 + max (hSs s.gKids) (hSs s.gElse) := by cases s; simp only [hS]
theorem flSs_append : ∀ l m, flSs (l ++ m) = flSs l ++ flSs m
  | [], m => by simp [flSs]
  | e :: l, m => by simp only [List.cons_append, flSs, flSs_append l m, List.append_assoc]
theorem szSs_append : ∀ l m, szSs (l ++ m) = szSs l + szSs m
  | [], m => by simp [szSs]
  | e :: l, m => by simp only [List.cons_append, szSs, szSs_append l m]; omega
theorem exOf_append (l m : List TApiStmt) : exOf (l ++ m) = exOf l ++ exOf m := by simp [exOf]
theorem hS_mem : ∀ {l : List TApiStmt} {s : TApiStmt}, s ∈ l → hS s ≤ hSs l
  | x :: l, e, h => by
    simp only [hSs]
    rcases List.mem_cons.1 h with rfl | h
    · omega
    · have := hS_mem h; omega
theorem szS_mem : ∀ {l : List TApiStmt} {s : TApiStmt}, s ∈ l → szS s ≤ szSs l
  | x :: l, e, h => by
    simp only [szSs]
    rcases List.mem_cons.1 h with rfl | h
    · omega
    · have := szS_mem h; omega
theorem hSs_pos : ∀ l, 1 ≤ hSs l
  | [] => by simp [hSs]
  | s :: l => by have := hSs_pos l; simp only [hSs]; omega
mutual
theorem szS_fl : ∀ s, szS s = (flS s).length + (exOf (flS s)).length
  | ⟨a, b, c, es, ks, ls, d⟩ => by
    have h1 := szSs_fl ks
    have h2 := szSs_fl ls
    simp only [szS, flS, List.length_cons, List.length_append, exOf, List.flatMap_cons, List.flatMap_append, allEs_len] at h1 h2 ⊢
    omega
theorem szSs_fl : ∀ l, szSs l = (flSs l).length + (exOf (flSs l)).length
  | [] => rfl
  | s :: l => by
    have h1 := szS_fl s
    have h2 := szSs_fl l
    simp only [szSs, flSs, List.length_append, exOf_append]; omega
end
theorem szSs_len : ∀ l, l.length ≤ szSs l
  | [] => by simp
  | e :: l => by
    have := szSs_len l
    have h := szS_eq e
    simp only [szSs, List.length_cons]; omega
theorem szSs_pre {l pre : List TApiStmt} {x : TApiStmt} {post : List TApiStmt} (h : l = pre ++ x :: post) : szSs pre + szS x ≤ szSs l := by
  subst h; rw [szSs_append]; simp only [szSs]; omega
def wS (s : TApiStmt) : Nat := wt (eTApiStmt s)
def wSs (l : List TApiStmt) : Nat := wts (l.map eTApiStmt)
theorem wS_eq (s : TApiStmt) : wS s = s.gName.size + s.gFunc.size + wEs s.gExps + wSs s.gKids + wSs s.gElse + 7 := by
  unfold wS wSs wEs
  rw [eTApiStmt_eq]
  simp only [wt, wts, wtv]; omega
theorem wSs_cons (s : TApiStmt) (l : List TApiStmt) : wSs (s :: l) = wS s + wSs l := by unfold wSs wS; simp only [List.map_cons, wts]
mutual
theorem szS_le : ∀ s, szS s ≤ wS s
  | ⟨a, b, c, es, ks, ls, d⟩ => by
    have h1 := szSs_le ks
    have h2 := szSs_le ls
    have h3 := szEs_le es
    rw [wS_eq]
    simp only [szS]; omega
theorem szSs_le : ∀ l, szSs l ≤ wSs l
  | [] => by simp [szSs]
  | s :: l => by
    have h1 := szS_le s
    have h2 := szSs_le l
    rw [wSs_cons]
    simp only [szSs]; omega
end
theorem fuel {l : List TApiStmt} {n : Nat} {x : TApiStmt} (h : hSs l ≤ n + 1) (hx : x ∈ l) : hSs x.gKids ≤ n ∧ hSs x.gElse ≤ n := by
  have h1 := hS_mem hx
  have h2 := hS_eq x
  omega
end Go.Proofs.Ytpeimfcmhedjmaa.Ab
namespace Go.Proofs.Ytpeimfcmhedjmaa.Ab
open Go
set_option linter.all false
theorem rexps_g (p : Bool) : ∀ (n : Nat) (l m : List TApiExpr), dpEs l + 1 ≤ n → szEs l ≤ 1048576 → r11_Exps_g n l m p = some (eqEs p l m)
  | 0, l, m, h, _ => by omega
  | n + 1, l, m, h, hb => by
    show r11_Exps_b (r11_Exps_g n) l m p = _
    unfold r11_Exps_b
    have hl := szEs_len l
    rw [eqEs_eq]
    refine pairs _ l m (fun a x q a' y q' e e' hp => ?_) ?_
    · have hx := pre_mem e
      have hd := dpE_mem hx
      have hz := szE_mem hx
      have hdx := dpE_eq x
      have hsx := szE_eq x
      rw [lt_pre e, cond_true]
      simp only [idx_pre2 e rfl, idx_pre2 e' hp, Option.bind_some]
      rw [inc_pre e (by omega), rexps_g p n _ _ (by omega) (by omega), eqE_eq]
      simp only [Option.bind_some, bne]
      cases x.gOp == y.gOp <;> cases x.gN == y.gN <;> cases decide (x.gName = y.gName) <;> cases p <;> cases x.gAt == y.gAt <;> cases eqEs _ x.gKids y.gKids <;> rfl
    · rw [lt_end, cond_false]
theorem rexps_eq {l m : List TApiExpr} {p : Bool} (hb : szEs l ≤ 1048576) : r11_Exps l m p = some (eqEs p l m) := r11_Exps_of l m p (dpEs l + 1) (rexps_g p _ l m (Nat.le_refl _) hb)
end Go.Proofs.Ytpeimfcmhedjmaa.Ab
namespace Go.Proofs.Ytpeimfcmhedjmaa.Ab
open Go
set_option linter.all false
theorem same_b {g0 g1} {e f : TApiExpr} (h : g0 e.gKids f.gKids = some (eqEs false e.gKids f.gKids)) : tree_Same_b g0 g1 e f = some (eqE false e f) := by
  unfold tree_Same_b
  rw [h, eqE_eq]
  cases e.gOp == f.gOp <;> cases e.gN == f.gN <;> cases decide (e.gName = f.gName) <;> rfl
theorem same_g : ∀ (n : Nat), (∀ l m, 2 * dpEs l + 1 ≤ n → szEs l ≤ 1048576 → (slices_EqualFunc_api_Expr_api_Expr_api_Expr_api_Expr_g n).1 l m = some (eqEs false l m)) ∧ (∀ e f, 2 * dpE e ≤ n → szE e ≤ 1048576 → (slices_EqualFunc_api_Expr_api_Expr_api_Expr_api_Expr_g n).2 e f = some (eqE false e f))
  | 0 => ⟨fun l m h => by omega, fun e f h _ => by rw [dpE_eq] at h; omega⟩
  | n + 1 => by
    obtain ⟨h2, h1⟩ := same_g n
    refine ⟨fun l m h hb => ?_, fun e f h hb => ?_⟩
    · show slices_EqualFunc_api_Expr_api_Expr_api_Expr_api_Expr_b (slices_EqualFunc_api_Expr_api_Expr_api_Expr_api_Expr_g n).1 (slices_EqualFunc_api_Expr_api_Expr_api_Expr_api_Expr_g n).2 l m = _
      unfold slices_EqualFunc_api_Expr_api_Expr_api_Expr_api_Expr_b
      have hl := szEs_len l
      rw [eqEs_eq]
      refine pairs _ l m (fun p x q p' y q' e e' hp => ?_) ?_
      · have hx := pre_mem e
        have hd := dpE_mem hx
        have hz := szE_mem hx
        rw [lt_pre e, cond_true, idx_pre2 e rfl, Option.bind_some, idx_pre2 e' hp, Option.bind_some, h1 x y (by omega) (by omega), Option.bind_some, inc_pre e (by omega)]
        cases eqE false x y <;> rfl
      · rw [lt_end, cond_false]
    · have he := dpE_eq e
      have hs := szE_eq e
      exact same_b (g1 := (slices_EqualFunc_api_Expr_api_Expr_api_Expr_api_Expr_g n).2) (h2 _ _ (by omega) (by omega))
theorem eqf_eq {l m : List TApiExpr} (hb : szEs l ≤ 1048576) : slices_EqualFunc_api_Expr_api_Expr_api_Expr_api_Expr l m = some (eqEs false l m) := slices_EqualFunc_api_Expr_api_Expr_api_Expr_api_Expr_of l m (2 * dpEs l + 1) ((same_g _).1 l m (Nat.le_refl _) hb)
mutual
def eqS (p : Bool) : TApiStmt → TApiStmt → Bool
  | ⟨a, b, c, es, ks, ls, d⟩, f => a == f.gOp && (decide (b = f.gName) && (decide (c = f.gFunc) && ((!p || d == f.gAt) && (eqEs p es f.gExps && (eqSs p ks f.gKids && eqSs p ls f.gElse)))))
def eqSs (p : Bool) : List TApiStmt → List TApiStmt → Bool
  | [], m => m.isEmpty
  | e :: l, m => match m with
    | [] => false
    | f :: m => eqS p e f && eqSs p l m
end
theorem eqS_eq (p : Bool) (e f : TApiStmt) : eqS p e f = (e.gOp == f.gOp && (decide (e.gName = f.gName) && (decide (e.gFunc = f.gFunc) && ((!p || e.gAt == f.gAt) && (eqEs p e.gExps f.gExps && (eqSs p e.gKids f.gKids && eqSs p e.gElse f.gElse)))))) := by cases e; simp only [eqS]
theorem eqSs_eq (p : Bool) : ∀ l m, eqSs p l m = all2 (eqS p) l m
  | [], [] => by simp [eqSs, all2]
  | [], _ :: _ => by simp [eqSs, all2]
  | _ :: _, [] => by simp [eqSs, all2]
  | x :: l, y :: m => by simp only [eqSs, all2, eqSs_eq p l m]
theorem sameS_g : ∀ (n : Nat), (∀ l m, 3 * hSs l ≤ n → szSs l ≤ 1048576 → (tree_SameAll_g n).1 l m = some (eqSs false l m)) ∧ (∀ l m, 3 * hSs l ≤ n + 1 → szSs l ≤ 1048576 → (tree_SameAll_g n).2.1 l m = some (eqSs false l m)) ∧ (∀ s t, 3 * hS s ≤ n + 2 → szS s ≤ 1048576 → (tree_SameAll_g n).2.2 s t = some (eqS false s t))
  | 0 => by
    refine ⟨fun l m h _ => ?_, fun l m h _ => ?_, fun s t h _ => ?_⟩
    · have := hSs_pos l; omega
    · have := hSs_pos l; omega
    · have := hSs_pos s.gKids; rw [hS_eq] at h; omega
  | n + 1 => by
    obtain ⟨h1, h2, h3⟩ := sameS_g n
    refine ⟨fun l m h hb => ?_, fun l m h hb => ?_, fun s t h hb => ?_⟩
    · show tree_SameAll_b (tree_SameAll_g n).1 (tree_SameAll_g n).2.1 (tree_SameAll_g n).2.2 l m = _
      unfold tree_SameAll_b
      rw [h2 l m (by omega) hb]; rfl
    · show slices_EqualFunc_api_Stmt_api_Stmt_api_Stmt_api_Stmt_b (tree_SameAll_g n).1 (tree_SameAll_g n).2.1 (tree_SameAll_g n).2.2 l m = _
      unfold slices_EqualFunc_api_Stmt_api_Stmt_api_Stmt_api_Stmt_b
      have hl := szSs_len l
      rw [eqSs_eq]
      refine pairs _ l m (fun p x q p' y q' e e' hp => ?_) ?_
      · have hx := pre_mem e
        have hd := hS_mem hx
        have hz := szS_mem hx
        rw [lt_pre e, cond_true, idx_pre2 e rfl, Option.bind_some, idx_pre2 e' hp, Option.bind_some, h3 x y (by omega) (by omega), Option.bind_some, inc_pre e (by omega)]
        cases eqS false x y <;> rfl
      · rw [lt_end, cond_false]
    · show tree_sameStmt_b (tree_SameAll_g n).1 (tree_SameAll_g n).2.1 (tree_SameAll_g n).2.2 s t = _
      unfold tree_sameStmt_b
      have hh := hS_eq s
      have hz := szS_eq s
      rw [eqf_eq (by omega), h1 _ _ (by omega) (by omega), h1 _ _ (by omega) (by omega), eqS_eq]
      simp only [Option.bind_some, bne]
      cases s.gOp == t.gOp <;> cases decide (s.gName = t.gName) <;> cases decide (s.gFunc = t.gFunc) <;> cases eqEs false s.gExps t.gExps <;> cases eqSs false s.gKids t.gKids <;> cases eqSs false s.gElse t.gElse <;> rfl
theorem sameS_eq {l m : List TApiStmt} (hb : szSs l ≤ 1048576) : tree_SameAll l m = some (eqSs false l m) := tree_SameAll_of l m (3 * hSs l) ((sameS_g _).1 l m (Nat.le_refl _) hb)
theorem rsameS_g (p : Bool) : ∀ (n : Nat) (l m : List TApiStmt), hSs l ≤ n → szSs l ≤ 1048576 → r11_SameAll_g n l m p = some (eqSs p l m)
  | 0, l, m, h, _ => by have := hSs_pos l; omega
  | n + 1, l, m, h, hb => by
    show r11_SameAll_b (r11_SameAll_g n) l m p = _
    unfold r11_SameAll_b
    have hl := szSs_len l
    rw [eqSs_eq]
    refine pairs _ l m (fun a x q a' y q' e e' hp => ?_) ?_
    · have hx := pre_mem e
      have hd := hS_mem hx
      have hz := szS_mem hx
      have hdx := hS_eq x
      have hsx := szS_eq x
      rw [lt_pre e, cond_true]
      simp only [idx_pre2 e rfl, idx_pre2 e' hp, Option.bind_some]
      rw [inc_pre e (by omega), rexps_eq (by omega), rsameS_g p n _ _ (by omega) (by omega), rsameS_g p n _ _ (by omega) (by omega), eqS_eq]
      simp only [Option.bind_some, bne]
      cases x.gOp == y.gOp <;> cases decide (x.gName = y.gName) <;> cases decide (x.gFunc = y.gFunc) <;> cases p <;> cases x.gAt == y.gAt <;> cases eqEs _ x.gExps y.gExps <;> cases eqSs _ x.gKids y.gKids <;> cases eqSs _ x.gElse y.gElse <;> rfl
    · rw [lt_end, cond_false]
theorem rsameS_eq {l m : List TApiStmt} {p : Bool} (hb : szSs l ≤ 1048576) : r11_SameAll l m p = some (eqSs p l m) := r11_SameAll_of l m p (hSs l) (rsameS_g p _ l m (Nat.le_refl _) hb)
def eqVar (a b : TApiVar) : Bool := decide (a.gName = b.gName) && (a.gPtr == b.gPtr && true)
theorem vars_eq {l m : List TApiVar} (hb : l.length ≤ 1048576) : r11_vars l m = some (all2 eqVar l m) := by
  unfold r11_vars
  refine pairs _ l m (fun p x q p' y q' e e' hp => ?_) ?_
  · rw [lt_pre e, cond_true, idx_pre2 e rfl, Option.bind_some, idx_pre2 e' hp, Option.bind_some, inc_pre e (by omega)]
    show (bif !eqVar x y then _ else _) = _
    cases eqVar x y <;> rfl
  · rw [lt_end, cond_false]
theorem equalV_eq {l m : List TApiVar} (hb : l.length ≤ 1048576) : slices_Equal_api_Var_api_Var l m = some (all2 eqVar l m) := vars_eq hb
def eqF (a b : TApiFunc) : Bool := decide (a.gName = b.gName) && (all2 eqVar a.gParams b.gParams && (all2 eqVar a.gLocals b.gLocals && eqSs false a.gBody b.gBody))
theorem sameF_eq {a b : TApiFunc} (h1 : a.gParams.length ≤ 1048576) (h2 : a.gLocals.length ≤ 1048576) (h3 : szSs a.gBody ≤ 1048576) : tree_SameFunc a b = some (eqF a b) := by
  unfold tree_SameFunc eqF
  rw [equalV_eq h1, equalV_eq h2, sameS_eq h3]
  simp only [Option.bind_some]
  cases decide (a.gName = b.gName) <;> cases all2 eqVar a.gParams b.gParams <;> cases all2 eqVar a.gLocals b.gLocals <;> cases eqSs false a.gBody b.gBody <;> rfl
theorem rsameF_eq {a b : TApiFunc} (h1 : a.gParams.length ≤ 1048576) (h2 : a.gLocals.length ≤ 1048576) (h3 : szSs a.gBody ≤ 1048576) : r11_SameFunc a b false = some (eqF a b) := by
  unfold r11_SameFunc eqF
  rw [vars_eq h1, vars_eq h2, rsameS_eq h3]
  simp only [Option.bind_some]
  cases decide (a.gName = b.gName) <;> cases all2 eqVar a.gParams b.gParams <;> cases all2 eqVar a.gLocals b.gLocals <;> cases eqSs false a.gBody b.gBody <;> rfl
end Go.Proofs.Ytpeimfcmhedjmaa.Ab
namespace Go.Proofs.Ytpeimfcmhedjmaa.Ab
open Go
set_option linter.all false
section
variable {α : Type} {R : α → α → Prop}
def Rise (R : α → α → Prop) (l : List α) : Prop := l.Pairwise fun a b => R a b ∧ a ≠ b
theorem rise_unique (an : ∀ a b, R a b → R b a → a = b) : ∀ {l m : List α}, Rise R l → Rise R m → (∀ x, x ∈ l ↔ x ∈ m) → l = m
  | [], [], _, _, _ => rfl
  | [], y :: m, _, _, h => by have := (h y).2 (by simp); cases this
  | x :: l, [], _, _, h => by have := (h x).1 (by simp); cases this
  | x :: l, y :: m, hl, hm, h => by
    unfold Rise at hl hm
    rw [List.pairwise_cons] at hl hm
    have hxy : x = y := by
      rcases List.mem_cons.1 ((h x).1 (by simp)) with e | e
      · exact e
      · rcases List.mem_cons.1 ((h y).2 (by simp)) with e2 | e2
        · exact e2.symm
        · exact an _ _ (hl.1 _ e2).1 (hm.1 _ e).1
    subst hxy
    congr 1
    refine rise_unique an hl.2 hm.2 fun z => ?_
    constructor
    · intro hz
      rcases List.mem_cons.1 ((h z).1 (List.mem_cons_of_mem _ hz)) with e | e
      · exact absurd e.symm (hl.1 _ hz).2
      · exact e
    · intro hz
      rcases List.mem_cons.1 ((h z).2 (List.mem_cons_of_mem _ hz)) with e | e
      · exact absurd e.symm (hm.1 _ hz).2
      · exact e
variable [Inhabited α] [DecidableEq α]
theorem compactUp_rise (tr : ∀ a b c, R a b → R b c → R a c) (re : ∀ a, R a a) (an : ∀ a b, R a b → R b a → a = b) (d : Array α) (hs : ∀ i j, i < j → j < d.size → R d[i]! d[j]!) : ∀ m, m ≤ d.size →
    Rise R (Lib.compactUpTo d m) ∧ (∀ x, x ∈ Lib.compactUpTo d m ↔ ∃ j, j < m ∧ x = d[j]!)
  | 0, _ => ⟨by simp [Rise, Lib.compactUpTo], by simp [Lib.compactUpTo]⟩
  | m + 1, h => by
    obtain ⟨h1, h2⟩ := compactUp_rise tr re an d hs m (by omega)
    rw [Lib.compactUpTo_succ]
    by_cases k : Lib.keeps d m = true
    · rw [if_pos k]
      refine ⟨?_, fun x => ?_⟩
      · unfold Rise at h1 ⊢
        rw [List.pairwise_append]
        refine ⟨h1, by simp, fun a ha b hb => ?_⟩
        simp only [List.mem_singleton] at hb; subst hb
        obtain ⟨j, hj, rfl⟩ := (h2 a).1 ha
        refine ⟨hs j m hj (by omega), fun e => ?_⟩
        have hk : m = 0 ∨ d[m]! ≠ d[m - 1]! := by simpa [Lib.keeps] using k
        rcases hk with hk | hk
        · omega
        · refine hk (an _ _ ?_ (hs (m - 1) m (by omega) (by omega)))
          rw [← e]
          by_cases hjm : j = m - 1
          · subst hjm; exact re _
          · exact hs j (m - 1) (by omega) (by omega)
      · rw [List.mem_append, h2 x, List.mem_singleton]
        constructor
        · rintro (⟨j, hj, rfl⟩ | rfl)
          · exact ⟨j, by omega, rfl⟩
          · exact ⟨m, by omega, rfl⟩
        · rintro ⟨j, hj, rfl⟩
          by_cases hjm : j = m
          · subst hjm; exact .inr rfl
          · exact .inl ⟨j, by omega, rfl⟩
    · rw [if_neg k, List.append_nil]
      refine ⟨h1, fun x => ?_⟩
      rw [h2 x]
      have hk : ¬ (m = 0 ∨ d[m]! ≠ d[m - 1]!) := by simpa [Lib.keeps] using k
      have hm : m ≠ 0 := fun e => hk (.inl e)
      have he : d[m]! = d[m - 1]! := by
        by_cases q : d[m]! = d[m - 1]!
        · exact q
        · exact absurd (.inr q) hk
      constructor
      · rintro ⟨j, hj, rfl⟩; exact ⟨j, by omega, rfl⟩
      · rintro ⟨j, hj, rfl⟩
        by_cases hjm : j = m
        · subst hjm; exact ⟨j - 1, by omega, he⟩
        · exact ⟨j, by omega, rfl⟩
theorem compact_rise (tr : ∀ a b c, R a b → R b c → R a c) (re : ∀ a, R a a) (an : ∀ a b, R a b → R b a → a = b) {l : List α} (hs : l.Pairwise R) : Rise R (Lib.compact l) ∧ ∀ x, x ∈ Lib.compact l ↔ x ∈ l := by
  have hg : ∀ j, j < l.length → l.toArray[j]! = l[j]! := fun j hj => by
    rw [getElem!_pos l.toArray j (by simpa using hj), getElem!_pos l j hj]; simp
  obtain ⟨h1, h2⟩ := compactUp_rise tr re an l.toArray (fun i j hij hj => by
    have hj' : j < l.length := by simpa using hj
    rw [hg i (by omega), hg j hj', getElem!_pos l i (by omega), getElem!_pos l j hj']
    exact List.pairwise_iff_getElem.1 hs i j _ _ hij) l.length (by simp)
  refine ⟨h1, fun x => ?_⟩
  unfold Lib.compact
  rw [h2 x]
  constructor
  · rintro ⟨j, hj, rfl⟩
    rw [hg j hj, getElem!_pos l j hj]; exact List.getElem_mem _
  · intro hx
    obtain ⟨j, hj, rfl⟩ := List.getElem_of_mem hx
    exact ⟨j, hj, by rw [hg j hj, getElem!_pos l j hj]⟩
end
def leS (a b : ByteArray) : Prop := lsOf a ≤ lsOf b
theorem lsOf_inj {a b : ByteArray} (h : lsOf a = lsOf b) : a = b := by rw [← bs_ls a, ← bs_ls b, h]
theorem compactB_rise (xs : List ByteArray) : Rise leS (compactB (sortB xs)) ∧ ∀ x, x ∈ compactB (sortB xs) ↔ x ∈ xs := by
  have e : (sortB xs).map lsOf = (xs.map lsOf).mergeSort (fun x y => decide (x ≤ y)) := by
    unfold sortB; rw [List.map_map]
    have : (lsOf ∘ bsOf) = id := by funext l; exact ls_bs l
    rw [this, List.map_id]
  have hs : ((sortB xs).map lsOf).Pairwise (· ≤ ·) := by
    rw [e]
    have := List.pairwise_mergeSort (le := fun x y : List UInt8 => decide (x ≤ y)) (fun a b c h1 h2 => by simp at h1 h2 ⊢; exact List.le_trans h1 h2) (fun a b => by simp; exact List.le_total a b) (xs.map lsOf)
    exact this.imp fun h => by simpa using h
  obtain ⟨h1, h2⟩ := compact_rise (R := fun a b : List UInt8 => a ≤ b) (fun a b c => List.le_trans) List.le_refl (fun a b h k => List.le_antisymm h k) hs
  unfold compactB
  refine ⟨?_, fun x => ?_⟩
  · unfold Rise at h1 ⊢
    rw [List.pairwise_map]
    refine h1.imp fun {a b} h => ⟨by unfold leS; rw [ls_bs, ls_bs]; exact h.1, fun q => h.2 ?_⟩
    have := congrArg lsOf q
    rwa [ls_bs, ls_bs] at this
  · rw [List.mem_map]
    constructor
    · rintro ⟨l, hl, rfl⟩
      have := (h2 l).1 hl
      rw [e, List.mem_mergeSort, List.mem_map] at this
      obtain ⟨y, hy, rfl⟩ := this
      rw [bs_ls]; exact hy
    · intro hx
      refine ⟨lsOf x, (h2 _).2 ?_, bs_ls x⟩
      rw [e, List.mem_mergeSort]; exact List.mem_map_of_mem hx
theorem compactB_of {xs l : List ByteArray} (hl : Rise leS l) (hm : ∀ x, x ∈ l ↔ x ∈ xs) : compactB (sortB xs) = l := by
  obtain ⟨h1, h2⟩ := compactB_rise xs
  exact rise_unique (fun a b h k => lsOf_inj (List.le_antisymm h k)) h1 hl fun x => (h2 x).trans (hm x).symm
end Go.Proofs.Ytpeimfcmhedjmaa.Ab
namespace Go.Proofs.Ytpeimfcmhedjmaa.Ab
open Go
set_option linter.all false
section
variable {α : Type} [DecidableEq α] (lt : α → α → Bool)
def insT (w : α) : List α → List α
  | [] => [w]
  | x :: l => if w = x then x :: l else if lt w x = true then w :: x :: l else x :: insT w l
theorem insT_mem (w : α) : ∀ l x, x ∈ insT lt w l ↔ x = w ∨ x ∈ l
  | [], x => by simp [insT]
  | y :: l, x => by
    unfold insT
    split
    · rename_i h; subst h; simp
    · split
      · simp
      · rw [List.mem_cons, insT_mem w l x, List.mem_cons]
        constructor
        · rintro (h | h | h)
          · exact .inr (.inl h)
          · exact .inl h
          · exact .inr (.inr h)
        · rintro (h | h | h)
          · exact .inr (.inl h)
          · exact .inl h
          · exact .inr (.inr h)
theorem insT_len (w : α) : ∀ l, (insT lt w l).length ≤ l.length + 1
  | [] => by simp [insT]
  | y :: l => by
    have := insT_len w l
    unfold insT
    split
    · simp
    · split
      · simp
      · simp only [List.length_cons]; omega
variable {R : α → α → Prop} (hlt : ∀ a b, lt a b = true ↔ (R a b ∧ a ≠ b)) (to : ∀ a b, R a b ∨ R b a) (tr : ∀ a b c, R a b → R b c → R a c) (an : ∀ a b, R a b → R b a → a = b)
include hlt to tr an in
theorem insT_rise (w : α) : ∀ l, Rise R l → Rise R (insT lt w l)
  | [], _ => by simp [insT, Rise]
  | y :: l, h => by
    unfold Rise at h
    rw [List.pairwise_cons] at h
    unfold insT
    split
    · exact List.pairwise_cons.2 h
    · rename_i hne
      split
      · rename_i hl
        have hr := (hlt w y).1 hl
        refine List.pairwise_cons.2 ⟨fun z hz => ?_, List.pairwise_cons.2 h⟩
        rcases List.mem_cons.1 hz with rfl | hz
        · exact hr
        · have h2 := h.1 z hz
          refine ⟨tr _ _ _ hr.1 h2.1, fun e => ?_⟩
          subst e
          exact hne (an _ _ hr.1 h2.1)
      · rename_i hl
        refine List.pairwise_cons.2 ⟨fun z hz => ?_, insT_rise w l h.2⟩
        rcases (insT_mem lt w l z).1 hz with rfl | hz
        · refine ⟨?_, fun e => hne e.symm⟩
          rcases to z y with k | k
          · exact absurd ((hlt z y).2 ⟨k, hne⟩) hl
          · exact k
        · exact h.1 z hz
def insA (ws : List α) : List α := ws.foldl (fun acc w => insT lt w acc) []
theorem insA_snoc (ws : List α) (w : α) : insA lt (ws ++ [w]) = insT lt w (insA lt ws) := by simp [insA]
include hlt to tr an in
theorem insA_all (ws : List α) : Rise R (insA lt ws) ∧ (∀ x, x ∈ insA lt ws ↔ x ∈ ws) ∧ (insA lt ws).length ≤ ws.length := by
  have key : ∀ (ws acc : List α), Rise R acc → Rise R (ws.foldl (fun acc w => insT lt w acc) acc) ∧ (∀ x, x ∈ ws.foldl (fun acc w => insT lt w acc) acc ↔ x ∈ acc ∨ x ∈ ws) ∧ (ws.foldl (fun acc w => insT lt w acc) acc).length ≤ acc.length + ws.length := by
    intro ws
    induction ws with
    | nil => intro acc h; exact ⟨h, by simp, by simp⟩
    | cons w ws ih =>
      intro acc h
      obtain ⟨h1, h2, h3⟩ := ih (insT lt w acc) (insT_rise lt hlt to tr an w acc h)
      have hl := insT_len lt w acc
      refine ⟨h1, fun x => ?_, by simp only [List.foldl_cons, List.length_cons]; omega⟩
      rw [List.foldl_cons, h2 x, insT_mem, List.mem_cons]
      constructor
      · rintro ((h | h) | h)
        · exact .inr (.inl h)
        · exact .inl h
        · exact .inr (.inr h)
      · rintro (h | h | h)
        · exact .inl (.inr h)
        · exact .inl (.inl h)
        · exact .inr h
  obtain ⟨h1, h2, h3⟩ := key ws [] (by simp [Rise])
  exact ⟨h1, fun x => (h2 x).trans (by simp), by simpa [insA] using h3⟩
def insS (w : α) (s : List α × Bool) (x : α) : List α × Bool :=
  ((if (!s.2 && (decide (w = x) || lt w x)) = true then (if lt w x = true then s.1 ++ [w, x] else s.1 ++ [x]) else s.1 ++ [x]), s.2 || (decide (w = x) || lt w x))
theorem insS_yes (w : α) : ∀ (l acc : List α), l.foldl (insS lt w) (acc, true) = (acc ++ l, true)
  | [], acc => by simp
  | x :: l, acc => by
    rw [List.foldl_cons, show insS lt w (acc, true) x = (acc ++ [x], true) by simp [insS], insS_yes w l]; simp
variable (ir : ∀ a, lt a a = false)
include ir in
theorem insS_no (w : α) : ∀ (l acc : List α), (if (l.foldl (insS lt w) (acc, false)).2 = true then (l.foldl (insS lt w) (acc, false)).1 else (l.foldl (insS lt w) (acc, false)).1 ++ [w]) = acc ++ insT lt w l
  | [], acc => by simp [insT]
  | x :: l, acc => by
    rw [List.foldl_cons]
    by_cases h1 : w = x
    · subst h1
      rw [show insS lt w (acc, false) w = (acc ++ [w], true) by simp [insS, ir], insS_yes]
      simp [insT]
    · by_cases h2 : lt w x = true
      · rw [show insS lt w (acc, false) x = (acc ++ [w, x], true) by simp [insS, h2], insS_yes]
        simp [insT, h1, h2]
      · rw [show insS lt w (acc, false) x = (acc ++ [x], false) by simp [insS, h1, h2], insS_no w l]
        simp [insT, h1, h2]
theorem insS_len (w : α) : ∀ (l : List α) (s : List α × Bool), (l.foldl (insS lt w) s).1.length ≤ s.1.length + 2 * l.length
  | [], s => by simp
  | x :: l, s => by
    have := insS_len w l (insS lt w s x)
    have h : (insS lt w s x).1.length ≤ s.1.length + 2 := by
      unfold insS; dsimp only; split
      · split <;> simp
      · simp
    rw [List.foldl_cons, List.length_cons]; omega
end
theorem bl_eq : ∀ x y : List UInt8, Op.bytesLess x y = decide (x < y)
  | [], [] => by simp [Op.bytesLess]
  | [], b :: y => by simp [Op.bytesLess]
  | a :: x, [] => by simp [Op.bytesLess]
  | a :: x, b :: y => by
    rw [Op.bytesLess, bl_eq x y, Bool.eq_iff_iff, decide_eq_true_iff, List.cons_lt_cons_iff]
    simp
theorem ltB_iff (a b : ByteArray) : ltB a b = true ↔ (leS a b ∧ a ≠ b) := by
  unfold ltB leS
  rw [ByteArray.toList_eq, ByteArray.toList_eq, bl_eq, decide_eq_true_iff]
  show lsOf a < lsOf b ↔ _
  constructor
  · intro h
    exact ⟨List.le_of_lt h, fun e => by subst e; exact List.lt_irrefl _ h⟩
  · rintro ⟨h, k⟩
    by_cases q : lsOf a < lsOf b
    · exact q
    · exact absurd (lsOf_inj (List.le_antisymm h (List.not_lt.1 q))) k
theorem ltB_irr (a : ByteArray) : ltB a a = false := by
  cases h : ltB a a
  · rfl
  · exact absurd rfl ((ltB_iff a a).1 h).2
theorem insB_all (ws : List ByteArray) : Rise leS (insA ltB ws) ∧ (∀ x, x ∈ insA ltB ws ↔ x ∈ ws) ∧ (insA ltB ws).length ≤ ws.length :=
  insA_all ltB ltB_iff (fun a b => List.le_total _ _) (fun a b c => List.le_trans) (fun a b h k => lsOf_inj (List.le_antisymm h k)) ws
end Go.Proofs.Ytpeimfcmhedjmaa.Ab
namespace Go.Proofs.Ytpeimfcmhedjmaa.Ab
open Go
set_option linter.all false
def one1 (b : ByteArray) : List ByteArray := if b = ByteArray.mk #[] then [] else [b]
theorem one1_len (b : ByteArray) : (one1 b).length ≤ 1 := by unfold one1; split <;> simp
def fm {β : Type} (f : β → List ByteArray) (l : List β) : List ByteArray := l.flatMap f
theorem fm_len {β : Type} {f : β → List ByteArray} (h : ∀ x, (f x).length ≤ 1) : ∀ l : List β, (fm f l).length ≤ l.length
  | [] => by simp [fm]
  | x :: l => by
    have h1 := h x
    have h2 := fm_len h l
    simp only [fm, List.flatMap_cons, List.length_append, List.length_cons] at h2 ⊢
    omega
theorem fm_snoc {β : Type} (f : β → List ByteArray) (l : List β) (x : β) : fm f (l ++ [x]) = fm f l ++ f x := by simp [fm]
def nmS (c : Bool) (s : TApiStmt) : List ByteArray := one1 (bif c then s.gFunc else s.gName)
def nmX (c : Bool) (e : TApiExpr) : List ByteArray := bif c then [] else one1 e.gName
theorem nmS_len (c : Bool) (s : TApiStmt) : (nmS c s).length ≤ 1 := one1_len _
theorem nmX_len (c : Bool) (e : TApiExpr) : (nmX c e).length ≤ 1 := by
  unfold nmX; cases c
  · exact one1_len _
  · simp
def namesOf (c : Bool) (l : List TApiStmt) : List ByteArray := fm (nmS c) (flSs l) ++ fm (nmX c) (exOf (flSs l))
theorem fm_pre {β : Type} {f : β → List ByteArray} (h : ∀ x, (f x).length ≤ 1) {l p : List β} {x : β} {q : List β} (e : l = p ++ x :: q) : (fm f p).length + 1 ≤ l.length := by
  have := fm_len h p
  subst e; simp; omega
theorem add_eq {m : TTreeBagString} {b : ByteArray} (h : m.gL.length ≤ 1048576) : tree_bag_string_add_r m b = some ⟨m.gL ++ [b]⟩ := by
  unfold tree_bag_string_add_r
  rw [app_len (by omega) (by simp; omega)]; rfl
theorem names1_eq {m : TTreeBagString} {b : ByteArray} (h : m.gL.length ≤ 1048576) : tree_Names_1_r b m = some ⟨m.gL ++ one1 b⟩ := by
  unfold tree_Names_1_r one1
  by_cases h1 : b = ByteArray.mk #[]
  · rw [decide_eq_true h1, if_pos h1, List.append_nil]; rfl
  · rw [decide_eq_false h1, if_neg h1, Bool.not_false, cond_true, add_eq h]; rfl
theorem names2_eq {m : TTreeBagString} {s : TApiStmt} (h : m.gL.length ≤ 1048576) : tree_Names_2_r s m = some ⟨m.gL ++ nmS false s⟩ := by
  unfold tree_Names_2_r; rw [names1_eq h]; rfl
theorem names3_eq {m : TTreeBagString} {s : TApiExpr} (h : m.gL.length ≤ 1048576) : tree_Names_3_r s m = some ⟨m.gL ++ nmX false s⟩ := by
  unfold tree_Names_3_r; rw [names1_eq h]; rfl
theorem walkX_g : ∀ (n : Nat) (e : TApiExpr) (m : TTreeBagString), dpE e ≤ n → szE e ≤ 1048576 → m.gL.length + szE e ≤ 1048576 → tree_walk_1_r_g n e m = some ⟨m.gL ++ fm (nmX false) (allE e)⟩
  | 0, e, m, h, _, _ => by rw [dpE_eq] at h; omega
  | n + 1, e, m, h, hb, hm => by
    show tree_walk_1_r_b (tree_walk_1_r_g n) e m = _
    unfold tree_walk_1_r_b
    have hs := szE_eq e
    have hl := szEs_len e.gKids
    rw [names3_eq (by omega), Option.bind_some]
    have hn := nmX_len false e
    refine loop_list e.gKids (fun pre => m.gL ++ nmX false e ++ fm (nmX false) (allEs pre)) (fun a n => ((n : Nat), a)) (fun a => a) (by simp [allEs, fm]) (fun pre x post hp => ?_) ?_ ?_
    · have hk := kids_mem (pre_mem hp)
      have hsp := szEs_pre hp
      have hln := fm_len (nmX_len false) (allEs pre)
      rw [allEs_len] at hln
      simp only [lt_pre hp, cond_true]
      rw [inc_pre hp (by omega)]
      rw [idx_pre2 hp rfl, Option.bind_some, walkX_g n x _ (by omega) (by omega) (by simp; omega), Option.bind_some]
      rw [allEs_append]
      simp only [allEs, List.append_nil, List.append_assoc, fm, List.flatMap_append]
    · simp only [lt_end, cond_false]
    · rw [allE_eq]; simp [fm]
theorem walkX_eq {e : TApiExpr} {m : TTreeBagString} (hb : szE e ≤ 1048576) (hm : m.gL.length + szE e ≤ 1048576) : tree_walk_1_r e m = some ⟨m.gL ++ fm (nmX false) (allE e)⟩ := tree_walk_1_r_of e m (dpE e) (walkX_g _ e m (Nat.le_refl _) hb hm)
def colS (c : Bool) (s : TApiStmt) : List ByteArray := nmS c s ++ fm (nmX c) (allEs s.gExps)
theorem colS_len (c : Bool) (l : List TApiStmt) : (fm (colS c) l).length ≤ l.length + (exOf l).length := by
  induction l with
  | nil => simp [fm]
  | cons s l ih =>
    have h1 := nmS_len c s
    have h2 := fm_len (nmX_len c) (allEs s.gExps)
    simp only [fm, exOf, List.flatMap_cons, List.length_append, List.length_cons, colS] at ih h2 ⊢
    omega
theorem colS_fl (c : Bool) (l : List TApiStmt) : (fm (colS c) (flSs l)).length ≤ szSs l := by
  have := colS_len c (flSs l)
  have h := szSs_fl l
  omega
theorem fm_app {β : Type} (f : β → List ByteArray) (l m : List β) : fm f (l ++ m) = fm f l ++ fm f m := by simp [fm]
theorem fm_one (c : Bool) (x : TApiStmt) : fm (colS c) (flS x) = nmS c x ++ (fm (nmX c) (allEs x.gExps) ++ (fm (colS c) (flSs x.gKids) ++ fm (colS c) (flSs x.gElse))) := by
  rw [flS_eq]; simp [fm, colS]
theorem walkN_g : ∀ (n : Nat) (l : List TApiStmt) (m : TTreeBagString), hSs l ≤ n → szSs l ≤ 1048576 → m.gL.length + szSs l ≤ 1048576 → tree_walk_r_g n l m = some ⟨m.gL ++ fm (colS false) (flSs l)⟩
  | 0, l, m, h, _, _ => by have := hSs_pos l; omega
  | n + 1, l, m, h, hb, hm => by
    show tree_walk_r_b (tree_walk_r_g n) l m = _
    unfold tree_walk_r_b
    have hl := szSs_len l
    refine loop_list l (fun pre => m.gL ++ fm (colS false) (flSs pre)) (fun a n => ((n : Nat), a)) (fun a => a) (by simp [flSs, fm]) (fun pre x post hp => ?_) ?_ ?_
    · have hx := pre_mem hp
      have hk := fuel h hx
      have hsp := szSs_pre hp
      have hsx := szS_eq x
      have hel := szEs_len x.gExps
      have l1 := colS_fl false pre
      have l2 := colS_fl false x.gKids
      have l3 := fm_len (nmX_len false) (allEs x.gExps)
      have l5 := nmS_len false x
      rw [allEs_len] at l3
      simp only [lt_pre hp, cond_true]
      rw [inc_pre hp (by omega)]
      rw [idx_pre2 hp rfl, Option.bind_some, names2_eq (by simp; omega), Option.bind_some]
      refine loop_list x.gExps (fun q => m.gL ++ fm (colS false) (flSs pre) ++ nmS false x ++ fm (nmX false) (allEs q)) (fun a n => ((n : Nat), a)) (fun a => a) (by simp [allEs, fm]) (fun q y post2 hq => ?_) ?_ ?_
      · have hy := szEs_pre hq
        have l4 := fm_len (nmX_len false) (allEs q)
        rw [allEs_len] at l4
        simp only [lt_pre hq, cond_true]
        rw [inc_pre hq (by omega)]
        rw [idx_pre2 hq rfl, Option.bind_some, walkX_eq (by omega) (by simp; omega), Option.bind_some]
        rw [allEs_append, fm_app]
        simp only [allEs, List.append_nil, List.append_assoc]
      · simp only [lt_end, cond_false]
      · rw [walkN_g n _ _ hk.1 (by omega) (by simp; omega), Option.bind_some, walkN_g n _ _ hk.2 (by omega) (by simp; omega), Option.bind_some]
        rw [flSs_append, fm_app]
        simp only [flSs, List.append_nil, fm_one, List.append_assoc]
    · simp only [lt_end, cond_false]
    · rfl
theorem walkN_eq {l : List TApiStmt} {m : TTreeBagString} (hb : szSs l ≤ 1048576) (hm : m.gL.length + szSs l ≤ 1048576) : tree_walk_r l m = some ⟨m.gL ++ fm (colS false) (flSs l)⟩ := tree_walk_r_of l m (hSs l) (walkN_g _ l m (Nat.le_refl _) hb hm)
theorem col_mem (c : Bool) (l : List TApiStmt) (x : ByteArray) : x ∈ fm (colS c) l ↔ x ∈ fm (nmS c) l ++ fm (nmX c) (exOf l) := by
  simp only [fm, colS, exOf, List.mem_append, List.mem_flatMap]
  constructor
  · rintro ⟨s, hs, h | ⟨e, he, h⟩⟩
    · exact .inl ⟨s, hs, h⟩
    · exact .inr ⟨e, ⟨s, hs, he⟩, h⟩
  · rintro (⟨s, hs, h⟩ | ⟨e, ⟨s, hs, he⟩, h⟩)
    · exact ⟨s, hs, .inl h⟩
    · exact ⟨s, hs, .inr ⟨e, he, h⟩⟩
theorem sortB_len (l : List ByteArray) : (sortB l).length = l.length := by
  unfold sortB; rw [List.length_map, List.length_mergeSort, List.length_map]
theorem col_all {c : Bool} {l : List TApiStmt} (hb : szSs l ≤ 1048576) : tree_bag_string_all_r ⟨fm (colS c) (flSs l)⟩ = some (insA ltB (namesOf c l), ⟨[]⟩) := by
  have h1 := colS_fl c l
  unfold tree_bag_string_all_r
  rw [need_bind (by simp [len62B]; omega), need_bind (by simp [len62B, sortB_len]; omega)]
  have h2 := insB_all (namesOf c l)
  rw [compactB_of h2.1 fun x => (h2.2.1 x).trans (col_mem c (flSs l) x).symm]
theorem names_eq {l : List TApiStmt} (hb : szSs l ≤ 1048576) : tree_Names_r l = some (insA ltB (namesOf false l)) := by
  unfold tree_Names_r
  rw [walkN_eq hb (by simpa using hb), Option.bind_some]
  simp only [List.nil_append]
  rw [col_all hb]; rfl
theorem texts_refl {l : List ByteArray} (hb : l.length ≤ 1048576) : r11_Texts l l = some true := by
  unfold r11_Texts
  rw [pairs (fun a b => decide (a = b)) l l (fun p x q p' y q' e e' hp => ?_) ?_, all2_refl fun x _ => by simp]
  · rw [lt_end, cond_false]
  · obtain rfl : x = y := Option.some.inj ((idx_pre2 e rfl).symm.trans (idx_pre2 e' hp))
    rw [lt_pre e, cond_true, idx_pre2 e rfl, Option.bind_some, Option.bind_some, inc_pre e (by omega)]; simp
theorem namesOf_len (c : Bool) (l : List TApiStmt) : (namesOf c l).length ≤ szSs l := by
  have h1 := fm_len (nmS_len c) (flSs l)
  have h2 := fm_len (nmX_len c) (exOf (flSs l))
  have h3 := szSs_fl l
  unfold namesOf
  rw [List.length_append]; omega
theorem put_eq {l : List ByteArray} {w : ByteArray} (hb : l.length ≤ 4000000) : r07_Put l w = some (insT ltB w l) := by
  unfold r07_Put
  refine loop_list l (fun pre => pre.foldl (insS ltB w) ([], false)) (fun a n => (a.1, a.2, (n : Int))) (fun a => a) (by simp) (fun pre x post hp => ?_) ?_ ?_
  · have hlp := congrArg List.length hp
    simp only [List.length_append, List.length_cons] at hlp
    have hz := insS_len ltB w pre ([], false)
    rw [List.foldl_append, List.foldl_cons, List.foldl_nil]
    generalize pre.foldl (insS ltB w) ([], false) = s at hz ⊢
    obtain ⟨acc, put⟩ := s
    simp only [List.length_nil] at hz
    simp only [lt_pre hp, cond_true, idx_pre2 hp rfl, Option.bind_some]
    rw [inc_pre hp (by omega)]
    have hq : (w.toList == x.toList) = decide (w = x) := by
      rw [ByteArray.toList_eq, ByteArray.toList_eq, Bool.eq_iff_iff, beq_iff_eq, decide_eq_true_iff]
      exact ⟨fun h => lsOf_inj h, fun h => by rw [h]⟩
    rw [hq]
    cases put
    · simp only [Bool.not_false, cond_true]
      cases h1 : ltB w x
      · by_cases h2 : w = x
        · subst h2
          simp only [decide_true, Bool.or_true, cond_true, cond_false, Option.bind_some]
          rw [app_len (by omega) (by simp; omega), Option.bind_some]
          simp [insS, ltB_irr]
        · simp only [decide_eq_false h2, Bool.or_false, cond_false, Option.bind_some]
          rw [app_len (by omega) (by simp; omega), Option.bind_some]
          simp [insS, h1, h2]
      · simp only [Bool.true_or, cond_true]
        rw [app_len (by omega) (by simp; omega), Option.bind_some, Option.bind_some, Option.bind_some]
        simp only []
        rw [app_len (by omega) (by simp; omega), Option.bind_some]
        simp [insS, h1]
    · simp only [Bool.not_true, cond_false]
      rw [app_len (by omega) (by simp; omega), Option.bind_some]
      simp [insS]
  · simp only [lt_end, cond_false]
  · have hz := insS_len ltB w l ([], false)
    have h := insS_no ltB ltB_irr w l []
    generalize l.foldl (insS ltB w) ([], false) = s at hz h ⊢
    obtain ⟨acc, put⟩ := s
    simp only [List.length_nil] at hz
    cases put
    · simp only [Bool.not_false, cond_true]
      rw [app_len (by omega) (by simp; omega), Option.bind_some]
      simpa using h
    · simp only [Bool.not_true, cond_false]
      simpa using h
end Go.Proofs.Ytpeimfcmhedjmaa.Ab
namespace Go.Proofs.Ytpeimfcmhedjmaa.Ab.Pq
open Go
set_option linter.all false
theorem find_loop {α : Type} (t : α → Bool) {l : List α} {f : Int → Option (Step Int (Unit ⊕ Int))}
    (h1 : ∀ p x q, l = p ++ x :: q → f (p.length : Int) = some (bif t x then .done (.inr ((p.length : Nat) : Int)) else .next ((p.length + 1 : Nat) : Int)))
    (h2 : f (l.length : Int) = some (.done (.inl ()))) : ∃ i : Int, Option.bind (α := Unit ⊕ Int) (loopM f (0 : Int)) (Sum.elim (fun _ => some (-1)) (fun r => some r)) = some i ∧ ((i = -1 ∧ l.find? t = none) ∨ ∃ (n : Nat) (x : α), i = n ∧ n < l.length ∧ l[n]? = some x ∧ l.find? t = some x) := by
  have key : ∀ (q p : List α), l = p ++ q → (∀ y ∈ p, t y = false) → ∃ i : Int, Option.bind (α := Unit ⊕ Int) (loopM f (p.length : Int)) (Sum.elim (fun _ => some (-1)) (fun r => some r)) = some i ∧ ((i = -1 ∧ l.find? t = none) ∨ ∃ (n : Nat) (x : α), i = n ∧ n < l.length ∧ l[n]? = some x ∧ l.find? t = some x) := by
    intro q
    induction q with
    | nil =>
      intro p e hp
      rw [List.append_nil] at e; subst e
      refine ⟨-1, by rw [loopM_done h2]; rfl, .inl ⟨rfl, List.find?_eq_none.2 fun y hy => by rw [hp y hy]; simp⟩⟩
    | cons x q ih =>
      intro p e hp
      have h := h1 p x q e
      cases ht : t x
      · rw [ht, cond_false] at h
        rw [loopM_next h]
        have := ih (p ++ [x]) (by simp [e]) (fun y hy => by
          rcases List.mem_append.1 hy with hy | hy
          · exact hp y hy
          · rw [List.mem_singleton] at hy; subst hy; exact ht)
        simpa using this
      · rw [ht, cond_true] at h
        refine ⟨(p.length : Int), by rw [loopM_done h]; rfl, .inr ⟨p.length, x, rfl, by subst e; simp, by subst e; simp, ?_⟩⟩
        subst e
        rw [List.find?_append, List.find?_eq_none.2 fun y hy => by rw [hp y hy]; simp]
        simp [ht]
  have := key l [] rfl (by simp)
  simpa using this
def fnF (l : List TApiFunc) (s : ByteArray) : Option TApiFunc := l.find? fun x => decide (x.gName = s)
def fnG (l : List TApiGlobal) (s : ByteArray) : Option TApiGlobal := l.find? fun x => decide (x.gName = s)
abbrev Pg := TApiProgram
def noF : TApiFunc := ⟨ByteArray.empty, [], [], [], 0⟩
def noG : TApiGlobal := ⟨ByteArray.empty, false, 0, 0⟩
theorem indexF_eq {l : List TApiFunc} (s : ByteArray) (hb : l.length ≤ 1048576) : ∃ i : Int, slices_IndexFunc_api_Func_api_Func l s = some i ∧ ((i = -1 ∧ fnF l s = none) ∨ ∃ (n : Nat) (x : TApiFunc), i = n ∧ n < l.length ∧ l[n]? = some x ∧ fnF l s = some x) := by
  unfold slices_IndexFunc_api_Func_api_Func
  refine find_loop (fun x : TApiFunc => decide (x.gName = s)) (fun p x q h => ?_) ?_
  · rw [lt_pre h, cond_true, idx_pre2 h rfl, Option.bind_some]
    unfold change_funcOf_1
    rw [Option.bind_some, inc_pre h (by omega)]
    cases decide (x.gName = s) <;> rfl
  · rw [lt_end, cond_false]
theorem rFunc_eq {p : Pg} (s : ByteArray) (hb : p.gFuncs.length ≤ 1048576) : ∃ i : Int, r18_Func p s = some i ∧ ((i = -1 ∧ fnF p.gFuncs s = none) ∨ ∃ (n : Nat) (x : TApiFunc), i = n ∧ n < p.gFuncs.length ∧ p.gFuncs[n]? = some x ∧ fnF p.gFuncs s = some x) := by
  unfold r18_Func
  refine find_loop (fun x : TApiFunc => decide (x.gName = s)) (fun p x q h => ?_) ?_
  · rw [lt_pre h, cond_true, idx_pre2 h rfl, Option.bind_some, inc_pre h (by omega)]
    cases decide (x.gName = s) <;> rfl
  · rw [lt_end, cond_false]
theorem indexG_eq {l : List TApiGlobal} (s : ByteArray) (hb : l.length ≤ 1048576) : ∃ i : Int, slices_IndexFunc_api_Global_api_Global l s = some i ∧ ((i = -1 ∧ fnG l s = none) ∨ ∃ (n : Nat) (x : TApiGlobal), i = n ∧ n < l.length ∧ l[n]? = some x ∧ fnG l s = some x) := by
  unfold slices_IndexFunc_api_Global_api_Global
  refine find_loop (fun x : TApiGlobal => decide (x.gName = s)) (fun p x q h => ?_) ?_
  · rw [lt_pre h, cond_true, idx_pre2 h rfl, Option.bind_some]
    unfold change_globalOf_1
    rw [Option.bind_some, inc_pre h (by omega)]
    cases decide (x.gName = s) <;> rfl
  · rw [lt_end, cond_false]
theorem rGlobal_eq {p : Pg} (s : ByteArray) (hb : p.gGlobals.length ≤ 1048576) : ∃ i : Int, r18_Global p s = some i ∧ ((i = -1 ∧ fnG p.gGlobals s = none) ∨ ∃ (n : Nat) (x : TApiGlobal), i = n ∧ n < p.gGlobals.length ∧ p.gGlobals[n]? = some x ∧ fnG p.gGlobals s = some x) := by
  unfold r18_Global
  refine find_loop (fun x : TApiGlobal => decide (x.gName = s)) (fun p x q h => ?_) ?_
  · rw [lt_pre h, cond_true, idx_pre2 h rfl, Option.bind_some, inc_pre h (by omega)]
    cases decide (x.gName = s) <;> rfl
  · rw [lt_end, cond_false]
theorem idx_some {α : Type} {l : List α} {n : Nat} {x : α} (h : l[n]? = some x) : idx l (n : Int) = some x := by rw [idx_nat]; exact h
theorem funcOf_eq {p : Pg} (s : ByteArray) (hb : p.gFuncs.length ≤ 1048576) : change_funcOf p s = some ((fnF p.gFuncs s).getD noF, (fnF p.gFuncs s).isSome) := by
  unfold change_funcOf
  obtain ⟨i, h1, h2⟩ := indexF_eq (l := p.gFuncs) s hb
  rw [h1, Option.bind_some]
  rcases h2 with ⟨rfl, h⟩ | ⟨n, x, rfl, _, h, h'⟩
  · rw [h]; rfl
  · rw [h', decide_eq_false (by omega), cond_false, idx_some h]; rfl
theorem globalOf_eq {p : Pg} (s : ByteArray) (hb : p.gGlobals.length ≤ 1048576) : change_globalOf p s = some ((fnG p.gGlobals s).getD noG, (fnG p.gGlobals s).isSome) := by
  unfold change_globalOf
  obtain ⟨i, h1, h2⟩ := indexG_eq (l := p.gGlobals) s hb
  rw [h1, Option.bind_some]
  rcases h2 with ⟨rfl, h⟩ | ⟨n, x, rfl, _, h, h'⟩
  · rw [h]; rfl
  · rw [h', decide_eq_false (by omega), cond_false, idx_some h]; rfl
def FB (f : TApiFunc) : Prop := f.gParams.length ≤ 1048576 ∧ f.gLocals.length ≤ 1048576 ∧ szSs f.gBody ≤ 1048576
structure PB (p : Pg) : Prop where
  f : p.gFuncs.length ≤ 30
  g : p.gGlobals.length ≤ 30
  b : ∀ x ∈ p.gFuncs, FB x
def chF (p q : Pg) (s : ByteArray) : Bool :=
  match fnF p.gFuncs s, fnF q.gFuncs s with
  | some a, some b => !eqF a b
  | _, _ => true
def neG (a b : TApiGlobal) : Bool := (!(a.gPtr == b.gPtr)) || a.gSize != b.gSize
def chG (p q : Pg) (s : ByteArray) : Bool :=
  match fnG p.gGlobals s, fnG q.gGlobals s with
  | some a, some b => neG a b
  | _, _ => true
theorem fnF_mem {l : List TApiFunc} {s : ByteArray} {x : TApiFunc} (h : fnF l s = some x) : x ∈ l := List.mem_of_find?_eq_some h
theorem fnF_some {l : List TApiFunc} {x : TApiFunc} (h : x ∈ l) : (fnF l x.gName).isSome = true := by
  unfold fnF; rw [List.find?_isSome]; exact ⟨x, h, by simp⟩
theorem fnG_some {l : List TApiGlobal} {x : TApiGlobal} (h : x ∈ l) : (fnG l x.gName).isSome = true := by
  unfold fnG; rw [List.find?_isSome]; exact ⟨x, h, by simp⟩
def nmsF (p : Pg) : List ByteArray := p.gFuncs.map (·.gName)
def nmsG (p : Pg) : List ByteArray := p.gGlobals.map (·.gName)
theorem flatten2 {α : Type} (a b : List α) : [a, b].flatten = a ++ b := by simp
theorem concat2 {α : Type} {l : List (List α)} {p : List (List α)} {x : List α} {q : List (List α)} (h : l = p ++ x :: q) : p.flatten.length + x.length ≤ l.flatten.length := by subst h; simp
theorem concatF {a b : List TApiFunc} (ha : a.length ≤ 30) (hb : b.length ≤ 30) : slices_Concat_api_Func_api_Func_r [a, b] = some (a ++ b) := by
  have hl : [a, b].flatten.length ≤ 60 := by simp; omega
  unfold slices_Concat_api_Func_api_Func_r
  rw [← flatten2]
  refine loop_list [a, b] (fun pre => pre.flatten.length) (fun x n => ((x : Int), (n : Int))) (fun x => (x : Int)) (by simp) (fun p x q hp => ?_) ?_ ?_
  · have := concat2 hp
    simp only [lt_pre hp, cond_true]
    rw [idx_pre2 hp rfl, Option.bind_some, inc_pre hp (by simp), wrap_id (by omega) (by omega), decide_eq_false (by omega), cond_false]
    simp
  · simp only [lt_end, cond_false]
  · rw [need_bind (by unfold growPre38; rw [Bool.and_eq_true, decide_eq_true_iff, decide_eq_true_iff]; omega)]
    refine loop_list [a, b] (fun pre => pre.flatten) (fun x n => ((n : Int), x)) (fun x => x) (by simp [growF38]) (fun p x q hp => ?_) ?_ ?_
    · have := concat2 hp
      simp only [lt_pre hp, cond_true]
      rw [idx_pre2 hp rfl, Option.bind_some, inc_pre hp (by simp), app_len (by omega) (by omega), Option.bind_some]
      simp
    · simp only [lt_end, cond_false]
    · rfl
theorem concatG {a b : List TApiGlobal} (ha : a.length ≤ 30) (hb : b.length ≤ 30) : slices_Concat_api_Global_api_Global_r [a, b] = some (a ++ b) := by
  have hl : [a, b].flatten.length ≤ 60 := by simp; omega
  unfold slices_Concat_api_Global_api_Global_r
  rw [← flatten2]
  refine loop_list [a, b] (fun pre => pre.flatten.length) (fun x n => ((x : Int), (n : Int))) (fun x => (x : Int)) (by simp) (fun p x q hp => ?_) ?_ ?_
  · have := concat2 hp
    simp only [lt_pre hp, cond_true]
    rw [idx_pre2 hp rfl, Option.bind_some, inc_pre hp (by simp), wrap_id (by omega) (by omega), decide_eq_false (by omega), cond_false]
    simp
  · simp only [lt_end, cond_false]
  · rw [need_bind (by unfold growPre58; rw [Bool.and_eq_true, decide_eq_true_iff, decide_eq_true_iff]; omega)]
    refine loop_list [a, b] (fun pre => pre.flatten) (fun x n => ((n : Int), x)) (fun x => x) (by simp [growF58]) (fun p x q hp => ?_) ?_ ?_
    · have := concat2 hp
      simp only [lt_pre hp, cond_true]
      rw [idx_pre2 hp rfl, Option.bind_some, inc_pre hp (by simp), app_len (by omega) (by omega), Option.bind_some]
      simp
    · simp only [lt_end, cond_false]
    · rfl
theorem row_eq {l : List ByteArray} (h : l.length ≤ 1048576) : change_row_r l = some (insA ltB l) := by
  unfold change_row_r
  have h2 := insB_all l
  rw [need_bind (by simp [len62B]; omega), need_bind (by simp [len62B, sortB_len]; omega), compactB_of h2.1 h2.2.1]
theorem pre_len {α : Type} {l p : List α} {x : α} {q : List α} (h : l = p ++ x :: q) : p.length < l.length := by subst h; simp
theorem funcs_eq {p q : Pg} (hp : PB p) (hq : PB q) : change_funcs p q = some (insA ltB ((nmsF p ++ nmsF q).filter (chF p q))) := by
  have h1 := hp.f
  have h2 := hq.f
  unfold change_funcs
  rw [concatF h1 h2, Option.bind_some]
  refine loop_list (p.gFuncs ++ q.gFuncs) (fun pre => (pre.map (·.gName)).filter (chF p q)) (fun a n => (a, (n : Int))) (fun a => a) (by simp) (fun pre x post hpp => ?_) ?_ ?_
  · have hl := pre_len hpp
    have hfl := List.length_filter_le (chF p q) (pre.map (·.gName))
    rw [List.length_append] at hl
    rw [List.length_map] at hfl
    have hx : x ∈ p.gFuncs ∨ x ∈ q.gFuncs := List.mem_append.1 (pre_mem hpp)
    simp only [lt_pre hpp, cond_true]
    rw [idx_pre2 hpp rfl, Option.bind_some, funcOf_eq _ (by omega), Option.bind_some, funcOf_eq _ (by omega), Option.bind_some, inc_pre hpp (by simp; omega)]
    have hc : (Option.bind (α := Bool) (bif (!((fnF p.gFuncs x.gName).isSome == (fnF q.gFuncs x.gName).isSome)) then some true else ((tree_SameFunc ((fnF p.gFuncs x.gName).getD noF) ((fnF q.gFuncs x.gName).getD noF)).bind fun x128 => some (!x128))) fun y126 => some y126) = some (chF p q x.gName) := by
      unfold chF
      cases ha : fnF p.gFuncs x.gName with
      | none =>
        cases hb : fnF q.gFuncs x.gName with
        | none =>
          rcases hx with hx | hx
          · have := fnF_some hx; rw [ha] at this; cases this
          · have := fnF_some hx; rw [hb] at this; cases this
        | some b => rfl
      | some a =>
        cases hb : fnF q.gFuncs x.gName with
        | none => rfl
        | some b =>
          obtain ⟨k1, k2, k3⟩ := hp.b a (fnF_mem ha)
          simp only [Option.isSome_some, beq_self_eq_true, Bool.not_true, cond_false, Option.getD_some]
          rw [sameF_eq k1 k2 k3]; rfl
    have hc' : (bif (!((fnF p.gFuncs x.gName).isSome == (fnF q.gFuncs x.gName).isSome)) then some true else ((tree_SameFunc ((fnF p.gFuncs x.gName).getD noF) ((fnF q.gFuncs x.gName).getD noF)).bind fun x128 => some (!x128))) = some (chF p q x.gName) := by
      rw [← hc]
      generalize (bif (!((fnF p.gFuncs x.gName).isSome == (fnF q.gFuncs x.gName).isSome)) then some true else ((tree_SameFunc ((fnF p.gFuncs x.gName).getD noF) ((fnF q.gFuncs x.gName).getD noF)).bind fun x128 => some (!x128))) = m
      cases m <;> rfl
    simp only []
    rw [hc', Option.bind_some, List.map_append, List.filter_append]
    cases hch : chF p q x.gName
    · simp [hch]
    · simp only [cond_true]
      rw [app_len (by omega) (by simp; omega), Option.bind_some]
      simp [hch]
  · simp only [lt_end, cond_false]
  · have hfl := List.length_filter_le (chF p q) ((p.gFuncs ++ q.gFuncs).map (·.gName))
    rw [List.length_map, List.length_append] at hfl
    rw [row_eq (by omega), Option.bind_some, List.map_append]; rfl
theorem funcs_r : change_funcs_r = change_funcs := rfl
theorem globals_eq {p q : Pg} (hp : PB p) (hq : PB q) : change_globals p q = some (insA ltB ((nmsG p ++ nmsG q).filter (chG p q))) := by
  have h1 := hp.g
  have h2 := hq.g
  unfold change_globals
  rw [concatG h1 h2, Option.bind_some]
  refine loop_list (p.gGlobals ++ q.gGlobals) (fun pre => (pre.map (·.gName)).filter (chG p q)) (fun a n => (a, (n : Int))) (fun a => a) (by simp) (fun pre x post hpp => ?_) ?_ ?_
  · have hl := pre_len hpp
    have hfl := List.length_filter_le (chG p q) (pre.map (·.gName))
    rw [List.length_append] at hl
    rw [List.length_map] at hfl
    have hx : x ∈ p.gGlobals ∨ x ∈ q.gGlobals := List.mem_append.1 (pre_mem hpp)
    simp only [lt_pre hpp, cond_true]
    rw [idx_pre2 hpp rfl, Option.bind_some, globalOf_eq _ (by omega), Option.bind_some, globalOf_eq _ (by omega), Option.bind_some, inc_pre hpp (by simp; omega)]
    have hc' : (bif (!((fnG p.gGlobals x.gName).isSome == (fnG q.gGlobals x.gName).isSome)) then some true else (bif (!(((fnG p.gGlobals x.gName).getD noG).gPtr == ((fnG q.gGlobals x.gName).getD noG).gPtr)) then some true else some (((fnG p.gGlobals x.gName).getD noG).gSize != ((fnG q.gGlobals x.gName).getD noG).gSize))) = some (chG p q x.gName) := by
      unfold chG
      cases ha : fnG p.gGlobals x.gName with
      | none =>
        cases hb : fnG q.gGlobals x.gName with
        | none =>
          rcases hx with hx | hx
          · have := fnG_some hx; rw [ha] at this; cases this
          · have := fnG_some hx; rw [hb] at this; cases this
        | some b => rfl
      | some a =>
        cases hb : fnG q.gGlobals x.gName with
        | none => rfl
        | some b =>
          simp only [Option.isSome_some, beq_self_eq_true, Bool.not_true, cond_false, Option.getD_some, neG]
          cases (a.gPtr == b.gPtr) <;> rfl
    simp only []
    rw [hc', Option.bind_some, List.map_append, List.filter_append]
    cases hch : chG p q x.gName
    · simp [hch]
    · simp only [cond_true]
      rw [app_len (by omega) (by simp; omega), Option.bind_some]
      simp [hch]
  · simp only [lt_end, cond_false]
  · have hfl := List.length_filter_le (chG p q) ((p.gGlobals ++ q.gGlobals).map (·.gName))
    rw [List.length_map, List.length_append] at hfl
    rw [row_eq (by omega), Option.bind_some, List.map_append]; rfl
theorem globals_r : change_globals_r = change_globals := rfl
def dF (p q : Pg) : List ByteArray := insA ltB ((nmsF p ++ nmsF q).filter (chF p q))
def dG (p q : Pg) : List ByteArray := insA ltB ((nmsG p ++ nmsG q).filter (chG p q))
theorem of_eq {p q : Pg} (hp : PB p) (hq : PB q) : change_Of p q = some ⟨dF p q, dG p q⟩ := by
  unfold change_Of
  rw [funcs_eq hp hq, Option.bind_some, globals_eq hp hq]; rfl
theorem of_r {p q : Pg} (hp : PB p) (hq : PB q) : change_Of_r p q = some ⟨dF p q, dG p q⟩ := by
  unfold change_Of_r
  rw [funcs_r, globals_r, funcs_eq hp hq, Option.bind_some, globals_eq hp hq]; rfl
theorem rall_eq {p : Pg} (hp : PB p) (f : Bool) : r18_all p f = some (bif f then nmsF p else nmsG p) := by
  have h1 := hp.f
  have h2 := hp.g
  unfold r18_all
  cases f
  · simp only [cond_false]
    refine loop_list p.gGlobals (fun pre => pre.map (·.gName)) (fun a n => (a, (n : Int))) (fun a => a) (by simp) (fun pre x post hpp => ?_) ?_ ?_
    · have hl := pre_len hpp
      simp only [lt_pre hpp, cond_true]
      rw [idx_pre2 hpp rfl, Option.bind_some, inc_pre hpp (by omega), app_len (by omega) (by simp; omega), Option.bind_some]
      simp
    · simp only [lt_end, cond_false]
    · rfl
  · simp only [cond_true]
    refine loop_list p.gFuncs (fun pre => pre.map (·.gName)) (fun a n => (a, (n : Int))) (fun a => a) (by simp) (fun pre x post hpp => ?_) ?_ ?_
    · have hl := pre_len hpp
      simp only [lt_pre hpp, cond_true]
      rw [idx_pre2 hpp rfl, Option.bind_some, inc_pre hpp (by omega), app_len (by omega) (by simp; omega), Option.bind_some]
      simp
    · simp only [lt_end, cond_false]
    · rfl
theorem other_eq {p q : Pg} (hp : PB p) (hq : PB q) (s : ByteArray) (f : Bool) : r18_other p q s f = some (bif f then chF p q s else chG p q s) := by
  have h1 := hp.f
  have h2 := hp.g
  have h3 := hq.f
  have h4 := hq.g
  unfold r18_other
  cases f
  · simp only [cond_false]
    obtain ⟨i, e1, e2⟩ := rGlobal_eq (p := p) s (by omega)
    obtain ⟨j, e3, e4⟩ := rGlobal_eq (p := q) s (by omega)
    rw [e1, Option.bind_some, e3, Option.bind_some]
    unfold chG
    rcases e2 with ⟨rfl, h⟩ | ⟨n, x, rfl, _, h, h'⟩
    · rw [h]; rfl
    · rw [h', decide_eq_false (by omega), cond_false]
      rcases e4 with ⟨rfl, k⟩ | ⟨m, y, rfl, _, k, k'⟩
      · rw [k]; rfl
      · rw [k', decide_eq_false (by omega), cond_false]
        simp only [idx_some h, idx_some k, Option.bind_some, neG]
        cases (x.gPtr == y.gPtr) <;> rfl
  · simp only [cond_true]
    obtain ⟨i, e1, e2⟩ := rFunc_eq (p := p) s (by omega)
    obtain ⟨j, e3, e4⟩ := rFunc_eq (p := q) s (by omega)
    rw [e1, Option.bind_some, e3, Option.bind_some]
    unfold chF
    rcases e2 with ⟨rfl, h⟩ | ⟨n, x, rfl, _, h, h'⟩
    · rw [h]; rfl
    · rw [h', decide_eq_false (by omega), cond_false]
      rcases e4 with ⟨rfl, k⟩ | ⟨m, y, rfl, _, k, k'⟩
      · rw [k]; rfl
      · rw [k', decide_eq_false (by omega), cond_false]
        obtain ⟨z1, z2, z3⟩ := hp.b x (fnF_mem h')
        rw [idx_some h, Option.bind_some, idx_some k, Option.bind_some, rsameF_eq z1 z2 z3]; rfl
theorem rof_eq {p q : Pg} (hp : PB p) (hq : PB q) (f : Bool) : r18_Of p q f = some (bif f then dF p q else dG p q) := by
  have h1 := hp.f
  have h2 := hp.g
  have h3 := hq.f
  have h4 := hq.g
  have hl1 : (nmsF p).length = p.gFuncs.length := by simp [nmsF]
  have hl2 : (nmsF q).length = q.gFuncs.length := by simp [nmsF]
  have hl3 : (nmsG p).length = p.gGlobals.length := by simp [nmsG]
  have hl4 : (nmsG q).length = q.gGlobals.length := by simp [nmsG]
  unfold r18_Of
  rw [rall_eq hp, Option.bind_some, rall_eq hq, Option.bind_some]
  have key : ∀ (L : List ByteArray) (c : ByteArray → Bool), L.length ≤ 60 → (∀ s, r18_other p q s f = some (c s)) → (Option.bind (α := List ByteArray) (loopM (fun (s39 : List ByteArray × Int) => (bif (decide (s39.2 < (L.length : Int))) then ((idx L s39.2).bind fun x58 => ((r18_other p q x58 f).bind fun x59 => (bif x59 then ((idx L s39.2).bind fun x61 => ((r07_Put s39.1 x61).bind fun x63 => some (.next (x63, (IntKind.i64.wrap (s39.2 + (1 : Int))))))) else some (.next (s39.1, (IntKind.i64.wrap (s39.2 + (1 : Int)))))))) else some (.done s39.1))) (([] : List ByteArray), (0 : Int))) fun y38 => some y38) = some (insA ltB (L.filter c)) := by
    intro L c hL hc
    refine loop_list L (fun pre => insA ltB (pre.filter c)) (fun a n => (a, (n : Int))) (fun a => a) (by simp [insA]) (fun pre x post hpp => ?_) ?_ ?_
    · have hl := pre_len hpp
      have hfl := List.length_filter_le c pre
      have hil := (insB_all (pre.filter c)).2.2
      simp only [lt_pre hpp, cond_true]
      rw [idx_pre2 hpp rfl, Option.bind_some, hc, Option.bind_some, inc_pre hpp (by omega), List.filter_append]
      cases hx : c x
      · simp [hx]
      · simp only [cond_true, Option.bind_some]
        rw [put_eq (by omega), Option.bind_some, show [x].filter c = [x] by simp [hx], insA_snoc]
    · simp only [lt_end, cond_false]
    · rfl
  cases f
  · simp only [cond_false]
    rw [app_len (by omega) (by omega), Option.bind_some]
    exact key _ _ (by simp; omega) fun s => (other_eq hp hq s false).trans rfl
  · simp only [cond_true]
    rw [app_len (by omega) (by omega), Option.bind_some]
    exact key _ _ (by simp; omega) fun s => (other_eq hp hq s true).trans rfl
theorem d_len {p q : Pg} (hp : PB p) (hq : PB q) : (dF p q).length ≤ 60 ∧ (dG p q).length ≤ 60 := by
  have h1 := hp.f
  have h2 := hp.g
  have h3 := hq.f
  have h4 := hq.g
  have k1 := (insB_all ((nmsF p ++ nmsF q).filter (chF p q))).2.2
  have k2 := List.length_filter_le (chF p q) (nmsF p ++ nmsF q)
  have k3 := (insB_all ((nmsG p ++ nmsG q).filter (chG p q))).2.2
  have k4 := List.length_filter_le (chG p q) (nmsG p ++ nmsG q)
  have e1 : (nmsF p).length = p.gFuncs.length := by simp [nmsF]
  have e2 : (nmsF q).length = q.gFuncs.length := by simp [nmsF]
  have e3 : (nmsG p).length = p.gGlobals.length := by simp [nmsG]
  have e4 : (nmsG q).length = q.gGlobals.length := by simp [nmsG]
  rw [List.length_append] at k2 k4
  exact ⟨by unfold dF; omega, by unfold dG; omega⟩
theorem few_eq (p : Pg) : l18_few p = some (decide (p.gFuncs.length ≤ 30) && decide (p.gGlobals.length ≤ 30)) := by
  unfold l18_few
  by_cases h : p.gFuncs.length ≤ 30
  · rw [decide_eq_true (by omega), cond_true, decide_eq_true h, Bool.true_and]
    congr 1
    exact decide_eq_decide.2 (by omega)
  · rw [decide_eq_false (by omega), cond_false, decide_eq_false h, Bool.false_and]
def lvP : Pg := ⟨[], [⟨ByteArray.mk #[102], [], [], [], 0⟩, ⟨ByteArray.mk #[103], [], [], [], 0⟩]⟩
def lvQ : Pg := ⟨[], [⟨ByteArray.mk #[103], [], [], [], 0⟩, ⟨ByteArray.mk #[102], [⟨ByteArray.mk #[120], false⟩], [], [], 0⟩]⟩
theorem lives18 : l18_lives = some true := by
  have hp : PB lvP := ⟨by decide, by decide, by intro x hx; simp [lvP] at hx; rcases hx with rfl | rfl <;> exact ⟨by decide, by decide, by decide⟩⟩
  have hq : PB lvQ := ⟨by decide, by decide, by intro x hx; simp [lvQ] at hx; rcases hx with rfl | rfl <;> exact ⟨by decide, by decide, by decide⟩⟩
  have e1 : dF lvP lvQ = [ByteArray.mk #[102]] := by kernel_rfl
  have e2 : dG lvP lvQ = [] := by kernel_rfl
  unfold l18_lives
  change Option.bind (change_Of lvP lvQ) _ = _
  rw [of_eq hp hq, Option.bind_some]
  simp only [e1, e2]
  rw [texts_refl (by decide)]
  rfl
def QB (p : Pg) : Prop := ∀ x ∈ p.gFuncs, FB x
theorem few_cases {p q : Pg} (hp : QB p) (hq : QB q) : (Option.bind (α := Bool) ((l18_few p).bind fun x7 => (bif (!x7) then some true else ((l18_few q).bind fun x9 => some (!x9)))) fun y => some y) = some true ∨ ((Option.bind (α := Bool) ((l18_few p).bind fun x7 => (bif (!x7) then some true else ((l18_few q).bind fun x9 => some (!x9)))) fun y => some y) = some false ∧ PB p ∧ PB q) := by
  rw [few_eq, few_eq]
  by_cases h1 : p.gFuncs.length ≤ 30 <;> by_cases h2 : p.gGlobals.length ≤ 30 <;> by_cases h3 : q.gFuncs.length ≤ 30 <;> by_cases h4 : q.gGlobals.length ≤ 30 <;>
    first
    | exact .inr ⟨by simp [h1, h2, h3, h4], ⟨h1, h2, hp⟩, ⟨h3, h4, hq⟩⟩
    | exact .inl (by simp [h1, h2, h3, h4])
theorem bind_some' {α : Type} (o : Option α) : (o.bind fun y => some y) = o := by cases o <;> rfl
end Go.Proofs.Ytpeimfcmhedjmaa.Ab.Pq
namespace Go.Proofs.Ytpeimfcmhedjmaa.Ab.Pq
open Go
set_option linter.all false
theorem decc {α : Type} [DecidableEq α] (a b : α) : decide (a = b) = decide (b = a) := decide_eq_decide.2 eq_comm
theorem ins_same {l m : List ByteArray} (h : ∀ x, x ∈ l ↔ x ∈ m) : insA ltB l = insA ltB m := by
  have h1 := insB_all l
  have h2 := insB_all m
  exact rise_unique (fun a b h k => lsOf_inj (List.le_antisymm h k)) h1.1 h2.1 fun x => (h1.2.1 x).trans ((h x).trans (h2.2.1 x).symm)
def hasS (s : ByteArray) (l : List ByteArray) : Bool := l.any fun x => decide (s = x)
theorem contains_eq (s : ByteArray) {l : List ByteArray} (hl : l.length ≤ 4000000) : slices_Contains_string_string l s = some (hasS s l) := by
  unfold slices_Contains_string_string slices_Index_string_string
  obtain ⟨i, h1, h2⟩ := find_loop (fun x => decide (s = x)) (l := l) (f := fun (s15 : Int) => (bif (decide (s15 < (l.length : Int))) then ((idx l s15).bind fun x25 => (bif (decide (s = x25)) then some (.done (.inr s15)) else some (.next (IntKind.i64.wrap (s15 + (1 : Int)))))) else some (.done (.inl ())))) (fun p x q h => by
    rw [lt_pre h, cond_true, idx_pre2 h rfl, Option.bind_some, inc_pre h (by omega)]
    cases decide (s = x) <;> rfl) (by rw [lt_end, cond_false])
  rw [h1, Option.bind_some]
  unfold hasS
  rcases h2 with ⟨rfl, h⟩ | ⟨n, x, rfl, _, h, h'⟩
  · have : l.any (fun x => decide (s = x)) = false := by
      rw [List.find?_eq_none] at h
      rw [List.any_eq_false]; exact fun x hx => h x hx
    rw [this]; rfl
  · have : l.any (fun x => decide (s = x)) = true := List.any_eq_true.2 ⟨x, List.mem_of_find?_eq_some h', List.find?_some (p := fun x => decide (s = x)) h'⟩
    rw [this, decide_eq_true (by omega)]
theorem containsF_eq {l m : List ByteArray} (hl : l.length ≤ 4000000) (hm : m.length ≤ 4000000) : slices_ContainsFunc_string_string l m = some (l.any fun g => hasS g m) := by
  unfold slices_ContainsFunc_string_string slices_IndexFunc_string_string
  obtain ⟨i, h1, h2⟩ := find_loop (fun x => hasS x m) (l := l) (f := fun (s18 : Int) => (bif (decide (s18 < (l.length : Int))) then ((idx l s18).bind fun x30 => ((change_Touched_1 x30 m).bind fun x31 => (bif x31 then some (.done (.inr s18)) else some (.next (IntKind.i64.wrap (s18 + (1 : Int))))))) else some (.done (.inl ())))) (fun p x q h => by
    rw [lt_pre h, cond_true, idx_pre2 h rfl, Option.bind_some, inc_pre h (by omega)]
    unfold change_Touched_1
    rw [contains_eq _ hm]
    simp only [Option.bind_some]
    cases hasS x m <;> rfl) (by rw [lt_end, cond_false])
  rw [h1, Option.bind_some]
  rcases h2 with ⟨rfl, h⟩ | ⟨n, x, rfl, _, h, h'⟩
  · have : l.any (fun g => hasS g m) = false := by
      rw [List.find?_eq_none] at h
      rw [List.any_eq_false]; exact fun x hx => h x hx
    rw [this]; rfl
  · have : l.any (fun g => hasS g m) = true := List.any_eq_true.2 ⟨x, List.mem_of_find?_eq_some h', List.find?_some (p := fun g => hasS g m) h'⟩
    rw [this, decide_eq_true (by omega)]
def tch (d : List ByteArray) (f : TApiFunc) : Bool := d.any fun g => hasS g (insA ltB (namesOf false f.gBody))
def tou (p q : Pg) : List ByteArray := insA ltB (dF p q ++ ((p.gFuncs ++ q.gFuncs).filter (tch (dG p q))).map (·.gName))
theorem touched_eq {p q : Pg} (hp : PB p) (hq : PB q) : change_Touched p q = some (tou p q) ∧ (tou p q).length ≤ 1048576 := by
  have h1 := hp.f
  have h2 := hq.f
  have hd := d_len hp hq
  have hfl := List.length_filter_le (tch (dG p q)) (p.gFuncs ++ q.gFuncs)
  rw [List.length_append] at hfl
  have hil := (insB_all (dF p q ++ ((p.gFuncs ++ q.gFuncs).filter (tch (dG p q))).map (·.gName))).2.2
  rw [List.length_append, List.length_map] at hil
  refine ⟨?_, by unfold tou; omega⟩
  unfold change_Touched
  rw [of_r hp hq, Option.bind_some, concatF h1 h2, Option.bind_some]
  refine loop_list (p.gFuncs ++ q.gFuncs) (fun pre => dF p q ++ (pre.filter (tch (dG p q))).map (·.gName)) (fun a n => ((n : Int), a)) (fun a => a) (by simp) (fun pre x post hpp => ?_) ?_ ?_
  · have hl := pre_len hpp
    have hfl := List.length_filter_le (tch (dG p q)) pre
    rw [List.length_append] at hl
    have hx : FB x := by
      rcases List.mem_append.1 (pre_mem hpp) with hx | hx
      · exact hp.b x hx
      · exact hq.b x hx
    have hn := namesOf_len false x.gBody
    have hni := (insB_all (namesOf false x.gBody)).2.2
    have hx3 := hx.2.2
    simp only [lt_pre hpp, cond_true]
    rw [idx_pre2 hpp rfl, Option.bind_some, names_eq hx.2.2, Option.bind_some, containsF_eq (by omega) (by omega), Option.bind_some, inc_pre hpp (by simp; omega), List.filter_append, List.map_append]
    rw [show (dG p q).any (fun g => hasS g (insA ltB (namesOf false x.gBody))) = tch (dG p q) x from rfl]
    cases ht : tch (dG p q) x
    · simp [ht]
    · simp only [cond_true]
      rw [app_len (by omega) (by simp; omega), Option.bind_some]
      simp [ht]
  · simp only [lt_end, cond_false]
  · rw [row_eq (by rw [List.length_append, List.length_map]; omega), Option.bind_some]; rfl
end Go.Proofs.Ytpeimfcmhedjmaa.Ab.Pq
namespace Go.Proofs.Ytpeimfcmhedjmaa.Ab
open Go
set_option linter.all false
def wfTApiGlobal (x : TApiGlobal) : Prop := x.gName.size ≤ maxLen ∧ (Lit.int .i64 x.gSize).wf = true ∧ (Lit.int .i64 x.gAt).wf = true
theorem goodTApiGlobal {n : Nat} {d : D} (g : GoodT tab n 61 d) : ∃ x : TApiGlobal, d = eTApiGlobal x ∧ wfTApiGlobal x := by
  obtain ⟨n', ds, _, rfl, hl, h⟩ := good_struct ti61 rfl g
  match ds, hl with
  | [d0, d1, d2, d3], _ =>
    obtain ⟨x1, rfl, w1⟩ := good_str ti9 rfl (h 0 _ _ rfl rfl)
    obtain ⟨x2, rfl⟩ := good_bool ti4 rfl (h 1 _ _ rfl rfl)
    obtain ⟨x3, rfl, w3⟩ := good_int ti3 rfl (h 2 _ _ rfl rfl)
    obtain ⟨x4, rfl, w4⟩ := good_int ti3 rfl (h 3 _ _ rfl rfl)
    exact ⟨⟨x1, x2, x3, x4⟩, rfl, w1, w3, w4⟩
def wfTApiVar (x : TApiVar) : Prop := x.gName.size ≤ maxLen
theorem goodTApiVar {n : Nat} {d : D} (g : GoodT tab n 43 d) : ∃ x : TApiVar, d = eTApiVar x ∧ wfTApiVar x := by
  obtain ⟨n', ds, _, rfl, hl, h⟩ := good_struct ti43 rfl g
  match ds, hl with
  | [d0, d1], _ =>
    obtain ⟨x1, rfl, w1⟩ := good_str ti9 rfl (h 0 _ _ rfl rfl)
    obtain ⟨x2, rfl⟩ := good_bool ti4 rfl (h 1 _ _ rfl rfl)
    exact ⟨⟨x1, x2⟩, rfl, w1⟩
def wfTApiExpr (_ : TApiExpr) : Prop := True
theorem goodTApiExpr_n : ∀ (n : Nat) {d : D} (g : GoodT tab n 76 d), ∃ x : TApiExpr, d = eTApiExpr x ∧ wfTApiExpr x
  | 0, d, g => by simp [GoodT] at g
  | n + 1, d, g => by
    obtain ⟨n', ds, hn, rfl, hl, h⟩ := good_struct ti76 rfl g
    obtain rfl : n' = n := by omega
    match ds, hl with
    | [d0, d1, d2, d3, d4], _ =>
      obtain ⟨x1, rfl, w1⟩ := good_int ti3 rfl (h 0 _ _ rfl rfl)
      obtain ⟨x2, rfl, w2⟩ := good_int ti3 rfl (h 1 _ _ rfl rfl)
      obtain ⟨x3, rfl, w3⟩ := good_str ti9 rfl (h 2 _ _ rfl rfl)
      obtain ⟨n4, zs4, hn4, rfl, hl4, hz4⟩ := good_slice ti71 rfl ti76 (h 3 _ _ rfl rfl)
      obtain ⟨x4, rfl, w4⟩ := good_list (f := eTApiExpr) (K := (fun y => wfTApiExpr y)) (p := fun x => GoodT tab n4 76 x) (fun x hx => by obtain ⟨x5, rfl, w5⟩ := goodTApiExpr_n _ (hx); exact ⟨x5, rfl, w5⟩) zs4 hz4
      obtain ⟨x6, rfl, w6⟩ := good_int ti3 rfl (h 4 _ _ rfl rfl)
      exact ⟨⟨x1, x2, x3, x4, x6⟩, by rw [eTApiExpr_eq]; rfl, trivial⟩
theorem goodTApiExpr {n : Nat} {d : D} (g : GoodT tab n 76 d) : ∃ x : TApiExpr, d = eTApiExpr x ∧ wfTApiExpr x := goodTApiExpr_n n g
def wfTApiStmt (_ : TApiStmt) : Prop := True
theorem goodTApiStmt_n : ∀ (n : Nat) {d : D} (g : GoodT tab n 73 d), ∃ x : TApiStmt, d = eTApiStmt x ∧ wfTApiStmt x
  | 0, d, g => by simp [GoodT] at g
  | n + 1, d, g => by
    obtain ⟨n', ds, hn, rfl, hl, h⟩ := good_struct ti73 rfl g
    obtain rfl : n' = n := by omega
    match ds, hl with
    | [d0, d1, d2, d3, d4, d5, d6], _ =>
      obtain ⟨x1, rfl, w1⟩ := good_int ti3 rfl (h 0 _ _ rfl rfl)
      obtain ⟨x2, rfl, w2⟩ := good_str ti9 rfl (h 1 _ _ rfl rfl)
      obtain ⟨x3, rfl, w3⟩ := good_str ti9 rfl (h 2 _ _ rfl rfl)
      obtain ⟨n4, zs4, hn4, rfl, hl4, hz4⟩ := good_slice ti71 rfl ti76 (h 3 _ _ rfl rfl)
      obtain ⟨x4, rfl, w4⟩ := good_list (f := eTApiExpr) (K := (fun y => wfTApiExpr y)) (p := fun x => GoodT tab n4 76 x) (fun x hx => by obtain ⟨x5, rfl, w5⟩ := goodTApiExpr (hx); exact ⟨x5, rfl, w5⟩) zs4 hz4
      obtain ⟨n6, zs6, hn6, rfl, hl6, hz6⟩ := good_slice ti39 rfl ti73 (h 4 _ _ rfl rfl)
      obtain ⟨x6, rfl, w6⟩ := good_list (f := eTApiStmt) (K := (fun y => wfTApiStmt y)) (p := fun x => GoodT tab n6 73 x) (fun x hx => by obtain ⟨x7, rfl, w7⟩ := goodTApiStmt_n _ (hx); exact ⟨x7, rfl, w7⟩) zs6 hz6
      obtain ⟨n8, zs8, hn8, rfl, hl8, hz8⟩ := good_slice ti39 rfl ti73 (h 5 _ _ rfl rfl)
      obtain ⟨x8, rfl, w8⟩ := good_list (f := eTApiStmt) (K := (fun y => wfTApiStmt y)) (p := fun x => GoodT tab n8 73 x) (fun x hx => by obtain ⟨x9, rfl, w9⟩ := goodTApiStmt_n _ (hx); exact ⟨x9, rfl, w9⟩) zs8 hz8
      obtain ⟨x10, rfl, w10⟩ := good_int ti3 rfl (h 6 _ _ rfl rfl)
      exact ⟨⟨x1, x2, x3, x4, x6, x8, x10⟩, by rw [eTApiStmt_eq]; rfl, trivial⟩
theorem goodTApiStmt {n : Nat} {d : D} (g : GoodT tab n 73 d) : ∃ x : TApiStmt, d = eTApiStmt x ∧ wfTApiStmt x := goodTApiStmt_n n g
def wfTApiFunc (x : TApiFunc) : Prop := x.gName.size ≤ maxLen ∧ (x.gParams.length ≤ maxLen ∧ ∀ y ∈ x.gParams, wfTApiVar y) ∧ (x.gLocals.length ≤ maxLen ∧ ∀ y ∈ x.gLocals, wfTApiVar y) ∧ (x.gBody.length ≤ maxLen ∧ ∀ y ∈ x.gBody, wfTApiStmt y) ∧ (Lit.int .i64 x.gAt).wf = true
theorem goodTApiFunc {n : Nat} {d : D} (g : GoodT tab n 41 d) : ∃ x : TApiFunc, d = eTApiFunc x ∧ wfTApiFunc x := by
  obtain ⟨n', ds, _, rfl, hl, h⟩ := good_struct ti41 rfl g
  match ds, hl with
  | [d0, d1, d2, d3, d4], _ =>
    obtain ⟨x1, rfl, w1⟩ := good_str ti9 rfl (h 0 _ _ rfl rfl)
    obtain ⟨n2, zs2, _, rfl, hl2, hz2⟩ := good_slice ti38 rfl ti43 (h 1 _ _ rfl rfl)
    obtain ⟨x2, rfl, w2⟩ := good_list (f := eTApiVar) (K := (fun y => wfTApiVar y)) (p := fun x => GoodT tab n2 43 x) (fun x hx => by obtain ⟨x3, rfl, w3⟩ := goodTApiVar (hx); exact ⟨x3, rfl, w3⟩) zs2 hz2
    obtain ⟨n4, zs4, _, rfl, hl4, hz4⟩ := good_slice ti38 rfl ti43 (h 2 _ _ rfl rfl)
    obtain ⟨x4, rfl, w4⟩ := good_list (f := eTApiVar) (K := (fun y => wfTApiVar y)) (p := fun x => GoodT tab n4 43 x) (fun x hx => by obtain ⟨x5, rfl, w5⟩ := goodTApiVar (hx); exact ⟨x5, rfl, w5⟩) zs4 hz4
    obtain ⟨n6, zs6, _, rfl, hl6, hz6⟩ := good_slice ti39 rfl ti73 (h 3 _ _ rfl rfl)
    obtain ⟨x6, rfl, w6⟩ := good_list (f := eTApiStmt) (K := (fun y => wfTApiStmt y)) (p := fun x => GoodT tab n6 73 x) (fun x hx => by obtain ⟨x7, rfl, w7⟩ := goodTApiStmt (hx); exact ⟨x7, rfl, w7⟩) zs6 hz6
    obtain ⟨x8, rfl, w8⟩ := good_int ti3 rfl (h 4 _ _ rfl rfl)
    exact ⟨⟨x1, x2, x4, x6, x8⟩, rfl, w1, ⟨by simpa using hl2, w2⟩, ⟨by simpa using hl4, w4⟩, ⟨by simpa using hl6, w6⟩, w8⟩
def wfTApiProgram (x : TApiProgram) : Prop := (x.gGlobals.length ≤ maxLen ∧ ∀ y ∈ x.gGlobals, wfTApiGlobal y) ∧ (x.gFuncs.length ≤ maxLen ∧ ∀ y ∈ x.gFuncs, wfTApiFunc y)
theorem goodTApiProgram {n : Nat} {d : D} (g : GoodT tab n 25 d) : ∃ x : TApiProgram, d = eTApiProgram x ∧ wfTApiProgram x := by
  obtain ⟨n', ds, _, rfl, hl, h⟩ := good_struct ti25 rfl g
  match ds, hl with
  | [d0, d1], _ =>
    obtain ⟨n1, zs1, _, rfl, hl1, hz1⟩ := good_slice ti22 rfl ti61 (h 0 _ _ rfl rfl)
    obtain ⟨x1, rfl, w1⟩ := good_list (f := eTApiGlobal) (K := (fun y => wfTApiGlobal y)) (p := fun x => GoodT tab n1 61 x) (fun x hx => by obtain ⟨x2, rfl, w2⟩ := goodTApiGlobal (hx); exact ⟨x2, rfl, w2⟩) zs1 hz1
    obtain ⟨n3, zs3, _, rfl, hl3, hz3⟩ := good_slice ti23 rfl ti41 (h 1 _ _ rfl rfl)
    obtain ⟨x3, rfl, w3⟩ := good_list (f := eTApiFunc) (K := (fun y => wfTApiFunc y)) (p := fun x => GoodT tab n3 41 x) (fun x hx => by obtain ⟨x4, rfl, w4⟩ := goodTApiFunc (hx); exact ⟨x4, rfl, w4⟩) zs3 hz3
    exact ⟨⟨x1, x3⟩, rfl, ⟨by simpa using hl1, w1⟩, ⟨by simpa using hl3, w3⟩⟩
theorem wts_mem {α : Type} {e : α → D} : ∀ {l : List α} {x : α}, x ∈ l → wt (e x) ≤ wts (l.map e)
  | y :: l, x, h => by
    simp only [List.map_cons, wts]
    rcases List.mem_cons.1 h with rfl | h
    · omega
    · have := wts_mem (e := e) h; omega
theorem wts_vl : ∀ l : List TApiVar, l.length ≤ wts (l.map eTApiVar)
  | [] => by simp
  | v :: l => by
    have := wts_vl l
    simp only [List.length_cons, List.map_cons, wts]
    have h : 1 ≤ wt (eTApiVar v) := by
      unfold eTApiVar; simp only [wt, wts, wtv]; omega
    omega
theorem wt_fb (x : TApiFunc) (h : wt (eTApiFunc x) ≤ 1048576) : Pq.FB x := by
  have h1 := wts_vl x.gParams
  have h2 := wts_vl x.gLocals
  have h3 := szSs_le x.gBody
  unfold wSs at h3
  unfold eTApiFunc at h
  simp only [wt, wts, wtv] at h
  unfold Pq.FB
  omega
theorem wt_qb (a : TApiProgram) (h : wt (eTApiProgram a) ≤ 1048576) : Pq.QB a := by
  intro x hx
  have h1 := wts_mem (e := eTApiFunc) hx
  refine wt_fb x ?_
  unfold eTApiProgram at h
  simp only [wt, wts, wtv] at h
  omega
end Go.Proofs.Ytpeimfcmhedjmaa.Ab
namespace Go.Proofs.Ytpeimfcmhedjmaa.Ab
open Go
set_option linter.all false
theorem rall_g : ∀ (n : Nat) (e : TApiExpr), dpE e ≤ n → szE e ≤ 1048576 → r11_All_g n e = some (allE e)
  | 0, e, h, _ => by rw [dpE_eq] at h; omega
  | n + 1, e, h, hb => by
    show r11_All_b (r11_All_g n) e = _
    unfold r11_All_b
    have hs := szE_eq e
    have hl := szEs_len e.gKids
    refine loop_list e.gKids (fun pre => e :: allEs pre) (fun a n => (a, (n : Nat))) (fun a => a) (by simp [szEs, dpEs, allEs]) (fun pre x post hp => ?_) ?_ ?_
    · have hk := kids_mem (pre_mem hp)
      have hsp := szEs_pre hp
      simp only [lt_pre hp, cond_true]
      rw [inc_pre hp (by omega)]
      rw [show idx e.gKids (pre.length : Int) = some x by rw [hp]; exact idx_pre _ _ _, Option.bind_some, rall_g n x (by omega) (by omega), Option.bind_some]
      rw [app_len (by omega) (by rw [List.length_cons, allEs_len, allE_len]; omega), Option.bind_some, allEs_append]
      simp only [allEs, List.append_nil, List.cons_append]
    · simp only [lt_end, cond_false]
    · rw [allE_eq]
theorem rall_eq {e : TApiExpr} (hb : szE e ≤ 1048576) : r11_All e = some (allE e) := r11_All_of e (dpE e) (rall_g _ e (Nat.le_refl _) hb)
theorem stmts_g : ∀ (n : Nat) (l : List TApiStmt), hSs l ≤ n → szSs l ≤ 1048576 → r11_Stmts_g n l = some (flSs l)
  | 0, l, h, _ => by have := hSs_pos l; omega
  | n + 1, l, h, hb => by
    show r11_Stmts_b (r11_Stmts_g n) l = _
    unfold r11_Stmts_b
    have hl := szSs_len l
    refine loop_list l (fun pre => flSs pre) (fun a n => (a, (n : Nat))) (fun a => a) (by simp [flSs]) (fun pre x post hp => ?_) ?_ ?_
    · have hx := pre_mem hp
      have hk := fuel h hx
      have hsp := szSs_pre hp
      have hsx := szS_eq x
      have f1 := szSs_fl pre
      have f2 := szSs_fl x.gKids
      have f3 := szSs_fl x.gElse
      simp only [lt_pre hp, cond_true]
      rw [inc_pre hp (by omega)]
      rw [show idx l (pre.length : Int) = some x by rw [hp]; exact idx_pre _ _ _, Option.bind_some, app_len (by omega) (by simp; omega), Option.bind_some, Option.bind_some, stmts_g n _ hk.1 (by omega), Option.bind_some, app_len (by omega) (by simp; omega), Option.bind_some, Option.bind_some, stmts_g n _ hk.2 (by omega), Option.bind_some, app_len (by omega) (by simp; omega), Option.bind_some]
      rw [flSs_append]
      simp only [flSs, List.append_nil, flS_eq x, List.append_assoc, List.cons_append, List.nil_append]
    · simp only [lt_end, cond_false]
    · rfl
theorem stmts_eq {l : List TApiStmt} (hb : szSs l ≤ 1048576) : r11_Stmts l = some (flSs l) := r11_Stmts_of l (hSs l) (stmts_g _ l (Nat.le_refl _) hb)
theorem exOf_pre {l pre : List TApiStmt} {x : TApiStmt} {post : List TApiStmt} (h : l = pre ++ x :: post) : (exOf pre).length + szEs x.gExps ≤ (exOf l).length := by
  subst h; simp only [exOf, List.flatMap_append, List.flatMap_cons, List.length_append, allEs_len]; omega
theorem exprs_eq {l : List TApiStmt} (hb : szSs l ≤ 1048576) : r11_Exprs l = some (exOf (flSs l)) := by
  unfold r11_Exprs
  rw [stmts_eq hb, Option.bind_some]
  have hf := szSs_fl l
  generalize flSs l = m at hf ⊢
  refine loop_list m (fun pre => exOf pre) (fun a n => (a, (n : Nat))) (fun a => a) (by simp [exOf]) (fun pre x post hp => ?_) ?_ ?_
  · have hx := pre_mem hp
    have hp2 := exOf_pre hp
    have hl := szEs_len x.gExps
    simp only [lt_pre hp, cond_true]
    rw [inc_pre hp (by omega)]
    have hi : idx m (pre.length : Int) = some x := by rw [hp]; exact idx_pre _ _ _
    rw [hi]
    refine loop_list x.gExps (fun q => exOf pre ++ allEs q) (fun a n => (a, (n : Nat))) (fun a => a) (by simp [allEs]) (fun q y post2 hq => ?_) ?_ ?_
    · have hy := szEs_pre hq
      simp only [Option.bind_some, lt_pre hq, cond_true]
      rw [inc_pre hq (by omega)]
      rw [show idx x.gExps (q.length : Int) = some y by rw [hq]; exact idx_pre _ _ _, Option.bind_some, rall_eq (by omega), Option.bind_some, app_len (by omega) (by simp [allEs_len, allE_len]; omega), Option.bind_some]
      rw [allEs_append]
      simp only [allEs, List.append_nil, List.append_assoc]
    · simp only [Option.bind_some, lt_end, cond_false]
    · simp only [exOf_append]; simp [exOf]
  · simp only [lt_end, cond_false]
  · rfl
end Go.Proofs.Ytpeimfcmhedjmaa.Ab
namespace Go.Proofs.Ytpeimfcmhedjmaa.Ab
open Go
set_option linter.all false
theorem rput_eq {l : List ByteArray} {w : ByteArray} (hb : l.length ≤ 1048576) : r11_put l w = some (insT ltB w l) := by
  unfold r11_put
  refine loop_list l (fun pre => pre.foldl (insS ltB w) ([], false)) (fun a n => (a.1, a.2, (n : Int))) (fun a => a) (by simp) (fun pre x post hp => ?_) ?_ ?_
  · have hlp := congrArg List.length hp
    simp only [List.length_append, List.length_cons] at hlp
    have hz := insS_len ltB w pre ([], false)
    rw [List.foldl_append, List.foldl_cons, List.foldl_nil]
    generalize pre.foldl (insS ltB w) ([], false) = s at hz ⊢
    obtain ⟨acc, put⟩ := s
    simp only [List.length_nil] at hz
    simp only [lt_pre hp, cond_true, idx_pre2 hp rfl, Option.bind_some]
    rw [inc_pre hp (by omega)]
    cases put
    · cases h1 : ltB w x
      · simp only [Bool.not_false, cond_true, cond_false, Option.bind_some]
        rw [app_len (by omega) (by simp; omega)]
        by_cases h2 : w = x
        · subst h2; simp [insS, ltB_irr]
        · simp [insS, h1, h2]
      · simp only [Bool.not_false, cond_true, cond_false, Option.bind_some]
        rw [app_len (by omega) (by simp; omega), Option.bind_some, Option.bind_some]
        simp only []
        by_cases h2 : w = x
        · subst h2; rw [ltB_irr] at h1; cases h1
        · rw [decide_eq_false h2, cond_false, Option.bind_some, app_len (by omega) (by simp; omega), Option.bind_some]
          simp [insS, h1, h2]
    · simp only [Bool.not_true, cond_false]
      rw [app_len (by omega) (by simp; omega)]
      by_cases h2 : w = x
      · simp [insS, h2]
      · simp [insS, h2]
  · simp only [lt_end, cond_false]
  · have hz := insS_len ltB w l ([], false)
    have h := insS_no ltB ltB_irr w l []
    generalize l.foldl (insS ltB w) ([], false) = s at hz h ⊢
    obtain ⟨acc, put⟩ := s
    simp only [List.length_nil] at hz
    cases put
    · simp only [Bool.not_false, cond_true]
      rw [app_len (by omega) (by simp; omega), Option.bind_some]
      simpa using h
    · simp only [Bool.not_true, cond_false]
      simpa using h
theorem rnames_eq {l : List TApiStmt} {c : Bool} (hb : szSs l ≤ 1048576) : r11_Names l c = some (insA ltB (namesOf c l)) := by
  unfold r11_Names
  rw [stmts_eq hb, Option.bind_some]
  have hf := szSs_fl l
  refine loop_list (flSs l) (fun pre => insA ltB (fm (nmS c) pre)) (fun a n => (a, (n : Nat))) (fun a => a) (by simp [fm, insA]) (fun p x q hp => ?_) ?_ ?_
  · have hl := fm_pre (nmS_len c) hp
    have hi := (insB_all (fm (nmS c) p)).2.2
    simp only [lt_pre hp, cond_true, idx_pre2 hp rfl, Option.bind_some]
    rw [inc_pre hp (by omega), show (bif c then some x.gFunc else some x.gName) = some (bif c then x.gFunc else x.gName) by cases c <;> rfl, Option.bind_some, fm_snoc]
    rw [show nmS c x = one1 (bif c then x.gFunc else x.gName) from rfl]
    unfold one1
    by_cases h : (bif c then x.gFunc else x.gName) = ByteArray.mk #[]
    · rw [decide_eq_true h, if_pos h, List.append_nil]; rfl
    · rw [decide_eq_false h, if_neg h, insA_snoc, Bool.not_false, cond_true, rput_eq (by omega)]; rfl
  · simp only [lt_end, cond_false]
  · rw [exprs_eq hb, Option.bind_some]
    cases c
    · refine loop_list (exOf (flSs l)) (fun pre => insA ltB (fm (nmS false) (flSs l) ++ fm (nmX false) pre)) (fun a n => (a, (n : Nat))) (fun a => a) (by simp [fm]) (fun p x q hp => ?_) ?_ ?_
      · have hl := fm_pre (nmX_len false) hp
        have hl2 := fm_len (nmS_len false) (flSs l)
        have hi := (insB_all (fm (nmS false) (flSs l) ++ fm (nmX false) p)).2.2
        rw [List.length_append] at hi
        simp only [lt_pre hp, cond_true, idx_pre2 hp rfl, Option.bind_some]
        rw [inc_pre hp (by omega), fm_snoc]
        simp only [Bool.not_false, cond_true, Option.bind_some]
        rw [show nmX false x = one1 x.gName from rfl]
        unfold one1
        by_cases h : x.gName = ByteArray.mk #[]
        · rw [decide_eq_true h, if_pos h, List.append_nil]; rfl
        · rw [decide_eq_false h, if_neg h, ← List.append_assoc, insA_snoc, Bool.not_false, cond_true, rput_eq (by omega)]; rfl
      · simp only [lt_end, cond_false]; rfl
      · rfl
    · have : fm (nmX true) (exOf (flSs l)) = [] := by simp [fm, nmX]
      unfold namesOf
      rw [this, List.append_nil]
      by_cases hz : (exOf (flSs l)).length = 0
      · rw [loopM_done (t := insA ltB (fm (nmS true) (flSs l))) (by simp [hz]), Option.bind_some]
      · rw [loopM_done (t := insA ltB (fm (nmS true) (flSs l))) (by
          rw [show decide ((0 : Int) < ((exOf (flSs l)).length : Int)) = true by rw [decide_eq_true_iff]; omega]; rfl), Option.bind_some]
theorem calls1_eq {m : TTreeBagString} {s : TApiStmt} (h : m.gL.length ≤ 1048576) : tree_Calls_1_r s m = some ⟨m.gL ++ nmS true s⟩ := by
  unfold tree_Calls_1_r
  show _ = some (⟨m.gL ++ one1 s.gFunc⟩ : TTreeBagString)
  unfold one1
  by_cases h1 : s.gFunc = ByteArray.mk #[]
  · rw [decide_eq_true h1, if_pos h1, List.append_nil]; rfl
  · rw [decide_eq_false h1, if_neg h1, Bool.not_false, cond_true, add_eq h]; rfl
theorem walk0_g : ∀ (n : Nat) (e : TApiExpr), dpE e ≤ n → szE e ≤ 1048576 → tree_walk_12_g n e = some ()
  | 0, e, h, _ => by rw [dpE_eq] at h; omega
  | n + 1, e, h, hb => by
    show tree_walk_12_b (tree_walk_12_g n) e = _
    unfold tree_walk_12_b
    have hs := szE_eq e
    have hl := szEs_len e.gKids
    rw [show tree_Calls_2 e = some () from rfl, Option.bind_some]
    refine loop_list e.gKids (fun pre => ()) (fun a n => (n : Int)) (fun a => a) rfl (fun pre x post hp => ?_) ?_ ?_
    · have hk := kids_mem (pre_mem hp)
      simp only [lt_pre hp, cond_true]
      rw [inc_pre hp (by omega), idx_pre2 hp rfl, Option.bind_some, walk0_g n x (by omega) (by omega)]; rfl
    · simp only [lt_end, cond_false]
    · rfl
theorem walk0_eq {e : TApiExpr} (hb : szE e ≤ 1048576) : tree_walk_12 e = some () := tree_walk_12_of e (dpE e) (walk0_g _ e (Nat.le_refl _) hb)
theorem walkC_g : ∀ (n : Nat) (l : List TApiStmt) (m : TTreeBagString), hSs l ≤ n → szSs l ≤ 1048576 → m.gL.length + szSs l ≤ 1048576 → tree_walk_r2_g n l m = some ⟨m.gL ++ fm (colS true) (flSs l)⟩
  | 0, l, m, h, _, _ => by have := hSs_pos l; omega
  | n + 1, l, m, h, hb, hm => by
    show tree_walk_r2_b (tree_walk_r2_g n) l m = _
    unfold tree_walk_r2_b
    have hl := szSs_len l
    refine loop_list l (fun pre => m.gL ++ fm (colS true) (flSs pre)) (fun a n => ((n : Nat), a)) (fun a => a) (by simp [flSs, fm]) (fun pre x post hp => ?_) ?_ ?_
    · have hx := pre_mem hp
      have hk := fuel h hx
      have hsp := szSs_pre hp
      have hsx := szS_eq x
      have hel := szEs_len x.gExps
      have l1 := colS_fl true pre
      have l2 := colS_fl true x.gKids
      have l5 := nmS_len true x
      simp only [lt_pre hp, cond_true]
      rw [inc_pre hp (by omega)]
      rw [idx_pre2 hp rfl, Option.bind_some, calls1_eq (by simp; omega), Option.bind_some]
      have h0 : fm (nmX true) (allEs x.gExps) = [] := by simp [fm, nmX]
      refine loop_list x.gExps (fun q => ()) (fun a n => (n : Int)) (fun a => a) rfl (fun q y post2 hq => ?_) ?_ ?_
      · have hy := szEs_pre hq
        simp only [lt_pre hq, cond_true]
        rw [inc_pre hq (by omega)]
        rw [idx_pre2 hq rfl, Option.bind_some, walk0_eq (by omega)]; rfl
      · simp only [lt_end, cond_false]
      · rw [walkC_g n _ _ hk.1 (by omega) (by simp; omega), Option.bind_some, walkC_g n _ _ hk.2 (by omega) (by simp; omega), Option.bind_some]
        rw [flSs_append, fm_app]
        simp only [flSs, List.append_nil, fm_one, List.append_assoc, h0, List.nil_append]
    · simp only [lt_end, cond_false]
    · rfl
theorem walkC_eq {l : List TApiStmt} {m : TTreeBagString} (hb : szSs l ≤ 1048576) (hm : m.gL.length + szSs l ≤ 1048576) : tree_walk_r2 l m = some ⟨m.gL ++ fm (colS true) (flSs l)⟩ := tree_walk_r2_of l m (hSs l) (walkC_g _ l m (Nat.le_refl _) hb hm)
theorem calls_eq {l : List TApiStmt} (hb : szSs l ≤ 1048576) : tree_Calls_r l = some (insA ltB (namesOf true l)) := by
  unfold tree_Calls_r
  rw [walkC_eq hb (by simpa using hb), Option.bind_some]
  simp only [List.nil_append]
  rw [col_all hb]; rfl
end Go.Proofs.Ytpeimfcmhedjmaa.Ab
