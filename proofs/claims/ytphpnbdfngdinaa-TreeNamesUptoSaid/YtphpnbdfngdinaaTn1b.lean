/- Layer 11: what the functions compute. -/
import Derived.Test.YtphpnbdfngdinaaTn1a
namespace Go.Proofs.Ytphpnbdfngdinaa.Ab
open Go
set_option linter.all false
noncomputable def tree_Sizes_b (g0 : (List TApiStmt) → Option (Int)) (a0 : List TApiStmt) : Option (Int) :=
  (Option.bind (α := Int) (loopM (fun (s115 : Int × Int) => (bif (decide (s115.2 < (a0.length : Int))) then ((idx a0 s115.2).bind fun x191 => ((g0 x191.gKids).bind fun x193 => ((g0 x191.gElse).bind fun x194 => (Option.bind (α := Int) (loopM (fun (s211 : Int × Int) => (bif (decide (s211.2 < (x191.gExps.length : Int))) then ((idx x191.gExps s211.2).bind fun x223 => ((tree_Size x223).bind fun x225 => some (.next ((IntKind.i64.wrap (s211.1 + x225)), (IntKind.i64.wrap (s211.2 + (1 : Int))))))) else some (.done s211.1))) ((IntKind.i64.wrap (s115.1 + (IntKind.i64.wrap ((IntKind.i64.wrap ((1 : Int) + x193)) + x194)))), (0 : Int))) fun y210 => some (.next (y210, (IntKind.i64.wrap (s115.2 + (1 : Int))))))))) else some (.done s115.1))) ((0 : Int), (0 : Int))) fun y114 => some y114)
set_option maxRecDepth 100000 in
set_option maxHeartbeats 2000000 in
theorem tree_Sizes_b_ok (g0 : (List TApiStmt) → Option (Int)) (hg0 : ∀ (a0 : List TApiStmt) (r : Int) (h0 : g0 a0 = some r), CallsD Try.prog 19 [.lst 7 (a0.map eTApiStmt) .no] [] [] (fun d h k => d = .v (.int .i64 r) ∧ h = [] ∧ k = [])) (a0 : List TApiStmt) (r : Int) (h0 : tree_Sizes_b g0 a0 = some r) : CallsD Try.prog 19 [.lst 7 (a0.map eTApiStmt) .no] [] [] (fun d h k => d = .v (.int .i64 r) ∧ h = [] ∧ k = []) := by
  have hm := yes_of h0
  unfold tree_Sizes_b at hm
  clear h0
  refine enterX htab Try.func19 rfl rfl rfl rfl rfl (fun C => ?_)
  refine wpD_seq ?_
  refine wpD_region ?_
  refine p_pure htab rfl rfl rfl rfl ?_
  refine ops_nil ?_
  refine then_normal ?_
  refine wpD_seq ?_
  refine wpD_region ?_
  refine p_pure htab rfl rfl rfl rfl ?_
  refine ops_nil ?_
  refine then_normal ?_
  refine wpD_seq ?_
  refine wpD_seq ?_
  refine wpD_region ?_
  refine p_pure htab rfl rfl rfl rfl ?_
  refine p_lenL htab rfl rfl rfl rfl rfl rfl rfl (by first | exact map_len | rfl) ?_
  refine p_pure htab rfl rfl rfl rfl ?_
  refine ops_nil ?_
  refine then_normal ?_
  obtain ⟨y114, q114, ho114⟩ := yes_bind hm
  refine wpD_mid (Y := Unit) (fun z114 => (⟨[(3, .v (.int .i64 y114))], [], []⟩ : S)) ?_ ?_
  · clear hm; have hm := yes_of q114
    refine wpD_block ?_
    obtain ⟨u115, hl115, hq115⟩ := yes_m hm
    refine loop_M (Y := Unit) hl115 (fun s115 z115 => (⟨[(3, .v (.int .i64 s115.1)), (8, .lst 7 (a0.map eTApiStmt) .no), (9, .v (.int .i64 (a0.length : Int))), (10, .v (.int .i64 s115.2))], [], []⟩ : S)) ?_ ?_
    · skip
      exact WkX.of () (WkS.perm (WkS.cons rfl (Wk.refl _) (WkS.cons rfl (Wk.refl _) (WkS.cons rfl (Wk.refl _) (WkS.cons rfl (Wk.refl _) (WkS.nil))))) (List.Perm.refl _) (List.Perm.refl _))
    · intro G115 s115 z115 hm
      refine wpD_seq ?_
      refine wpD_region ?_
      refine p_pure htab rfl rfl rfl rfl ?_
      refine ops_nil ?_
      refine then_normal ?_
      refine wpD_seq ?_
      refine wpD_cond rfl (fun hc190 => ?_) (fun hc190 => ?_)
      · replace hm := yes_t hc190 hm
        refine wpD_skip ?_
        refine then_normal ?_
        refine wpD_seq ?_
        refine wpD_block ?_
        refine wpD_seq ?_
        refine wpD_region ?_
        obtain ⟨x191, q191, hm⟩ := yes_bind hm
        refine p_elem htab rfl rfl rfl rfl rfl rfl rfl rfl rfl rfl (idx_nonneg q191) (idx_map q191) ?_
        refine p_eq (i := 12) rfl (Wk.of_eq (congrArg D.el (eTApiStmt_eq x191))) ?_
        refine p_loadEl (d := .agg [.v (.int .i64 x191.gOp), .v (.string x191.gName), .v (.string x191.gFunc), .lst 5 (x191.gExps.map eTApiExpr) .no, .lst 7 (x191.gKids.map eTApiStmt) .no, .lst 7 (x191.gElse.map eTApiStmt) .no, .v (.int .i64 x191.gAt)]) htab rfl rfl rfl rfl rfl rfl rfl rfl ?_
        refine p_alloc htab rfl rfl rfl rfl rfl rfl rfl (fun b192 => ?_)
        refine p_store (ds' := [.v (.int .i64 x191.gOp), .v (.string x191.gName), .v (.string x191.gFunc), .lst 5 (x191.gExps.map eTApiExpr) .no, .lst 7 (x191.gKids.map eTApiStmt) .no, .lst 7 (x191.gElse.map eTApiStmt) .no, .v (.int .i64 x191.gAt)]) (h' := [(b192, Blk.cells [.v (.int .i64 x191.gOp), .v (.string x191.gName), .v (.string x191.gFunc), .lst 5 (x191.gExps.map eTApiExpr) .no, .lst 7 (x191.gKids.map eTApiStmt) .no, .lst 7 (x191.gElse.map eTApiStmt) .no, .v (.int .i64 x191.gAt)] 56)]) 0 htab rfl rfl rfl rfl rfl rfl rfl rfl rfl rfl rfl rfl ?_
        refine ops_nil ?_
        refine then_normal ?_
        refine wpD_seq ?_
        obtain ⟨x193, q193, hm⟩ := yes_bind hm
        obtain ⟨x194, q194, hm⟩ := yes_bind hm
        refine wpD_draws 9 [] [[],[],[1],[1,2],[1,2,3],[],[5],[1,2,3,5,6],[1,2,3,5,6,7]] [1,2,3,5,6,7] [[],[],[1],[1,2],[1,2,3],[],[5],[1,2,3,5,6],[1,2,3,4,5,6,7],[0,1,2,3,4,5,6,7,8],[0,1,2,3,4,5,6,7,8,9]] (by kernel_rfl) (by kernel_rfl) (by kernel_rfl) (by rfl) (by rfl) (by kernel_rfl) ?_
        apply Exists.intro
        apply Exists.intro
        apply Exists.intro
        apply Exists.intro
        apply Exists.intro
        apply Exists.intro
        intro bs
        refine z_q rfl rfl (ex_pure htab rfl) rfl rfl rfl rfl rfl rfl ?_
        refine z_e rfl rfl (ex_pure htab rfl) rfl rfl rfl rfl rfl rfl ?_
        refine z_eM rfl rfl (xm_load 0 htab rfl rfl rfl rfl rfl) rfl rfl rfl rfl rfl rfl ?_
        refine z_call rfl rfl (hg0 x191.gKids x193 q193) rfl rfl (WkL.refl _) rfl rfl rfl rfl rfl rfl ?_
        refine z_q rfl rfl (ex_pure htab rfl) rfl rfl rfl rfl rfl rfl ?_
        refine z_e rfl rfl (ex_pure htab rfl) rfl rfl rfl rfl rfl rfl ?_
        refine z_eM rfl rfl (xm_load 0 htab rfl rfl rfl rfl rfl) rfl rfl rfl rfl rfl rfl ?_
        refine z_call rfl rfl (hg0 x191.gElse x194 q194) rfl rfl (WkL.refl _) rfl rfl rfl rfl rfl rfl ?_
        refine z_q rfl rfl (ex_pure htab rfl) rfl rfl rfl rfl rfl rfl ?_
        refine z_nil rfl rfl (fun e he => by simp [isAl] at he) ?_
        refine p_pure htab rfl rfl rfl rfl ?_
        refine p_pure htab rfl rfl rfl rfl ?_
        refine ops_nil ?_
        refine then_normal ?_
        refine wpD_seq ?_
        refine wpD_region ?_
        refine p_pure htab rfl rfl rfl rfl ?_
        refine p_load 0 htab rfl rfl rfl rfl rfl rfl rfl rfl ?_
        refine p_lenL htab rfl rfl rfl rfl rfl rfl rfl (by first | exact map_len | rfl) ?_
        refine p_pure htab rfl rfl rfl rfl ?_
        refine ops_nil ?_
        refine then_normal ?_
        obtain ⟨y210, q210, ho210⟩ := yes_bind hm
        refine wpD_mid (Y := Unit) (fun z210 => (⟨[(3, .v (.int .i64 y210)), (8, .lst 7 (a0.map eTApiStmt) .no), (9, .v (.int .i64 (a0.length : Int))), (10, .v (.int .i64 s115.2))], [(b192, Blk.cells [.v (.int .i64 x191.gOp), .v (.string x191.gName), .v (.string x191.gFunc), .lst 5 (x191.gExps.map eTApiExpr) .no, .lst 7 (x191.gKids.map eTApiStmt) .no, .lst 7 (x191.gElse.map eTApiStmt) .no, .v (.int .i64 x191.gAt)] 56)], []⟩ : S)) ?_ ?_
        · clear hm; have hm := yes_of q210
          refine wpD_block ?_
          obtain ⟨u211, hl211, hq211⟩ := yes_m hm
          refine loop_M (Y := Unit) hl211 (fun s211 z211 => (⟨[(3, .v (.int .i64 s211.1)), (8, .lst 7 (a0.map eTApiStmt) .no), (9, .v (.int .i64 (a0.length : Int))), (10, .v (.int .i64 s115.2)), (25, .lst 5 (x191.gExps.map eTApiExpr) .no), (26, .v (.int .i64 (x191.gExps.length : Int))), (27, .v (.int .i64 s211.2))], [(b192, Blk.cells [.v (.int .i64 x191.gOp), .v (.string x191.gName), .v (.string x191.gFunc), .lst 5 (x191.gExps.map eTApiExpr) .no, .lst 7 (x191.gKids.map eTApiStmt) .no, .lst 7 (x191.gElse.map eTApiStmt) .no, .v (.int .i64 x191.gAt)] 56)], []⟩ : S)) ?_ ?_
          · skip
            exact WkX.of () (WkS.perm (WkS.cons rfl (Wk.refl _) (WkS.cons rfl (Wk.refl _) (WkS.cons rfl (Wk.refl _) (WkS.cons rfl (Wk.refl _) (WkS.cons rfl (Wk.refl _) (WkS.cons rfl (Wk.refl _) (WkS.cons rfl (Wk.refl _) (WkS.nil)))))))) (List.Perm.refl _) (List.Perm.refl _))
          · intro G211 s211 z211 hm
            refine wpD_seq ?_
            refine wpD_region ?_
            refine p_pure htab rfl rfl rfl rfl ?_
            refine ops_nil ?_
            refine then_normal ?_
            refine wpD_seq ?_
            refine wpD_cond rfl (fun hc222 => ?_) (fun hc222 => ?_)
            · replace hm := yes_t hc222 hm
              refine wpD_skip ?_
              refine then_normal ?_
              refine wpD_seq ?_
              refine wpD_block ?_
              refine wpD_seq ?_
              refine wpD_region ?_
              obtain ⟨x223, q223, hm⟩ := yes_bind hm
              refine p_elem htab rfl rfl rfl rfl rfl rfl rfl rfl rfl rfl (idx_nonneg q223) (idx_map q223) ?_
              refine p_eq (i := 29) rfl (Wk.of_eq (congrArg D.el (eTApiExpr_eq x223))) ?_
              refine p_loadEl (d := .agg [.v (.int .i64 x223.gOp), .v (.int .i64 x223.gN), .v (.string x223.gName), .lst 5 (x223.gKids.map eTApiExpr) .no, .v (.int .i64 x223.gAt)]) htab rfl rfl rfl rfl rfl rfl rfl rfl ?_
              refine p_alloc htab rfl rfl rfl rfl rfl rfl rfl (fun b224 => ?_)
              refine p_store (ds' := [.v (.int .i64 x223.gOp), .v (.int .i64 x223.gN), .v (.string x223.gName), .lst 5 (x223.gKids.map eTApiExpr) .no, .v (.int .i64 x223.gAt)]) (h' := [(b192, Blk.cells [.v (.int .i64 x191.gOp), .v (.string x191.gName), .v (.string x191.gFunc), .lst 5 (x191.gExps.map eTApiExpr) .no, .lst 7 (x191.gKids.map eTApiStmt) .no, .lst 7 (x191.gElse.map eTApiStmt) .no, .v (.int .i64 x191.gAt)] 56), (b224, Blk.cells [.v (.int .i64 x223.gOp), .v (.int .i64 x223.gN), .v (.string x223.gName), .lst 5 (x223.gKids.map eTApiExpr) .no, .v (.int .i64 x223.gAt)] 34)]) 1 htab rfl rfl rfl rfl rfl rfl rfl rfl rfl rfl rfl rfl ?_
              refine ops_nil ?_
              refine then_normal ?_
              refine wpD_region ?_
              refine p_pure htab rfl rfl rfl rfl ?_
              refine p_load (d := .agg [.v (.int .i64 x223.gOp), .v (.int .i64 x223.gN), .v (.string x223.gName), .lst 5 (x223.gKids.map eTApiExpr) .no, .v (.int .i64 x223.gAt)]) 1 htab rfl rfl rfl rfl rfl rfl rfl rfl ?_
              obtain ⟨x225, q225, hm⟩ := yes_bind hm
              refine p_call0 (tree_Size_ok x223 x225 q225) rfl rfl rfl rfl rfl (WkL.cons (Wk.trans (Wk.agg (WkR.refl _)) (Wk.of_eq (eTApiExpr_eq x223).symm)) (WkL.refl _)) ?_
              rintro _ rfl
              refine p_pure htab rfl rfl rfl rfl ?_
              refine p_pure htab rfl rfl rfl rfl ?_
              refine ops_nil ?_
              refine block_normal ?_
              refine then_normal ?_
              refine wpD_region ?_
              refine p_pure htab rfl rfl rfl rfl ?_
              refine p_pure htab rfl rfl rfl rfl ?_
              refine ops_nil ?_
              refine then_normal ⟨_, lp_next hm, ?_⟩
              exact WkX.of () (WkS.perm (WkS.cons rfl (Wk.refl _) (WkS.cons rfl (Wk.refl _) (WkS.cons rfl (Wk.refl _) (WkS.cons rfl (Wk.refl _) (WkS.cons rfl (Wk.refl _) (WkS.cons rfl (Wk.refl _) (WkS.cons rfl (Wk.refl _) (WkS.nil)))))))) (List.Perm.refl _) (List.Perm.refl _))
            · replace hm := yes_f hc222 hm
              refine wpD_exit ?_
              refine then_exit ?_
              have e211 := lp_done hm; subst e211; clear hm; have hm := hq211
              refine then_exit ?_
              refine block_hit ?_
              have e210 := yes_eq hm; subst e210
              refine ⟨rfl, ?_⟩
              exact WkX.of () (WkS.perm (WkS.cons rfl (Wk.refl _) (WkS.cons rfl (Wk.refl _) (WkS.cons rfl (Wk.refl _) (WkS.cons rfl (Wk.refl _) (WkS.nil))))) (List.Perm.refl _) (List.Perm.refl _))
        · intro s210 hw210; clear hm; have hm := ho210; clear q210 ho210
          refine block_normal ?_
          refine then_normal ?_
          refine wpD_wkX hw210 (fun z210 => ?_)
          refine wpD_region ?_
          refine p_pure htab rfl rfl rfl rfl ?_
          refine p_pure htab rfl rfl rfl rfl ?_
          refine ops_nil ?_
          refine then_normal ⟨_, lp_next hm, ?_⟩
          exact WkX.of () (WkS.perm (WkS.cons rfl (Wk.refl _) (WkS.cons rfl (Wk.refl _) (WkS.cons rfl (Wk.refl _) (WkS.cons rfl (Wk.refl _) (WkS.nil))))) (List.Perm.refl _) (List.Perm.refl _))
      · replace hm := yes_f hc190 hm
        refine wpD_exit ?_
        refine then_exit ?_
        have e115 := lp_done hm; subst e115; clear hm; have hm := hq115
        refine then_exit ?_
        refine block_hit ?_
        have e114 := yes_eq hm; subst e114
        refine ⟨rfl, ?_⟩
        exact WkX.of () (WkS.perm (WkS.cons rfl (Wk.refl _) (WkS.nil)) (List.Perm.refl _) (List.Perm.refl _))
  · intro s114 hw114; clear hm; have hm := ho114; clear q114 ho114
    refine then_normal ?_
    refine wpD_wkX hw114 (fun z114 => ?_)
    refine wpD_seq ?_
    refine wpD_region ?_
    refine p_pure htab rfl rfl rfl rfl ?_
    refine p_pure htab rfl rfl rfl rfl ?_
    refine ops_nil ?_
    refine then_normal ?_
    refine wpD_ret ?_
    have er226 := yes_eq hm; subst er226
    refine retX.of (s' := ⟨[(2, .v (.int .i64 y114))], [], []⟩) (WkS.perm (WkS.cons rfl (Wk.refl _) (WkS.nil)) (List.Perm.refl _) (List.Perm.refl _)) (retD_mk (hh := []) (.inl rfl) (resL_cons (resOne_tmp rfl) (resL_nil)) (List.nil_sublist _) (List.Sublist.refl _) ?_)
    exact ⟨rfl, rfl, rfl⟩
noncomputable def tree_Sizes_g : Nat → ((List TApiStmt) → Option (Int))
  | 0 => (fun _ => none)
  | n + 1 => (tree_Sizes_b ((tree_Sizes_g n)))
theorem tree_Sizes_g_ok : ∀ n, (∀ (a0 : List TApiStmt) (r : Int) (h0 : (tree_Sizes_g n) a0 = some r), CallsD Try.prog 19 [.lst 7 (a0.map eTApiStmt) .no] [] [] (fun d h k => d = .v (.int .i64 r) ∧ h = [] ∧ k = []))
  | 0 => fun _ _ h0 => by cases h0
  | n + 1 => by
    have ih := tree_Sizes_g_ok n
    exact tree_Sizes_b_ok (tree_Sizes_g n) ih
theorem tree_Sizes_g_le : ∀ n, (∀ (a0 : List TApiStmt), Le ((tree_Sizes_g n) a0) ((tree_Sizes_g (n + 1)) a0))
  | 0 => fun _ => Le.none _
  | n + 1 => by
    have ih := tree_Sizes_g_le n
    exact fun a0 => by show Le (tree_Sizes_b ((tree_Sizes_g n)) a0) (tree_Sizes_b ((tree_Sizes_g (n + 1))) a0); unfold tree_Sizes_b; repeat (first | exact Le.refl _ | exact ih _ | assumption | (refine Le.bind ?_ (fun _ => ?_)) | (refine Le.cond ?_ ?_) | (refine Le.loop (fun _ => ?_)) | (refine Le.elim (fun _ => ?_) (fun _ => ?_)))
noncomputable def tree_Sizes (a0 : List TApiStmt) : Option (Int) := anyN fun n => (tree_Sizes_g n) a0
theorem tree_Sizes_of (a0 : List TApiStmt) {r : Int} (n : Nat) (h : (tree_Sizes_g n) a0 = some r) : tree_Sizes a0 = some r := anyN_of (fun m => (tree_Sizes_g_le m) a0) h
theorem tree_Sizes_ok (a0 : List TApiStmt) (r : Int) (h0 : tree_Sizes a0 = some r) : CallsD Try.prog 19 [.lst 7 (a0.map eTApiStmt) .no] [] [] (fun d h k => d = .v (.int .i64 r) ∧ h = [] ∧ k = []) :=
  let ⟨n, hn⟩ := anyN_inv h0; (tree_Sizes_g_ok n) a0  r hn
noncomputable def tree_Deeps_b (g0 : (List TApiStmt) → Option (Int)) (a0 : List TApiStmt) : Option (Int) :=
  (Option.bind (α := Int) (loopM (fun (s115 : Int × Int) => (bif (decide (s115.2 < (a0.length : Int))) then ((idx a0 s115.2).bind fun x191 => ((g0 x191.gKids).bind fun x193 => ((g0 x191.gElse).bind fun x194 => (Option.bind (α := Int) (loopM (fun (s211 : Int × Int) => (bif (decide (s211.2 < (x191.gExps.length : Int))) then ((idx x191.gExps s211.2).bind fun x223 => ((tree_Deep x223).bind fun x225 => some (.next ((max s211.1 x225), (IntKind.i64.wrap (s211.2 + (1 : Int))))))) else some (.done s211.1))) ((max x193 x194), (0 : Int))) fun y210 => some (.next ((max s115.1 (IntKind.i64.wrap (y210 + (1 : Int)))), (IntKind.i64.wrap (s115.2 + (1 : Int))))))))) else some (.done s115.1))) ((0 : Int), (0 : Int))) fun y114 => some y114)
set_option maxRecDepth 100000 in
set_option maxHeartbeats 2000000 in
theorem tree_Deeps_b_ok (g0 : (List TApiStmt) → Option (Int)) (hg0 : ∀ (a0 : List TApiStmt) (r : Int) (h0 : g0 a0 = some r), CallsD Try.prog 22 [.lst 7 (a0.map eTApiStmt) .no] [] [] (fun d h k => d = .v (.int .i64 r) ∧ h = [] ∧ k = [])) (a0 : List TApiStmt) (r : Int) (h0 : tree_Deeps_b g0 a0 = some r) : CallsD Try.prog 22 [.lst 7 (a0.map eTApiStmt) .no] [] [] (fun d h k => d = .v (.int .i64 r) ∧ h = [] ∧ k = []) := by
  have hm := yes_of h0
  unfold tree_Deeps_b at hm
  clear h0
  refine enterX htab Try.func22 rfl rfl rfl rfl rfl (fun C => ?_)
  refine wpD_seq ?_
  refine wpD_region ?_
  refine p_pure htab rfl rfl rfl rfl ?_
  refine ops_nil ?_
  refine then_normal ?_
  refine wpD_seq ?_
  refine wpD_region ?_
  refine p_pure htab rfl rfl rfl rfl ?_
  refine ops_nil ?_
  refine then_normal ?_
  refine wpD_seq ?_
  refine wpD_seq ?_
  refine wpD_region ?_
  refine p_pure htab rfl rfl rfl rfl ?_
  refine p_lenL htab rfl rfl rfl rfl rfl rfl rfl (by first | exact map_len | rfl) ?_
  refine p_pure htab rfl rfl rfl rfl ?_
  refine ops_nil ?_
  refine then_normal ?_
  obtain ⟨y114, q114, ho114⟩ := yes_bind hm
  refine wpD_mid (Y := Unit) (fun z114 => (⟨[(3, .v (.int .i64 y114))], [], []⟩ : S)) ?_ ?_
  · clear hm; have hm := yes_of q114
    refine wpD_block ?_
    obtain ⟨u115, hl115, hq115⟩ := yes_m hm
    refine loop_M (Y := Unit) hl115 (fun s115 z115 => (⟨[(3, .v (.int .i64 s115.1)), (9, .lst 7 (a0.map eTApiStmt) .no), (10, .v (.int .i64 (a0.length : Int))), (11, .v (.int .i64 s115.2))], [], []⟩ : S)) ?_ ?_
    · skip
      exact WkX.of () (WkS.perm (WkS.cons rfl (Wk.refl _) (WkS.cons rfl (Wk.refl _) (WkS.cons rfl (Wk.refl _) (WkS.cons rfl (Wk.refl _) (WkS.nil))))) (List.Perm.refl _) (List.Perm.refl _))
    · intro G115 s115 z115 hm
      refine wpD_seq ?_
      refine wpD_region ?_
      refine p_pure htab rfl rfl rfl rfl ?_
      refine ops_nil ?_
      refine then_normal ?_
      refine wpD_seq ?_
      refine wpD_cond rfl (fun hc190 => ?_) (fun hc190 => ?_)
      · replace hm := yes_t hc190 hm
        refine wpD_skip ?_
        refine then_normal ?_
        refine wpD_seq ?_
        refine wpD_block ?_
        refine wpD_seq ?_
        refine wpD_region ?_
        obtain ⟨x191, q191, hm⟩ := yes_bind hm
        refine p_elem htab rfl rfl rfl rfl rfl rfl rfl rfl rfl rfl (idx_nonneg q191) (idx_map q191) ?_
        refine p_eq (i := 13) rfl (Wk.of_eq (congrArg D.el (eTApiStmt_eq x191))) ?_
        refine p_loadEl (d := .agg [.v (.int .i64 x191.gOp), .v (.string x191.gName), .v (.string x191.gFunc), .lst 5 (x191.gExps.map eTApiExpr) .no, .lst 7 (x191.gKids.map eTApiStmt) .no, .lst 7 (x191.gElse.map eTApiStmt) .no, .v (.int .i64 x191.gAt)]) htab rfl rfl rfl rfl rfl rfl rfl rfl ?_
        refine p_alloc htab rfl rfl rfl rfl rfl rfl rfl (fun b192 => ?_)
        refine p_store (ds' := [.v (.int .i64 x191.gOp), .v (.string x191.gName), .v (.string x191.gFunc), .lst 5 (x191.gExps.map eTApiExpr) .no, .lst 7 (x191.gKids.map eTApiStmt) .no, .lst 7 (x191.gElse.map eTApiStmt) .no, .v (.int .i64 x191.gAt)]) (h' := [(b192, Blk.cells [.v (.int .i64 x191.gOp), .v (.string x191.gName), .v (.string x191.gFunc), .lst 5 (x191.gExps.map eTApiExpr) .no, .lst 7 (x191.gKids.map eTApiStmt) .no, .lst 7 (x191.gElse.map eTApiStmt) .no, .v (.int .i64 x191.gAt)] 56)]) 0 htab rfl rfl rfl rfl rfl rfl rfl rfl rfl rfl rfl rfl ?_
        refine ops_nil ?_
        refine then_normal ?_
        refine wpD_seq ?_
        obtain ⟨x193, q193, hm⟩ := yes_bind hm
        refine wpD_draws 5 [] [[],[0],[0,1],[],[3]] [0,1,2,3,4] [[],[0],[0,1],[],[3],[0,1,2,3,4],[0,1,2,3,4,5],[0,1,2,3,4,5,6]] (by kernel_rfl) (by kernel_rfl) (by kernel_rfl) (by rfl) (by rfl) (by kernel_rfl) ?_
        apply Exists.intro
        apply Exists.intro
        apply Exists.intro
        apply Exists.intro
        apply Exists.intro
        intro bs
        refine z_e rfl rfl (ex_pure htab rfl) rfl rfl rfl rfl rfl rfl ?_
        refine z_eM rfl rfl (xm_load 0 htab rfl rfl rfl rfl rfl) rfl rfl rfl rfl rfl rfl ?_
        refine z_call rfl rfl (hg0 x191.gKids x193 q193) rfl rfl (WkL.refl _) rfl rfl rfl rfl rfl rfl ?_
        refine z_e rfl rfl (ex_pure htab rfl) rfl rfl rfl rfl rfl rfl ?_
        refine z_eM rfl rfl (xm_load 0 htab rfl rfl rfl rfl rfl) rfl rfl rfl rfl rfl rfl ?_
        refine z_nil rfl rfl (fun e he => by simp [isAl] at he) ?_
        obtain ⟨x194, q194, hm⟩ := yes_bind hm
        refine p_call0 (hg0 x191.gElse x194 q194) rfl rfl rfl rfl rfl (WkL.refl _) ?_
        rintro _ rfl
        refine p_max rfl rfl rfl rfl rfl rfl ?_
        refine p_pure htab rfl rfl rfl rfl ?_
        refine ops_nil ?_
        refine then_normal ?_
        refine wpD_seq ?_
        refine wpD_seq ?_
        refine wpD_region ?_
        refine p_pure htab rfl rfl rfl rfl ?_
        refine p_load 0 htab rfl rfl rfl rfl rfl rfl rfl rfl ?_
        refine p_lenL htab rfl rfl rfl rfl rfl rfl rfl (by first | exact map_len | rfl) ?_
        refine p_pure htab rfl rfl rfl rfl ?_
        refine ops_nil ?_
        refine then_normal ?_
        obtain ⟨y210, q210, ho210⟩ := yes_bind hm
        refine wpD_mid (Y := Unit) (fun z210 => (⟨[(3, .v (.int .i64 s115.1)), (6, .v (.int .i64 y210)), (9, .lst 7 (a0.map eTApiStmt) .no), (10, .v (.int .i64 (a0.length : Int))), (11, .v (.int .i64 s115.2))], [(b192, Blk.cells [.v (.int .i64 x191.gOp), .v (.string x191.gName), .v (.string x191.gFunc), .lst 5 (x191.gExps.map eTApiExpr) .no, .lst 7 (x191.gKids.map eTApiStmt) .no, .lst 7 (x191.gElse.map eTApiStmt) .no, .v (.int .i64 x191.gAt)] 56)], []⟩ : S)) ?_ ?_
        · clear hm; have hm := yes_of q210
          refine wpD_block ?_
          obtain ⟨u211, hl211, hq211⟩ := yes_m hm
          refine loop_M (Y := Unit) hl211 (fun s211 z211 => (⟨[(3, .v (.int .i64 s115.1)), (6, .v (.int .i64 s211.1)), (9, .lst 7 (a0.map eTApiStmt) .no), (10, .v (.int .i64 (a0.length : Int))), (11, .v (.int .i64 s115.2)), (23, .lst 5 (x191.gExps.map eTApiExpr) .no), (24, .v (.int .i64 (x191.gExps.length : Int))), (25, .v (.int .i64 s211.2))], [(b192, Blk.cells [.v (.int .i64 x191.gOp), .v (.string x191.gName), .v (.string x191.gFunc), .lst 5 (x191.gExps.map eTApiExpr) .no, .lst 7 (x191.gKids.map eTApiStmt) .no, .lst 7 (x191.gElse.map eTApiStmt) .no, .v (.int .i64 x191.gAt)] 56)], []⟩ : S)) ?_ ?_
          · skip
            exact WkX.of () (WkS.perm (WkS.cons rfl (Wk.refl _) (WkS.cons rfl (Wk.refl _) (WkS.cons rfl (Wk.refl _) (WkS.cons rfl (Wk.refl _) (WkS.cons rfl (Wk.refl _) (WkS.cons rfl (Wk.refl _) (WkS.cons rfl (Wk.refl _) (WkS.cons rfl (Wk.refl _) (WkS.nil))))))))) (List.Perm.refl _) (List.Perm.refl _))
          · intro G211 s211 z211 hm
            refine wpD_seq ?_
            refine wpD_region ?_
            refine p_pure htab rfl rfl rfl rfl ?_
            refine ops_nil ?_
            refine then_normal ?_
            refine wpD_seq ?_
            refine wpD_cond rfl (fun hc222 => ?_) (fun hc222 => ?_)
            · replace hm := yes_t hc222 hm
              refine wpD_skip ?_
              refine then_normal ?_
              refine wpD_seq ?_
              refine wpD_block ?_
              refine wpD_seq ?_
              refine wpD_region ?_
              obtain ⟨x223, q223, hm⟩ := yes_bind hm
              refine p_elem htab rfl rfl rfl rfl rfl rfl rfl rfl rfl rfl (idx_nonneg q223) (idx_map q223) ?_
              refine p_eq (i := 27) rfl (Wk.of_eq (congrArg D.el (eTApiExpr_eq x223))) ?_
              refine p_loadEl (d := .agg [.v (.int .i64 x223.gOp), .v (.int .i64 x223.gN), .v (.string x223.gName), .lst 5 (x223.gKids.map eTApiExpr) .no, .v (.int .i64 x223.gAt)]) htab rfl rfl rfl rfl rfl rfl rfl rfl ?_
              refine p_alloc htab rfl rfl rfl rfl rfl rfl rfl (fun b224 => ?_)
              refine p_store (ds' := [.v (.int .i64 x223.gOp), .v (.int .i64 x223.gN), .v (.string x223.gName), .lst 5 (x223.gKids.map eTApiExpr) .no, .v (.int .i64 x223.gAt)]) (h' := [(b192, Blk.cells [.v (.int .i64 x191.gOp), .v (.string x191.gName), .v (.string x191.gFunc), .lst 5 (x191.gExps.map eTApiExpr) .no, .lst 7 (x191.gKids.map eTApiStmt) .no, .lst 7 (x191.gElse.map eTApiStmt) .no, .v (.int .i64 x191.gAt)] 56), (b224, Blk.cells [.v (.int .i64 x223.gOp), .v (.int .i64 x223.gN), .v (.string x223.gName), .lst 5 (x223.gKids.map eTApiExpr) .no, .v (.int .i64 x223.gAt)] 34)]) 1 htab rfl rfl rfl rfl rfl rfl rfl rfl rfl rfl rfl rfl ?_
              refine ops_nil ?_
              refine then_normal ?_
              refine wpD_region ?_
              refine p_pure htab rfl rfl rfl rfl ?_
              refine p_load (d := .agg [.v (.int .i64 x223.gOp), .v (.int .i64 x223.gN), .v (.string x223.gName), .lst 5 (x223.gKids.map eTApiExpr) .no, .v (.int .i64 x223.gAt)]) 1 htab rfl rfl rfl rfl rfl rfl rfl rfl ?_
              obtain ⟨x225, q225, hm⟩ := yes_bind hm
              refine p_call0 (tree_Deep_ok x223 x225 q225) rfl rfl rfl rfl rfl (WkL.cons (Wk.trans (Wk.agg (WkR.refl _)) (Wk.of_eq (eTApiExpr_eq x223).symm)) (WkL.refl _)) ?_
              rintro _ rfl
              refine p_max rfl rfl rfl rfl rfl rfl ?_
              refine p_pure htab rfl rfl rfl rfl ?_
              refine ops_nil ?_
              refine block_normal ?_
              refine then_normal ?_
              refine wpD_region ?_
              refine p_pure htab rfl rfl rfl rfl ?_
              refine p_pure htab rfl rfl rfl rfl ?_
              refine ops_nil ?_
              refine then_normal ⟨_, lp_next hm, ?_⟩
              exact WkX.of () (WkS.perm (WkS.cons rfl (Wk.refl _) (WkS.cons rfl (Wk.refl _) (WkS.cons rfl (Wk.refl _) (WkS.cons rfl (Wk.refl _) (WkS.cons rfl (Wk.refl _) (WkS.cons rfl (Wk.refl _) (WkS.cons rfl (Wk.refl _) (WkS.cons rfl (Wk.refl _) (WkS.nil))))))))) (List.Perm.refl _) (List.Perm.refl _))
            · replace hm := yes_f hc222 hm
              refine wpD_exit ?_
              refine then_exit ?_
              have e211 := lp_done hm; subst e211; clear hm; have hm := hq211
              refine then_exit ?_
              refine block_hit ?_
              have e210 := yes_eq hm; subst e210
              refine ⟨rfl, ?_⟩
              exact WkX.of () (WkS.perm (WkS.cons rfl (Wk.refl _) (WkS.cons rfl (Wk.refl _) (WkS.cons rfl (Wk.refl _) (WkS.cons rfl (Wk.refl _) (WkS.cons rfl (Wk.refl _) (WkS.nil)))))) (List.Perm.refl _) (List.Perm.refl _))
        · intro s210 hw210; clear hm; have hm := ho210; clear q210 ho210
          refine then_normal ?_
          refine wpD_wkX hw210 (fun z210 => ?_)
          refine wpD_region ?_
          refine p_pure htab rfl rfl rfl rfl ?_
          refine p_pure htab rfl rfl rfl rfl ?_
          refine p_pure htab rfl rfl rfl rfl ?_
          refine p_max rfl rfl rfl rfl rfl rfl ?_
          refine p_pure htab rfl rfl rfl rfl ?_
          refine ops_nil ?_
          refine block_normal ?_
          refine then_normal ?_
          refine wpD_region ?_
          refine p_pure htab rfl rfl rfl rfl ?_
          refine p_pure htab rfl rfl rfl rfl ?_
          refine ops_nil ?_
          refine then_normal ⟨_, lp_next hm, ?_⟩
          exact WkX.of () (WkS.perm (WkS.cons rfl (Wk.refl _) (WkS.cons rfl (Wk.refl _) (WkS.cons rfl (Wk.refl _) (WkS.cons rfl (Wk.refl _) (WkS.nil))))) (List.Perm.refl _) (List.Perm.refl _))
      · replace hm := yes_f hc190 hm
        refine wpD_exit ?_
        refine then_exit ?_
        have e115 := lp_done hm; subst e115; clear hm; have hm := hq115
        refine then_exit ?_
        refine block_hit ?_
        have e114 := yes_eq hm; subst e114
        refine ⟨rfl, ?_⟩
        exact WkX.of () (WkS.perm (WkS.cons rfl (Wk.refl _) (WkS.nil)) (List.Perm.refl _) (List.Perm.refl _))
  · intro s114 hw114; clear hm; have hm := ho114; clear q114 ho114
    refine then_normal ?_
    refine wpD_wkX hw114 (fun z114 => ?_)
    refine wpD_seq ?_
    refine wpD_region ?_
    refine p_pure htab rfl rfl rfl rfl ?_
    refine p_pure htab rfl rfl rfl rfl ?_
    refine ops_nil ?_
    refine then_normal ?_
    refine wpD_ret ?_
    have er226 := yes_eq hm; subst er226
    refine retX.of (s' := ⟨[(2, .v (.int .i64 y114))], [], []⟩) (WkS.perm (WkS.cons rfl (Wk.refl _) (WkS.nil)) (List.Perm.refl _) (List.Perm.refl _)) (retD_mk (hh := []) (.inl rfl) (resL_cons (resOne_tmp rfl) (resL_nil)) (List.nil_sublist _) (List.Sublist.refl _) ?_)
    exact ⟨rfl, rfl, rfl⟩
noncomputable def tree_Deeps_g : Nat → ((List TApiStmt) → Option (Int))
  | 0 => (fun _ => none)
  | n + 1 => (tree_Deeps_b ((tree_Deeps_g n)))
theorem tree_Deeps_g_ok : ∀ n, (∀ (a0 : List TApiStmt) (r : Int) (h0 : (tree_Deeps_g n) a0 = some r), CallsD Try.prog 22 [.lst 7 (a0.map eTApiStmt) .no] [] [] (fun d h k => d = .v (.int .i64 r) ∧ h = [] ∧ k = []))
  | 0 => fun _ _ h0 => by cases h0
  | n + 1 => by
    have ih := tree_Deeps_g_ok n
    exact tree_Deeps_b_ok (tree_Deeps_g n) ih
theorem tree_Deeps_g_le : ∀ n, (∀ (a0 : List TApiStmt), Le ((tree_Deeps_g n) a0) ((tree_Deeps_g (n + 1)) a0))
  | 0 => fun _ => Le.none _
  | n + 1 => by
    have ih := tree_Deeps_g_le n
    exact fun a0 => by show Le (tree_Deeps_b ((tree_Deeps_g n)) a0) (tree_Deeps_b ((tree_Deeps_g (n + 1))) a0); unfold tree_Deeps_b; repeat (first | exact Le.refl _ | exact ih _ | assumption | (refine Le.bind ?_ (fun _ => ?_)) | (refine Le.cond ?_ ?_) | (refine Le.loop (fun _ => ?_)) | (refine Le.elim (fun _ => ?_) (fun _ => ?_)))
noncomputable def tree_Deeps (a0 : List TApiStmt) : Option (Int) := anyN fun n => (tree_Deeps_g n) a0
theorem tree_Deeps_of (a0 : List TApiStmt) {r : Int} (n : Nat) (h : (tree_Deeps_g n) a0 = some r) : tree_Deeps a0 = some r := anyN_of (fun m => (tree_Deeps_g_le m) a0) h
theorem tree_Deeps_ok (a0 : List TApiStmt) (r : Int) (h0 : tree_Deeps a0 = some r) : CallsD Try.prog 22 [.lst 7 (a0.map eTApiStmt) .no] [] [] (fun d h k => d = .v (.int .i64 r) ∧ h = [] ∧ k = []) :=
  let ⟨n, hn⟩ := anyN_inv h0; (tree_Deeps_g_ok n) a0  r hn
abbrev nlTn1_2 : List (List Nat) := [[],[],[],[1,2],[1,2,3],[1,2,3,4],[1,2,3,4,5],[1,2,3,4,5,6],[],[],[8,9],[8,9,10],[8,9,10,11],[1,2,3,4,5,6,8,9,10,11,12],[1,2,3,4,5,6,8,9,10,11,12,13],[0,1,2,3,4,5,6,7,8,9,10,11,12,13,14],[0,1,2,3,4,5,6,7,8,9,10,11,12,13,14,15]]
noncomputable def r11_Deeps_b (g0 : (List TApiStmt) → Option (Int)) (a0 : List TApiStmt) : Option (Int) :=
  (Option.bind (α := Int) (loopM (fun (s133 : Int × Int) => (bif (decide (s133.2 < (a0.length : Int))) then ((idx a0 s133.2).bind fun x221 => ((g0 x221.gKids).bind fun x222 => ((idx a0 s133.2).bind fun x223 => ((g0 x223.gElse).bind fun x224 => (Option.bind (α := Int) (loopM (fun (s244 : Int × Int) => ((idx a0 s133.2).bind fun x257 => (bif (decide (s244.2 < (x257.gExps.length : Int))) then ((idx a0 s133.2).bind fun x259 => ((idx x259.gExps s244.2).bind fun x260 => ((r11_Deep x260).bind fun x261 => some (.next ((max s244.1 (IntKind.i64.wrap ((1 : Int) + x261))), (IntKind.i64.wrap (s244.2 + (1 : Int)))))))) else some (.done s244.1)))) ((max (max s133.1 (IntKind.i64.wrap ((1 : Int) + x222))) (IntKind.i64.wrap ((1 : Int) + x224))), (0 : Int))) fun y243 => some (.next (y243, (IntKind.i64.wrap (s133.2 + (1 : Int)))))))))) else some (.done s133.1))) ((0 : Int), (0 : Int))) fun y132 => some y132)
set_option maxRecDepth 100000 in
set_option maxHeartbeats 2000000 in
theorem r11_Deeps_b_ok (g0 : (List TApiStmt) → Option (Int)) (hg0 : ∀ (a0 : List TApiStmt) (r : Int) (h0 : g0 a0 = some r), CallsD Try.prog 23 [.lst 7 (a0.map eTApiStmt) .no] [] [] (fun d h k => d = .v (.int .i64 r) ∧ h = [] ∧ k = [])) (a0 : List TApiStmt) (r : Int) (h0 : r11_Deeps_b g0 a0 = some r) : CallsD Try.prog 23 [.lst 7 (a0.map eTApiStmt) .no] [] [] (fun d h k => d = .v (.int .i64 r) ∧ h = [] ∧ k = []) := by
  have hm := yes_of h0
  unfold r11_Deeps_b at hm
  clear h0
  refine enterX htab Try.func23 rfl rfl rfl rfl rfl (fun C => ?_)
  refine wpD_seq ?_
  refine wpD_region ?_
  refine p_pure htab rfl rfl rfl rfl ?_
  refine ops_nil ?_
  refine then_normal ?_
  refine wpD_seq ?_
  refine wpD_region ?_
  refine p_pure htab rfl rfl rfl rfl ?_
  refine ops_nil ?_
  refine then_normal ?_
  refine wpD_seq ?_
  refine wpD_seq ?_
  refine wpD_region ?_
  refine p_pure htab rfl rfl rfl rfl ?_
  refine ops_nil ?_
  refine then_normal ?_
  obtain ⟨y132, q132, ho132⟩ := yes_bind hm
  refine wpD_mid (Y := Unit) (fun z132 => (⟨[(3, .v (.int .i64 y132))], [], []⟩ : S)) ?_ ?_
  · clear hm; have hm := yes_of q132
    refine wpD_block ?_
    obtain ⟨u133, hl133, hq133⟩ := yes_m hm
    refine loop_M (Y := Unit) hl133 (fun s133 z133 => (⟨[(0, .lst 7 (a0.map eTApiStmt) .no), (3, .v (.int .i64 s133.1)), (4, .v (.int .i64 s133.2))], [], []⟩ : S)) ?_ ?_
    · skip
      exact WkX.of () (WkS.perm (WkS.cons rfl (Wk.refl _) (WkS.cons rfl (Wk.refl _) (WkS.cons rfl (Wk.refl _) (WkS.nil)))) (List.Perm.refl _) (List.Perm.refl _))
    · intro G133 s133 z133 hm
      refine wpD_seq ?_
      refine wpD_seq ?_
      refine wpD_region ?_
      refine p_pure htab rfl rfl rfl rfl ?_
      refine p_pure htab rfl rfl rfl rfl ?_
      refine p_lenL htab rfl rfl rfl rfl rfl rfl rfl (by first | exact map_len | rfl) ?_
      refine p_pure htab rfl rfl rfl rfl ?_
      refine ops_nil ?_
      refine then_normal ?_
      refine wpD_cond rfl (fun hc220 => ?_) (fun hc220 => ?_)
      · replace hm := yes_t hc220 hm
        refine wpD_skip ?_
        refine then_normal ?_
        refine wpD_seq ?_
        refine wpD_block ?_
        refine wpD_seq ?_
        obtain ⟨x221, q221, hm⟩ := yes_bind hm
        obtain ⟨x222, q222, hm⟩ := yes_bind hm
        obtain ⟨x223, q223, hm⟩ := yes_bind hm
        obtain ⟨x224, q224, hm⟩ := yes_bind hm
        refine wpD_draws 15 [] [[],[],[],[1],[1,3],[1,3,4],[1,3,4,5],[1,3,4,5,6],[],[],[8],[8,10],[8,10,11],[1,3,4,5,6,8,10,11,12],[1,3,4,5,6,8,10,11,12,13]] [1,3,4,5,6,8,10,11,12,13] nlTn1_2 (by kernel_rfl) (by kernel_rfl) (by kernel_rfl) (by rfl) (by rfl) (by kernel_rfl) ?_
        apply Exists.intro
        apply Exists.intro
        apply Exists.intro
        apply Exists.intro
        apply Exists.intro
        apply Exists.intro
        apply Exists.intro
        apply Exists.intro
        apply Exists.intro
        apply Exists.intro
        intro bs
        refine z_q rfl rfl (ex_pure htab rfl) rfl rfl rfl rfl rfl rfl ?_
        refine z_e rfl rfl (ex_pure htab rfl) rfl rfl rfl rfl rfl rfl ?_
        refine z_q rfl rfl (ex_pure htab rfl) rfl rfl rfl rfl rfl rfl ?_
        refine z_e rfl rfl (Ex.wk (x_elem htab rfl rfl rfl rfl rfl rfl rfl (idx_nonneg q221) (idx_map q221)) (Wk.of_eq (congrArg D.el (eTApiStmt_eq x221)))) rfl rfl rfl rfl rfl rfl ?_
        refine z_e rfl rfl (ex_pure htab rfl) rfl rfl rfl rfl rfl rfl ?_
        refine z_eM rfl rfl (xm_loadEl htab rfl rfl rfl rfl rfl) rfl rfl rfl rfl rfl rfl ?_
        refine z_call rfl rfl (hg0 x221.gKids x222 q222) rfl rfl (WkL.refl _) rfl rfl rfl rfl rfl rfl ?_
        refine z_q rfl rfl (ex_pure htab rfl) rfl rfl rfl rfl rfl rfl ?_
        refine z_e rfl rfl (ex_pure htab rfl) rfl rfl rfl rfl rfl rfl ?_
        refine z_q rfl rfl (ex_pure htab rfl) rfl rfl rfl rfl rfl rfl ?_
        refine z_e rfl rfl (Ex.wk (x_elem htab rfl rfl rfl rfl rfl rfl rfl (idx_nonneg q223) (idx_map q223)) (Wk.of_eq (congrArg D.el (eTApiStmt_eq x223)))) rfl rfl rfl rfl rfl rfl ?_
        refine z_e rfl rfl (ex_pure htab rfl) rfl rfl rfl rfl rfl rfl ?_
        refine z_eM rfl rfl (xm_loadEl htab rfl rfl rfl rfl rfl) rfl rfl rfl rfl rfl rfl ?_
        refine z_call rfl rfl (hg0 x223.gElse x224 q224) rfl rfl (WkL.refl _) rfl rfl rfl rfl rfl rfl ?_
        refine z_q rfl rfl (ex_pure htab rfl) rfl rfl rfl rfl rfl rfl ?_
        refine z_nil rfl rfl (fun e he => by simp [isAl] at he) ?_
        refine p_max3 rfl rfl rfl rfl rfl rfl rfl ?_
        refine p_pure htab rfl rfl rfl rfl ?_
        refine ops_nil ?_
        refine then_normal ?_
        refine wpD_seq ?_
        refine wpD_region ?_
        refine p_pure htab rfl rfl rfl rfl ?_
        refine ops_nil ?_
        refine then_normal ?_
        obtain ⟨y243, q243, ho243⟩ := yes_bind hm
        refine wpD_mid (Y := Unit) (fun z243 => (⟨[(0, .lst 7 (a0.map eTApiStmt) .no), (3, .v (.int .i64 y243)), (4, .v (.int .i64 s133.2))], [], []⟩ : S)) ?_ ?_
        · clear hm; have hm := yes_of q243
          refine wpD_block ?_
          obtain ⟨u244, hl244, hq244⟩ := yes_m hm
          refine loop_M (Y := Unit) hl244 (fun s244 z244 => (⟨[(0, .lst 7 (a0.map eTApiStmt) .no), (3, .v (.int .i64 s244.1)), (4, .v (.int .i64 s133.2)), (5, .v (.int .i64 s244.2))], [], []⟩ : S)) ?_ ?_
          · skip
            exact WkX.of () (WkS.perm (WkS.cons rfl (Wk.refl _) (WkS.cons rfl (Wk.refl _) (WkS.cons rfl (Wk.refl _) (WkS.cons rfl (Wk.refl _) (WkS.nil))))) (List.Perm.refl _) (List.Perm.refl _))
          · intro G244 s244 z244 hm
            refine wpD_seq ?_
            refine wpD_seq ?_
            refine wpD_region ?_
            refine p_pure htab rfl rfl rfl rfl ?_
            refine p_pure htab rfl rfl rfl rfl ?_
            refine p_pure htab rfl rfl rfl rfl ?_
            obtain ⟨x257, q257, hm⟩ := yes_bind hm
            refine p_elem htab rfl rfl rfl rfl rfl rfl rfl rfl rfl rfl (idx_nonneg q257) (idx_map q257) ?_
            refine p_eq (i := 31) rfl (Wk.of_eq (congrArg D.el (eTApiStmt_eq x257))) ?_
            refine p_pure htab rfl rfl rfl rfl ?_
            refine p_loadEl htab rfl rfl rfl rfl rfl rfl rfl rfl ?_
            refine p_lenL htab rfl rfl rfl rfl rfl rfl rfl (by first | exact map_len | rfl) ?_
            refine p_pure htab rfl rfl rfl rfl ?_
            refine ops_nil ?_
            refine then_normal ?_
            refine wpD_cond rfl (fun hc258 => ?_) (fun hc258 => ?_)
            · replace hm := yes_t hc258 hm
              refine wpD_skip ?_
              refine then_normal ?_
              refine wpD_seq ?_
              refine wpD_block ?_
              refine wpD_region ?_
              refine p_pure htab rfl rfl rfl rfl ?_
              refine p_pure htab rfl rfl rfl rfl ?_
              refine p_pure htab rfl rfl rfl rfl ?_
              obtain ⟨x259, q259, hm⟩ := yes_bind hm
              refine p_elem htab rfl rfl rfl rfl rfl rfl rfl rfl rfl rfl (idx_nonneg q259) (idx_map q259) ?_
              refine p_eq (i := 41) rfl (Wk.of_eq (congrArg D.el (eTApiStmt_eq x259))) ?_
              refine p_pure htab rfl rfl rfl rfl ?_
              refine p_loadEl htab rfl rfl rfl rfl rfl rfl rfl rfl ?_
              refine p_pure htab rfl rfl rfl rfl ?_
              obtain ⟨x260, q260, hm⟩ := yes_bind hm
              refine p_elem htab rfl rfl rfl rfl rfl rfl rfl rfl rfl rfl (idx_nonneg q260) (idx_map q260) ?_
              refine p_eq (i := 45) rfl (Wk.of_eq (congrArg D.el (eTApiExpr_eq x260))) ?_
              refine p_loadEl (d := .agg [.v (.int .i64 x260.gOp), .v (.int .i64 x260.gN), .v (.string x260.gName), .lst 5 (x260.gKids.map eTApiExpr) .no, .v (.int .i64 x260.gAt)]) htab rfl rfl rfl rfl rfl rfl rfl rfl ?_
              obtain ⟨x261, q261, hm⟩ := yes_bind hm
              refine p_call0 (r11_Deep_ok x260 x261 q261) rfl rfl rfl rfl rfl (WkL.cons (Wk.trans (Wk.agg (WkR.refl _)) (Wk.of_eq (eTApiExpr_eq x260).symm)) (WkL.refl _)) ?_
              rintro _ rfl
              refine p_pure htab rfl rfl rfl rfl ?_
              refine p_max rfl rfl rfl rfl rfl rfl ?_
              refine p_pure htab rfl rfl rfl rfl ?_
              refine ops_nil ?_
              refine block_normal ?_
              refine then_normal ?_
              refine wpD_region ?_
              refine p_pure htab rfl rfl rfl rfl ?_
              refine p_pure htab rfl rfl rfl rfl ?_
              refine p_pure htab rfl rfl rfl rfl ?_
              refine ops_nil ?_
              refine then_normal ⟨_, lp_next hm, ?_⟩
              exact WkX.of () (WkS.perm (WkS.cons rfl (Wk.refl _) (WkS.cons rfl (Wk.refl _) (WkS.cons rfl (Wk.refl _) (WkS.cons rfl (Wk.refl _) (WkS.nil))))) (List.Perm.refl _) (List.Perm.refl _))
            · replace hm := yes_f hc258 hm
              refine wpD_exit ?_
              refine then_exit ?_
              have e244 := lp_done hm; subst e244; clear hm; have hm := hq244
              refine then_exit ?_
              refine block_hit ?_
              have e243 := yes_eq hm; subst e243
              refine ⟨rfl, ?_⟩
              exact WkX.of () (WkS.perm (WkS.cons rfl (Wk.refl _) (WkS.cons rfl (Wk.refl _) (WkS.cons rfl (Wk.refl _) (WkS.nil)))) (List.Perm.refl _) (List.Perm.refl _))
        · intro s243 hw243; clear hm; have hm := ho243; clear q243 ho243
          refine block_normal ?_
          refine then_normal ?_
          refine wpD_wkX hw243 (fun z243 => ?_)
          refine wpD_region ?_
          refine p_pure htab rfl rfl rfl rfl ?_
          refine p_pure htab rfl rfl rfl rfl ?_
          refine p_pure htab rfl rfl rfl rfl ?_
          refine ops_nil ?_
          refine then_normal ⟨_, lp_next hm, ?_⟩
          exact WkX.of () (WkS.perm (WkS.cons rfl (Wk.refl _) (WkS.cons rfl (Wk.refl _) (WkS.cons rfl (Wk.refl _) (WkS.nil)))) (List.Perm.refl _) (List.Perm.refl _))
      · replace hm := yes_f hc220 hm
        refine wpD_exit ?_
        refine then_exit ?_
        have e133 := lp_done hm; subst e133; clear hm; have hm := hq133
        refine then_exit ?_
        refine block_hit ?_
        have e132 := yes_eq hm; subst e132
        refine ⟨rfl, ?_⟩
        exact WkX.of () (WkS.perm (WkS.cons rfl (Wk.refl _) (WkS.nil)) (List.Perm.refl _) (List.Perm.refl _))
  · intro s132 hw132; clear hm; have hm := ho132; clear q132 ho132
    refine then_normal ?_
    refine wpD_wkX hw132 (fun z132 => ?_)
    refine wpD_seq ?_
    refine wpD_region ?_
    refine p_pure htab rfl rfl rfl rfl ?_
    refine p_pure htab rfl rfl rfl rfl ?_
    refine ops_nil ?_
    refine then_normal ?_
    refine wpD_ret ?_
    have er262 := yes_eq hm; subst er262
    refine retX.of (s' := ⟨[(2, .v (.int .i64 y132))], [], []⟩) (WkS.perm (WkS.cons rfl (Wk.refl _) (WkS.nil)) (List.Perm.refl _) (List.Perm.refl _)) (retD_mk (hh := []) (.inl rfl) (resL_cons (resOne_tmp rfl) (resL_nil)) (List.nil_sublist _) (List.Sublist.refl _) ?_)
    exact ⟨rfl, rfl, rfl⟩
noncomputable def r11_Deeps_g : Nat → ((List TApiStmt) → Option (Int))
  | 0 => (fun _ => none)
  | n + 1 => (r11_Deeps_b ((r11_Deeps_g n)))
theorem r11_Deeps_g_ok : ∀ n, (∀ (a0 : List TApiStmt) (r : Int) (h0 : (r11_Deeps_g n) a0 = some r), CallsD Try.prog 23 [.lst 7 (a0.map eTApiStmt) .no] [] [] (fun d h k => d = .v (.int .i64 r) ∧ h = [] ∧ k = []))
  | 0 => fun _ _ h0 => by cases h0
  | n + 1 => by
    have ih := r11_Deeps_g_ok n
    exact r11_Deeps_b_ok (r11_Deeps_g n) ih
theorem r11_Deeps_g_le : ∀ n, (∀ (a0 : List TApiStmt), Le ((r11_Deeps_g n) a0) ((r11_Deeps_g (n + 1)) a0))
  | 0 => fun _ => Le.none _
  | n + 1 => by
    have ih := r11_Deeps_g_le n
    exact fun a0 => by show Le (r11_Deeps_b ((r11_Deeps_g n)) a0) (r11_Deeps_b ((r11_Deeps_g (n + 1))) a0); unfold r11_Deeps_b; repeat (first | exact Le.refl _ | exact ih _ | assumption | (refine Le.bind ?_ (fun _ => ?_)) | (refine Le.cond ?_ ?_) | (refine Le.loop (fun _ => ?_)) | (refine Le.elim (fun _ => ?_) (fun _ => ?_)))
noncomputable def r11_Deeps (a0 : List TApiStmt) : Option (Int) := anyN fun n => (r11_Deeps_g n) a0
theorem r11_Deeps_of (a0 : List TApiStmt) {r : Int} (n : Nat) (h : (r11_Deeps_g n) a0 = some r) : r11_Deeps a0 = some r := anyN_of (fun m => (r11_Deeps_g_le m) a0) h
theorem r11_Deeps_ok (a0 : List TApiStmt) (r : Int) (h0 : r11_Deeps a0 = some r) : CallsD Try.prog 23 [.lst 7 (a0.map eTApiStmt) .no] [] [] (fun d h k => d = .v (.int .i64 r) ∧ h = [] ∧ k = []) :=
  let ⟨n, hn⟩ := anyN_inv h0; (r11_Deeps_g_ok n) a0  r hn
abbrev nlTn1_3 : List (List Nat) := [[],[0],[],[0,1,2],[0,1,2,3],[0,1,2,3],[0,1,2,3],[0,1,2,3],[0,1,2,3,7],[0,1,2,3],[0,1,2,3,7,8,9],[0,1,2,3,7,8,9,10],[0,1,2,3,7,8,9,10],[0,1,2,3,7,8,9,10],[0,1,2,3,7,8,9,10],[0,1,2,3,7,8,9,10,14],[0,1,2,3,7,8,9,10],[0,1,2,3,7,8,9,10,14,15,16],[0,1,2,3,7,8,9,10,14,15,16,17],[0,1,2,3,7,8,9,10],[0,1,2,3,7,8,9,10,14,15,16,17,19],[0,1,2,3,7,8,9,10,14,15,16,17,19,20],[0,1,2,3,7,8,9,10,14,15,16,17,19,20],[0,1,2,3,7,8,9,10,14,15,16,17,19,20],[0,1,2,3,7,8,9,10,14,15,16,17,19,20],[0,1,2,3,7,8,9,10,14,15,16,17,19,20],[0,1,2,3,7,8,9,10,14,15,16,17,19,20],[0,1,2,3,7,8,9,10,14,15,16,17,19,20,26],[0,1,2,3,7,8,9,10,14,15,16,17,19,20]]
abbrev nlTn1_4 : List (List Nat) := [[],[0],[],[0,1,2],[0,1,2,3],[0,1,2,3,4],[0,1,2,3,4,5],[0,1,2,3,4,5,6],[0,1,2,3,4,5,6,7],[0,1,2,3,4,5,6],[0,1,2,3,4,5,6,7,8,9],[0,1,2,3,4,5,6,7,8,9,10],[0,1,2,3,4,5,6,7,8,9,10,11],[0,1,2,3,4,5,6,7,8,9,10,11,12],[0,1,2,3,4,5,6,7,8,9,10,11,12,13],[0,1,2,3,4,5,6,7,8,9,10,11,12,13,14],[0,1,2,3,4,5,6,7,8,9,10,11,12,13],[0,1,2,3,4,5,6,7,8,9,10,11,12,13,14,15,16],[0,1,2,3,4,5,6,7,8,9,10,11,12,13,14,15,16,17],[0,1,2,3,4,5,6,7,8,9,10,11,12,13],[0,1,2,3,4,5,6,7,8,9,10,11,12,13,14,15,16,17,19],[0,1,2,3,4,5,6,7,8,9,10,11,12,13,14,15,16,17,19,20],[0,1,2,3,4,5,6,7,8,9,10,11,12,13,14,15,16,17,18,19,20,21],[0,1,2,3,4,5,6,7,8,9,10,11,12,13,14,15,16,17,18,19,20,21,22],[0,1,2,3,4,5,6,7,8,9,10,11,12,13,14,15,16,17,18,19,20,21,22,23],[0,1,2,3,4,5,6,7,8,9,10,11,12,13,14,15,16,17,18,19,20,21,22,23,24],[0,1,2,3,4,5,6,7,8,9,10,11,12,13,14,15,16,17,18,19,20,21,22,23,24,25],[0,1,2,3,4,5,6,7,8,9,10,11,12,13,14,15,16,17,18,19,20,21,22,23,24,25,26],[0,1,2,3,4,5,6,7,8,9,10,11,12,13,14,15,16,17,18,19,20,21,22,23,24,25],[0,1,2,3,4,5,6,7,8,9,10,11,12,13,14,15,16,17,18,19,20,21,22,23,24,25,26,27,28],[0,1,2,3,4,5,6,7,8,9,10,11,12,13,14,15,16,17,18,19,20,21,22,23,24,25,26,27,28,29],[0,1,2,3,4,5,6,7,8,9,10,11,12,13,14,15,16,17,18,19,20,21,22,23,24,25,26,27,28,29,30],[0,1,2,3,4,5,6,7,8,9,10,11,12,13,14,15,16,17,18,19,20,21,22,23,24,25,26,27,28,29,30,31],[0,1,2,3,4,5,6,7,8,9,10,11,12,13,14,15,16,17,18,19,20,21,22,23,24,25,26,27,28,29,30,31,32],[0,1,2,3,4,5,6,7,8,9,10,11,12,13,14,15,16,17,18,19,20,21,22,23,24,25,26,27,28,29,30,31,32,33],[0,1,2,3,4,5,6,7,8,9,10,11,12,13,14,15,16,17,18,19,20,21,22,23,24,25,26,27,28,29,30,31,32,33,34]]
abbrev nlTn1_5 : List (List Nat) := [[],[0],[],[0,1,2],[0,1,2,3],[0,1,2,3],[0,1,2,3],[0,1,2,3],[0,1,2,3,7],[0,1,2,3],[0,1,2,3,7,8,9],[0,1,2,3,7,8,9,10],[0,1,2,3,7,8,9,10],[0,1,2,3,7,8,9,10],[0,1,2,3,7,8,9,10],[0,1,2,3,7,8,9,10,14],[0,1,2,3,7,8,9,10],[0,1,2,3,7,8,9,10,14,15,16],[0,1,2,3,7,8,9,10,14,15,16,17],[0,1,2,3,7,8,9,10],[0,1,2,3,7,8,9,10,14,15,16,17,19],[0,1,2,3,7,8,9,10,14,15,16,17,19,20],[0,1,2,3,7,8,9,10,14,15,16,17,19,20],[0,1,2,3,7,8,9,10,14,15,16,17,19,20],[0,1,2,3,7,8,9,10,14,15,16,17,19,20],[0,1,2,3,7,8,9,10,14,15,16,17,19,20],[0,1,2,3,7,8,9,10,14,15,16,17,19,20],[0,1,2,3,7,8,9,10,14,15,16,17,19,20],[0,1,2,3,7,8,9,10,14,15,16,17,19,20]]
abbrev nlTn1_6 : List (List Nat) := [[],[0],[],[0,1,2],[0,1,2,3],[0,1,2,3],[0,1,2,3],[0,1,2,3],[0,1,2,3,7],[0,1,2,3],[0,1,2,3,7,8,9],[0,1,2,3,7,8,9,10],[0,1,2,3,7,8,9,10],[0,1,2,3,7,8,9,10],[0,1,2,3,7,8,9,10],[0,1,2,3,7,8,9,10],[0,1,2,3,7,8,9,10],[0,1,2,3,7,8,9,10],[0,1,2,3,7,8,9,10],[0,1,2,3,7,8,9,10],[0,1,2,3,7,8,9,10],[0,1,2,3,7,8,9,10],[0,1,2,3,7,8,9,10],[0,1,2,3,7,8,9,10],[0,1,2,3,7,8,9,10],[0,1,2,3,7,8,9,10],[0,1,2,3,7,8,9,10],[0,1,2,3,7,8,9,10],[0,1,2,3,7,8,9,10]]
abbrev nlTn1_7 : List (List Nat) := [[],[0],[],[0,1,2],[0,1,2,3],[0,1,2,3],[0,1,2,3],[0,1,2,3],[0,1,2,3],[0,1,2,3],[0,1,2,3],[0,1,2,3],[0,1,2,3],[0,1,2,3],[0,1,2,3],[0,1,2,3],[0,1,2,3],[0,1,2,3],[0,1,2,3],[0,1,2,3],[0,1,2,3],[0,1,2,3],[0,1,2,3],[0,1,2,3],[0,1,2,3],[0,1,2,3],[0,1,2,3],[0,1,2,3],[0,1,2,3]]
noncomputable def l11_TreeMeasures (a0 : TApiExpr) (a1 : List TApiStmt) : Option (Bool) :=
  ((tree_Size a0).bind fun x2 => ((r11_All a0).bind fun x4 => (bif (x2 == (x4.length : Int)) then ((tree_Deep a0).bind fun x7 => ((r11_Deep a0).bind fun x8 => (bif (x7 == x8) then ((tree_Sizes a1).bind fun x11 => ((r11_Stmts a1).bind fun x13 => ((r11_Exprs a1).bind fun x15 => (bif (x11 == (IntKind.i64.wrap ((x13.length : Int) + (x15.length : Int)))) then ((tree_Deeps a1).bind fun x20 => ((r11_Deeps a1).bind fun x24 => (bif (x20 == x24) then (l11_lives.bind fun x26 => some x26) else some false))) else some false)))) else some false))) else some false)))
set_option maxRecDepth 100000 in
set_option maxHeartbeats 2000000 in
theorem l11_TreeMeasures_ok (a0 : TApiExpr) (a1 : List TApiStmt) (r : Bool) (h0 : l11_TreeMeasures a0 a1 = some r) : CallsD Try.prog 4 [eTApiExpr a0, .lst 7 (a1.map eTApiStmt) .no] [] [] (fun d h k => d = .v (.bool r) ∧ h = [] ∧ k = []) := by
  have hm := yes_of h0
  unfold l11_TreeMeasures at hm
  clear h0
  refine enterX htab Try.func4 rfl rfl rfl rfl rfl (fun C => ?_)
  refine w_eq (i := 0) rfl (Wk.of_eq (eTApiExpr_eq a0)) ?_
  refine wpD_seq ?_
  refine wpD_region ?_
  refine p_box rfl rfl rfl rfl rfl rfl rfl (fun b1 => ?_)
  refine p_pure htab rfl rfl rfl rfl ?_
  refine ops_nil ?_
  refine then_normal ?_
  refine wpD_seq ?_
  obtain ⟨x2, q2, hm⟩ := yes_bind hm
  obtain ⟨x4, q4, hm⟩ := yes_bind hm
  refine bycB (x2 == (x4.length : Int)) (fun hs5 => ?_) (fun hs5 => ?_)
  · replace hm := yes_t hs5 hm
    obtain ⟨x7, q7, hm⟩ := yes_bind hm
    obtain ⟨x8, q8, hm⟩ := yes_bind hm
    refine bycB (x7 == x8) (fun hs9 => ?_) (fun hs9 => ?_)
    · replace hm := yes_t hs9 hm
      obtain ⟨x11, q11, hm⟩ := yes_bind hm
      obtain ⟨x13, q13, hm⟩ := yes_bind hm
      obtain ⟨x15, q15, hm⟩ := yes_bind hm
      refine bycB (x11 == (IntKind.i64.wrap ((x13.length : Int) + (x15.length : Int)))) (fun hs16 => ?_) (fun hs16 => ?_)
      · replace hm := yes_t hs16 hm
        obtain ⟨x20, q20, hm⟩ := yes_bind hm
        refine wpD_draws 29 [] nlTn1_3 [0,1,2,3,7,8,9,10,14,15,16,17,19,20,26,27,28] nlTn1_4 (by kernel_rfl) (by kernel_rfl) (by kernel_rfl) (by rfl) (by rfl) (by kernel_rfl) ?_
        apply Exists.intro
        apply Exists.intro
        apply Exists.intro
        apply Exists.intro
        apply Exists.intro
        apply Exists.intro
        apply Exists.intro
        apply Exists.intro
        apply Exists.intro
        apply Exists.intro
        apply Exists.intro
        apply Exists.intro
        apply Exists.intro
        apply Exists.intro
        apply Exists.intro
        apply Exists.intro
        apply Exists.intro
        intro bs
        refine z_eM rfl rfl (xm_load (d := .agg [.v (.int .i64 a0.gOp), .v (.int .i64 a0.gN), .v (.string a0.gName), .lst 5 (a0.gKids.map eTApiExpr) .no, .v (.int .i64 a0.gAt)]) 0 htab rfl rfl rfl rfl rfl) rfl rfl rfl rfl rfl rfl ?_
        refine z_call rfl rfl (tree_Size_ok a0 x2 q2) rfl rfl (WkL.cons (Wk.trans (Wk.agg (WkR.refl _)) (Wk.of_eq (eTApiExpr_eq a0).symm)) (WkL.refl _)) rfl rfl rfl rfl rfl rfl ?_
        refine z_eM rfl rfl (xm_load (d := .agg [.v (.int .i64 a0.gOp), .v (.int .i64 a0.gN), .v (.string a0.gName), .lst 5 (a0.gKids.map eTApiExpr) .no, .v (.int .i64 a0.gAt)]) 0 htab rfl rfl rfl rfl rfl) rfl rfl rfl rfl rfl rfl ?_
        refine z_call rfl rfl (r11_All_ok0 a0 x4 q4) rfl rfl (WkL.cons (Wk.trans (Wk.agg (WkR.refl _)) (Wk.of_eq (eTApiExpr_eq a0).symm)) (WkL.refl _)) rfl rfl rfl rfl rfl rfl ?_
        refine z_q rfl rfl (x_lenL htab rfl rfl rfl rfl (by first | exact map_len | rfl)) rfl rfl rfl rfl rfl rfl ?_
        refine z_q rfl rfl (ex_pure htab rfl) rfl rfl rfl rfl rfl rfl ?_
        refine z_q rfl rfl (ex_pure htab rfl) rfl rfl rfl rfl rfl rfl ?_
        refine z_known (j := 11) (b' := true) rfl hs5 ?_
        refine z_eM rfl rfl (xm_load (d := .agg [.v (.int .i64 a0.gOp), .v (.int .i64 a0.gN), .v (.string a0.gName), .lst 5 (a0.gKids.map eTApiExpr) .no, .v (.int .i64 a0.gAt)]) 0 htab rfl rfl rfl rfl rfl) rfl rfl rfl rfl rfl rfl ?_
        refine z_call rfl rfl (tree_Deep_ok a0 x7 q7) rfl rfl (WkL.cons (Wk.trans (Wk.agg (WkR.refl _)) (Wk.of_eq (eTApiExpr_eq a0).symm)) (WkL.refl _)) rfl rfl rfl rfl rfl rfl ?_
        refine z_eM rfl rfl (xm_load (d := .agg [.v (.int .i64 a0.gOp), .v (.int .i64 a0.gN), .v (.string a0.gName), .lst 5 (a0.gKids.map eTApiExpr) .no, .v (.int .i64 a0.gAt)]) 0 htab rfl rfl rfl rfl rfl) rfl rfl rfl rfl rfl rfl ?_
        refine z_call rfl rfl (r11_Deep_ok a0 x8 q8) rfl rfl (WkL.cons (Wk.trans (Wk.agg (WkR.refl _)) (Wk.of_eq (eTApiExpr_eq a0).symm)) (WkL.refl _)) rfl rfl rfl rfl rfl rfl ?_
        refine z_q rfl rfl (ex_pure htab rfl) rfl rfl rfl rfl rfl rfl ?_
        refine z_q rfl rfl (x_pickT rfl rfl rfl) rfl rfl rfl rfl rfl rfl ?_
        refine z_q rfl rfl (ex_pure htab rfl) rfl rfl rfl rfl rfl rfl ?_
        refine z_known (j := 18) (b' := true) rfl hs9 ?_
        refine z_e rfl rfl (ex_pure htab rfl) rfl rfl rfl rfl rfl rfl ?_
        refine z_call rfl rfl (tree_Sizes_ok a1 x11 q11) rfl rfl (WkL.refl _) rfl rfl rfl rfl rfl rfl ?_
        refine z_e rfl rfl (ex_pure htab rfl) rfl rfl rfl rfl rfl rfl ?_
        refine z_call rfl rfl (r11_Stmts_ok0 a1 x13 q13) rfl rfl (WkL.refl _) rfl rfl rfl rfl rfl rfl ?_
        refine z_q rfl rfl (x_lenL htab rfl rfl rfl rfl (by first | exact map_len | rfl)) rfl rfl rfl rfl rfl rfl ?_
        refine z_e rfl rfl (ex_pure htab rfl) rfl rfl rfl rfl rfl rfl ?_
        refine z_call rfl rfl (r11_Exprs_ok0 a1 x15 q15) rfl rfl (WkL.refl _) rfl rfl rfl rfl rfl rfl ?_
        refine z_q rfl rfl (x_lenL htab rfl rfl rfl rfl (by first | exact map_len | rfl)) rfl rfl rfl rfl rfl rfl ?_
        refine z_q rfl rfl (ex_pure htab rfl) rfl rfl rfl rfl rfl rfl ?_
        refine z_q rfl rfl (ex_pure htab rfl) rfl rfl rfl rfl rfl rfl ?_
        refine z_q rfl rfl (x_pickT rfl rfl rfl) rfl rfl rfl rfl rfl rfl ?_
        refine z_q rfl rfl (ex_pure htab rfl) rfl rfl rfl rfl rfl rfl ?_
        refine z_known (j := 30) (b' := true) rfl hs16 ?_
        refine z_e rfl rfl (ex_pure htab rfl) rfl rfl rfl rfl rfl rfl ?_
        refine z_call rfl rfl (tree_Deeps_ok a1 x20 q20) rfl rfl (WkL.refl _) rfl rfl rfl rfl rfl rfl ?_
        refine z_e rfl rfl (ex_pure htab rfl) rfl rfl rfl rfl rfl rfl ?_
        refine z_nil rfl rfl (fun e he => by simp [isAl] at he) ?_
        obtain ⟨x24, q24, hm⟩ := yes_bind hm
        refine p_call0 (r11_Deeps_ok a1 x24 q24) rfl rfl rfl rfl rfl (WkL.refl _) ?_
        rintro _ rfl
        refine p_pure htab rfl rfl rfl rfl ?_
        refine p_pickT rfl rfl rfl rfl rfl rfl ?_
        refine p_pure htab rfl rfl rfl rfl ?_
        refine p_split (i := 37) rfl (fun hg25 => ?_) (fun hg25 => ?_)
        · replace hm := yes_t hg25 hm
          obtain ⟨x26, q26, hm⟩ := yes_bind hm
          refine p_call0 (l11_lives_ok x26 q26) rfl rfl rfl rfl rfl (WkL.refl _) ?_
          rintro _ rfl
          refine p_pickT rfl rfl rfl rfl rfl rfl ?_
          refine p_pure htab rfl rfl rfl rfl ?_
          refine ops_nil ?_
          refine then_normal ?_
          refine wpD_ret ?_
          have er27 := yes_eq hm; subst er27
          refine retX.of (s' := ⟨[(4, .v (.bool x26))], [], []⟩) (WkS.perm (WkS.cons rfl (Wk.refl _) (WkS.nil)) (List.Perm.refl _) (List.Perm.refl _)) (retD_mk (hh := []) (.inl rfl) (resL_cons (resOne_tmp rfl) (resL_nil)) (List.nil_sublist _) (List.Sublist.refl _) ?_)
          exact ⟨rfl, rfl, rfl⟩
        · replace hm := yes_f hg25 hm
          refine p_skip rfl rfl rfl ?_
          refine p_pickF rfl rfl rfl rfl rfl rfl ?_
          refine p_pure htab rfl rfl rfl rfl ?_
          refine ops_nil ?_
          refine then_normal ?_
          refine wpD_ret ?_
          have er28 := yes_eq hm; subst er28
          refine retX.of (s' := ⟨[(4, .v (.bool false))], [], []⟩) (WkS.perm (WkS.cons rfl (Wk.refl _) (WkS.nil)) (List.Perm.refl _) (List.Perm.refl _)) (retD_mk (hh := []) (.inl rfl) (resL_cons (resOne_tmp rfl) (resL_nil)) (List.nil_sublist _) (List.Sublist.refl _) ?_)
          exact ⟨rfl, rfl, rfl⟩
      · replace hm := yes_f hs16 hm
        refine wpD_draws 29 [] nlTn1_5 [0,1,2,3,7,8,9,10,14,15,16,17,19,20] nlTn1_4 (by kernel_rfl) (by kernel_rfl) (by kernel_rfl) (by rfl) (by rfl) (by kernel_rfl) ?_
        apply Exists.intro
        apply Exists.intro
        apply Exists.intro
        apply Exists.intro
        apply Exists.intro
        apply Exists.intro
        apply Exists.intro
        apply Exists.intro
        apply Exists.intro
        apply Exists.intro
        apply Exists.intro
        apply Exists.intro
        apply Exists.intro
        apply Exists.intro
        intro bs
        refine z_eM rfl rfl (xm_load (d := .agg [.v (.int .i64 a0.gOp), .v (.int .i64 a0.gN), .v (.string a0.gName), .lst 5 (a0.gKids.map eTApiExpr) .no, .v (.int .i64 a0.gAt)]) 0 htab rfl rfl rfl rfl rfl) rfl rfl rfl rfl rfl rfl ?_
        refine z_call rfl rfl (tree_Size_ok a0 x2 q2) rfl rfl (WkL.cons (Wk.trans (Wk.agg (WkR.refl _)) (Wk.of_eq (eTApiExpr_eq a0).symm)) (WkL.refl _)) rfl rfl rfl rfl rfl rfl ?_
        refine z_eM rfl rfl (xm_load (d := .agg [.v (.int .i64 a0.gOp), .v (.int .i64 a0.gN), .v (.string a0.gName), .lst 5 (a0.gKids.map eTApiExpr) .no, .v (.int .i64 a0.gAt)]) 0 htab rfl rfl rfl rfl rfl) rfl rfl rfl rfl rfl rfl ?_
        refine z_call rfl rfl (r11_All_ok0 a0 x4 q4) rfl rfl (WkL.cons (Wk.trans (Wk.agg (WkR.refl _)) (Wk.of_eq (eTApiExpr_eq a0).symm)) (WkL.refl _)) rfl rfl rfl rfl rfl rfl ?_
        refine z_q rfl rfl (x_lenL htab rfl rfl rfl rfl (by first | exact map_len | rfl)) rfl rfl rfl rfl rfl rfl ?_
        refine z_q rfl rfl (ex_pure htab rfl) rfl rfl rfl rfl rfl rfl ?_
        refine z_q rfl rfl (ex_pure htab rfl) rfl rfl rfl rfl rfl rfl ?_
        refine z_known (j := 11) (b' := true) rfl hs5 ?_
        refine z_eM rfl rfl (xm_load (d := .agg [.v (.int .i64 a0.gOp), .v (.int .i64 a0.gN), .v (.string a0.gName), .lst 5 (a0.gKids.map eTApiExpr) .no, .v (.int .i64 a0.gAt)]) 0 htab rfl rfl rfl rfl rfl) rfl rfl rfl rfl rfl rfl ?_
        refine z_call rfl rfl (tree_Deep_ok a0 x7 q7) rfl rfl (WkL.cons (Wk.trans (Wk.agg (WkR.refl _)) (Wk.of_eq (eTApiExpr_eq a0).symm)) (WkL.refl _)) rfl rfl rfl rfl rfl rfl ?_
        refine z_eM rfl rfl (xm_load (d := .agg [.v (.int .i64 a0.gOp), .v (.int .i64 a0.gN), .v (.string a0.gName), .lst 5 (a0.gKids.map eTApiExpr) .no, .v (.int .i64 a0.gAt)]) 0 htab rfl rfl rfl rfl rfl) rfl rfl rfl rfl rfl rfl ?_
        refine z_call rfl rfl (r11_Deep_ok a0 x8 q8) rfl rfl (WkL.cons (Wk.trans (Wk.agg (WkR.refl _)) (Wk.of_eq (eTApiExpr_eq a0).symm)) (WkL.refl _)) rfl rfl rfl rfl rfl rfl ?_
        refine z_q rfl rfl (ex_pure htab rfl) rfl rfl rfl rfl rfl rfl ?_
        refine z_q rfl rfl (x_pickT rfl rfl rfl) rfl rfl rfl rfl rfl rfl ?_
        refine z_q rfl rfl (ex_pure htab rfl) rfl rfl rfl rfl rfl rfl ?_
        refine z_known (j := 18) (b' := true) rfl hs9 ?_
        refine z_e rfl rfl (ex_pure htab rfl) rfl rfl rfl rfl rfl rfl ?_
        refine z_call rfl rfl (tree_Sizes_ok a1 x11 q11) rfl rfl (WkL.refl _) rfl rfl rfl rfl rfl rfl ?_
        refine z_e rfl rfl (ex_pure htab rfl) rfl rfl rfl rfl rfl rfl ?_
        refine z_call rfl rfl (r11_Stmts_ok0 a1 x13 q13) rfl rfl (WkL.refl _) rfl rfl rfl rfl rfl rfl ?_
        refine z_q rfl rfl (x_lenL htab rfl rfl rfl rfl (by first | exact map_len | rfl)) rfl rfl rfl rfl rfl rfl ?_
        refine z_e rfl rfl (ex_pure htab rfl) rfl rfl rfl rfl rfl rfl ?_
        refine z_call rfl rfl (r11_Exprs_ok0 a1 x15 q15) rfl rfl (WkL.refl _) rfl rfl rfl rfl rfl rfl ?_
        refine z_q rfl rfl (x_lenL htab rfl rfl rfl rfl (by first | exact map_len | rfl)) rfl rfl rfl rfl rfl rfl ?_
        refine z_q rfl rfl (ex_pure htab rfl) rfl rfl rfl rfl rfl rfl ?_
        refine z_q rfl rfl (ex_pure htab rfl) rfl rfl rfl rfl rfl rfl ?_
        refine z_q rfl rfl (x_pickT rfl rfl rfl) rfl rfl rfl rfl rfl rfl ?_
        refine z_q rfl rfl (ex_pure htab rfl) rfl rfl rfl rfl rfl rfl ?_
        refine z_known (j := 30) (b' := false) rfl hs16 ?_
        refine z_skip rfl rfl rfl rfl ?_
        refine z_skip rfl rfl rfl rfl ?_
        refine z_skip rfl rfl rfl rfl ?_
        refine z_nil rfl rfl (fun e he => by simp [isAl] at he) ?_
        refine p_skip rfl rfl rfl ?_
        refine p_skip rfl rfl rfl ?_
        refine p_pickF rfl rfl rfl rfl rfl rfl ?_
        refine p_pure htab rfl rfl rfl rfl ?_
        refine p_skip rfl rfl rfl ?_
        refine p_pickF rfl rfl rfl rfl rfl rfl ?_
        refine p_pure htab rfl rfl rfl rfl ?_
        refine ops_nil ?_
        refine then_normal ?_
        refine wpD_ret ?_
        have er35 := yes_eq hm; subst er35
        refine retX.of (s' := ⟨[(4, .v (.bool false))], [], []⟩) (WkS.perm (WkS.cons rfl (Wk.refl _) (WkS.nil)) (List.Perm.refl _) (List.Perm.refl _)) (retD_mk (hh := []) (.inl rfl) (resL_cons (resOne_tmp rfl) (resL_nil)) (List.nil_sublist _) (List.Sublist.refl _) ?_)
        exact ⟨rfl, rfl, rfl⟩
    · replace hm := yes_f hs9 hm
      refine wpD_draws 29 [] nlTn1_6 [0,1,2,3,7,8,9,10] nlTn1_4 (by kernel_rfl) (by kernel_rfl) (by kernel_rfl) (by rfl) (by rfl) (by kernel_rfl) ?_
      apply Exists.intro
      apply Exists.intro
      apply Exists.intro
      apply Exists.intro
      apply Exists.intro
      apply Exists.intro
      apply Exists.intro
      apply Exists.intro
      intro bs
      refine z_eM rfl rfl (xm_load (d := .agg [.v (.int .i64 a0.gOp), .v (.int .i64 a0.gN), .v (.string a0.gName), .lst 5 (a0.gKids.map eTApiExpr) .no, .v (.int .i64 a0.gAt)]) 0 htab rfl rfl rfl rfl rfl) rfl rfl rfl rfl rfl rfl ?_
      refine z_call rfl rfl (tree_Size_ok a0 x2 q2) rfl rfl (WkL.cons (Wk.trans (Wk.agg (WkR.refl _)) (Wk.of_eq (eTApiExpr_eq a0).symm)) (WkL.refl _)) rfl rfl rfl rfl rfl rfl ?_
      refine z_eM rfl rfl (xm_load (d := .agg [.v (.int .i64 a0.gOp), .v (.int .i64 a0.gN), .v (.string a0.gName), .lst 5 (a0.gKids.map eTApiExpr) .no, .v (.int .i64 a0.gAt)]) 0 htab rfl rfl rfl rfl rfl) rfl rfl rfl rfl rfl rfl ?_
      refine z_call rfl rfl (r11_All_ok0 a0 x4 q4) rfl rfl (WkL.cons (Wk.trans (Wk.agg (WkR.refl _)) (Wk.of_eq (eTApiExpr_eq a0).symm)) (WkL.refl _)) rfl rfl rfl rfl rfl rfl ?_
      refine z_q rfl rfl (x_lenL htab rfl rfl rfl rfl (by first | exact map_len | rfl)) rfl rfl rfl rfl rfl rfl ?_
      refine z_q rfl rfl (ex_pure htab rfl) rfl rfl rfl rfl rfl rfl ?_
      refine z_q rfl rfl (ex_pure htab rfl) rfl rfl rfl rfl rfl rfl ?_
      refine z_known (j := 11) (b' := true) rfl hs5 ?_
      refine z_eM rfl rfl (xm_load (d := .agg [.v (.int .i64 a0.gOp), .v (.int .i64 a0.gN), .v (.string a0.gName), .lst 5 (a0.gKids.map eTApiExpr) .no, .v (.int .i64 a0.gAt)]) 0 htab rfl rfl rfl rfl rfl) rfl rfl rfl rfl rfl rfl ?_
      refine z_call rfl rfl (tree_Deep_ok a0 x7 q7) rfl rfl (WkL.cons (Wk.trans (Wk.agg (WkR.refl _)) (Wk.of_eq (eTApiExpr_eq a0).symm)) (WkL.refl _)) rfl rfl rfl rfl rfl rfl ?_
      refine z_eM rfl rfl (xm_load (d := .agg [.v (.int .i64 a0.gOp), .v (.int .i64 a0.gN), .v (.string a0.gName), .lst 5 (a0.gKids.map eTApiExpr) .no, .v (.int .i64 a0.gAt)]) 0 htab rfl rfl rfl rfl rfl) rfl rfl rfl rfl rfl rfl ?_
      refine z_call rfl rfl (r11_Deep_ok a0 x8 q8) rfl rfl (WkL.cons (Wk.trans (Wk.agg (WkR.refl _)) (Wk.of_eq (eTApiExpr_eq a0).symm)) (WkL.refl _)) rfl rfl rfl rfl rfl rfl ?_
      refine z_q rfl rfl (ex_pure htab rfl) rfl rfl rfl rfl rfl rfl ?_
      refine z_q rfl rfl (x_pickT rfl rfl rfl) rfl rfl rfl rfl rfl rfl ?_
      refine z_q rfl rfl (ex_pure htab rfl) rfl rfl rfl rfl rfl rfl ?_
      refine z_known (j := 18) (b' := false) rfl hs9 ?_
      refine z_skip rfl rfl rfl rfl ?_
      refine z_skip rfl rfl rfl rfl ?_
      refine z_skip rfl rfl rfl rfl ?_
      refine z_skip rfl rfl rfl rfl ?_
      refine z_skip rfl rfl rfl rfl ?_
      refine z_skip rfl rfl rfl rfl ?_
      refine z_skip rfl rfl rfl rfl ?_
      refine z_skip rfl rfl rfl rfl ?_
      refine z_skip rfl rfl rfl rfl ?_
      refine z_skip rfl rfl rfl rfl ?_
      refine z_q rfl rfl (x_pickF rfl rfl rfl) rfl rfl rfl rfl rfl rfl ?_
      refine z_q rfl rfl (ex_pure htab rfl) rfl rfl rfl rfl rfl rfl ?_
      refine z_skip rfl rfl rfl rfl ?_
      refine z_skip rfl rfl rfl rfl ?_
      refine z_skip rfl rfl rfl rfl ?_
      refine z_nil rfl rfl (fun e he => by simp [isAl] at he) ?_
      refine p_skip rfl rfl rfl ?_
      refine p_skip rfl rfl rfl ?_
      refine p_pickF rfl rfl rfl rfl rfl rfl ?_
      refine p_pure htab rfl rfl rfl rfl ?_
      refine p_skip rfl rfl rfl ?_
      refine p_pickF rfl rfl rfl rfl rfl rfl ?_
      refine p_pure htab rfl rfl rfl rfl ?_
      refine ops_nil ?_
      refine then_normal ?_
      refine wpD_ret ?_
      have er38 := yes_eq hm; subst er38
      refine retX.of (s' := ⟨[(4, .v (.bool false))], [], []⟩) (WkS.perm (WkS.cons rfl (Wk.refl _) (WkS.nil)) (List.Perm.refl _) (List.Perm.refl _)) (retD_mk (hh := []) (.inl rfl) (resL_cons (resOne_tmp rfl) (resL_nil)) (List.nil_sublist _) (List.Sublist.refl _) ?_)
      exact ⟨rfl, rfl, rfl⟩
  · replace hm := yes_f hs5 hm
    refine wpD_draws 29 [] nlTn1_7 [0,1,2,3] nlTn1_4 (by kernel_rfl) (by kernel_rfl) (by kernel_rfl) (by rfl) (by rfl) (by kernel_rfl) ?_
    apply Exists.intro
    apply Exists.intro
    apply Exists.intro
    apply Exists.intro
    intro bs
    refine z_eM rfl rfl (xm_load (d := .agg [.v (.int .i64 a0.gOp), .v (.int .i64 a0.gN), .v (.string a0.gName), .lst 5 (a0.gKids.map eTApiExpr) .no, .v (.int .i64 a0.gAt)]) 0 htab rfl rfl rfl rfl rfl) rfl rfl rfl rfl rfl rfl ?_
    refine z_call rfl rfl (tree_Size_ok a0 x2 q2) rfl rfl (WkL.cons (Wk.trans (Wk.agg (WkR.refl _)) (Wk.of_eq (eTApiExpr_eq a0).symm)) (WkL.refl _)) rfl rfl rfl rfl rfl rfl ?_
    refine z_eM rfl rfl (xm_load (d := .agg [.v (.int .i64 a0.gOp), .v (.int .i64 a0.gN), .v (.string a0.gName), .lst 5 (a0.gKids.map eTApiExpr) .no, .v (.int .i64 a0.gAt)]) 0 htab rfl rfl rfl rfl rfl) rfl rfl rfl rfl rfl rfl ?_
    refine z_call rfl rfl (r11_All_ok0 a0 x4 q4) rfl rfl (WkL.cons (Wk.trans (Wk.agg (WkR.refl _)) (Wk.of_eq (eTApiExpr_eq a0).symm)) (WkL.refl _)) rfl rfl rfl rfl rfl rfl ?_
    refine z_q rfl rfl (x_lenL htab rfl rfl rfl rfl (by first | exact map_len | rfl)) rfl rfl rfl rfl rfl rfl ?_
    refine z_q rfl rfl (ex_pure htab rfl) rfl rfl rfl rfl rfl rfl ?_
    refine z_q rfl rfl (ex_pure htab rfl) rfl rfl rfl rfl rfl rfl ?_
    refine z_known (j := 11) (b' := false) rfl hs5 ?_
    refine z_skip rfl rfl rfl rfl ?_
    refine z_skip rfl rfl rfl rfl ?_
    refine z_skip rfl rfl rfl rfl ?_
    refine z_skip rfl rfl rfl rfl ?_
    refine z_skip rfl rfl rfl rfl ?_
    refine z_q rfl rfl (x_pickF rfl rfl rfl) rfl rfl rfl rfl rfl rfl ?_
    refine z_q rfl rfl (ex_pure htab rfl) rfl rfl rfl rfl rfl rfl ?_
    refine z_skip rfl rfl rfl rfl ?_
    refine z_skip rfl rfl rfl rfl ?_
    refine z_skip rfl rfl rfl rfl ?_
    refine z_skip rfl rfl rfl rfl ?_
    refine z_skip rfl rfl rfl rfl ?_
    refine z_skip rfl rfl rfl rfl ?_
    refine z_skip rfl rfl rfl rfl ?_
    refine z_skip rfl rfl rfl rfl ?_
    refine z_skip rfl rfl rfl rfl ?_
    refine z_skip rfl rfl rfl rfl ?_
    refine z_q rfl rfl (x_pickF rfl rfl rfl) rfl rfl rfl rfl rfl rfl ?_
    refine z_q rfl rfl (ex_pure htab rfl) rfl rfl rfl rfl rfl rfl ?_
    refine z_skip rfl rfl rfl rfl ?_
    refine z_skip rfl rfl rfl rfl ?_
    refine z_skip rfl rfl rfl rfl ?_
    refine z_nil rfl rfl (fun e he => by simp [isAl] at he) ?_
    refine p_skip rfl rfl rfl ?_
    refine p_skip rfl rfl rfl ?_
    refine p_pickF rfl rfl rfl rfl rfl rfl ?_
    refine p_pure htab rfl rfl rfl rfl ?_
    refine p_skip rfl rfl rfl ?_
    refine p_pickF rfl rfl rfl rfl rfl rfl ?_
    refine p_pure htab rfl rfl rfl rfl ?_
    refine ops_nil ?_
    refine then_normal ?_
    refine wpD_ret ?_
    have er41 := yes_eq hm; subst er41
    refine retX.of (s' := ⟨[(4, .v (.bool false))], [], []⟩) (WkS.perm (WkS.cons rfl (Wk.refl _) (WkS.nil)) (List.Perm.refl _) (List.Perm.refl _)) (retD_mk (hh := []) (.inl rfl) (resL_cons (resOne_tmp rfl) (resL_nil)) (List.nil_sublist _) (List.Sublist.refl _) ?_)
    exact ⟨rfl, rfl, rfl⟩
noncomputable def tree_Same_b (g0 : (TApiExpr) → (TApiExpr) → Option (Bool)) (g1 : (List TApiExpr) → (List TApiExpr) → Option (Bool)) (a0 : TApiExpr) (a1 : TApiExpr) : Option (Bool) :=
  (bif (a0.gOp == a1.gOp) then (bif (a0.gN == a1.gN) then (bif (decide (a0.gName = a1.gName)) then ((g1 a0.gKids a1.gKids).bind fun x6 => some x6) else some false) else some false) else some false)
set_option maxRecDepth 100000 in
set_option maxHeartbeats 2000000 in
theorem tree_Same_b_ok (g0 : (TApiExpr) → (TApiExpr) → Option (Bool)) (g1 : (List TApiExpr) → (List TApiExpr) → Option (Bool)) (hg0 : ∀ (a0 : TApiExpr) (a1 : TApiExpr) (r : Bool) (h0 : g0 a0 a1 = some r), CallsD Try.prog 24 [eTApiExpr a0, eTApiExpr a1] [] [] (fun d h k => d = .v (.bool r) ∧ h = [] ∧ k = [])) (hg1 : ∀ (a0 : List TApiExpr) (a1 : List TApiExpr) (r : Bool) (h0 : g1 a0 a1 = some r), CallsD Try.prog 45 [.lst 5 (a0.map eTApiExpr) .no, .lst 5 (a1.map eTApiExpr) .no, .fn (.func 24) [] []] [] [] (fun d h k => d = .v (.bool r) ∧ h = [] ∧ k = [])) (a0 : TApiExpr) (a1 : TApiExpr) (r : Bool) (h0 : tree_Same_b g0 g1 a0 a1 = some r) : CallsD Try.prog 24 [eTApiExpr a0, eTApiExpr a1] [] [] (fun d h k => d = .v (.bool r) ∧ h = [] ∧ k = []) := by
  have hm := yes_of h0
  unfold tree_Same_b at hm
  clear h0
  refine enterX htab Try.func24 rfl rfl rfl rfl rfl (fun C => ?_)
  refine w_eq (i := 0) rfl (Wk.of_eq (eTApiExpr_eq a0)) ?_
  refine w_eq (i := 1) rfl (Wk.of_eq (eTApiExpr_eq a1)) ?_
  refine wpD_seq ?_
  refine wpD_region ?_
  refine p_box rfl rfl rfl rfl rfl rfl rfl (fun b1 => ?_)
  refine p_box rfl rfl rfl rfl rfl rfl rfl (fun b2 => ?_)
  refine p_pure htab rfl rfl rfl rfl ?_
  refine ops_nil ?_
  refine then_normal ?_
  refine wpD_seq ?_
  refine wpD_region ?_
  refine p_pure htab rfl rfl rfl rfl ?_
  refine p_load 0 htab rfl rfl rfl rfl rfl rfl rfl rfl ?_
  refine p_pure htab rfl rfl rfl rfl ?_
  refine p_load 1 htab rfl rfl rfl rfl rfl rfl rfl rfl ?_
  refine p_pure htab rfl rfl rfl rfl ?_
  refine p_pure htab rfl rfl rfl rfl ?_
  refine p_split (i := 10) rfl (fun hg3 => ?_) (fun hg3 => ?_)
  · replace hm := yes_t hg3 hm
    refine p_pure htab rfl rfl rfl rfl ?_
    refine p_load 0 htab rfl rfl rfl rfl rfl rfl rfl rfl ?_
    refine p_pure htab rfl rfl rfl rfl ?_
    refine p_load 1 htab rfl rfl rfl rfl rfl rfl rfl rfl ?_
    refine p_pure htab rfl rfl rfl rfl ?_
    refine p_pickT rfl rfl rfl rfl rfl rfl ?_
    refine p_pure htab rfl rfl rfl rfl ?_
    refine p_split (i := 17) rfl (fun hg4 => ?_) (fun hg4 => ?_)
    · replace hm := yes_t hg4 hm
      refine p_pure htab rfl rfl rfl rfl ?_
      refine p_load 0 htab rfl rfl rfl rfl rfl rfl rfl rfl ?_
      refine p_pure htab rfl rfl rfl rfl ?_
      refine p_load 1 htab rfl rfl rfl rfl rfl rfl rfl rfl ?_
      refine p_pure htab rfl rfl rfl rfl ?_
      refine p_pickT rfl rfl rfl rfl rfl rfl ?_
      refine p_pure htab rfl rfl rfl rfl ?_
      refine p_split (i := 24) rfl (fun hg5 => ?_) (fun hg5 => ?_)
      · replace hm := yes_t hg5 hm
        refine p_pure htab rfl rfl rfl rfl ?_
        refine p_load 0 htab rfl rfl rfl rfl rfl rfl rfl rfl ?_
        refine p_pure htab rfl rfl rfl rfl ?_
        refine p_load 1 htab rfl rfl rfl rfl rfl rfl rfl rfl ?_
        obtain ⟨x6, q6, hm⟩ := yes_bind hm
        refine p_call0 (hg1 a0.gKids a1.gKids x6 q6) rfl rfl rfl rfl rfl (WkL.refl _) ?_
        rintro _ rfl
        refine p_pickT rfl rfl rfl rfl rfl rfl ?_
        refine p_pure htab rfl rfl rfl rfl ?_
        refine ops_nil ?_
        refine then_normal ?_
        refine wpD_ret ?_
        have er7 := yes_eq hm; subst er7
        refine retX.of (s' := ⟨[(4, .v (.bool x6))], [], []⟩) (WkS.perm (WkS.cons rfl (Wk.refl _) (WkS.nil)) (List.Perm.refl _) (List.Perm.refl _)) (retD_mk (hh := []) (.inl rfl) (resL_cons (resOne_tmp rfl) (resL_nil)) (List.nil_sublist _) (List.Sublist.refl _) ?_)
        exact ⟨rfl, rfl, rfl⟩
      · replace hm := yes_f hg5 hm
        refine p_skip rfl rfl rfl ?_
        refine p_skip rfl rfl rfl ?_
        refine p_skip rfl rfl rfl ?_
        refine p_skip rfl rfl rfl ?_
        refine p_skip rfl rfl rfl ?_
        refine p_pickF rfl rfl rfl rfl rfl rfl ?_
        refine p_pure htab rfl rfl rfl rfl ?_
        refine ops_nil ?_
        refine then_normal ?_
        refine wpD_ret ?_
        have er8 := yes_eq hm; subst er8
        refine retX.of (s' := ⟨[(4, .v (.bool false))], [], []⟩) (WkS.perm (WkS.cons rfl (Wk.refl _) (WkS.nil)) (List.Perm.refl _) (List.Perm.refl _)) (retD_mk (hh := []) (.inl rfl) (resL_cons (resOne_tmp rfl) (resL_nil)) (List.nil_sublist _) (List.Sublist.refl _) ?_)
        exact ⟨rfl, rfl, rfl⟩
    · replace hm := yes_f hg4 hm
      refine p_skip rfl rfl rfl ?_
      refine p_skip rfl rfl rfl ?_
      refine p_skip rfl rfl rfl ?_
      refine p_skip rfl rfl rfl ?_
      refine p_skip rfl rfl rfl ?_
      refine p_pickF rfl rfl rfl rfl rfl rfl ?_
      refine p_pure htab rfl rfl rfl rfl ?_
      refine p_skip rfl rfl rfl ?_
      refine p_skip rfl rfl rfl ?_
      refine p_skip rfl rfl rfl ?_
      refine p_skip rfl rfl rfl ?_
      refine p_skip rfl rfl rfl ?_
      refine p_pickF rfl rfl rfl rfl rfl rfl ?_
      refine p_pure htab rfl rfl rfl rfl ?_
      refine ops_nil ?_
      refine then_normal ?_
      refine wpD_ret ?_
      have er9 := yes_eq hm; subst er9
      refine retX.of (s' := ⟨[(4, .v (.bool false))], [], []⟩) (WkS.perm (WkS.cons rfl (Wk.refl _) (WkS.nil)) (List.Perm.refl _) (List.Perm.refl _)) (retD_mk (hh := []) (.inl rfl) (resL_cons (resOne_tmp rfl) (resL_nil)) (List.nil_sublist _) (List.Sublist.refl _) ?_)
      exact ⟨rfl, rfl, rfl⟩
  · replace hm := yes_f hg3 hm
    refine p_skip rfl rfl rfl ?_
    refine p_skip rfl rfl rfl ?_
    refine p_skip rfl rfl rfl ?_
    refine p_skip rfl rfl rfl ?_
    refine p_skip rfl rfl rfl ?_
    refine p_pickF rfl rfl rfl rfl rfl rfl ?_
    refine p_pure htab rfl rfl rfl rfl ?_
    refine p_skip rfl rfl rfl ?_
    refine p_skip rfl rfl rfl ?_
    refine p_skip rfl rfl rfl ?_
    refine p_skip rfl rfl rfl ?_
    refine p_skip rfl rfl rfl ?_
    refine p_pickF rfl rfl rfl rfl rfl rfl ?_
    refine p_pure htab rfl rfl rfl rfl ?_
    refine p_skip rfl rfl rfl ?_
    refine p_skip rfl rfl rfl ?_
    refine p_skip rfl rfl rfl ?_
    refine p_skip rfl rfl rfl ?_
    refine p_skip rfl rfl rfl ?_
    refine p_pickF rfl rfl rfl rfl rfl rfl ?_
    refine p_pure htab rfl rfl rfl rfl ?_
    refine ops_nil ?_
    refine then_normal ?_
    refine wpD_ret ?_
    have er10 := yes_eq hm; subst er10
    refine retX.of (s' := ⟨[(4, .v (.bool false))], [], []⟩) (WkS.perm (WkS.cons rfl (Wk.refl _) (WkS.nil)) (List.Perm.refl _) (List.Perm.refl _)) (retD_mk (hh := []) (.inl rfl) (resL_cons (resOne_tmp rfl) (resL_nil)) (List.nil_sublist _) (List.Sublist.refl _) ?_)
    exact ⟨rfl, rfl, rfl⟩
noncomputable def slices_EqualFunc_api_Expr_api_Expr_api_Expr_api_Expr_b (g0 : (TApiExpr) → (TApiExpr) → Option (Bool)) (g1 : (List TApiExpr) → (List TApiExpr) → Option (Bool)) (a0 : List TApiExpr) (a1 : List TApiExpr) : Option (Bool) :=
  (bif ((a0.length : Int) != (a1.length : Int)) then some false else (Option.bind (α := (Unit) ⊕ (Bool)) (loopM (fun (s30 : Int) => (bif (decide (s30 < (a0.length : Int))) then ((idx a0 s30).bind fun x48 => ((idx a1 s30).bind fun x50 => ((g0 x48 x50).bind fun x52 => (bif (!x52) then some (.done (.inr false)) else some (.next (IntKind.i64.wrap (s30 + (1 : Int)))))))) else some (.done (.inl ())))) (0 : Int)) (Sum.elim (fun y29 => some true) (fun r => some r))))
set_option maxRecDepth 100000 in
set_option maxHeartbeats 2000000 in
theorem slices_EqualFunc_api_Expr_api_Expr_api_Expr_api_Expr_b_ok (g0 : (TApiExpr) → (TApiExpr) → Option (Bool)) (g1 : (List TApiExpr) → (List TApiExpr) → Option (Bool)) (hg0 : ∀ (a0 : TApiExpr) (a1 : TApiExpr) (r : Bool) (h0 : g0 a0 a1 = some r), CallsD Try.prog 24 [eTApiExpr a0, eTApiExpr a1] [] [] (fun d h k => d = .v (.bool r) ∧ h = [] ∧ k = [])) (hg1 : ∀ (a0 : List TApiExpr) (a1 : List TApiExpr) (r : Bool) (h0 : g1 a0 a1 = some r), CallsD Try.prog 45 [.lst 5 (a0.map eTApiExpr) .no, .lst 5 (a1.map eTApiExpr) .no, .fn (.func 24) [] []] [] [] (fun d h k => d = .v (.bool r) ∧ h = [] ∧ k = [])) (a0 : List TApiExpr) (a1 : List TApiExpr) (r : Bool) (h0 : slices_EqualFunc_api_Expr_api_Expr_api_Expr_api_Expr_b g0 g1 a0 a1 = some r) : CallsD Try.prog 45 [.lst 5 (a0.map eTApiExpr) .no, .lst 5 (a1.map eTApiExpr) .no, .fn (.func 24) [] []] [] [] (fun d h k => d = .v (.bool r) ∧ h = [] ∧ k = []) := by
  have hm := yes_of h0
  unfold slices_EqualFunc_api_Expr_api_Expr_api_Expr_api_Expr_b at hm
  clear h0
  refine enterX htab Try.func45 rfl rfl rfl rfl rfl (fun C => ?_)
  refine wpD_seq ?_
  refine wpD_region ?_
  refine p_pure htab rfl rfl rfl rfl ?_
  refine ops_nil ?_
  refine then_normal ?_
  refine wpD_seq ?_
  refine wpD_seq ?_
  refine wpD_region ?_
  refine p_pure htab rfl rfl rfl rfl ?_
  refine p_lenL htab rfl rfl rfl rfl rfl rfl rfl (by first | exact map_len | rfl) ?_
  refine p_pure htab rfl rfl rfl rfl ?_
  refine p_lenL htab rfl rfl rfl rfl rfl rfl rfl (by first | exact map_len | rfl) ?_
  refine p_pure htab rfl rfl rfl rfl ?_
  refine ops_nil ?_
  refine then_normal ?_
  refine wpD_cond rfl (fun hc2 => ?_) (fun hc2 => ?_)
  · replace hm := yes_t hc2 hm
    refine wpD_seq ?_
    refine wpD_region ?_
    refine p_pure htab rfl rfl rfl rfl ?_
    refine ops_nil ?_
    refine then_normal ?_
    refine wpD_ret ?_
    refine then_ret ?_
    have er3 := yes_eq hm; subst er3
    refine retX.of (s' := ⟨[(6, .v (.bool false))], [], []⟩) (WkS.perm (WkS.cons rfl (Wk.refl _) (WkS.nil)) (List.Perm.refl _) (List.Perm.refl _)) (retD_mk (hh := []) (.inl rfl) (resL_cons (resOne_tmp rfl) (resL_nil)) (List.nil_sublist _) (List.Sublist.refl _) ?_)
    exact ⟨rfl, rfl, rfl⟩
  · replace hm := yes_f hc2 hm
    refine wpD_skip ?_
    refine then_normal ?_
    refine wpD_seq ?_
    refine wpD_seq ?_
    refine wpD_region ?_
    refine p_pure htab rfl rfl rfl rfl ?_
    refine p_lenL htab rfl rfl rfl rfl rfl rfl rfl (by first | exact map_len | rfl) ?_
    refine p_pure htab rfl rfl rfl rfl ?_
    refine ops_nil ?_
    refine then_normal ?_
    obtain ⟨x29, q29, ho29⟩ := yes_bind hm
    refine wpD_midX (τ := Unit) (Y := Unit) (fun y29 z29 => (⟨[], [], []⟩ : S)) x29 ?_ ?_
    · clear hm; have hm := yes_of q29
      refine wpD_block ?_
      obtain ⟨u30, hl30, hq30⟩ := yes_m hm
      refine loop_M (Y := Unit) hl30 (fun s30 z30 => (⟨[(1, .lst 5 (a1.map eTApiExpr) .no), (2, .fn (.func 24) [] []), (15, .lst 5 (a0.map eTApiExpr) .no), (16, .v (.int .i64 (a0.length : Int))), (17, .v (.int .i64 s30))], [], []⟩ : S)) ?_ ?_
      · skip
        exact WkX.of () (WkS.perm (WkS.cons rfl (Wk.refl _) (WkS.cons rfl (Wk.refl _) (WkS.cons rfl (Wk.refl _) (WkS.cons rfl (Wk.refl _) (WkS.cons rfl (Wk.refl _) (WkS.nil)))))) (List.Perm.refl _) (List.Perm.refl _))
      · intro G30 s30 z30 hm
        refine wpD_seq ?_
        refine wpD_region ?_
        refine p_pure htab rfl rfl rfl rfl ?_
        refine ops_nil ?_
        refine then_normal ?_
        refine wpD_seq ?_
        refine wpD_cond rfl (fun hc47 => ?_) (fun hc47 => ?_)
        · replace hm := yes_t hc47 hm
          refine wpD_skip ?_
          refine then_normal ?_
          refine wpD_seq ?_
          refine wpD_block ?_
          refine wpD_seq ?_
          refine wpD_region ?_
          refine p_pure htab rfl rfl rfl rfl ?_
          obtain ⟨x48, q48, hm⟩ := yes_bind hm
          refine p_elem htab rfl rfl rfl rfl rfl rfl rfl rfl rfl rfl (idx_nonneg q48) (idx_map q48) ?_
          refine p_eq (i := 20) rfl (Wk.of_eq (congrArg D.el (eTApiExpr_eq x48))) ?_
          refine p_loadEl (d := .agg [.v (.int .i64 x48.gOp), .v (.int .i64 x48.gN), .v (.string x48.gName), .lst 5 (x48.gKids.map eTApiExpr) .no, .v (.int .i64 x48.gAt)]) htab rfl rfl rfl rfl rfl rfl rfl rfl ?_
          refine p_alloc htab rfl rfl rfl rfl rfl rfl rfl (fun b49 => ?_)
          refine p_pure htab rfl rfl rfl rfl ?_
          refine p_store (ds' := [.v (.int .i64 x48.gOp), .v (.int .i64 x48.gN), .v (.string x48.gName), .lst 5 (x48.gKids.map eTApiExpr) .no, .v (.int .i64 x48.gAt)]) (h' := [(b49, Blk.cells [.v (.int .i64 x48.gOp), .v (.int .i64 x48.gN), .v (.string x48.gName), .lst 5 (x48.gKids.map eTApiExpr) .no, .v (.int .i64 x48.gAt)] 34)]) 0 htab rfl rfl rfl rfl rfl rfl rfl rfl rfl rfl rfl rfl ?_
          refine ops_nil ?_
          refine then_normal ?_
          refine wpD_seq ?_
          refine wpD_region ?_
          refine p_pure htab rfl rfl rfl rfl ?_
          refine p_pure htab rfl rfl rfl rfl ?_
          obtain ⟨x50, q50, hm⟩ := yes_bind hm
          refine p_elem htab rfl rfl rfl rfl rfl rfl rfl rfl rfl rfl (idx_nonneg q50) (idx_map q50) ?_
          refine p_eq (i := 24) rfl (Wk.of_eq (congrArg D.el (eTApiExpr_eq x50))) ?_
          refine p_loadEl (d := .agg [.v (.int .i64 x50.gOp), .v (.int .i64 x50.gN), .v (.string x50.gName), .lst 5 (x50.gKids.map eTApiExpr) .no, .v (.int .i64 x50.gAt)]) htab rfl rfl rfl rfl rfl rfl rfl rfl ?_
          refine p_alloc htab rfl rfl rfl rfl rfl rfl rfl (fun b51 => ?_)
          refine p_store (ds' := [.v (.int .i64 x50.gOp), .v (.int .i64 x50.gN), .v (.string x50.gName), .lst 5 (x50.gKids.map eTApiExpr) .no, .v (.int .i64 x50.gAt)]) (h' := [(b49, Blk.cells [.v (.int .i64 x48.gOp), .v (.int .i64 x48.gN), .v (.string x48.gName), .lst 5 (x48.gKids.map eTApiExpr) .no, .v (.int .i64 x48.gAt)] 34), (b51, Blk.cells [.v (.int .i64 x50.gOp), .v (.int .i64 x50.gN), .v (.string x50.gName), .lst 5 (x50.gKids.map eTApiExpr) .no, .v (.int .i64 x50.gAt)] 34)]) 1 htab rfl rfl rfl rfl rfl rfl rfl rfl rfl rfl rfl rfl ?_
          refine ops_nil ?_
          refine then_normal ?_
          refine wpD_seq ?_
          refine wpD_region ?_
          refine p_pure htab rfl rfl rfl rfl ?_
          refine p_load (d := .agg [.v (.int .i64 x48.gOp), .v (.int .i64 x48.gN), .v (.string x48.gName), .lst 5 (x48.gKids.map eTApiExpr) .no, .v (.int .i64 x48.gAt)]) 0 htab rfl rfl rfl rfl rfl rfl rfl rfl ?_
          refine p_load (d := .agg [.v (.int .i64 x50.gOp), .v (.int .i64 x50.gN), .v (.string x50.gName), .lst 5 (x50.gKids.map eTApiExpr) .no, .v (.int .i64 x50.gAt)]) 1 htab rfl rfl rfl rfl rfl rfl rfl rfl ?_
          obtain ⟨x52, q52, hm⟩ := yes_bind hm
          refine p_callV0 (hg0 x48 x50 x52 q52) rfl rfl rfl rfl rfl rfl rfl (WkL.cons (Wk.trans (Wk.agg (WkR.refl _)) (Wk.of_eq (eTApiExpr_eq x48).symm)) (WkL.cons (Wk.trans (Wk.agg (WkR.refl _)) (Wk.of_eq (eTApiExpr_eq x50).symm)) (WkL.refl _))) ?_
          rintro _ rfl
          refine p_pure htab rfl rfl rfl rfl ?_
          refine ops_nil ?_
          refine then_normal ?_
          refine wpD_cond rfl (fun hc53 => ?_) (fun hc53 => ?_)
          · replace hm := yes_t hc53 hm
            refine wpD_seq ?_
            refine wpD_region ?_
            refine p_pure htab rfl rfl rfl rfl ?_
            refine ops_nil ?_
            refine then_normal ?_
            refine wpD_ret ?_
            refine block_ret ?_
            refine then_ret ?_
            have e30 := lp_done hm; subst e30; clear hm; have hm := hq30
            refine then_ret ?_
            refine block_ret ?_
            have e29 := yes_eq hm; subst e29; refine midX_inr ?_; clear hm; have hm := ho29; simp only [Sum.elim_inr] at hm
            refine then_ret ?_
            have er54 := yes_eq hm; subst er54
            refine retX.of (s' := ⟨[(6, .v (.bool false))], [], []⟩) (WkS.perm (WkS.cons rfl (Wk.refl _) (WkS.nil)) (List.Perm.refl _) (List.Perm.refl _)) (retD_mk (hh := []) (.inl rfl) (resL_cons (resOne_tmp rfl) (resL_nil)) (List.nil_sublist _) (List.Sublist.refl _) ?_)
            exact ⟨rfl, rfl, rfl⟩
          · replace hm := yes_f hc53 hm
            refine wpD_skip ?_
            refine block_normal ?_
            refine then_normal ?_
            refine wpD_region ?_
            refine p_pure htab rfl rfl rfl rfl ?_
            refine p_pure htab rfl rfl rfl rfl ?_
            refine ops_nil ?_
            refine then_normal ⟨_, lp_next hm, ?_⟩
            exact WkX.of () (WkS.perm (WkS.cons rfl (Wk.refl _) (WkS.cons rfl (Wk.refl _) (WkS.cons rfl (Wk.refl _) (WkS.cons rfl (Wk.refl _) (WkS.cons rfl (Wk.refl _) (WkS.nil)))))) (List.Perm.refl _) (List.Perm.refl _))
        · replace hm := yes_f hc47 hm
          refine wpD_exit ?_
          refine then_exit ?_
          have e30 := lp_done hm; subst e30; clear hm; have hm := hq30
          refine then_exit ?_
          refine block_hit ?_
          have e29 := yes_eq hm; subst e29
          refine midX_inl ?_
          exact WkX.of () (WkS.perm (WkS.nil) (List.Perm.refl _) (List.Perm.refl _))
    · intro y29 s29 hx29 hw29; subst hx29; clear hm; have hm := ho29; simp only [Sum.elim_inl] at hm; clear q29 ho29
      refine then_normal ?_
      refine wpD_wkX hw29 (fun z29 => ?_)
      refine wpD_seq ?_
      refine wpD_region ?_
      refine p_pure htab rfl rfl rfl rfl ?_
      refine ops_nil ?_
      refine then_normal ?_
      refine wpD_ret ?_
      have er55 := yes_eq hm; subst er55
      refine retX.of (s' := ⟨[(6, .v (.bool true))], [], []⟩) (WkS.perm (WkS.cons rfl (Wk.refl _) (WkS.nil)) (List.Perm.refl _) (List.Perm.refl _)) (retD_mk (hh := []) (.inl rfl) (resL_cons (resOne_tmp rfl) (resL_nil)) (List.nil_sublist _) (List.Sublist.refl _) ?_)
      exact ⟨rfl, rfl, rfl⟩
noncomputable def tree_Same_g : Nat → ((TApiExpr) → (TApiExpr) → Option (Bool)) × ((List TApiExpr) → (List TApiExpr) → Option (Bool))
  | 0 => (fun _ _ => none, fun _ _ => none)
  | n + 1 => (tree_Same_b ((tree_Same_g n).1) ((tree_Same_g n).2), slices_EqualFunc_api_Expr_api_Expr_api_Expr_api_Expr_b ((tree_Same_g n).1) ((tree_Same_g n).2))
theorem tree_Same_g_ok : ∀ n, (∀ (a0 : TApiExpr) (a1 : TApiExpr) (r : Bool) (h0 : (tree_Same_g n).1 a0 a1 = some r), CallsD Try.prog 24 [eTApiExpr a0, eTApiExpr a1] [] [] (fun d h k => d = .v (.bool r) ∧ h = [] ∧ k = [])) ∧ (∀ (a0 : List TApiExpr) (a1 : List TApiExpr) (r : Bool) (h0 : (tree_Same_g n).2 a0 a1 = some r), CallsD Try.prog 45 [.lst 5 (a0.map eTApiExpr) .no, .lst 5 (a1.map eTApiExpr) .no, .fn (.func 24) [] []] [] [] (fun d h k => d = .v (.bool r) ∧ h = [] ∧ k = []))
  | 0 => ⟨(fun _ _ _ h0 => by cases h0), (fun _ _ _ h0 => by cases h0)⟩
  | n + 1 => by
    have ih := tree_Same_g_ok n
    exact ⟨tree_Same_b_ok ((tree_Same_g n).1) ((tree_Same_g n).2) (ih.1) (ih.2), slices_EqualFunc_api_Expr_api_Expr_api_Expr_api_Expr_b_ok ((tree_Same_g n).1) ((tree_Same_g n).2) (ih.1) (ih.2)⟩
theorem tree_Same_g_le : ∀ n, (∀ (a0 : TApiExpr) (a1 : TApiExpr), Le ((tree_Same_g n).1 a0 a1) ((tree_Same_g (n + 1)).1 a0 a1)) ∧ (∀ (a0 : List TApiExpr) (a1 : List TApiExpr), Le ((tree_Same_g n).2 a0 a1) ((tree_Same_g (n + 1)).2 a0 a1))
  | 0 => ⟨fun _ _ => Le.none _, fun _ _ => Le.none _⟩
  | n + 1 => by
    have ih := tree_Same_g_le n
    exact ⟨fun a0 a1 => by show Le (tree_Same_b ((tree_Same_g n).1) ((tree_Same_g n).2) a0 a1) (tree_Same_b ((tree_Same_g (n + 1)).1) ((tree_Same_g (n + 1)).2) a0 a1); unfold tree_Same_b; repeat (first | exact Le.refl _ | exact ih.1 _ _ | exact ih.2 _ _ | assumption | (refine Le.bind ?_ (fun _ => ?_)) | (refine Le.cond ?_ ?_) | (refine Le.loop (fun _ => ?_)) | (refine Le.elim (fun _ => ?_) (fun _ => ?_))), fun a0 a1 => by show Le (slices_EqualFunc_api_Expr_api_Expr_api_Expr_api_Expr_b ((tree_Same_g n).1) ((tree_Same_g n).2) a0 a1) (slices_EqualFunc_api_Expr_api_Expr_api_Expr_api_Expr_b ((tree_Same_g (n + 1)).1) ((tree_Same_g (n + 1)).2) a0 a1); unfold slices_EqualFunc_api_Expr_api_Expr_api_Expr_api_Expr_b; repeat (first | exact Le.refl _ | exact ih.1 _ _ | exact ih.2 _ _ | assumption | (refine Le.bind ?_ (fun _ => ?_)) | (refine Le.cond ?_ ?_) | (refine Le.loop (fun _ => ?_)) | (refine Le.elim (fun _ => ?_) (fun _ => ?_)))⟩
noncomputable def tree_Same (a0 : TApiExpr) (a1 : TApiExpr) : Option (Bool) := anyN fun n => (tree_Same_g n).1 a0 a1
theorem tree_Same_of (a0 : TApiExpr) (a1 : TApiExpr) {r : Bool} (n : Nat) (h : (tree_Same_g n).1 a0 a1 = some r) : tree_Same a0 a1 = some r := anyN_of (fun m => (tree_Same_g_le m).1 a0 a1) h
theorem tree_Same_ok (a0 : TApiExpr) (a1 : TApiExpr) (r : Bool) (h0 : tree_Same a0 a1 = some r) : CallsD Try.prog 24 [eTApiExpr a0, eTApiExpr a1] [] [] (fun d h k => d = .v (.bool r) ∧ h = [] ∧ k = []) :=
  let ⟨n, hn⟩ := anyN_inv h0; (tree_Same_g_ok n).1 a0 a1  r hn
noncomputable def slices_EqualFunc_api_Expr_api_Expr_api_Expr_api_Expr (a0 : List TApiExpr) (a1 : List TApiExpr) : Option (Bool) := anyN fun n => (tree_Same_g n).2 a0 a1
theorem slices_EqualFunc_api_Expr_api_Expr_api_Expr_api_Expr_of (a0 : List TApiExpr) (a1 : List TApiExpr) {r : Bool} (n : Nat) (h : (tree_Same_g n).2 a0 a1 = some r) : slices_EqualFunc_api_Expr_api_Expr_api_Expr_api_Expr a0 a1 = some r := anyN_of (fun m => (tree_Same_g_le m).2 a0 a1) h
theorem slices_EqualFunc_api_Expr_api_Expr_api_Expr_api_Expr_ok (a0 : List TApiExpr) (a1 : List TApiExpr) (r : Bool) (h0 : slices_EqualFunc_api_Expr_api_Expr_api_Expr_api_Expr a0 a1 = some r) : CallsD Try.prog 45 [.lst 5 (a0.map eTApiExpr) .no, .lst 5 (a1.map eTApiExpr) .no, .fn (.func 24) [] []] [] [] (fun d h k => d = .v (.bool r) ∧ h = [] ∧ k = []) :=
  let ⟨n, hn⟩ := anyN_inv h0; (tree_Same_g_ok n).2 a0 a1  r hn
end Go.Proofs.Ytphpnbdfngdinaa.Ab
